/- What the statement's row needs of this session's texts, joined by program: part 4. -/
import Derived.RangeFuncNested
import Derived.RangeFuncBound
import Derived.RangeFuncCalls
import Derived.RangeFuncLeaves
import Derived.RangeFuncBox
import Derived.Test.YtnkbgimihikhoaaWTab
import Derived.OrdersIn
import Derived.ControlIn
import Derived.Deep.QuietTactic
import Derived.BigQuiet
import Derived.Deep.DeepCutAuto
import Derived.Deep.CutBlock
import Derived.Test.YtnkbgimihikhoaaRows
import Derived.Test.YtnkbgimihikhoaaWWords
import Derived.ChangeArms
import Derived.Below
import Derived.DataElems
import Derived.Test.YtnkbgimihikhoaaQFi2
namespace Go.Proofs.Ytnkbgimihikhoaa.PVt
open Go.RowKit Go.Shelf Go.Proofs.YtnkbgimihikhoaaW.PrintWords Go.Proofs.YtnkbgimihikhoaaW.PrintLast Go.Proofs.YtnkbgimihikhoaaW.PrintMore
attribute [local go_sem] Oper.semAt_some
attribute [local go_sem high] eqA23
set_option linter.unusedVariables false
set_option linter.unusedSimpArgs false
def findD (l : List (Nat × S27)) (key : S23) : S27 × Bool := findL (l.map (·.2)) key
theorem findL_miss : ∀ (a b : List S27) (key : S23), (findL a key).2 = false → findL (a ++ b) key = findL b key
  | [], b, key, _ => rfl
  | y :: a, b, key, h => by
    rw [findL] at h
    rw [List.cons_append, findL]
    split at h
    · cases h
    · rename_i hn
      rw [if_neg hn]
      exact findL_miss a b key h
theorem findL_hit : ∀ (a b : List S27) (key : S23), (findL a key).2 = true → findL (a ++ b) key = findL a key
  | [], b, key, h => by cases h
  | y :: a, b, key, h => by
    rw [findL] at h
    rw [List.cons_append, findL, findL]
    split
    · rfl
    · rename_i hn
      rw [if_neg hn] at h
      exact findL_hit a b key h
theorem findL_none : ∀ (l : List S27) (key : S23), (findL l key).2 = false → findL l key = (z27, false)
  | [], _, _ => rfl
  | y :: l, key, h => by
    rw [findL] at h ⊢
    split
    · rename_i h1; rw [if_pos h1] at h; cases h
    · rename_i h1; rw [if_neg h1] at h; exact findL_none l key h
theorem findD_snoc (l : List (Nat × S27)) (p : Nat × S27) (key : S23) (h : (findD l key).2 = false) : findD (l ++ [p]) key = if sameK p.2.f0 key = true then (p.2, true) else (z27, false) := by
  unfold findD at h ⊢
  rw [List.map_append, findL_miss _ _ _ h]
  rfl
theorem findD_prefix {a l : List (Nat × S27)} (h : a <+: l) {key : S23} (hf : (findD a key).2 = true) : findD l key = findD a key := by
  obtain ⟨b, rfl⟩ := h
  unfold findD at hf ⊢
  rw [List.map_append, findL_hit _ _ _ hf]
theorem findD_flat (x : S27) (key : S23) : findD (flatD 0 x) key = findL (flatL x) key := by unfold findD; rw [flatL_map]
theorem results_row_bool {P : Program} {fn : Func} {p p' : Tmp} {ty ty' : TypeId} (h : fn.results = #[.cell p ty, .cell p' ty']) (tmps : Array Value) (w : World) (g g' : Nat) (t : TypeId) (cs : Array Value) (fr : Nat × Nat) (d : TypeDesc) (b : Bool)
    (hp : tmps.getD p undef = .pointer (some ⟨g, 0, none⟩)) (hg : w.heap[g]? = some (.cells cs t fr))
    (hu : P.underlying ty = some d) (hd : (match d with | .struct _ | .array _ _ => true | _ => false) = true) (hi : (P.info? ty).map (·.size) = some cs.size)
    (hp' : tmps.getD p' undef = .pointer (some ⟨g', 0, none⟩)) (hc' : w.cell? ⟨g', 0, none⟩ = some (.bool b)) (hu' : P.underlying ty' = some .bool) :
    (results fn tmps).run P w = .ok (.tuple #[.agg cs, .bool b]) w := by
  have h1 : tmps[p]?.getD undef = .pointer (some ⟨g, 0, none⟩) := by simpa using hp
  have h2 : tmps[p']?.getD undef = .pointer (some ⟨g', 0, none⟩) := by simpa using hp'
  have h3 : (loadVar ty' ⟨g', 0, none⟩).run P w = .ok (.bool b) w := by simp [loadVar, isAgg, underlying, hu', hc', load, Sem.run]
  simp [results, h, h1, h2, asAddr, run_loadVar_row w g t ty cs fr d hg hu hd hi, h3]
theorem M_of_own_grown {α : Type} {d : Kd α} {B base : Nat} {ok : Nat → Prop} {X Y : World} {x : α} {cs : List Value} {row : Option Nat} (h : d.M X base ok x cs) (hg : X.grownBy Y row) (hr : ∀ r, row = some r → B ≤ r ∧ ∃ o : Obj, X.heap[r]? = some o ∧ o.isCells = false) : d.M Y base ok x cs :=
  d.M_mono (fun _ hk => hk.1) (Kd.M_grown (d.M_bound h) hg (fun k hk e' => by obtain ⟨_, _, _, q, _, cells, hc⟩ := hk; obtain ⟨_, o, ho, hn⟩ := hr k e'.symm; rw [hc] at ho; cases ho; cases hn))
theorem M_low {α : Type} {d : Kd α} {base base' : Nat} {ok : Nat → Prop} {X Y : World} {x : α} {cs : List Value} (h : d.M X base ok x cs) (hk : ∀ k, base ≤ k → k < X.heap.size → Y.heap[k]? = X.heap[k]?) (hb : base' ≤ base) : d.M Y base' ok x cs :=
  d.M_lower hb (d.M_mono (fun _ hk => hk.1) (d.M_move (fun k hk' => hk k hk'.2.1 hk'.2.2.1) (d.M_bound h)))
theorem zero_M (w : World) (base : Nat) : k27.M w base (fun _ => True) z27 (cs27 z27 none 0 none 0).toList := k27_mkM _ _ _ z27 (Kd.R_nil _ _ _ _ _) (Kd.R_nil _ _ _ _ _)
/-- What has been found lies in the results' boxes. -/
def FoundX (b : Nat) (u : Nat) (key : S23) (l : List (Nat × S27)) (W : World) : Prop :=
  ∃ y B4 e4 B5 e5, findD l key = (y, true) ∧ W.heap[b + 1 + 1]? = some (.cells (cs27 y B4 e4 B5 e5) 27 (0, 0)) ∧ W.heap[b + 1 + 1 + 1]? = some (.cells #[.bool true] 4 (0, 0)) ∧ k27.M W u (fun _ => True) y (cs27 y B4 e4 B5 e5).toList
theorem FoundX_own {w0 : World} {n0 b u : Nat} (key : S23) : OwnFrom u (fun (pre : List (Nf w0 n0)) W => FoundX b u key (pre.map plf) W) := fun s X Y row hs hg hr => by
  obtain ⟨y, B4, e4, B5, e5, h1, h2, h3, h4⟩ := hs
  exact ⟨y, B4, e4, B5, e5, h1, (Own.from (cells_own (b + 1 + 1) 27 (fun (_ : Unit) => cs27 y B4 e4 B5 e5)) u) () X Y row h2 hg hr, (Own.from (cells_own (b + 1 + 1 + 1) 4 (fun (_ : Unit) => #[.bool true])) u) () X Y row h3 hg hr, M_of_own_grown h4 hg hr⟩
def putRow (w : World) (g : Nat) (x : S27) (A4 : Option Addr) (c4 : Nat) (A5 : Option Addr) (c5 : Nat) : World := (((((w.setCell ⟨g, 0, none⟩ (.int .i64 x.f0.f0)).setCell ⟨g, 1, none⟩ (.int .i64 x.f0.f1)).setCell ⟨g, 2, none⟩ (.string x.f1)).setCell ⟨g, 3, none⟩ (.string x.f2)).setCell ⟨g, 4, none⟩ (.slice A4 x.f3.length c4)).setCell ⟨g, 5, none⟩ (.slice A5 x.f4.length c5)
theorem putRow_other {w : World} {g : Nat} {x : S27} {A4 : Option Addr} {c4 : Nat} {A5 : Option Addr} {c5 : Nat} (k : Nat) (hk : k ≠ g) : (putRow w g x A4 c4 A5 c5).heap[k]? = w.heap[k]? :=
  (Mem.set_other _ _ _ _ hk).trans ((Mem.set_other _ _ _ _ hk).trans ((Mem.set_other _ _ _ _ hk).trans ((Mem.set_other _ _ _ _ hk).trans ((Mem.set_other _ _ _ _ hk).trans (Mem.set_other _ _ _ _ hk)))))
theorem putRow_row {w : World} {g : Nat} {x : S27} {A4 : Option Addr} {c4 : Nat} {A5 : Option Addr} {c5 : Nat} {v0 v1 v2 v3 v4 v5 : Value} (h : w.heap[g]? = some (.cells #[v0, v1, v2, v3, v4, v5] 27 (0, 0))) : (putRow w g x A4 c4 A5 c5).heap[g]? = some (.cells (cs27 x A4 c4 A5 c5) 27 (0, 0)) :=
  setB (setB (setB (setB (setB (setB h 0 (.int .i64 x.f0.f0)) 1 (.int .i64 x.f0.f1)) 2 (.string x.f1)) 3 (.string x.f2)) 4 (.slice A4 x.f3.length c4)) 5 (.slice A5 x.f4.length c5)
theorem putRow_below {b : Nat} {w : World} {g : Nat} {x : S27} {A4 : Option Addr} {c4 : Nat} {A5 : Option Addr} {c5 : Nat} (hg : b ≤ g) : Below b w (putRow w g x A4 c4 A5 c5) := (((((low_set hg _).trans (low_set hg _)).trans (low_set hg _)).trans (low_set hg _)).trans (low_set hg _)).trans (low_set hg _)
theorem putRow_keeps (w : World) (g : Nat) (x : S27) (A4 : Option Addr) (c4 : Nat) (A5 : Option Addr) (c5 : Nat) : KeepsOthers w (putRow w g x A4 c4 A5 c5) := (((((KeepsOthers.setCell _ _ _).trans (KeepsOthers.setCell _ _ _)).trans (KeepsOthers.setCell _ _ _)).trans (KeepsOthers.setCell _ _ _)).trans (KeepsOthers.setCell _ _ _)).trans (KeepsOthers.setCell _ _ _)
theorem putRow_kept {T : Nat → Prop} {U w : World} {g : Nat} {x : S27} {A4 : Option Addr} {c4 : Nat} {A5 : Option Addr} {c5 : Nat} (h : KeptT T U w) (hg : T g) : KeptT T U (putRow w g x A4 c4 A5 c5) := (((((h.set _ hg).set _ hg).set _ hg).set _ hg).set _ hg).set _ hg
set_option maxHeartbeats 8000000 in
set_option maxRecDepth 100000 in
theorem find_calls (w : World) (x : S27) (key : S23) (A4 : Option Addr) (c4 : Nat) (A5 : Option Addr) (c5 : Nat) (hd : szT x ≤ 1099511627776) (hfx : fitT x) (hT : TK w w.heap.size x (cs27 x A4 c4 A5 c5).toList) :
    Calls Try.prog 37 #[.agg #[.int .i64 x.f0.f0, .int .i64 x.f0.f1, .string x.f1, .string x.f2, .slice A4 x.f3.length c4, .slice A5 x.f4.length c5], .agg #[.int .i64 key.f0, .int .i64 key.f1]] w fun e w' => ∃ B4 e4 B5 e5, e = .returned (.tuple #[.agg (cs27 (findL (flatL x) key).1 B4 e4 B5 e5), .bool (findL (flatL x) key).2]) ∧ k27.M w' w.heap.size (fun _ => True) (findL (flatL x) key).1 (cs27 (findL (flatL x) key).1 B4 e4 B5 e5).toList ∧ Below w.heap.size w w' := by
  have HT := Aside0.mk hT
  have HFX := Aside0.mk hfx
  clear hT hfx
  refine (callsIn_wide (n := 3)).1 ?_
  refine callsIn_of_wp_marks Try.func37 rfl trivial ?_ rfl
  simp only [Try.ntmps37, List.size_toArray, List.length_cons, List.length_nil, Nat.reduceAdd, Nat.reduceSub, Array.replicate_succ, Array.replicate_zero, List.push_toArray, List.append_toArray, List.nil_append, List.cons_append]
  gi_wp2_with (fail)
  refine ⟨trivial, ?_⟩
  refine (callsIn_wide.2 (nodes_calls _ _ _ _ _ _ _)).mono ?_
  rintro e w1 ⟨rfl, rfl⟩
  gi_wp2_with (fail)
  have hBU : Below w.heap.size w (((((w.alloc (.cells #[.int .i64 x.f0.f0, .int .i64 x.f0.f1, .string x.f1, .string x.f2, .slice A4 x.f3.length c4, .slice A5 x.f4.length c5] 27)).alloc (.cells #[.int .i64 key.f0, .int .i64 key.f1] 23)).alloc (.cells #[.int .i64 0, .int .i64 0, .string ⟨#[]⟩, .string ⟨#[]⟩, .slice none 0 0, .slice none 0 0] 27)).alloc (.cells #[.bool false] 4)).alloc (.cells #[.int .i64 x.f0.f0, .int .i64 x.f0.f1, .string x.f1, .string x.f2, .slice A4 x.f3.length c4, .slice A5 x.f4.length c5] 27)) := below_alloc (below_alloc (below_alloc (below_alloc (below_alloc (Below.refl _ _) _) _) _) _) _
  have hBK : (((((w.alloc (.cells #[.int .i64 x.f0.f0, .int .i64 x.f0.f1, .string x.f1, .string x.f2, .slice A4 x.f3.length c4, .slice A5 x.f4.length c5] 27)).alloc (.cells #[.int .i64 key.f0, .int .i64 key.f1] 23)).alloc (.cells #[.int .i64 0, .int .i64 0, .string ⟨#[]⟩, .string ⟨#[]⟩, .slice none 0 0, .slice none 0 0] 27)).alloc (.cells #[.bool false] 4)).alloc (.cells #[.int .i64 x.f0.f0, .int .i64 x.f0.f1, .string x.f1, .string x.f2, .slice A4 x.f3.length c4, .slice A5 x.f4.length c5] 27)).heap[w.heap.size + 1]? = some (.cells #[.int .i64 key.f0, .int .i64 key.f1] 23 (0, 0)) := Mem.alloc_old (Mem.alloc_old (Mem.alloc_old (Mem.alloc_new_at _ _ _ (by rw [Mem.alloc_size])) _) _) _
  have hBZ : (((((w.alloc (.cells #[.int .i64 x.f0.f0, .int .i64 x.f0.f1, .string x.f1, .string x.f2, .slice A4 x.f3.length c4, .slice A5 x.f4.length c5] 27)).alloc (.cells #[.int .i64 key.f0, .int .i64 key.f1] 23)).alloc (.cells #[.int .i64 0, .int .i64 0, .string ⟨#[]⟩, .string ⟨#[]⟩, .slice none 0 0, .slice none 0 0] 27)).alloc (.cells #[.bool false] 4)).alloc (.cells #[.int .i64 x.f0.f0, .int .i64 x.f0.f1, .string x.f1, .string x.f2, .slice A4 x.f3.length c4, .slice A5 x.f4.length c5] 27)).heap[w.heap.size + 1 + 1]? = some (.cells #[.int .i64 0, .int .i64 0, .string ⟨#[]⟩, .string ⟨#[]⟩, .slice none 0 0, .slice none 0 0] 27 (0, 0)) := Mem.alloc_old (Mem.alloc_old (Mem.alloc_new_at _ _ _ (by rw [Mem.alloc_size, Mem.alloc_size])) _) _
  have hBB : (((((w.alloc (.cells #[.int .i64 x.f0.f0, .int .i64 x.f0.f1, .string x.f1, .string x.f2, .slice A4 x.f3.length c4, .slice A5 x.f4.length c5] 27)).alloc (.cells #[.int .i64 key.f0, .int .i64 key.f1] 23)).alloc (.cells #[.int .i64 0, .int .i64 0, .string ⟨#[]⟩, .string ⟨#[]⟩, .slice none 0 0, .slice none 0 0] 27)).alloc (.cells #[.bool false] 4)).alloc (.cells #[.int .i64 x.f0.f0, .int .i64 x.f0.f1, .string x.f1, .string x.f2, .slice A4 x.f3.length c4, .slice A5 x.f4.length c5] 27)).heap[w.heap.size + 1 + 1 + 1]? = some (.cells #[.bool false] 4 (0, 0)) := Mem.alloc_old (Mem.alloc_new_at _ _ _ (by rw [Mem.alloc_size, Mem.alloc_size, Mem.alloc_size])) _
  have hBX : (((((w.alloc (.cells #[.int .i64 x.f0.f0, .int .i64 x.f0.f1, .string x.f1, .string x.f2, .slice A4 x.f3.length c4, .slice A5 x.f4.length c5] 27)).alloc (.cells #[.int .i64 key.f0, .int .i64 key.f1] 23)).alloc (.cells #[.int .i64 0, .int .i64 0, .string ⟨#[]⟩, .string ⟨#[]⟩, .slice none 0 0, .slice none 0 0] 27)).alloc (.cells #[.bool false] 4)).alloc (.cells #[.int .i64 x.f0.f0, .int .i64 x.f0.f1, .string x.f1, .string x.f2, .slice A4 x.f3.length c4, .slice A5 x.f4.length c5] 27)).heap[w.heap.size + 1 + 1 + 1 + 1]? = some (.cells #[.int .i64 x.f0.f0, .int .i64 x.f0.f1, .string x.f1, .string x.f2, .slice A4 x.f3.length c4, .slice A5 x.f4.length c5] 27 (0, 0)) := Mem.alloc_new_at _ _ _ (by rw [Mem.alloc_size, Mem.alloc_size, Mem.alloc_size, Mem.alloc_size])
  have hUS : (((((w.alloc (.cells #[.int .i64 x.f0.f0, .int .i64 x.f0.f1, .string x.f1, .string x.f2, .slice A4 x.f3.length c4, .slice A5 x.f4.length c5] 27)).alloc (.cells #[.int .i64 key.f0, .int .i64 key.f1] 23)).alloc (.cells #[.int .i64 0, .int .i64 0, .string ⟨#[]⟩, .string ⟨#[]⟩, .slice none 0 0, .slice none 0 0] 27)).alloc (.cells #[.bool false] 4)).alloc (.cells #[.int .i64 x.f0.f0, .int .i64 x.f0.f1, .string x.f1, .string x.f2, .slice A4 x.f3.length c4, .slice A5 x.f4.length c5] 27)).heap.size = w.heap.size + 5 := by rw [Mem.alloc_size, Mem.alloc_size, Mem.alloc_size, Mem.alloc_size, Mem.alloc_size]
  generalize (((((w.alloc (.cells #[.int .i64 x.f0.f0, .int .i64 x.f0.f1, .string x.f1, .string x.f2, .slice A4 x.f3.length c4, .slice A5 x.f4.length c5] 27)).alloc (.cells #[.int .i64 key.f0, .int .i64 key.f1] 23)).alloc (.cells #[.int .i64 0, .int .i64 0, .string ⟨#[]⟩, .string ⟨#[]⟩, .slice none 0 0, .slice none 0 0] 27)).alloc (.cells #[.bool false] 4)).alloc (.cells #[.int .i64 x.f0.f0, .int .i64 x.f0.f1, .string x.f1, .string x.f2, .slice A4 x.f3.length c4, .slice A5 x.f4.length c5] 27)) = U at *
  have HUS := Aside0.mk hUS
  clear hUS
  refine wpIn_rangeFunc_ownH (F := Fence.wide) (n := 3) rfl (by decide) (gf := 65) (lb := #[.pointer (some ⟨w.heap.size + 1 + 1 + 1 + 1, 0, none⟩)]) rfl trivial (enters_of Try.func65 (by kernel_rfl) rfl)
    (nodesf_stops (T := fun _ => False) hd HFX.out HT.out (fun i hi => hBU.block i hi) hBU.size (fun _ h => h.elim) hBX) Kw.trans (fun W l o o' hl h1 h2 _ => Kw.put W l o o' (Nat.le_trans hBU.size hl) h1 h2) (Below.refl _ _) (fun _ => rfl)
    (fun pre W => (findD (pre.map plf) key).2 = false ∧ LK (fun _ => False) w.heap.size w U W)
    (fun c pre W => (c = .ret ∧ FoundX w.heap.size U.heap.size key (pre.map plf) W) ∧ LK (fun i => i = w.heap.size + 1 + 1 ∨ i = w.heap.size + 1 + 1 + 1) w.heap.size w U W)
    (OwnFrom.and (ownFrom_pure _ _) (LK_own (Nat.le_refl _) hBU.size))
    (fun c => OwnFrom.and (OwnFrom.and (ownFrom_pure _ _) (FoundX_own key)) (LK_own (Nat.le_refl _) hBU.size))
    ⟨rfl, KeptT.refl _ _, hBU⟩
    (fun y a' Wr => ∃ Bx, U.heap.size ≤ Bx ∧ Wr.heap[Bx]? = some (.cells y.cs.toArray 27 (0, 0)) ∧ a' = { tmps := #[.agg #[.int .i64 x.f0.f0, .int .i64 x.f0.f1, .string x.f1, .string x.f2, .slice A4 x.f3.length c4, .slice A5 x.f4.length c5], .agg #[.int .i64 key.f0, .int .i64 key.f1], .pointer (some ⟨w.heap.size, 0, none⟩), .pointer (some ⟨w.heap.size + 1, 0, none⟩), .pointer (some ⟨w.heap.size + 1 + 1, 0, none⟩), .pointer (some ⟨w.heap.size + 1 + 1 + 1, 0, none⟩), undef, .pointer (some ⟨Bx, 0, none⟩), .agg #[.int .i64 x.f0.f0, .int .i64 x.f0.f1, .string x.f1, .string x.f2, .slice A4 x.f3.length c4, .slice A5 x.f4.length c5], .func (.func 65) #[] #[.pointer (some ⟨w.heap.size + 1 + 1 + 1 + 1, 0, none⟩)], .int .i64 (y.d : Int), .agg y.cs.toArray, undef, undef, undef, undef, undef, undef, undef], defers := [] })
    (fun y a' _ X Y row hs hg hr => by obtain ⟨Bx, h1, h2, h3⟩ := hs; exact ⟨Bx, h1, cells_own Bx 27 (fun (_ : Unit) => y.cs.toArray) () X Y row h2 hg (fun r e => (hr r e).2), h3⟩)
    ?assign ?body ?done ?stop
  case assign =>
    rintro l pre ⟨yd, y, ycs, yok, yhd, yhf⟩ W K hI hK
    obtain ⟨B4, e4, B5, e5, rfl, _⟩ := yok.open
    dsimp only [encF]
    gi_wp2
    have hbl : Below W.heap.size W (W.alloc (.cells #[.int .i64 y.f0.f0, .int .i64 y.f0.f1, .string y.f1, .string y.f2, .slice B4 y.f3.length e4, .slice B5 y.f4.length e5] 27)) := below_alloc (Below.refl _ _) _
    obtain ⟨hf, hL⟩ := hI
    exact hK _ _ ((KeepsOthers.alloc _ _).from _) (Kw.below hbl hL.2.size) ⟨hf, hL.on hbl hBU.size⟩ ⟨W.heap.size, hL.1.size, Mem.alloc_new _ _, rfl⟩
  case body =>
    rintro l pre ⟨yd, y, ycs, yok, yhd, yhf⟩ a' W hl ⟨r, hr⟩ ⟨hf, hK⟩ ⟨Bx, hBx, bX, rfl⟩ hlt
    obtain ⟨B4, e4, B5, e5, rfl, _⟩ := yok.open
    have HYK := Aside0.mk (yok.low (fun i hi => (hK.2.block i hi)))
    have HMAP : Aside0 ((pre ++ [(⟨yd, y, _, yok, yhd, yhf⟩ : Nf w w.heap.size)]).map plf = pre.map plf ++ [(yd, y)]) := ⟨by rw [List.map_append]; rfl⟩
    have HFS := Aside0.mk (findD_snoc (pre.map plf) (yd, y) key hf)
    have HBKW := Aside0.mk (hK.1.cells hBK (fun h => h))
    have HBZW := Aside0.mk (hK.1.cells hBZ (fun h => h))
    have HBBW := Aside0.mk (hK.1.cells hBB (fun h => h))
    have HK := Aside0.mk hK
    have HX := Aside0.mk bX
    have HBX := Aside0.mk hBx
    have x0 := Mem.cell_of bX 0
    have x1 := Mem.cell_of bX 1
    have k0 := Mem.cell_of HBKW.out 0
    have k1 := Mem.cell_of HBKW.out 1
    clear hr hf hK bX hlt
    by_cases hq : sameK y.f0 key = true
    · have g1 : (y.f0.f0 == key.f0 && (y.f0.f1 == key.f1)) = true := hq
      have HQ := Aside0.mk hq
      clear hq
      have x2 := Mem.cell_of HX.out 2
      have x3 := Mem.cell_of HX.out 3
      have x4 := Mem.cell_of HX.out 4
      have x5 := Mem.cell_of HX.out 5
      gi_wp2_with (fail)
      refine ⟨trivial, ?_⟩
      refine (CallsIn.inRound l (callsIn_wide.2 (vcopy_calls W y B4 e4 B5 e5 (RK.of (Kd.FK_now HYK.out)) yhf))).mono ?_
      rintro e w3 ⟨C4, g4, C5, g5, rfl, hM3, hb3⟩
      have HM3 := Aside0.mk hM3
      have HB3 := Aside0.mk hb3
      have HZ3 : Aside0 (w3.heap[w.heap.size + 1 + 1]? = some (.cells #[.int .i64 0, .int .i64 0, .string ⟨#[]⟩, .string ⟨#[]⟩, .slice none 0 0, .slice none 0 0] 27 (0, 0))) := ⟨(hb3.block _ (blk_lt' HBZW.out)).trans HBZW.out⟩
      have HBB3 : Aside0 (w3.heap[w.heap.size + 1 + 1 + 1]? = some (.cells #[.bool false] 4 (0, 0))) := ⟨(hb3.block _ (blk_lt' HBBW.out)).trans HBBW.out⟩
      clear hM3 hb3 x0 x1 x2 x3 x4 x5 k0 k1
      dsimp only
      have z0 := Mem.cell_of HZ3.out 0
      have z1 := Mem.cell_of HZ3.out 1
      have z2 := Mem.cell_of HZ3.out 2
      have z3 := Mem.cell_of HZ3.out 3
      have z4 := Mem.cell_of HZ3.out 4
      have z5 := Mem.cell_of HZ3.out 5
      have y0 := Mem.free_of HZ3.out 0
      have y1 := Mem.free_of HZ3.out 1
      have y2 := Mem.free_of HZ3.out 2
      have y3 := Mem.free_of HZ3.out 3
      have y4 := Mem.free_of HZ3.out 4
      have y5 := Mem.free_of HZ3.out 5
      have b0 := Mem.cell_of HBB3.out 0
      have b1 := Mem.free_of HBB3.out 0
      gi_wp2_with (fail)
      have HP : Aside0 (KeepsOthers w3 (putRow w3 (w.heap.size + 1 + 1) y C4 g4 C5 g5)) := ⟨putRow_keeps _ _ _ _ _ _ _⟩
      have hlow : w.heap.size ≤ W.heap.size := HK.out.2.size
      have hws : w.heap.size + 5 ≤ W.heap.size := by have := HK.out.1.size; have := HUS.out; omega
      have hne2 : w.heap.size + 1 + 1 ≠ w.heap.size + 1 + 1 + 1 := by omega
      refine ⟨(((below_others HB3.out).trans HP.out).trans (KeepsOthers.setCell _ _ _)).from _, ⟨rfl, y, C4, g4, C5, g5, ?_, ?_, ?_, ?_⟩, ?_⟩
      · rw [HMAP.out, HFS.out, if_pos HQ.out]
      · exact (Mem.set_other _ _ _ _ (by exact hne2)).trans (putRow_row HZ3.out)
      · exact Mem.set_heap ((putRow_other _ (Ne.symm hne2)).trans HBB3.out) 0 _
      · refine M_low HM3.out (fun k hk _ => ?_) HK.out.1.size
        exact (Mem.set_other _ _ _ _ (by show k ≠ w.heap.size + 1 + 1 + 1; omega)).trans (putRow_other k (by omega))
      · have h1 : KeptT (fun i => i = w.heap.size + 1 + 1 ∨ i = w.heap.size + 1 + 1 + 1) U w3 := ⟨(HK.out.1.on HB3.out).size, fun i hi hn => (HK.out.1.on HB3.out).block i hi (fun h => h)⟩
        exact ⟨(putRow_kept h1 (.inl rfl)).set _ (.inr rfl), ((HK.out.2.trans (HB3.out.mono hlow)).trans (putRow_below (by omega))).trans (low_set (by omega) _)⟩
    · have g1 : (y.f0.f0 == key.f0 && (y.f0.f1 == key.f1)) = false := Bool.eq_false_iff.2 hq
      have HQ := Aside0.mk hq
      clear hq
      gi_wp2_with (fail)
      refine ⟨(KeepsOthers.refl _).from _, Kw.refl _ _ _, ?_, HK.out⟩
      rw [HMAP.out, HFS.out, if_neg HQ.out]
  case done =>
    rintro D ys W hD hys ⟨hf, hK⟩ hKD
    have HG : Aside0 (findL (flatL x) key = (z27, false)) := ⟨by rw [← findD_flat, ← hys]; exact findL_none _ _ hf⟩
    have HBZW := Aside0.mk (hK.1.cells hBZ (fun h => h))
    have HBBW := Aside0.mk (hK.1.cells hBB (fun h => h))
    have HK := Aside0.mk hK
    have HKD := Aside0.mk hKD
    clear hf hys hK hKD
    have z0 := Mem.cell_of HBZW.out 0
    have z1 := Mem.cell_of HBZW.out 1
    have z2 := Mem.cell_of HBZW.out 2
    have z3 := Mem.cell_of HBZW.out 3
    have z4 := Mem.cell_of HBZW.out 4
    have z5 := Mem.cell_of HBZW.out 5
    have y0 := Mem.free_of HBZW.out 0
    have y1 := Mem.free_of HBZW.out 1
    have y2 := Mem.free_of HBZW.out 2
    have y3 := Mem.free_of HBZW.out 3
    have y4 := Mem.free_of HBZW.out 4
    have y5 := Mem.free_of HBZW.out 5
    have b0 := Mem.cell_of HBBW.out 0
    have b1 := Mem.free_of HBBW.out 0
    gi_wp2_with (fail)
    have hus := HUS.out
    have he1 : ((putRow W (w.heap.size + 1 + 1) z27 none 0 none 0).setCell ⟨w.heap.size + 1 + 1 + 1, 0, none⟩ (.bool false)).heap[D]? = _ := (Mem.set_other _ _ _ _ (by show D ≠ w.heap.size + 1 + 1 + 1; omega)).trans ((putRow_other D (by omega)).trans HKD.out)
    have he2 : ((putRow W (w.heap.size + 1 + 1) z27 none 0 none 0).setCell ⟨w.heap.size + 1 + 1 + 1, 0, none⟩ (.bool false)).heap[w.heap.size + 1 + 1]? = _ := (Mem.set_other _ _ _ _ (by show w.heap.size + 1 + 1 ≠ w.heap.size + 1 + 1 + 1; omega)).trans (putRow_row HBZW.out)
    have he3 := Mem.set_heap ((putRow_other (w := W) (g := w.heap.size + 1 + 1) (x := z27) (A4 := none) (c4 := 0) (A5 := none) (c5 := 0) (w.heap.size + 1 + 1 + 1) (by omega)).trans HBBW.out) 0 (.bool false)
    have he4 : (((putRow W (w.heap.size + 1 + 1) z27 none 0 none 0).setCell ⟨w.heap.size + 1 + 1 + 1, 0, none⟩ (.bool false)).putObj D (.deferred none)).heap[w.heap.size + 1 + 1]? = _ := (World.putObj_heap_other (by omega)).trans he2
    have he5 : (((putRow W (w.heap.size + 1 + 1) z27 none 0 none 0).setCell ⟨w.heap.size + 1 + 1 + 1, 0, none⟩ (.bool false)).putObj D (.deferred none)).heap[w.heap.size + 1 + 1 + 1]? = some (.cells #[.bool false] 4 (0, 0)) := (World.putObj_heap_other (by omega)).trans he3
    refine ⟨by simp, .inl ⟨_, _, rfl, run_takeDeferred he1, ?_⟩⟩
    refine ⟨_, results_row_bool rfl _ _ (w.heap.size + 1 + 1) (w.heap.size + 1 + 1 + 1) 27 _ (0, 0) _ false rfl he4 Try.underlying27 rfl (by kernel_rfl) rfl (Mem.cell_of he5 0) Try.underlying4, ?_⟩
    rw [HG.out]
    have hb1 : Below w.heap.size w ((putRow W (w.heap.size + 1 + 1) z27 none 0 none 0).setCell ⟨w.heap.size + 1 + 1 + 1, 0, none⟩ (.bool false)) := (HK.out.2.trans (putRow_below (w := W) (g := w.heap.size + 1 + 1) (x := z27) (A4 := none) (c4 := 0) (A5 := none) (c5 := 0) (by omega))).trans (low_set (by omega) _)
    refine ⟨none, 0, none, 0, rfl, zero_M _ _, Below.trans hb1 ?_⟩
    exact belowK_b (w := U) hBU.size _ D _ _ hD he1 rfl rfl
  case stop =>
    rintro D c pre W hD hsp ⟨⟨rfl, y, B4, e4, B5, e5, h1, h2, h3, h4⟩, hK⟩ hKD
    have HG : Aside0 (findL (flatL x) key = (y, true)) := ⟨by rw [← findD_flat, findD_prefix hsp (by rw [h1]), h1]⟩
    refine wpIn_wide.2 ?_
    go_wp2_with (fail)
    have hus := HUS.out
    have he4 : (W.putObj D (.deferred none)).heap[w.heap.size + 1 + 1]? = _ := (World.putObj_heap_other (by omega)).trans h2
    have he5 : (W.putObj D (.deferred none)).heap[w.heap.size + 1 + 1 + 1]? = some (.cells #[.bool true] 4 (0, 0)) := (World.putObj_heap_other (by omega)).trans h3
    refine ⟨by simp, .inl ⟨_, _, rfl, run_takeDeferred hKD, ?_⟩⟩
    refine ⟨_, results_row_bool rfl _ _ (w.heap.size + 1 + 1) (w.heap.size + 1 + 1 + 1) 27 _ (0, 0) _ true rfl he4 Try.underlying27 rfl (by kernel_rfl) rfl (Mem.cell_of he5 0) Try.underlying4, ?_⟩
    rw [HG.out]
    refine ⟨B4, e4, B5, e5, rfl, ?_, hK.2.trans (belowK_b (w := U) hBU.size W D _ _ hD hKD rfl rfl)⟩
    refine k27.M_lower hBU.size (k27.M_mono (fun _ hk => hk.1) (k27.M_move (fun k hk => World.putObj_heap_other ?_) (k27.M_bound h4)))
    rintro rfl
    obtain ⟨_, _, _, q, _, cells, hc⟩ := hk
    rw [hKD] at hc
    cases hc
end Go.Proofs.Ytnkbgimihikhoaa.PVt
namespace Go.Proofs.Ytnkbgimihikhoaa.PVt
open Go.RowKit Go.Proofs.YtnkbgimihikhoaaW.PrintWords Go.Proofs.YtnkbgimihikhoaaW.PrintLast Go.Proofs.YtnkbgimihikhoaaW.PrintMore
attribute [local go_sem] max2_int min2_int max_two min_two
set_option linter.unusedVariables false
set_option linter.unusedSimpArgs false
mutual
theorem flatD_hi : ∀ (d : Nat) (x : S27), ∀ p ∈ flatD d x, p.1 + 1 ≤ d + szT x
  | d, ⟨k, t, u, a, l⟩, p, hp => by
    rw [flatD] at hp
    rw [szT]
    rcases List.mem_cons.1 hp with rfl | hp
    · simp only []; omega
    · have := flatDs_hi (d + 1) l p hp; omega
theorem flatDs_hi : ∀ (d : Nat) (l : List S27), ∀ p ∈ flatDs d l, p.1 + 1 ≤ d + szTs l
  | _, [], p, hp => by rw [flatDs] at hp; cases hp
  | d, x :: l, p, hp => by
    rw [flatDs] at hp
    rw [szTs]
    rcases List.mem_append.1 hp with hp | hp
    · have := flatD_hi d x p hp; omega
    · have := flatDs_hi d l p hp; omega
end
end Go.Proofs.Ytnkbgimihikhoaa.PVt
namespace Go.Proofs.Ytnkbgimihikhoaa.PVt
open Go.RowKit Go.Proofs.YtnkbgimihikhoaaW.PrintWords Go.Proofs.YtnkbgimihikhoaaW.PrintLast Go.Proofs.YtnkbgimihikhoaaW.PrintMore
attribute [local go_sem high] eqA23
set_option linter.unusedVariables false
set_option linter.unusedSimpArgs false
/-- Going back: the last node one higher. -/
def backP : List (Nat × S27) → Nat → S23 × Bool
  | [], _ => (z23, false)
  | p :: r, d => if p.1 + 1 = d then (p.2.f0, true) else backP r d
def parR : List (Nat × S27) → List (Nat × S27) → S23 → S23 × Bool
  | _, [], _ => (z23, false)
  | r, p :: l, key => if sameK p.2.f0 key = true then backP r p.1 else parR (p :: r) l key
theorem drop_one (M : List (Nat × S27)) {k : Nat} (h : k < M.length) : M.drop k = M.getD k (0, z27) :: M.drop (k + 1) := by
  rw [List.drop_eq_getElem_cons h, List.getD_eq_getElem?_getD, List.getElem?_eq_getElem h]; rfl
theorem flatL_get (x : S27) {k : Nat} (h : k < (flatD 0 x).length) : (flatL x).getD k z27 = ((flatD 0 x).getD k (0, z27)).2 := by
  rw [← flatL_map 0 x, List.getD_eq_getElem?_getD, List.getD_eq_getElem?_getD, List.getElem?_map, List.getElem?_eq_getElem h]; rfl
theorem wrap_dn {k : Nat} (h : k ≤ 1099511627776) : wrap64 ((k : Int) - 1) = (k : Int) - 1 := by unfold wrap64; omega
end Go.Proofs.Ytnkbgimihikhoaa.PVt
namespace Go.Proofs.Ytnkbgimihikhoaa.Link
open Go.RowKit
set_option linter.unusedVariables false
variable {α : Type} {F : Fence} {n : Nat} {P : Program}
/-- The iterator's contract: at each round it holds of what came, of the element and of the memory what Lk says. -/
def Tells (F : Fence) (n : Nat) (P : Program) (g : Nat) (lb : Array Value) (encs : α → Array Value) (Kp : α → World → World → Prop) (Lk : List α → α → World → Prop) (S Sp : List α → Prop) (w : World) : Prop :=
  ∀ (l : Nat) (J Jx : List α → World → Prop) (W : World), Below w.heap.size w W → AbidesFrom W.heap.size J → AbidesFrom W.heap.size Jx →
    (∀ pre x W1, J pre W1 → Lk pre x W1 → YieldAt F (n - 1) P l (encs x) W1 fun e W' =>
      (e = .returned (.bool true) ∧ J (pre ++ [x]) W' ∧ Kp x W1 W') ∨ (e = .returned (.bool false) ∧ Jx (pre ++ [x]) W')) →
    J [] W →
    CallsIn F n P g (#[.func (.yield l) #[] #[]] ++ lb) W fun e W' => (∃ v, e = .returned v) ∧ ((∃ xs, S xs ∧ J xs W') ∨ (∃ pre, Sp pre ∧ Jx pre W'))
/-- A loop's record. -/
def record (fn : FuncId) (tmps : Array Value) (ps : Array Tmp) (assign body : Code) (D : Nat) (st : LoopState) (pe : Option Code) : Loop :=
  { state := st, pending := pe, fn := fn, tmps := tmps, params := ps, assign := assign, body := body, defers := D }
/-- The loop stands between two rounds: its record, its block for deferred calls. -/
structure Stands (rec : LoopState → Option Code → Loop) (D : Nat) (st : LoopState) (pe : Option Code) (W : World) : Prop where
  loop : W.heap[D + 1]? = some (.loop (rec st pe))
  mark : W.heap[D]? = some (.deferred (some []))
theorem Stands.lt {rec : LoopState → Option Code → Loop} {D : Nat} {st : LoopState} {pe : Option Code} {W : World} (h : Stands rec D st pe W) : D + 1 < W.heap.size := (Array.getElem?_eq_some_iff.1 h.loop).1
theorem Stands.from_ {rec : LoopState → Option Code → Loop} {D : Nat} {st : LoopState} {pe : Option Code} {W W' : World} (h : Stands rec D st pe W) (k : KeepsFrom D W W') : Stands rec D st pe W' := ⟨k.same _ _ (Nat.le_succ D) h.loop rfl, k.same _ _ (Nat.le_refl D) h.mark rfl⟩
theorem Stands.put {rec : LoopState → Option Code → Loop} {D : Nat} {st st' : LoopState} {pe pe' : Option Code} {W : World} (h : Stands rec D st pe W) : Stands rec D st' pe' (W.putObj (D + 1) (.loop (rec st' pe'))) := ⟨World.putObj_heap_same h.lt, (World.putObj_heap_other (by omega)).trans h.mark⟩
theorem Stands.grown {rec : LoopState → Option Code → Loop} {D : Nat} {st : LoopState} {pe : Option Code} {X Y : World} {row : Option Nat} (h : Stands rec D st pe X) (hg : X.grownBy Y row) (hr : ∀ r, row = some r → ∃ o : Obj, X.heap[r]? = some o ∧ o.isWalk = true) : Stands rec D st pe Y := ⟨(grownBy_keeps hg hr h.loop rfl).trans h.loop, (grownBy_keeps hg hr h.mark rfl).trans h.mark⟩
theorem walk_row {D B : Nat} {A : World} {row : Option Nat} (hB : D ≤ B) (hr : ∀ r, row = some r → B ≤ r ∧ ∃ o : Obj, A.heap[r]? = some o ∧ o.isWalk = true) : ∀ r, row = some r → D ≤ r ∧ ∃ o : Obj, A.heap[r]? = some o ∧ o.isCells = false := fun r e => by
  obtain ⟨h1, o, ho, hw⟩ := hr r e
  exact ⟨Nat.le_trans hB h1, o, ho, Obj.not_cells_of_walk hw⟩
/-- One round. -/
theorem round_told {ps : Array Tmp} {assign body : Code} {tmps : Array Value} {fn D m : Nat} (hfn : F.fn fn) {encs : α → Array Value} {Kp : World → World → Prop}
    (hKt : ∀ {A B C : World}, Kp A B → Kp B C → Kp A C) (hKb : ∀ (W : World) (l : Nat) (o o' : Obj), D ≤ l → W.heap[l]? = some o → o.isCells = false → o.isWalk = false → Kp W (W.putObj l o'))
    (I : List α → World → Prop) (Ix : Code → List α → World → Prop) (hI : OwnFrom D I) (hIx : ∀ c, OwnFrom D (Ix c)) (Ax : Act → World → Prop) (hAx : ∀ a', OwnFrom D (fun (_ : Unit) W => Ax a' W))
    {pre : List α} {x : α} {W : World} (hps : (encs x).size = ps.size) (hs : Stands (record fn tmps ps assign body D) D .ready none W)
    (ha : ∀ K : Act → World → Prop, (∀ a' W', KeepsFrom D W W' → Kp W W' → I pre W' → Ax a' W' → K a' W') →
      assign.wpIn (F.inRound (D + 1)) m P (Exit.then K (fun _ _ _ => False)) { tmps := (ps.zip (encs x)).foldl (fun t (p, v) => t.setIfInBounds p v) tmps, defers := [] } W)
    (hb : ∀ (a' : Act) (Wa : World), (∃ r, Wa.heap[D + 1]? = some (.loop r)) → I pre Wa → Ax a' Wa → body.wpIn (F.inRound (D + 1)) m P (ownPostG D Kp I Ix (pre ++ [x]) Wa) a' Wa) :
    YieldAt F m P (D + 1) (encs x) W fun e W' => (e = .returned (.bool true) ∧ (I (pre ++ [x]) W' ∧ Stands (record fn tmps ps assign body D) D .ready none W') ∧ Kp W W') ∨ (e = .returned (.bool false) ∧ ∃ c, Ix c (pre ++ [x]) W' ∧ Stands (record fn tmps ps assign body D) D .done (some c) W') := by
  refine ⟨fn, _, assign, body, run_yield (P := P) (args := encs x) hs.loop hps, roundIn_of_wpIn hfn (ha _ ?_)⟩
  intro a' Wa hkf hkp hia hax
  have h1 := hs.from_ hkf
  have h2 : Stands (record fn tmps ps assign body D) D .busy none (Wa.putObj (D + 1) (.loop (record fn tmps ps assign body D .busy none))) := h1.put
  have hk1 : Kp Wa (Wa.putObj (D + 1) (.loop (record fn tmps ps assign body D .busy none))) := hKb _ _ _ _ (Nat.le_succ D) h1.loop rfl rfl
  refine ⟨_, run_beginRound h1.loop rfl, ?_⟩
  refine wpIn_mono (hb a' _ ⟨_, h2.loop⟩ (hI.putObj _ hia (Nat.le_succ D) h1.loop rfl) ((hAx a').putObj (s := ()) _ hax (Nat.le_succ D) h1.loop rfl)) ?_
  have last : ∀ (c : Code) (W3 : World), KeepsFrom D (Wa.putObj (D + 1) (.loop (record fn tmps ps assign body D .busy none))) W3 → Ix c (pre ++ [x]) W3 →
      ∃ v W4, (Instr.endRound (D + 1) (some c)).run P W3 = .ok v W4 ∧ ((v = .bool true ∧ (I (pre ++ [x]) W4 ∧ Stands (record fn tmps ps assign body D) D .ready none W4) ∧ Kp W W4) ∨ (v = .bool false ∧ ∃ c, Ix c (pre ++ [x]) W4 ∧ Stands (record fn tmps ps assign body D) D .done (some c) W4)) := fun c W3 hk hx => by
    have h3 := h2.from_ hk
    exact ⟨_, _, run_endRound (P := P) (some c) h3.loop, .inr ⟨rfl, c, (hIx c).putObj _ hx (Nat.le_succ D) h3.loop rfl, h3.put⟩⟩
  rintro e a3 W3 hp
  cases e with
  | normal =>
    obtain ⟨hk3, hkp3, hi3⟩ := hp
    have h3 := h2.from_ hk3
    exact ⟨_, _, run_endRound (P := P) none h3.loop, .inl ⟨rfl, ⟨hI.putObj _ hi3 (Nat.le_succ D) h3.loop rfl, h3.put⟩, hKt hkp (hKt (hKt hk1 hkp3) (hKb _ _ _ _ (Nat.le_succ D) h3.loop rfl rfl))⟩⟩
  | ret =>
    obtain ⟨v, W4, hr, h⟩ := last .ret W3 hp.1 hp.2
    exact ⟨v, W4, hr, h.imp (fun h => ⟨by rw [h.1], h.2⟩) (fun h => ⟨by rw [h.1], h.2⟩)⟩
  | exit id =>
    obtain ⟨v, W4, hr, h⟩ := last (.exit id) W3 hp.1 hp.2
    exact ⟨v, W4, hr, h.imp (fun h => ⟨by rw [h.1], h.2⟩) (fun h => ⟨by rw [h.1], h.2⟩)⟩
  | goto t =>
    obtain ⟨v, W4, hr, h⟩ := last (.goto t) W3 hp.1 hp.2
    exact ⟨v, W4, hr, h.imp (fun h => ⟨by rw [h.1], h.2⟩) (fun h => ⟨by rw [h.1], h.2⟩)⟩
  | panic ch => exact hp.elim
  | outgrown => exact hp.elim
/-- A range over a function, each round told of its element. -/
theorem range_told {g : Operand} {ps : Array Tmp} {assign body : Code} {Q : Exit → Act → World → Prop} {a : Act} {w : World}
    (hro : F.round = none) (h1 : 1 ≤ n) {gf : Nat} {lb : Array Value} (hg : a.eval g = .func (.func gf) #[] lb) (hFg : F.fn gf) (eg : ∀ args w, (callFunc gf args).run P w = .ok (.enter gf args) w)
    {encs : α → Array Value} {Kp : α → World → World → Prop} {Lk : List α → α → World → Prop} {S Sp : List α → Prop} {w0 : World} (hseq : Tells F (n - 1) P gf lb encs Kp Lk S Sp w0)
    (hKt : ∀ (x : α) {A B C : World}, Kp x A B → Kp x B C → Kp x A C) (hKb : ∀ (x : α) (W : World) (l : Nat) (o o' : Obj), w.heap.size ≤ l → W.heap[l]? = some o → o.isCells = false → o.isWalk = false → Kp x W (W.putObj l o')) (hb0 : Below w0.heap.size w0 w) (hps : ∀ x, (encs x).size = ps.size)
    (I : List α → World → Prop) (Ix : Code → List α → World → Prop) (hI : OwnFrom w.heap.size I) (hIx : ∀ c, OwnFrom w.heap.size (Ix c)) (h0 : I [] w) (Ax : List α → α → Act → World → Prop) (hAx : ∀ pre x a', OwnFrom w.heap.size (fun (_ : Unit) W => Ax pre x a' W))
    (hassign : ∀ (l : Nat) (pre : List α) (x : α) (W : World) (K : Act → World → Prop), I pre W → Lk pre x W → (∀ a' W', KeepsFrom w.heap.size W W' → Kp x W W' → I pre W' → Ax pre x a' W' → K a' W') →
      assign.wpIn (F.inRound l) (n - 1 - 1) P (Exit.then K (fun _ _ _ => False)) { tmps := (ps.zip (encs x)).foldl (fun t (p, v) => t.setIfInBounds p v) a.tmps, defers := [] } W)
    (hbody : ∀ (l : Nat) (pre : List α) (x : α) (a' : Act) (W : World), w.heap.size ≤ l → (∃ r, W.heap[l]? = some (.loop r)) → I pre W → Ax pre x a' W → body.wpIn (F.inRound l) (n - 1 - 1) P (ownPostG w.heap.size (Kp x) I Ix (pre ++ [x]) W) a' W)
    (hdone : ∀ (D : Nat) (xs : List α) (W : World), w.heap.size ≤ D → S xs → I xs W → W.heap[D]? = some (.deferred (some [])) → Q .normal { a with defers := { target := .collected D, args := #[] } :: a.defers } W)
    (hstop : ∀ (D : Nat) (c : Code) (pre : List α) (W : World), w.heap.size ≤ D → Sp pre → Ix c pre W → W.heap[D]? = some (.deferred (some [])) → c.wpIn F n P Q { a with defers := { target := .collected D, args := #[] } :: a.defers } W) :
    (Code.rangeFunc g ps assign body).wpIn F n P Q a w := by
  refine wpIn_rangeFunc fun fn hfn => ?_
  rw [hro]
  have hent := run_enterLoop_outer (P := P) (w := w) fn a.tmps ps assign body
  have hst : Stands (record fn a.tmps ps assign body w.heap.size) w.heap.size .ready none ((w.alloc (.deferred (some []))).alloc (.loop (record fn a.tmps ps assign body w.heap.size .ready none))) := by
    constructor
    · have := World.alloc_heap_new (w.alloc (.deferred (some []))) (.loop (record fn a.tmps ps assign body w.heap.size .ready none))
      rwa [World.size_alloc] at this
    · exact (Below.heap_alloc _ _ _ (by simp)).trans (World.alloc_heap_new w _)
  have hst0 : I [] ((w.alloc (.deferred (some []))).alloc (.loop (record fn a.tmps ps assign body w.heap.size .ready none))) := hI.alloc _ (hI.alloc _ h0)
  have hbl : Below w.heap.size w ((w.alloc (.deferred (some []))).alloc (.loop (record fn a.tmps ps assign body w.heap.size .ready none))) := ((Below.refl _ w).alloc (Nat.le_refl _) _).alloc (by simp) _
  change _ = Result.ok _ ((w.alloc (.deferred (some []))).alloc (.loop (record fn a.tmps ps assign body w.heap.size .ready none))) at hent
  generalize ((w.alloc (.deferred (some []))).alloc (.loop (record fn a.tmps ps assign body w.heap.size .ready none))) = W1 at *
  refine ⟨w.heap.size + 1, [{ target := .collected w.heap.size, args := #[] }], W1, { target := .fn (.func gf) lb, args := #[.func (.yield (w.heap.size + 1)) #[] #[]] }, W1, gf, #[.func (.yield (w.heap.size + 1)) #[] #[]] ++ lb, W1, hent, ?_, ?_, ?_, fun _ => h1, ?_⟩
  · simp only [resolve, hg]
    simp [go_sem]
  · intro f' hf'
    simp [Target.leads] at hf'
    subst hf'
    exact hFg
  · simp [invoke, go_sem, eg]
  · refine CallsIn.mono (hseq (w.heap.size + 1) (fun pre W => I pre W ∧ Stands (record fn a.tmps ps assign body w.heap.size) w.heap.size .ready none W) (fun pre W => ∃ c, Ix c pre W ∧ Stands (record fn a.tmps ps assign body w.heap.size) w.heap.size .done (some c) W) W1 (hb0.trans (hbl.mono hb0.size)) ?_ ?_ ?_ ⟨hst0, hst⟩) ?_
    · exact fun s A B row hs hg' hr => ⟨hI s A B row hs.1 hg' (walk_row hbl.size hr), hs.2.grown hg' (fun r e => (hr r e).2)⟩
    · rintro s A B row ⟨c, hc, hs⟩ hg' hr
      exact ⟨c, hIx c s A B row hc hg' (walk_row hbl.size hr), hs.grown hg' (fun r e => (hr r e).2)⟩
    · rintro pre x W ⟨hi, hs⟩ hlk
      exact round_told (Kp := Kp x) hfn (fun h k => hKt x h k) (hKb x) I Ix hI hIx (Ax pre x) (hAx pre x) (hps x) hs (fun K hK => hassign _ pre x W K hi hlk hK) (fun a' Wa hr hia hax => hbody _ pre x a' Wa (Nat.le_succ _) hr hia hax)
    · rintro e W2 ⟨⟨v, rfl⟩, ⟨xs, hS, hi, hs⟩ | ⟨pre, hSp, c, hi, hs⟩⟩
      · exact ⟨none, _, run_endLoop (P := P) hs.loop (by simp [record]), hdone _ xs _ (Nat.le_refl _) hS (hI.putObj _ hi (Nat.le_succ _) hs.loop rfl) ((World.putObj_heap_other (by omega)).trans hs.mark)⟩
      · exact ⟨some c, _, run_endLoop (P := P) hs.loop (by simp [record]), hstop _ c pre _ (Nat.le_refl _) hSp ((hIx c).putObj _ hi (Nat.le_succ _) hs.loop rfl) ((World.putObj_heap_other (by omega)).trans hs.mark)⟩
end Go.Proofs.Ytnkbgimihikhoaa.Link
namespace Go.Proofs.Ytnkbgimihikhoaa.PVt
open Go.RowKit Go.Shelf Go.Proofs.YtnkbgimihikhoaaW.PrintWords Go.Proofs.YtnkbgimihikhoaaW.PrintLast Go.Proofs.YtnkbgimihikhoaaW.PrintMore
attribute [local go_sem] Oper.semAt_some
set_option linter.unusedVariables false
set_option linter.unusedSimpArgs false
/-- A node that is handed to a round: how many are above it, what it is, its cells. -/
structure Nq where
  d : Nat
  x : S27
  cs : List Value
def plq (p : Nq) : Nat × S27 := (p.d, p.x)
def encQ (p : Nq) : Array Value := #[.int .i64 (p.d : Int), .agg p.cs.toArray]
/-- What a round is told: the node lies as its cells say; with it a part of the tree's nodes has come; the memory below n0 is as it was. -/
def Lkq (w0 : World) (n0 : Nat) (X : List (Nat × S27)) (pre : List Nq) (p : Nq) (W : World) : Prop := TK w0 n0 p.x p.cs ∧ fitT p.x ∧ (pre ++ [p]).map plq <+: X ∧ ∀ i, i < n0 → W.heap[i]? = w0.heap[i]?
theorem pre_one {X : List (Nat × S27)} {pre : List Nq} {d : Nat} {x : S27} {cs : List Value} (h : pre.map plq ++ flatD d x <+: X) : (pre ++ [(⟨d, x, cs⟩ : Nq)]).map plq <+: X := by
  obtain ⟨t, ht⟩ := h
  rw [flatD_eq] at ht
  exact ⟨flatDs (d + 1) x.f4 ++ t, by rw [← ht, List.map_append]; simp [plq]⟩
theorem pre_kid {X a : List (Nat × S27)} {d k : Nat} {x y : S27} (h : a ++ flatD d x <+: X) (hf : flatD d x = (d, x) :: flatDs (d + 1) x.f4) (hs : flatDs (d + 1) (x.f4.take (k + 1)) = flatDs (d + 1) (x.f4.take k) ++ flatD (d + 1) y) : (a ++ (d, x) :: flatDs (d + 1) (x.f4.take k)) ++ flatD (d + 1) y <+: X := by
  obtain ⟨t, ht⟩ := h
  obtain ⟨u, hu⟩ := flatDs_prefix (d + 1) x.f4 (k + 1)
  refine ⟨u ++ t, ?_⟩
  rw [← ht, hf, ← hu, hs]
  simp
set_option maxHeartbeats 8000000 in
set_option maxRecDepth 100000 in
theorem walkn_in (l n0 B : Nat) (X : List (Nat × S27)) (T : Nat → Prop) (w0 : World) (J Jx : List (Nq) → World → Prop) (hJ : AbidesFrom B J)
    (hY : ∀ pre x W, J pre W → Lkq w0 n0 X pre x W → YieldAt Fence.wide 1 Try.prog l (encQ x) W fun e W' => (e = .returned (.bool true) ∧ J (pre ++ [x]) W' ∧ Kw n0 T W W') ∨ (e = .returned (.bool false) ∧ Jx (pre ++ [x]) W')) :
    ∀ (q : Nat) (d : Nat) (x : S27) (cs : List Value) (pre : List (Nq)) (W : World), szT x ≤ q → d + szT x ≤ 1099511627776 → TK w0 n0 x cs → fitT x → pre.map plq ++ flatD d x <+: X → (∀ i, i < n0 → W.heap[i]? = w0.heap[i]?) → n0 ≤ W.heap.size → (∀ i, T i → i < W.heap.size) → J pre W →
      CallsIn Fence.wide 1 Try.prog 59 #[.agg cs.toArray, .int .i64 (d : Int), .func (.yield l) #[] #[]] W fun e W' =>
        (e = .returned (.bool true) ∧ (∃ ys, ys.map plq = flatD d x ∧ J (pre ++ ys) W') ∧ Kw n0 T W W') ∨ (e = .returned (.bool false) ∧ ∃ ys, ys.map plq <+: flatD d x ∧ Jx (pre ++ ys) W') := by
  intro q
  induction q with
  | zero =>
    intro d x cs pre W hq
    have := szT_pos x
    omega
  | succ q ih =>
    intro d x cs pre W hq hd hT hft hpx hb hn hTl hJ0
    have hsz := szT_eq x
    obtain ⟨A4, c4, A5, c5, hcs, l4, g4, l5, g5⟩ := hT.open
    subst hcs
    have HFT := Aside0.mk hft
    have HPX := Aside0.mk hpx
    have HB := Aside0.mk hb
    have HTL := Aside0.mk hTl
    have hlen := szTs_len x.f4
    obtain ⟨fn, tmps, assign, body, hy, hR⟩ := hY pre ⟨d, x, [.int .i64 x.f0.f0, .int .i64 x.f0.f1, .string x.f1, .string x.f2, .slice A4 x.f3.length c4, .slice A5 x.f4.length c5]⟩ (W.alloc (.cells #[.int .i64 x.f0.f0, .int .i64 x.f0.f1, .string x.f1, .string x.f2, .slice A4 x.f3.length c4, .slice A5 x.f4.length c5] 27)) (hJ _ _ _ none hJ0 (World.grownBy_alloc _ _ none) (fun r e => by cases e)) ⟨hT, hft, pre_one hpx, fun i hi => ((below_alloc (Below.refl W.heap.size W) _).block i (Nat.lt_of_lt_of_le hi hn)).trans (hb i hi)⟩
    dsimp only [encQ] at hy
    have HF := Aside0.mk g5
    have HFF : Aside0 (flatD d x = (d, x) :: flatDs (d + 1) x.f4) := ⟨flatD_eq d x⟩
    have HT := Aside0.mk hT
    obtain ⟨nd, hnd⟩ : ∃ nd : Nq, nd = ⟨d, x, [.int .i64 x.f0.f0, .int .i64 x.f0.f1, .string x.f1, .string x.f2, .slice A4 x.f3.length c4, .slice A5 x.f4.length c5]⟩ := ⟨_, rfl⟩
    have HND : Aside0 (plq nd = (d, x)) := ⟨by rw [hnd]; rfl⟩
    rw [← hnd] at hR
    clear hnd hT hft hpx hb hTl g4 g5 hJ0
    refine callsIn_of_wp Try.func59 rfl trivial ?_ rfl
    simp only [Try.ntmps59, List.size_toArray, List.length_cons, List.length_nil, Nat.reduceAdd, Nat.reduceSub, Array.replicate_succ, Array.replicate_zero, List.push_toArray, List.append_toArray, List.nil_append, List.cons_append]
    gi_wp2
    refine (round_any rfl hR).mono ?_
    rintro e W1 (⟨rfl, hJ1, hk1⟩ | ⟨rfl, hx1⟩)
    · have HJ1 := Aside0.mk hJ1
      have HK1 : Aside0 (Kw n0 T W W1) := ⟨(Kw.below (below_alloc (Below.refl _ _) _) hn).trans hk1⟩
      have HBX : Aside0 (W1.heap[W.heap.size]? = some (.cells #[.int .i64 x.f0.f0, .int .i64 x.f0.f1, .string x.f1, .string x.f2, .slice A4 x.f3.length c4, .slice A5 x.f4.length c5] 27 (0, 0))) := ⟨hk1.cells _ _ _ (fun h => Nat.lt_irrefl _ (HTL.out _ h)) (Mem.alloc_new _ _)⟩
      have b5 : W1.cell? ⟨W.heap.size, 5, none⟩ = some (.slice A5 x.f4.length c5) := Mem.cell_of HBX.out 5
      clear hJ1 hk1
      gi_wp2
      gi_loopw [17] (fun i wr => ∃ k : Nat, i = .int .i64 (k : Int) ∧ Aside0 (k ≤ x.f4.length) ∧ Aside0 (∃ ys, ys.map plq = flatDs (d + 1) (x.f4.take k) ∧ J (pre ++ nd :: ys) wr) ∧ Aside0 (Kw n0 T W wr))
        (fun i _ => x.f4.length - (intOf i).toNat)
      case atStart => exact ⟨0, rfl, ⟨Nat.zero_le _⟩, ⟨[], by simp [flatDs], HJ1.out⟩, HK1⟩
      case round =>
        obtain ⟨k, rfl, HKL, HJS, HKW⟩ := hrel
        by_cases hlt : k < x.f4.length
        · obtain ⟨ad, B4, e4, B5, e5, rfl, hcl, hTk⟩ := kid_at (Kd.F_step HF.out (fun i hi _ => (HKW.out.low i hi).trans (HB.out i hi))) k hlt
          have hTk0 : TK w0 n0 _ _ := hTk.low (fun i hi => ((HKW.out.low i hi).trans (HB.out i hi)).symm)
          have HFK : Aside0 (fitT (x.f4.getD k z27)) := ⟨fitTs_get ((fitT_eq x).1 HFT.out).2.2.2.2 hlt⟩
          have HS := Aside0.mk (flatDs_snoc (d + 1) x.f4 hlt)
          have HZ : Aside0 (szTs (x.f4.take (k + 1)) = szTs (x.f4.take k) + szT (x.f4.getD k z27) ∧ szTs (x.f4.take (k + 1)) ≤ szTs x.f4) := ⟨szTs_snoc x.f4 hlt, szTs_take _ _⟩
          obtain ⟨y, hy'⟩ : ∃ y, x.f4.getD k z27 = y := ⟨_, rfl⟩
          rw [hy'] at hcl hTk hTk0 HS HZ HFK
          obtain ⟨p, hp⟩ : ∃ p, ad.add (k * 6) = p := ⟨_, rfl⟩
          rw [hp] at hcl
          obtain ⟨c0, c1, c2, c3, c4', c5'⟩ := hcl
          obtain ⟨ys, hys, hJs⟩ := HJS.out
          have HYS := Aside0.mk hys
          have HPK : Aside0 ((pre ++ nd :: ys).map plq ++ flatD (d + 1) y <+: X) := ⟨by rw [List.map_append, List.map_cons, HND.out, hys]; exact pre_kid HPX.out HFF.out HS.out⟩
          have IH := Aside0.mk (ih (d + 1) y _ (pre ++ nd :: ys) (wr.alloc (.cells #[.int .i64 y.f0.f0, .int .i64 y.f0.f1, .string y.f1, .string y.f2, .slice B4 y.f3.length e4, .slice B5 y.f4.length e5] 27))
            (by have := HZ.out; omega) (by have := HZ.out; omega) hTk0 HFK.out HPK.out (fun i hi => by
              have h1 : i < wr.heap.size := Nat.lt_of_lt_of_le (Nat.lt_of_lt_of_le hi hn) HKW.out.size
              exact ((below_alloc (Below.refl wr.heap.size wr) _).block i h1).trans ((HKW.out.low i hi).trans (HB.out i hi))) (Nat.le_trans (Nat.le_trans hn HKW.out.size) (by rw [Mem.alloc_size]; omega)) (fun i hi => by have := HTL.out i hi; have := HKW.out.size; rw [Mem.alloc_size]; omega)
            (hJ _ _ _ none hJs (World.grownBy_alloc _ _ none) (fun r e => by cases e)))
          have hw_ := wrap_next hd
          have hw2 := wrap_kid hlt hlen hsz hd
          clear hTk hTk0 hy' hys hJs
          have hkn : (k : Int).toNat = k := Int.toNat_natCast k
          have hkp : (0 : Int) ≤ (k : Int) := Int.natCast_nonneg k
          clear hd hq hsz hlen
          gi_wp2_with (fail)
          refine ⟨trivial, ?_⟩
          refine (callsIn_wide.2 ((callsIn_wide (n := 1)).1 IH.out)).mono ?_
          rintro e W3 (⟨rfl, ⟨zs, hzs, hJ3⟩, hk3⟩ | ⟨rfl, zs, hzs, hx3⟩)
          · have HZS := Aside0.mk hzs
            have HJ3 : Aside0 (J (pre ++ nd :: (ys ++ zs)) W3) := ⟨by rw [List.append_assoc] at hJ3; exact hJ3⟩
            have HK3 : Aside0 (Kw n0 T W W3) := ⟨HKW.out.trans ((Kw.below (below_alloc (Below.refl _ _) _) (Nat.le_trans hn HKW.out.size)).trans hk3)⟩
            clear hzs hJ3 hk3 IH
            gi_wp2_with (fail)
            go_roundw
            case rel => exact ⟨k + 1, congrArg (Value.int .i64) hw2, ⟨hlt⟩, ⟨ys ++ zs, by rw [List.map_append, HYS.out, HZS.out, HS.out], HJ3.out⟩, HK3⟩
            case measure => exact dec_lt hlt hw2
          · have HZS := Aside0.mk hzs
            have HX3 : Aside0 (Jx (pre ++ nd :: (ys ++ zs)) W3) := ⟨by rw [List.append_assoc] at hx3; exact hx3⟩
            clear hzs hx3 IH
            gi_wp2_with (fail)
            refine bodyPost_ret (results_tmp rfl _ _ _) rfl ?_
            refine .inr ⟨rfl, nd :: (ys ++ zs), ?_, HX3.out⟩
            rw [HFF.out, List.map_cons, HND.out, List.map_append, HYS.out]
            have h1 : flatDs (d + 1) (x.f4.take k) ++ zs.map plq <+: flatDs (d + 1) (x.f4.take (k + 1)) := by rw [HS.out]; exact (List.prefix_append_right_inj _).2 HZS.out
            exact (List.prefix_cons_inj _).2 (h1.trans (flatDs_prefix _ _ _))
        · obtain rfl : k = x.f4.length := by have := HKL.out; omega
          gi_wp2
          refine bodyPost_ret (results_tmp rfl _ _ _) rfl ?_
          obtain ⟨ys, hys, hJs⟩ := HJS.out
          rw [List.take_length] at hys
          exact .inl ⟨rfl, ⟨nd :: ys, by rw [HFF.out, List.map_cons, HND.out, hys], hJs⟩, HKW.out⟩
    · gi_wp2
      refine bodyPost_ret (results_tmp rfl _ _ _) rfl ?_
      exact .inr ⟨rfl, [nd], by rw [HFF.out, List.map_cons, HND.out]; exact ⟨_, rfl⟩, hx1⟩
set_option maxHeartbeats 8000000 in
set_option maxRecDepth 100000 in
theorem nodes_tells {w w0 : World} {n0 bx : Nat} {T : Nat → Prop} {x : S27} {A4 : Option Addr} {c4 : Nat} {A5 : Option Addr} {c5 : Nat} (hd : szT x ≤ 1099511627776) (hfx : fitT x)
    (hT : TK w0 n0 x [.int .i64 x.f0.f0, .int .i64 x.f0.f1, .string x.f1, .string x.f2, .slice A4 x.f3.length c4, .slice A5 x.f4.length c5]) (hb : ∀ i, i < n0 → w.heap[i]? = w0.heap[i]?) (hn : n0 ≤ w.heap.size) (hTl : ∀ i, T i → i < w.heap.size)
    (hbx : w.heap[bx]? = some (.cells #[.int .i64 x.f0.f0, .int .i64 x.f0.f1, .string x.f1, .string x.f2, .slice A4 x.f3.length c4, .slice A5 x.f4.length c5] 27 (0, 0))) :
    Link.Tells Fence.wide 2 Try.prog 65 #[.pointer (some ⟨bx, 0, none⟩)] (encQ) (fun _ => Kw n0 T) (Lkq w0 n0 (flatD 0 x)) (fun ys => ys.map plq = flatD 0 x) (fun ys => ys.map plq <+: flatD 0 x) w := fun l J Jx W hW hJ hJx hY h0 => by
  have hbl := (Array.getElem?_eq_some_iff.1 hbx).1
  have hbW := (hW.block bx hbl).trans hbx
  have HW := Aside0.mk (walkn_in l n0 W.heap.size (flatD 0 x) T w0 J Jx hJ hY (szT x) 0 x _ [] W (Nat.le_refl _) (by rw [Nat.zero_add]; exact hd) hT hfx (List.prefix_refl _) (fun i hi => (hW.block i (Nat.lt_of_lt_of_le hi hn)).trans (hb i hi)) (Nat.le_trans hn hW.size) (fun i hi => Nat.lt_of_lt_of_le (hTl i hi) hW.size) h0)
  have a0 := Mem.cell_of hbW 0
  have a1 := Mem.cell_of hbW 1
  have a2 := Mem.cell_of hbW 2
  have a3 := Mem.cell_of hbW 3
  have a4 := Mem.cell_of hbW 4
  have a5 := Mem.cell_of hbW 5
  clear hbl hbW hbx hd hT hb hn hTl hY h0
  refine callsIn_of_wp Try.func65 rfl trivial ?_ rfl
  simp only [Try.ntmps65, List.append_toArray, List.size_toArray, List.length_cons, List.length_nil, Nat.reduceAdd, Nat.reduceSub, Array.replicate_succ, Array.replicate_zero, List.push_toArray, List.append_toArray, List.nil_append, List.cons_append]
  gi_wp2_with (fail)
  refine ⟨trivial, ?_⟩
  refine (callsIn_wide.2 ((callsIn_wide (n := 1)).1 HW.out)).mono ?_
  rintro e W3 (⟨rfl, ⟨zs, hzs, hJ3⟩, hk3⟩ | ⟨rfl, zs, hzs, hx3⟩)
  · have HZ := Aside0.mk hzs
    clear hzs
    gi_wp2_with (fail)
    go_end0
    exact ⟨⟨_, rfl⟩, .inl ⟨zs, HZ.out, hJ3⟩⟩
  · have HZ := Aside0.mk hzs
    clear hzs
    gi_wp2_with (fail)
    go_end0
    exact ⟨⟨_, rfl⟩, .inr ⟨zs, HZ.out, hx3⟩⟩
end Go.Proofs.Ytnkbgimihikhoaa.PVt
namespace Go.Proofs.Ytnkbgimihikhoaa.Round
open Go.RowKit Go.Proofs.YtnkbgimihikhoaaW.PrintWords Go.Proofs.YtnkbgimihikhoaaW.PrintLast
set_option linter.unusedVariables false
variable {P : Program} {ops : Array Oper} {Q : Exit → Act → World → Prop} {md : Region.Mode} {l m : Nat}
def noDefer (ops : Array Oper) : Bool := ops.toList.all fun o => match o.op with | .defer _ => false | _ => true
theorem noDefer_spec (h : noDefer ops = true) {i : Nat} {o : Oper} (hi : ops[i]? = some o) (c : _) : o.op ≠ .defer c := by
  have := List.all_eq_true.1 h o (by rw [← Array.getElem?_toList] at hi; exact List.mem_of_getElem? hi)
  intro e
  rw [e] at this
  cases this
theorem rowsIn_of {row : String} {args : Array Value} {w : World} {R : Value → World → Prop} (h : Rows P row args w R) : RowsIn (Fence.wide.inRound l) m P row args w R :=
  fun c cs _ => by
    obtain ⟨v, w', hr, hs⟩ := h c cs
    exact ⟨v, w', hr, stepsIn_wide.2 hs⟩
theorem opIn {o : Oper} {a : Act} {w : World} {K : Act → World → Prop} (hd : ∀ c, o.op ≠ .defer c) (h : o.wp P a w K Q) : o.wpIn (Fence.wide.inRound l) m P a w K Q := by
  unfold Oper.wp at h
  unfold Oper.wpIn
  refine ⟨fun _ _ => trivial, ?_⟩
  rw [show (Fence.wide.inRound l).round = some l from rfl, Oper.semAt_some l _ _ hd]
  generalize (execOp a.eval o).run P w = r at h ⊢
  cases r with
  | ok x w' =>
    cases x with
    | enter f args => exact ⟨(fun hh => nomatch hh), (CallsIn.inRound l (callsIn_wide.2 h)).mono (fun e w'' he => by cases e <;> exact he)⟩
    | row r args => exact ⟨(fun hh => nomatch hh), rowsIn_of h⟩
    | round l f t a b => exact False.elim h
    | _ => exact h
  | halt x w' => cases x <;> exact h
theorem anyIn (hd : noDefer ops = true) (hQ : ¬ LetsOut Q) : ∀ (fuel : Nat) (listed : Array Bool) (a : Act) (w : World), wpAny P md ops Q fuel listed a w → wpAnyIn (Fence.wide.inRound l) m P md ops Q fuel listed a w
  | 0, _, _, _, h => h
  | fuel + 1, listed, a, w, h => ⟨h.1, fun i hi => by
    have h2 := h.2 i hi
    unfold wpOp at h2
    unfold wpOpIn
    cases ho : ops[i]? with
    | none => rw [ho] at h2; exact anyIn hd hQ fuel _ a w h2
    | some o =>
      rw [ho] at h2
      simp only at h2 ⊢
      split
      · rename_i hw
        rw [if_pos hw] at h2
        rcases h2 with h2 | h2
        · exact Oper.wpIn_mono (fun a w => anyIn hd hQ fuel _ a w) (opIn (noDefer_spec hd ho) h2)
        · exact absurd h2.2 hQ
      · rename_i hw
        rw [if_neg hw] at h2
        exact ⟨fun _ _ => trivial, anyIn hd hQ fuel _ _ w h2⟩⟩
theorem region {id : Nat} {a : Act} {w : World} (hm : P.follows .mixedOrders = true) (hd : noDefer ops = true) (hQ : ¬ LetsOut Q)
    (h : wpAny P .any ops Q ops.size (Array.replicate ops.size false) a { w with drawn := w.drawn + 1 }) : (Code.region id ops true).wpIn (Fence.wide.inRound l) m P Q a w := wpIn_region_any hm (anyIn hd hQ _ _ _ _ h)
/-- The start of a region's steps (the words start_, pure_, take_, ..). -/
theorem start {id n : Nat} {a : Act} {w : World} {S : World → Prop} {ds : List Nat} (lb : Array Bool) (hm : P.follows .mixedOrders = true) (hn : ops.size = n) (hl : Array.replicate n false = lb) (hd : noDefer ops = true) (hQ : ¬ LetsOut Q) (hS : S w.drew)
    (h : S w.drew → wpAnyLast P .any ops Q S ds n lb a w.drew) : (Code.region id ops true).wpIn (Fence.wide.inRound l) m P Q a w := by
  subst hn
  subst hl
  exact region hm hd hQ (wpAny_of_last _ _ _ _ (h hS))
end Go.Proofs.Ytnkbgimihikhoaa.Round
namespace Go.Proofs.Ytnkbgimihikhoaa.PVt
open Go.RowKit Go.Shelf Go.Proofs.YtnkbgimihikhoaaW.PrintWords Go.Proofs.YtnkbgimihikhoaaW.PrintLast Go.Proofs.YtnkbgimihikhoaaW.PrintMore
attribute [local go_sem] Oper.semAt_some
attribute [local go_sem high] eqA23
set_option linter.unusedVariables false
set_option linter.unusedSimpArgs false
def stepA (ab : List S23) (p : Nat × S27) : List S23 := ab.take p.1 ++ [p.2.f0]
def aboveL (l : List (Nat × S27)) : List S23 := l.foldl stepA []
theorem aboveL_snoc (l : List (Nat × S27)) (p : Nat × S27) : aboveL (l ++ [p]) = (aboveL l).take p.1 ++ [p.2.f0] := by simp [aboveL, stepA]
/-- Each node is one deeper than the one ahead of it, at most. -/
def Steps : Nat → List (Nat × S27) → Prop
  | _, [] => True
  | n, p :: l => p.1 ≤ n ∧ Steps (p.1 + 1) l
mutual
theorem flatD_steps : ∀ (d : Nat) (x : S27) (n : Nat) (l : List (Nat × S27)), d ≤ n → (∀ m, d + 1 ≤ m → Steps m l) → Steps n (flatD d x ++ l)
  | d, ⟨k, t, u, a, ls⟩, n, l, hd, h => by
    rw [flatD, List.cons_append, Steps]
    exact ⟨hd, flatDs_steps (d + 1) ls (d + 1) l (Nat.le_refl _) h⟩
theorem flatDs_steps : ∀ (d : Nat) (ls : List S27) (n : Nat) (l : List (Nat × S27)), d ≤ n → (∀ m, d ≤ m → Steps m l) → Steps n (flatDs d ls ++ l)
  | d, [], n, l, hd, h => by rw [flatDs, List.nil_append]; exact h n hd
  | d, x :: ls, n, l, hd, h => by
    rw [flatDs, List.append_assoc]
    exact flatD_steps d x n _ hd (fun m hm => flatDs_steps d ls m l (by omega) h)
end
theorem Steps.left : ∀ {n : Nat} {a b : List (Nat × S27)}, Steps n (a ++ b) → Steps n a
  | _, [], _, _ => trivial
  | n, p :: a, b, h => ⟨h.1, Steps.left h.2⟩
def AbInv (r : List (Nat × S27)) (ab : List S23) : Prop := ∀ d, 1 ≤ d → d ≤ ab.length → backP r d = (ab.getD (d - 1) z23, true)
theorem AbInv.step {r : List (Nat × S27)} {ab : List S23} {p : Nat × S27} (h : AbInv r ab) (hp : p.1 ≤ ab.length) : AbInv (p :: r) (stepA ab p) ∧ (stepA ab p).length = p.1 + 1 := by
  have hl : (stepA ab p).length = p.1 + 1 := by unfold stepA; rw [List.length_append, List.length_take, List.length_singleton]; omega
  refine ⟨fun d h1 h2 => ?_, hl⟩
  rw [hl] at h2
  unfold backP
  by_cases hd : p.1 + 1 = d
  · rw [if_pos hd]
    subst hd
    unfold stepA
    rw [List.getD_eq_getElem?_getD, List.getElem?_append_right (by rw [List.length_take]; omega), List.length_take, show p.1 + 1 - 1 - min p.1 ab.length = 0 from by omega]
    rfl
  · rw [if_neg hd, h d h1 (by omega)]
    unfold stepA
    rw [List.getD_eq_getElem?_getD, List.getD_eq_getElem?_getD, List.getElem?_append_left (by rw [List.length_take]; omega), List.getElem?_take_of_lt (by omega)]
theorem above_steps : ∀ (l : List (Nat × S27)) (p : Nat × S27) (ab : List S23) (r : List (Nat × S27)), Steps ab.length (l ++ [p]) → AbInv r ab → p.1 ≤ (l.foldl stepA ab).length ∧ AbInv (l.reverse ++ r) (l.foldl stepA ab)
  | [], p, ab, r, h, hi => ⟨h.1, hi⟩
  | q :: l, p, ab, r, h, hi => by
    obtain ⟨h1, h2⟩ := hi.step (p := q) h.1
    have := above_steps l p (stepA ab q) (q :: r) (by rw [h2]; exact h.2) h1
    simpa using this
theorem above_ok {x : S27} {a : List (Nat × S27)} {p : Nat × S27} (h : a ++ [p] <+: flatD 0 x) : p.1 ≤ (aboveL a).length ∧ AbInv a.reverse (aboveL a) := by
  obtain ⟨t, ht⟩ := h
  have hs := flatD_steps 0 x 0 [] (Nat.le_refl _) (fun m _ => trivial)
  rw [List.append_nil, ← ht] at hs
  have := above_steps a p [] [] hs.left (fun d h1 h2 => absurd h2 (by simp; omega))
  simpa [aboveL] using this
theorem backP_zero : ∀ r : List (Nat × S27), backP r 0 = (z23, false)
  | [] => rfl
  | p :: r => by rw [backP, if_neg (by omega)]; exact backP_zero r
/-- None of them has the key. -/
def noKey (l : List (Nat × S27)) (key : S23) : Prop := ∀ p ∈ l, sameK p.2.f0 key = false
theorem noKey_snoc {l : List (Nat × S27)} {p : Nat × S27} {key : S23} (h : noKey l key) (hp : sameK p.2.f0 key = false) : noKey (l ++ [p]) key := fun q hq => by
  rcases List.mem_append.1 hq with hq | hq
  · exact h q hq
  · obtain rfl := List.mem_singleton.1 hq; exact hp
theorem parR_skip : ∀ (a b r : List (Nat × S27)) (key : S23), noKey a key → parR r (a ++ b) key = parR (a.reverse ++ r) b key
  | [], b, r, key, _ => rfl
  | p :: a, b, r, key, h => by
    rw [List.cons_append, parR, if_neg (by rw [h p (List.mem_cons_self ..)]; simp), parR_skip a b (p :: r) key (fun q hq => h q (List.mem_cons_of_mem _ hq))]
    simp
theorem parR_none {l : List (Nat × S27)} {key : S23} (h : noKey l key) : parR [] l key = (z23, false) := by
  have := parR_skip l [] [] key h
  rw [List.append_nil] at this
  rw [this, parR]
theorem parR_found {x : S27} {a : List (Nat × S27)} {p : Nat × S27} {key : S23} (h : a ++ [p] <+: flatD 0 x) (hn : noKey a key) (hp : sameK p.2.f0 key = true) : parR [] (flatD 0 x) key = if p.1 = 0 then (z23, false) else ((aboveL a).getD (p.1 - 1) z23, true) := by
  obtain ⟨h1, h2⟩ := above_ok h
  obtain ⟨t, ht⟩ := h
  rw [← ht, List.append_assoc, parR_skip a _ [] key hn, List.singleton_append, parR, if_pos hp, List.append_nil]
  by_cases h0 : p.1 = 0
  · rw [if_pos h0, h0, backP_zero]
  · rw [if_neg h0]; exact h2 p.1 (by omega) h1
def ParI (b : Nat) (key : S23) (w U : World) (pre : List Nq) (W : World) : Prop :=
  (noKey (pre.map plq) key ∧ ∃ v, W.heap[b + 1 + 1 + 1 + 1]? = some (.cells #[v] 48 (0, 0)) ∧ k23.R 23 W U.heap.size (fun _ => True) v (aboveL (pre.map plq))) ∧ LK (fun i => i = b + 1 + 1 + 1 + 1) b w U W
theorem ParI_own {b : Nat} {key : S23} {w U : World} (h0 : b = w.heap.size) (h2 : w.heap.size ≤ U.heap.size) : OwnFrom U.heap.size (ParI b key w U) := fun s X Y row hs hg hr => by
  subst h0
  obtain ⟨⟨hn, v, hb, hR⟩, hL⟩ := hs
  exact ⟨⟨hn, v, (Own.from (cells_own (w.heap.size + 1 + 1 + 1 + 1) 48 (fun (_ : Unit) => #[v])) U.heap.size) () X Y row hb hg hr, R_of_own_grown hR hg hr⟩, LK_own (β := Unit) (Nat.le_refl _) h2 () X Y row hL hg hr⟩
/-- The result lies in the results' boxes. -/
def ParX (b : Nat) (r : S23 × Bool) (W : World) : Prop := W.heap[b + 1 + 1]? = some (.cells #[.int .i64 r.1.f0, .int .i64 r.1.f1] 23 (0, 0)) ∧ W.heap[b + 1 + 1 + 1]? = some (.cells #[.bool r.2] 4 (0, 0))
theorem ParX_own {β : Type} {b : Nat} {r : S23 × Bool} : Own (fun (_ : β) W => ParX b r W) := fun s X Y row hs hg hr =>
  ⟨cells_own (b + 1 + 1) 23 (fun (_ : Unit) => #[.int .i64 r.1.f0, .int .i64 r.1.f1]) () X Y row hs.1 hg hr, cells_own (b + 1 + 1 + 1) 4 (fun (_ : Unit) => #[.bool r.2]) () X Y row hs.2 hg hr⟩
theorem ParX_set {b : Nat} {r : S23 × Bool} {W : World} {u0 u1 : Value} {u : Value} (h2 : W.heap[b + 1 + 1]? = some (.cells #[u0, u1] 23 (0, 0))) (h3 : W.heap[b + 1 + 1 + 1]? = some (.cells #[u] 4 (0, 0))) :
    ParX b r (((W.setCell ⟨b + 1 + 1, 0, none⟩ (.int .i64 r.1.f0)).setCell ⟨b + 1 + 1, 1, none⟩ (.int .i64 r.1.f1)).setCell ⟨b + 1 + 1 + 1, 0, none⟩ (.bool r.2)) := by
  have hne : b + 1 + 1 ≠ b + 1 + 1 + 1 := by omega
  refine ⟨(Mem.set_other _ _ _ _ hne).trans (setB (setB h2 0 (.int .i64 r.1.f0)) 1 (.int .i64 r.1.f1)), Mem.set_heap ((Mem.set_other _ _ _ _ (Ne.symm hne)).trans ((Mem.set_other _ _ _ _ (Ne.symm hne)).trans h3)) 0 _⟩
theorem LK.wider {T T' : Nat → Prop} {n0 : Nat} {Wb U W : World} (h : LK T n0 Wb U W) (hT : ∀ i, T i → T' i) : LK T' n0 Wb U W := ⟨⟨h.1.size, fun i hi hn => h.1.block i hi (fun t => hn (hT i t))⟩, h.2⟩
theorem room_ab {ab : List S23} {d : Nat} (hd : d ≤ 1099511627776) : ((ab.take d).length + 1) * 16 ≤ 140737488355328 := by rw [List.length_take]; omega
def vpa.T9 : Bool × List (List Nat × List Nat) := (true, [([], []), ([], []), ([0, 1], [0, 1]), ([], []), ([3], [3]), ([4], [4]), ([2, 5], [2, 5]), ([6, 6, 0, 1, 2, 3, 4, 5, 6], [6])])
def vpa.B9 : List Nat := [0, 0, 3, 0, 8, 24, 63, 127]
theorem vpa.tab9 : rtab .any (opsOf Try.f39 9) = vpa.T9 := by kernel_rfl
theorem vpa.bits9 : waitsOk vpa.T9.2 vpa.B9 = true := by kernel_rfl
set_option maxHeartbeats 8000000 in
set_option maxRecDepth 100000 in
theorem parent_calls (w : World) (x : S27) (key : S23) (A4 : Option Addr) (c4 : Nat) (A5 : Option Addr) (c5 : Nat) (hd : szT x ≤ 1099511627776) (hfx : fitT x) (hT : TK w w.heap.size x (cs27 x A4 c4 A5 c5).toList) :
    Calls Try.prog 39 #[.agg #[.int .i64 x.f0.f0, .int .i64 x.f0.f1, .string x.f1, .string x.f2, .slice A4 x.f3.length c4, .slice A5 x.f4.length c5], .agg #[.int .i64 key.f0, .int .i64 key.f1]] w fun e w' => e = .returned (.tuple #[.agg #[.int .i64 (parR [] (flatD 0 x) key).1.f0, .int .i64 (parR [] (flatD 0 x) key).1.f1], .bool (parR [] (flatD 0 x) key).2]) ∧ Below w.heap.size w w' := by
  have HT := Aside0.mk hT
  have HFX := Aside0.mk hfx
  have HDP : Aside0 (∀ p ∈ flatD 0 x, p.1 + 1 ≤ 1099511627776) := ⟨fun p hp => by have := flatD_hi 0 x p hp; omega⟩
  clear hT hfx
  refine (callsIn_wide (n := 3)).1 ?_
  refine callsIn_of_wp_marks Try.func39 rfl trivial ?_ rfl
  simp only [Try.ntmps39, List.size_toArray, List.length_cons, List.length_nil, Nat.reduceAdd, Nat.reduceSub, Array.replicate_succ, Array.replicate_zero, List.push_toArray, List.append_toArray, List.nil_append, List.cons_append]
  gi_wp2_with (fail)
  refine ⟨trivial, ?_⟩
  refine (callsIn_wide.2 (nodes_calls _ _ _ _ _ _ _)).mono ?_
  rintro e w1 ⟨rfl, rfl⟩
  gi_wp2_with (fail)
  have hBU : Below w.heap.size w ((((((w.alloc (.cells #[.int .i64 x.f0.f0, .int .i64 x.f0.f1, .string x.f1, .string x.f2, .slice A4 x.f3.length c4, .slice A5 x.f4.length c5] 27)).alloc (.cells #[.int .i64 key.f0, .int .i64 key.f1] 23)).alloc (.cells #[.int .i64 0, .int .i64 0] 23)).alloc (.cells #[.bool false] 4)).alloc (.cells #[.slice none 0 0] 48)).alloc (.cells #[.int .i64 x.f0.f0, .int .i64 x.f0.f1, .string x.f1, .string x.f2, .slice A4 x.f3.length c4, .slice A5 x.f4.length c5] 27)) := below_alloc (below_alloc (below_alloc (below_alloc (below_alloc (below_alloc (Below.refl _ _) _) _) _) _) _) _
  have hBK : ((((((w.alloc (.cells #[.int .i64 x.f0.f0, .int .i64 x.f0.f1, .string x.f1, .string x.f2, .slice A4 x.f3.length c4, .slice A5 x.f4.length c5] 27)).alloc (.cells #[.int .i64 key.f0, .int .i64 key.f1] 23)).alloc (.cells #[.int .i64 0, .int .i64 0] 23)).alloc (.cells #[.bool false] 4)).alloc (.cells #[.slice none 0 0] 48)).alloc (.cells #[.int .i64 x.f0.f0, .int .i64 x.f0.f1, .string x.f1, .string x.f2, .slice A4 x.f3.length c4, .slice A5 x.f4.length c5] 27)).heap[w.heap.size + 1]? = some (.cells #[.int .i64 key.f0, .int .i64 key.f1] 23 (0, 0)) := Mem.alloc_old (Mem.alloc_old (Mem.alloc_old (Mem.alloc_old (Mem.alloc_new_at _ _ _ (by rw [Mem.alloc_size])) _) _) _) _
  have hBZ : ((((((w.alloc (.cells #[.int .i64 x.f0.f0, .int .i64 x.f0.f1, .string x.f1, .string x.f2, .slice A4 x.f3.length c4, .slice A5 x.f4.length c5] 27)).alloc (.cells #[.int .i64 key.f0, .int .i64 key.f1] 23)).alloc (.cells #[.int .i64 0, .int .i64 0] 23)).alloc (.cells #[.bool false] 4)).alloc (.cells #[.slice none 0 0] 48)).alloc (.cells #[.int .i64 x.f0.f0, .int .i64 x.f0.f1, .string x.f1, .string x.f2, .slice A4 x.f3.length c4, .slice A5 x.f4.length c5] 27)).heap[w.heap.size + 1 + 1]? = some (.cells #[.int .i64 0, .int .i64 0] 23 (0, 0)) := Mem.alloc_old (Mem.alloc_old (Mem.alloc_old (Mem.alloc_new_at _ _ _ (by rw [Mem.alloc_size, Mem.alloc_size])) _) _) _
  have hBB : ((((((w.alloc (.cells #[.int .i64 x.f0.f0, .int .i64 x.f0.f1, .string x.f1, .string x.f2, .slice A4 x.f3.length c4, .slice A5 x.f4.length c5] 27)).alloc (.cells #[.int .i64 key.f0, .int .i64 key.f1] 23)).alloc (.cells #[.int .i64 0, .int .i64 0] 23)).alloc (.cells #[.bool false] 4)).alloc (.cells #[.slice none 0 0] 48)).alloc (.cells #[.int .i64 x.f0.f0, .int .i64 x.f0.f1, .string x.f1, .string x.f2, .slice A4 x.f3.length c4, .slice A5 x.f4.length c5] 27)).heap[w.heap.size + 1 + 1 + 1]? = some (.cells #[.bool false] 4 (0, 0)) := Mem.alloc_old (Mem.alloc_old (Mem.alloc_new_at _ _ _ (by rw [Mem.alloc_size, Mem.alloc_size, Mem.alloc_size])) _) _
  have hBA : ((((((w.alloc (.cells #[.int .i64 x.f0.f0, .int .i64 x.f0.f1, .string x.f1, .string x.f2, .slice A4 x.f3.length c4, .slice A5 x.f4.length c5] 27)).alloc (.cells #[.int .i64 key.f0, .int .i64 key.f1] 23)).alloc (.cells #[.int .i64 0, .int .i64 0] 23)).alloc (.cells #[.bool false] 4)).alloc (.cells #[.slice none 0 0] 48)).alloc (.cells #[.int .i64 x.f0.f0, .int .i64 x.f0.f1, .string x.f1, .string x.f2, .slice A4 x.f3.length c4, .slice A5 x.f4.length c5] 27)).heap[w.heap.size + 1 + 1 + 1 + 1]? = some (.cells #[.slice none 0 0] 48 (0, 0)) := Mem.alloc_old (Mem.alloc_new_at _ _ _ (by rw [Mem.alloc_size, Mem.alloc_size, Mem.alloc_size, Mem.alloc_size])) _
  have hBX : ((((((w.alloc (.cells #[.int .i64 x.f0.f0, .int .i64 x.f0.f1, .string x.f1, .string x.f2, .slice A4 x.f3.length c4, .slice A5 x.f4.length c5] 27)).alloc (.cells #[.int .i64 key.f0, .int .i64 key.f1] 23)).alloc (.cells #[.int .i64 0, .int .i64 0] 23)).alloc (.cells #[.bool false] 4)).alloc (.cells #[.slice none 0 0] 48)).alloc (.cells #[.int .i64 x.f0.f0, .int .i64 x.f0.f1, .string x.f1, .string x.f2, .slice A4 x.f3.length c4, .slice A5 x.f4.length c5] 27)).heap[w.heap.size + 1 + 1 + 1 + 1 + 1]? = some (.cells #[.int .i64 x.f0.f0, .int .i64 x.f0.f1, .string x.f1, .string x.f2, .slice A4 x.f3.length c4, .slice A5 x.f4.length c5] 27 (0, 0)) := Mem.alloc_new_at _ _ _ (by rw [Mem.alloc_size, Mem.alloc_size, Mem.alloc_size, Mem.alloc_size, Mem.alloc_size])
  have hUS : ((((((w.alloc (.cells #[.int .i64 x.f0.f0, .int .i64 x.f0.f1, .string x.f1, .string x.f2, .slice A4 x.f3.length c4, .slice A5 x.f4.length c5] 27)).alloc (.cells #[.int .i64 key.f0, .int .i64 key.f1] 23)).alloc (.cells #[.int .i64 0, .int .i64 0] 23)).alloc (.cells #[.bool false] 4)).alloc (.cells #[.slice none 0 0] 48)).alloc (.cells #[.int .i64 x.f0.f0, .int .i64 x.f0.f1, .string x.f1, .string x.f2, .slice A4 x.f3.length c4, .slice A5 x.f4.length c5] 27)).heap.size = w.heap.size + 6 := by rw [Mem.alloc_size, Mem.alloc_size, Mem.alloc_size, Mem.alloc_size, Mem.alloc_size, Mem.alloc_size]
  generalize ((((((w.alloc (.cells #[.int .i64 x.f0.f0, .int .i64 x.f0.f1, .string x.f1, .string x.f2, .slice A4 x.f3.length c4, .slice A5 x.f4.length c5] 27)).alloc (.cells #[.int .i64 key.f0, .int .i64 key.f1] 23)).alloc (.cells #[.int .i64 0, .int .i64 0] 23)).alloc (.cells #[.bool false] 4)).alloc (.cells #[.slice none 0 0] 48)).alloc (.cells #[.int .i64 x.f0.f0, .int .i64 x.f0.f1, .string x.f1, .string x.f2, .slice A4 x.f3.length c4, .slice A5 x.f4.length c5] 27)) = U at *
  have HUS := Aside0.mk hUS
  clear hUS
  refine Link.range_told (F := Fence.wide) (n := 3) rfl (by decide) (gf := 65) (lb := #[.pointer (some ⟨w.heap.size + 1 + 1 + 1 + 1 + 1, 0, none⟩)]) rfl trivial (enters_of Try.func65 (by kernel_rfl) rfl)
    (nodes_tells (T := fun _ => False) hd HFX.out HT.out (fun i hi => hBU.block i hi) hBU.size (fun _ h => h.elim) hBX) (fun _ => Kw.trans) (fun _ W l o o' hl h1 h2 _ => Kw.put W l o o' (Nat.le_trans hBU.size hl) h1 h2) (Below.refl _ _) (fun _ => rfl)
    (ParI w.heap.size key w U)
    (fun c pre W => (c = .ret ∧ ParX w.heap.size (parR [] (flatD 0 x) key) W) ∧ LK (fun i => i = w.heap.size + 1 + 1 + 1 + 1 ∨ i = w.heap.size + 1 + 1 ∨ i = w.heap.size + 1 + 1 + 1) w.heap.size w U W)
    (ParI_own rfl hBU.size)
    (fun c => OwnFrom.and (OwnFrom.and (ownFrom_pure _ _) (Own.from ParX_own _)) (LK_own (Nat.le_refl _) hBU.size))
    ⟨⟨fun p hp => (by cases hp), _, hBA, Kd.R_nil _ _ _ _ _⟩, KeptT.refl _ _, hBU⟩
    (fun pre y a' Wr => ((pre ++ [y]).map plq <+: flatD 0 x ∧ TK w w.heap.size y.x y.cs) ∧ ∃ Bx, U.heap.size ≤ Bx ∧ Wr.heap[Bx]? = some (.cells y.cs.toArray 27 (0, 0)) ∧ a' = { tmps := #[.agg #[.int .i64 x.f0.f0, .int .i64 x.f0.f1, .string x.f1, .string x.f2, .slice A4 x.f3.length c4, .slice A5 x.f4.length c5], .agg #[.int .i64 key.f0, .int .i64 key.f1], .pointer (some ⟨w.heap.size, 0, none⟩), .pointer (some ⟨w.heap.size + 1, 0, none⟩), .pointer (some ⟨w.heap.size + 1 + 1, 0, none⟩), .pointer (some ⟨w.heap.size + 1 + 1 + 1, 0, none⟩), .pointer (some ⟨w.heap.size + 1 + 1 + 1 + 1, 0, none⟩), .int .i64 (y.d : Int), .pointer (some ⟨Bx, 0, none⟩), .agg #[.int .i64 x.f0.f0, .int .i64 x.f0.f1, .string x.f1, .string x.f2, .slice A4 x.f3.length c4, .slice A5 x.f4.length c5], .func (.func 65) #[] #[.pointer (some ⟨w.heap.size + 1 + 1 + 1 + 1 + 1, 0, none⟩)], .int .i64 (y.d : Int), .agg y.cs.toArray, undef, undef, undef, undef, undef, undef, undef, undef, undef, undef, undef, undef, undef, undef, undef, undef, undef, undef, undef, undef], defers := [] })
    (fun pre y a' _ X Y row hs hg hr => by obtain ⟨h0, Bx, h1, h2, h3⟩ := hs; exact ⟨h0, Bx, h1, cells_own Bx 27 (fun (_ : Unit) => y.cs.toArray) () X Y row h2 hg (fun r e => (hr r e).2), h3⟩)
    ?assign ?body ?done ?stop
  case assign =>
    rintro l pre ⟨yd, y, ycs⟩ W K hI ⟨yok, yhf, ypre, ylow⟩ hK
    have yok' : TK w w.heap.size y ycs := yok
    obtain ⟨B4, e4, B5, e5, rfl, _⟩ := yok'.open
    dsimp only [encQ]
    gi_wp2
    have hbl : Below W.heap.size W (W.alloc (.cells #[.int .i64 y.f0.f0, .int .i64 y.f0.f1, .string y.f1, .string y.f2, .slice B4 y.f3.length e4, .slice B5 y.f4.length e5] 27)) := below_alloc (Below.refl _ _) _
    obtain ⟨⟨hn, v, hv, hR⟩, hL⟩ := hI
    exact hK _ _ ((KeepsOthers.alloc _ _).from _) (Kw.below hbl hL.2.size) ⟨⟨hn, v, Mem.alloc_old hv _, Kd.R_below hR hbl⟩, hL.on hbl hBU.size⟩ ⟨⟨ypre, yok⟩, W.heap.size, hL.1.size, Mem.alloc_new _ _, rfl⟩
  case body =>
    rintro l pre ⟨yd, y, ycs⟩ a' W hl ⟨r, hr⟩ ⟨⟨hn, v, hv, hR⟩, hK⟩ ⟨⟨ypre, yok⟩, Bx, hBx, bX, rfl⟩
    have yok' : TK w w.heap.size y ycs := yok
    obtain ⟨B4, e4, B5, e5, rfl, _⟩ := yok'.open
    have hmap : (pre ++ [(⟨yd, y, [.int .i64 y.f0.f0, .int .i64 y.f0.f1, .string y.f1, .string y.f2, .slice B4 y.f3.length e4, .slice B5 y.f4.length e5]⟩ : Nq)]).map plq = pre.map plq ++ [(yd, y)] := by rw [List.map_append]; rfl
    have HMAP := Aside0.mk hmap
    rw [hmap] at ypre
    have HPRE := Aside0.mk ypre
    have HN := Aside0.mk hn
    have HAB := Aside0.mk (above_ok ypre)
    have HYD : Aside0 (yd + 1 ≤ 1099511627776) := ⟨HDP.out (yd, y) (ypre.subset (List.mem_append_right _ (List.mem_singleton.2 rfl)))⟩
    obtain ⟨A, c, rfl, hlc, hC⟩ := Kd.R_reads hR
    have HLC := Aside0.mk hlc
    have HC := Aside0.mk hC
    have HR := Aside0.mk hR
    have HV := Aside0.mk hv
    have HBKW := Aside0.mk (hK.1.cells hBK (by show ¬ (w.heap.size + 1 = w.heap.size + 1 + 1 + 1 + 1); omega))
    have HBZW := Aside0.mk (hK.1.cells hBZ (by show ¬ (w.heap.size + 1 + 1 = w.heap.size + 1 + 1 + 1 + 1); omega))
    have HBBW := Aside0.mk (hK.1.cells hBB (by show ¬ (w.heap.size + 1 + 1 + 1 = w.heap.size + 1 + 1 + 1 + 1); omega))
    have HK := Aside0.mk hK
    have HX := Aside0.mk bX
    have HBX := Aside0.mk hBx
    have x0 := Mem.cell_of bX 0
    have x1 := Mem.cell_of bX 1
    have k0 := Mem.cell_of HBKW.out 0
    have k1 := Mem.cell_of HBKW.out 1
    obtain ⟨n, hn_⟩ : ∃ n, (aboveL (pre.map plq)).length = n := ⟨_, rfl⟩
    have HNN := Aside0.mk hn_
    rw [hn_] at HV HR HC HLC HAB
    have b0 := Mem.cell_of HV.out 0
    have b1 := Mem.free_of HV.out 0
    clear hr hn hK bX ypre yok yok' hmap hlc hC hR hv hBx hn_
    by_cases hq : sameK y.f0 key = true
    · have g1 : (y.f0.f0 == key.f0 && (y.f0.f1 == key.f1)) = true := hq
      have HQ := Aside0.mk (parR_found HPRE.out HN.out hq)
      clear hq
      have z0 := Mem.cell_of HBZW.out 0
      have z1 := Mem.cell_of HBZW.out 1
      have y0 := Mem.free_of HBZW.out 0
      have y1 := Mem.free_of HBZW.out 1
      have c0 := Mem.cell_of HBBW.out 0
      have c1 := Mem.free_of HBBW.out 0
      by_cases h0 : yd = 0
      · have HR0 : Aside0 (parR [] (flatD 0 x) key = (z23, false)) := ⟨by rw [HQ.out, if_pos h0]⟩
        have e1 : ((yd : Int) == 0) = true := beq_iff_eq.2 (by omega)
        have e2 : ((yd : Int) = 0) = True := eq_true (by omega)
        have e3 : (yd = 0) = True := eq_true h0
        clear h0 b0 b1
        gi_wp2_with (fail)
        refine ⟨((KeepsOthers.setCell _ _ _).trans ((KeepsOthers.setCell _ _ _).trans (KeepsOthers.setCell _ _ _))).from _, ⟨rfl, ?_⟩, ?_⟩
        · rw [HR0.out]; exact ParX_set (r := (z23, false)) HBZW.out HBBW.out
        · exact (((HK.out.wider (T' := fun i => i = w.heap.size + 1 + 1 + 1 + 1 ∨ i = w.heap.size + 1 + 1 ∨ i = w.heap.size + 1 + 1 + 1) (fun i hi => .inl hi)).set _ (.inr (.inl rfl)) (by omega)).set _ (.inr (.inl rfl)) (by omega)).set _ (.inr (.inr rfl)) (by omega)
      · have hyn : yd - 1 < n := by have := HAB.out.1; omega
        obtain ⟨ad, rfl, i0, i1⟩ := at_T23 HC.out ((yd - 1 : Nat) : Int) (Int.natCast_nonneg _) (Int.ofNat_lt.2 hyn)
        rw [Int.toNat_natCast] at i0 i1
        obtain ⟨q, hq⟩ : ∃ q, rd_T23 (aboveL (pre.map plq)) ((yd - 1 : Nat) : Int) = q := ⟨_, rfl⟩
        rw [hq] at i0 i1
        have HR0 : Aside0 (parR [] (flatD 0 x) key = (q, true)) := ⟨by rw [HQ.out, if_neg h0, ← hq]; unfold rd_T23; rw [Int.toNat_natCast]⟩
        have e1 : ((yd : Int) == 0) = false := beq_eq_false_iff_ne.2 (by omega)
        have e2 : ((yd : Int) = 0) = False := eq_false (by omega)
        have e3 : (yd = 0) = False := eq_false h0
        have hwd : wrap64 ((yd : Int) - 1) = ((yd - 1 : Nat) : Int) := by rw [wrap_dn (by have := HYD.out; omega)]; omega
        have e4 : (((yd - 1 : Nat) : Int) < (n : Int)) = True := eq_true (Int.ofNat_lt.2 hyn)
        have e5 : (yd - 1 < n) = True := eq_true hyn
        have hyp : (0 : Int) ≤ ((yd - 1 : Nat) : Int) := Int.natCast_nonneg _
        have hyq : ((yd - 1 : Nat) : Int).toNat = yd - 1 := Int.toNat_natCast _
        obtain ⟨p', hp'⟩ : ∃ p', ad.add ((yd - 1) * 2) = p' := ⟨_, rfl⟩
        rw [hp'] at i0 i1
        clear h0 hyn hq
        generalize yd - 1 = yj at *
        gi_wp2_with (fail)
        refine ⟨((KeepsOthers.setCell _ _ _).trans ((KeepsOthers.setCell _ _ _).trans (KeepsOthers.setCell _ _ _))).from _, ⟨rfl, ?_⟩, ?_⟩
        · rw [HR0.out]; exact ParX_set (r := (q, true)) HBZW.out HBBW.out
        · exact (((HK.out.wider (T' := fun i => i = w.heap.size + 1 + 1 + 1 + 1 ∨ i = w.heap.size + 1 + 1 ∨ i = w.heap.size + 1 + 1 + 1) (fun i hi => .inl hi)).set _ (.inr (.inl rfl)) (by omega)).set _ (.inr (.inl rfl)) (by omega)).set _ (.inr (.inr rfl)) (by omega)
    · have g1 : (y.f0.f0 == key.f0 && (y.f0.f1 == key.f1)) = false := Bool.eq_false_iff.2 hq
      have HQ : Aside0 (sameK y.f0 key = false) := ⟨Bool.eq_false_iff.2 hq⟩
      have HR9 : Aside0 (k23.R 23 W.drew U.heap.size (fun _ => True) (.slice A yd c) ((aboveL (pre.map plq)).take yd)) := ⟨Kd.R_take (Kd.R_below HR.out (below_drew (Below.refl _ _))) (by rw [HNN.out]; exact HAB.out.1)⟩
      have HLN : Aside0 ((((aboveL (pre.map plq)).take yd).length + 1) * 16 ≤ 140737488355328) := ⟨room_ab (by have := HYD.out; omega)⟩
      have HSZ : Aside0 (U.heap.size ≤ W.drew.heap.size) := ⟨HK.out.1.size⟩
      have hS5B : W.drew.heap[Bx]? = some (.cells #[.int .i64 y.f0.f0, .int .i64 y.f0.f1, .string y.f1, .string y.f2, .slice B4 y.f3.length e4, .slice B5 y.f4.length e5] 27 (0, 0)) := HX.out
      have hyc : yd ≤ c := by have := HAB.out.1; have := HLC.out; omega
      have e4_ : ((yd : Int) ≤ (c : Int)) = True := eq_true (Int.ofNat_le.2 hyc)
      have e5_ : (yd ≤ c) = True := eq_true hyc
      have hyp : (0 : Int) ≤ (yd : Int) := Int.natCast_nonneg _
      have hyq : (yd : Int).toNat = yd := Int.toNat_natCast _
      clear hq hyc
      gi_wp2_with (fail)
      have hS5 : (fun w' => w'.cell? ⟨w.heap.size + 1 + 1 + 1 + 1, 0, none⟩ = some (.slice A n c) ∧ w'.cell? ⟨Bx, 0, none⟩ = some (.int .i64 y.f0.f0) ∧ w'.cell? ⟨Bx, 1, none⟩ = some (.int .i64 y.f0.f1) ∧ w'.heap[w.heap.size + 1 + 1 + 1 + 1]? = some (.cells #[.slice A n c] 48 (0, 0))) W.drew := ⟨b0, x0, x1, HV.out⟩
      have hS0 : (fun w' => w'.cell? ⟨w.heap.size + 1 + 1 + 1 + 1, 0, none⟩ = some (.slice A n c) ∧ w'.cell? ⟨Bx, 0, none⟩ = some (.int .i64 y.f0.f0) ∧ w'.cell? ⟨Bx, 1, none⟩ = some (.int .i64 y.f0.f1) ∧ w'.heap[w.heap.size + 1 + 1 + 1 + 1]? = some (.cells #[.slice A n c] 48 (0, 0))) W.drew := hS5
      clear b0 b1 x0 x1 k0 k1 g1
      refine Round.start (n := 8) (S := (fun w' => w'.cell? ⟨w.heap.size + 1 + 1 + 1 + 1, 0, none⟩ = some (.slice A n c) ∧ w'.cell? ⟨Bx, 0, none⟩ = some (.int .i64 y.f0.f0) ∧ w'.cell? ⟨Bx, 1, none⟩ = some (.int .i64 y.f0.f1) ∧ w'.heap[w.heap.size + 1 + 1 + 1 + 1]? = some (.cells #[.slice A n c] 48 (0, 0)))) (ds := [7]) #[false, false, false, false, false, false, false, false] (by kernel_rfl) rfl rfl (by kernel_rfl) (fun ⟨_, _, h⟩ => h) (hS0) (fun hHeld => ?_)
      refine with_tabW vpa.tab9 vpa.bits9 (fun HT_ HW_ => ?_)
      refine pure_ (i := 1) (N := (some 26)) (v := ?_) (a' := ?_) #[false, true, false, false, false, false, false, false] rfl rfl (any_of HT_.out (by kernel_rfl)) (fun _ _ _ h => h) (Or.inl ⟨by rfl, ?_⟩) ?_ ?_
      rotate_left
      · intro w'
        go_simp
        with_reducible rfl
      rotate_left
      · simp only [Act.put, List.setIfInBounds_toArray, List.set_cons_zero, List.set_cons_succ, i64_w, i32_w]
        rfl
      refine pure_ (i := 3) (N := (some 28)) (v := ?_) (a' := ?_) #[false, true, false, true, false, false, false, false] rfl rfl (any_of HT_.out (by kernel_rfl)) (fun _ _ _ h => h) (Or.inl ⟨by rfl, ?_⟩) ?_ ?_
      rotate_left
      · intro w'
        go_simp
        with_reducible rfl
      rotate_left
      · simp only [Act.put, List.setIfInBounds_toArray, List.set_cons_zero, List.set_cons_succ, i64_w, i32_w]
        rfl
      refine take_ (i := 0) (N := (some 25)) (v := ?_) (a' := ?_) #[true, true, false, true, false, false, false, false] rfl rfl (take_ofW HT_.out HW_.out (by kernel_rfl)) (fun _ _ _ h => h) (Or.inl ⟨by rfl, ?_⟩) hHeld ?_ ?_
      rotate_left
      · rintro w' ⟨s0, s1, s2, s3⟩
        go_simp
        with_reducible rfl
      rotate_left
      · simp only [Act.put, List.setIfInBounds_toArray, List.set_cons_zero, List.set_cons_succ, i64_w, i32_w]
        rfl
      refine pure_ (i := 2) (N := (some 27)) (v := ?_) (a' := ?_) #[true, true, true, true, false, false, false, false] rfl rfl (any_of HT_.out (by kernel_rfl)) (fun _ _ _ h => h) (Or.inl ⟨by rfl, ?_⟩) ?_ ?_
      rotate_left
      · intro w'
        go_simp
        with_reducible rfl
      rotate_left
      · simp only [Act.put, List.setIfInBounds_toArray, List.set_cons_zero, List.set_cons_succ, i64_w, i32_w]
        rfl
      refine take_ (i := 4) (N := (some 29)) (v := ?_) (a' := ?_) #[true, true, true, true, true, false, false, false] rfl rfl (take_ofW HT_.out HW_.out (by kernel_rfl)) (fun _ _ _ h => h) (Or.inl ⟨by rfl, ?_⟩) hHeld ?_ ?_
      rotate_left
      · rintro w' ⟨s0, s1, s2, s3⟩
        go_simp
        with_reducible rfl
      rotate_left
      · simp only [Act.put, List.setIfInBounds_toArray, List.set_cons_zero, List.set_cons_succ, i64_w, i32_w]
        rfl
      refine one_ (i := 5) (N := (some 30)) #[true, true, true, true, true, true, false, false] rfl rfl (one_of HT_.out (by kernel_rfl)) (by decide) (fun K hK => ?_)
      refine value_ (w1 := ?_) (v := ?_) (by rfl) rfl ?_ ?_
      rotate_left 2
      · go_simp
        constructor
        · rfl
        · rfl
      refine hK.out _ _ (⟨Mem.cell_alloc hHeld.1 _, Mem.cell_alloc hHeld.2.1 _, Mem.cell_alloc hHeld.2.2.1 _, Mem.alloc_old hHeld.2.2.2 _⟩) (fun hHeld => ?_)
      clear hK K
      refine norm_ (a' := ?_) ?_ ?_
      rotate_left
      · show Act.put _ (some 30) _ = _
        simp only [Act.put, List.setIfInBounds_toArray, List.set_cons_zero, List.set_cons_succ, i64_w, i32_w]
        rfl
      refine one_ (i := 6) (N := (some 31)) #[true, true, true, true, true, true, true, false] rfl rfl (one_of HT_.out (by kernel_rfl)) (by decide) (fun K hK => ?_)
      refine Kd.R_append_step k23 (w0 := W.drew) U.heap.size (by rfl) (.tmp 27) (.tmp 30) 48 23 (.agg #[(.int .i64 0), (.int .i64 0)]) 16 rfl Try.underlying48 info23 rfl (by decide) (by omega) (.slice A yd c) ((aboveL (pre.map plq)).take yd) y.f0 [.int .i64 y.f0.f0, .int .i64 y.f0.f1] (fun _ => True) (fun _ => False) rfl rfl ?hp (fun _ hk => hk.elim) (fun _ _ => trivial) ?hO (Below.refl _ _) ?hb ?hl ?_
      case hp => exact k23_mkM _ _ _ y.f0
      case hO => exact HR9.out
      case hb => exact HSZ.out
      case hl => exact HLN.out
      intro v6 w6 ho6 hb6 hg6 hat6
      have HO6 := Aside0.mk ho6
      have HG6 := Aside0.mk hg6
      have hne6 : some (w.heap.size + 1 + 1 + 1 + 1) ≠ (Value.slice A yd c).ownBlock := Kd.R_ne HR9.out hS5.2.2.2 (by decide)
      have hb46 := (hg6.block _ (blk_lt hS5.2.2.2) hne6).trans hS5.2.2.2
      obtain ⟨A6, c6, rfl⟩ := Kd.R_slice ho6
      have H46 := Aside0.mk hb46
      have hbx6 : w6.heap[Bx]? = some (.cells #[.int .i64 y.f0.f0, .int .i64 y.f0.f1, .string y.f1, .string y.f2, .slice B4 y.f3.length e4, .slice B5 y.f4.length e5] 27 (0, 0)) := (hg6.block _ (blk_lt hS5B) (Kd.R_ne HR9.out hS5B (by decide))).trans hS5B
      have HX6 : Aside0 (w6.cell? ⟨Bx, 0, none⟩ = some (.int .i64 y.f0.f0) ∧ w6.cell? ⟨Bx, 1, none⟩ = some (.int .i64 y.f0.f1)) := ⟨⟨Mem.cell_of hbx6 0, Mem.cell_of hbx6 1⟩⟩
      clear hbx6
      have cz := Mem.cell_of hb46 0
      have fz := Mem.free_of hb46 0
      refine hK.out _ _ (⟨cz, HX6.out.1, HX6.out.2, hb46⟩) (fun hHeld => ?_)
      clear hK K
      refine norm_ (a' := ?_) ?_ ?_
      rotate_left
      · show Act.put _ (some 31) _ = _
        simp only [Act.put, List.setIfInBounds_toArray, List.set_cons_zero, List.set_cons_succ, i64_w, i32_w]
        rfl
      refine last_ (i := 7) (N := none) #[true, true, true, true, true, true, true, true] rfl rfl (one_of HT_.out (by kernel_rfl)) (by decide) (fun K hK => ?_)
      refine skip_ (w1 := w6.setCell ⟨w.heap.size + 1 + 1 + 1 + 1, 0, none⟩ (.slice A6 ((aboveL (pre.map plq)).take yd ++ [y.f0]).length c6)) (by rfl) rfl ?_ ?_
      · go_simp
      refine hK.out _ _ ?_
      clear hK K
      refine done_ (done_of HT_.out (by kernel_rfl)) ?_
      have hty := Kd.R_typed HR9.out
      have hba := Kd.R_base HR9.out
      have hwd := HK.out.on (below_drew (Below.refl _ _)) hBU.size
      refine ⟨((KeepsOthers.drew W).trans ((KeepsOthers.of_grownBy HG6.out (fun j o e ho => by obtain ⟨c_, hc_⟩ := hty j e; rw [hc_] at ho; cases ho; rfl)).trans (KeepsOthers.setCell _ _ _))).from _,
        (Kw.below (below_drew (Below.refl _ _)) HK.out.2.size).trans ((Kw.grown HG6.out (fun k e => ⟨Nat.le_trans hBU.size (hba k e), fun c_ fr_ hc_ => by obtain ⟨c2_, h2_⟩ := hty k e; rw [h2_] at hc_; cases hc_⟩) hwd.2.size).trans (Kw.box H46.out (by decide) _ (by omega))),
        ⟨by rw [HMAP.out]; exact noKey_snoc HN.out HQ.out, _, Mem.set_heap H46.out 0 _, ?_⟩, (hwd.grown HG6.out hba hBU.size).set _ rfl (by omega)⟩
      rw [HMAP.out, aboveL_snoc]
      exact Kd.R_set HO6.out H46.out (by decide) 0 _
  case done =>
    rintro D ys W hD hys ⟨⟨hn, v, hv, hR⟩, hK⟩ hKD
    have HG : Aside0 (parR [] (flatD 0 x) key = (z23, false)) := ⟨by rw [← hys]; exact parR_none hn⟩
    have HBZW := Aside0.mk (hK.1.cells hBZ (by show ¬ (w.heap.size + 1 + 1 = w.heap.size + 1 + 1 + 1 + 1); omega))
    have HBBW := Aside0.mk (hK.1.cells hBB (by show ¬ (w.heap.size + 1 + 1 + 1 = w.heap.size + 1 + 1 + 1 + 1); omega))
    have HK := Aside0.mk hK
    have HKD := Aside0.mk hKD
    clear hn hys hK hKD hv hR
    have z0 := Mem.cell_of HBZW.out 0
    have z1 := Mem.cell_of HBZW.out 1
    have y0 := Mem.free_of HBZW.out 0
    have y1 := Mem.free_of HBZW.out 1
    have c0 := Mem.cell_of HBBW.out 0
    have c1 := Mem.free_of HBBW.out 0
    gi_wp2_with (fail)
    have hus := HUS.out
    have hpx := ParX_set (r := (z23, false)) HBZW.out HBBW.out
    have hkx := (((HK.out.wider (T' := fun i => i = w.heap.size + 1 + 1 + 1 + 1 ∨ i = w.heap.size + 1 + 1 ∨ i = w.heap.size + 1 + 1 + 1) (fun i hi => .inl hi)).set (o := 0) (.int .i64 0) (.inr (.inl rfl)) (by omega)).set (o := 1) (.int .i64 0) (.inr (.inl rfl)) (by omega)).set (o := 0) (.bool false) (.inr (.inr rfl)) (by omega)
    have he1 := (Mem.set_other _ ⟨w.heap.size + 1 + 1 + 1, 0, none⟩ (.bool false) D (by show D ≠ w.heap.size + 1 + 1 + 1; omega)).trans ((Mem.set_other _ ⟨w.heap.size + 1 + 1, 1, none⟩ (.int .i64 0) D (by show D ≠ w.heap.size + 1 + 1; omega)).trans ((Mem.set_other W ⟨w.heap.size + 1 + 1, 0, none⟩ (.int .i64 0) D (by show D ≠ w.heap.size + 1 + 1; omega)).trans HKD.out))
    have he4 : ((((W.setCell ⟨w.heap.size + 1 + 1, 0, none⟩ (.int .i64 0)).setCell ⟨w.heap.size + 1 + 1, 1, none⟩ (.int .i64 0)).setCell ⟨w.heap.size + 1 + 1 + 1, 0, none⟩ (.bool false)).putObj D (.deferred none)).heap[w.heap.size + 1 + 1]? = some (.cells #[.int .i64 0, .int .i64 0] 23 (0, 0)) := (World.putObj_heap_other (by omega)).trans hpx.1
    have he5 : ((((W.setCell ⟨w.heap.size + 1 + 1, 0, none⟩ (.int .i64 0)).setCell ⟨w.heap.size + 1 + 1, 1, none⟩ (.int .i64 0)).setCell ⟨w.heap.size + 1 + 1 + 1, 0, none⟩ (.bool false)).putObj D (.deferred none)).heap[w.heap.size + 1 + 1 + 1]? = some (.cells #[.bool false] 4 (0, 0)) := (World.putObj_heap_other (by omega)).trans hpx.2
    refine ⟨by simp, .inl ⟨_, _, rfl, run_takeDeferred he1, ?_⟩⟩
    refine ⟨_, results_row_bool rfl _ _ (w.heap.size + 1 + 1) (w.heap.size + 1 + 1 + 1) 23 _ (0, 0) _ false rfl he4 Try.underlying23 rfl (by kernel_rfl) rfl (Mem.cell_of he5 0) Try.underlying4, ?_⟩
    rw [HG.out]
    refine ⟨rfl, Below.trans hkx.2 ?_⟩
    exact belowK_b (w := U) hBU.size _ D _ _ hD he1 rfl rfl
  case stop =>
    rintro D c pre W hD hsp ⟨⟨rfl, hpx⟩, hK⟩ hKD
    refine wpIn_wide.2 ?_
    go_wp2_with (fail)
    have hus := HUS.out
    have he4 : (W.putObj D (.deferred none)).heap[w.heap.size + 1 + 1]? = _ := (World.putObj_heap_other (by omega)).trans hpx.1
    have he5 : (W.putObj D (.deferred none)).heap[w.heap.size + 1 + 1 + 1]? = some (.cells #[.bool (parR [] (flatD 0 x) key).2] 4 (0, 0)) := (World.putObj_heap_other (by omega)).trans hpx.2
    refine ⟨by simp, .inl ⟨_, _, rfl, run_takeDeferred hKD, ?_⟩⟩
    refine ⟨_, results_row_bool rfl _ _ (w.heap.size + 1 + 1) (w.heap.size + 1 + 1 + 1) 23 _ (0, 0) _ _ rfl he4 Try.underlying23 rfl (by kernel_rfl) rfl (Mem.cell_of he5 0) Try.underlying4, ?_⟩
    exact ⟨rfl, hK.2.trans (belowK_b (w := U) hBU.size W D _ _ hD hKD rfl rfl)⟩
end Go.Proofs.Ytnkbgimihikhoaa.PVt
namespace Go.Proofs.Ytnkbgimihikhoaa.PVt
open Go.RowKit Go.Proofs.YtnkbgimihikhoaaW.PrintWords Go.Proofs.YtnkbgimihikhoaaW.PrintLast Go.Proofs.YtnkbgimihikhoaaW.PrintMore
attribute [local go_sem] max2_int min2_int max_two min_two max_three min_three max_four min_four   -- for this text's walks alone
set_option linter.unusedVariables false
set_option linter.unusedSimpArgs false
attribute [local go_sem high] eqA23
def topiaryref01_Same.l0 : Nat → List (S23) → List (S23) → Int → Option (Bool)
  | 0, _, _, _ => none
  | k + 1, x0, x1, x5 => if x5 < (x0.length : Int) then (if 0 ≤ x5 then (if x5 < (x1.length : Int) then (if (!(((rd_T23 x0 x5).f0) == ((rd_T23 x1 x5).f0)) || (!(((rd_T23 x0 x5).f1) == ((rd_T23 x1 x5).f1)))) = true then (some false) else (topiaryref01_Same.l0 k x0 x1 (wrap64 (x5 + 1)))) else (none)) else (none)) else (some true)
def topiaryref01_Same.f (k : Nat) (l0 : List (S23)) (l1 : List (S23)) : Option (Bool) := if (l0.length : Int) = (l1.length : Int) then (topiaryref01_Same.l0 k l0 l1 0) else (some false)
theorem topiaryref01_Same.mono_l : ∀ k, (∀ y0 y1 y2, LeO (topiaryref01_Same.l0 k y0 y1 y2) (topiaryref01_Same.l0 (k + 1) y0 y1 y2))
  | 0 => fun _ _ _ r h => by simp [topiaryref01_Same.l0] at h
  | k + 1 => by
    have ih0 := topiaryref01_Same.mono_l k
    · intro y0 y1 y2
      unfold topiaryref01_Same.l0
      repeat' first
      | (with_reducible exact ih0 _ _ _)
      | (with_reducible exact LeO.refl _)
      | (with_reducible exact LeO.none _)
      | (with_reducible refine LeO.ite ?_ ?_)
      | (with_reducible refine LeO.bind ?_ (fun _ => ?_))
      | exact ih0 _ _ _
      | exact LeO.none _
      | refine LeO.ite ?_ ?_
      | refine LeO.bind ?_ (fun _ => ?_)
theorem topiaryref01_Same.mono : ∀ a0 a1 k, LeO (topiaryref01_Same.f k a0 a1) (topiaryref01_Same.f (k + 1) a0 a1) := by
  intro a0 a1 k
  have ih0 := topiaryref01_Same.mono_l k
  unfold topiaryref01_Same.f
  repeat' first
      | (with_reducible exact ih0 _ _ _)
      | (with_reducible exact LeO.refl _)
      | (with_reducible exact LeO.none _)
      | (with_reducible refine LeO.ite ?_ ?_)
      | (with_reducible refine LeO.bind ?_ (fun _ => ?_))
      | exact ih0 _ _ _
      | exact LeO.none _
      | refine LeO.ite ?_ ?_
      | refine LeO.bind ?_ (fun _ => ?_)
theorem rd23 (l : List S23) (i : Nat) : rd_T23 l (i : Int) = l.getD i z23 := by unfold rd_T23; rw [Int.toNat_natCast]
end Go.Proofs.Ytnkbgimihikhoaa.PVt
namespace Go.Proofs.Ytnkbgimihikhoaa.PVt
open Go.RowKit Go.Proofs.YtnkbgimihikhoaaW.PrintWords Go.Proofs.YtnkbgimihikhoaaW.PrintLast Go.Proofs.YtnkbgimihikhoaaW.PrintMore
set_option linter.unusedVariables false
set_option linter.unusedSimpArgs false
set_option maxHeartbeats 4000000 in
set_option maxRecDepth 100000 in
theorem many_calls (n0 : Nat) (w : World) (x : S27) (A4 : Option Addr) (c4 : Nat) (A5 : Option Addr) (c5 : Nat) (hx : TK w n0 x (cs27 x A4 c4 A5 c5).toList) (hn : n0 ≤ w.heap.size) (hr : Room 0 (szT x)) :
    Calls Try.prog 27 #[.agg (cs27 x A4 c4 A5 c5)] w fun e w' => e = .returned (.bool (decide (1500 < szT x))) ∧ Below w.heap.size w w' := by
  have hB := below_alloc (Below.refl w.heap.size w) (.cells (cs27 x A4 c4 A5 c5) 27)
  have HB := Aside0.mk hB
  have HX := Aside0.mk (hx.low (fun i hi => hB.block i (Nat.lt_of_lt_of_le hi hn)))
  have HN : Aside0 (n0 ≤ (w.alloc (.cells (cs27 x A4 c4 A5 c5) 27)).heap.size) := ⟨by rw [Mem.alloc_size]; omega⟩
  have HR := Aside0.mk hr
  clear hx hn hr hB
  go_enter Try.func27, Try.ntmps27
  go_wp2_with (fail)
  refine (flatten_calls n0 _ x _ _ _ _ HX.out HN.out HR.out).mono ?_
  rintro e w2 ⟨v, rfl, hv, hb2⟩
  obtain ⟨A, c, rfl⟩ := Kd.N_slice hv
  have HB2 := Aside0.mk (HB.out.trans (hb2.mono HB.out.size))
  have HL := Aside0.mk (flatL_length x)
  dsimp only
  clear hv hb2 HB HX HN
  generalize flatL x = L at *
  have HD : Aside0 (decide ((1500 : Int) < (L.length : Int)) = decide (1500 < szT x)) := ⟨by rw [← HL.out]; exact decide_eq_decide.2 (by omega)⟩
  go_wp2
  go_ret
  exact ⟨by rw [← HD.out]; rfl, HB2.out⟩
end Go.Proofs.Ytnkbgimihikhoaa.PVt
namespace Go.Proofs.Ytnkbgimihikhoaa.PVt
open Go.RowKit Go.Proofs.YtnkbgimihikhoaaW.PrintWords Go.Proofs.YtnkbgimihikhoaaW.PrintLast Go.Proofs.YtnkbgimihikhoaaW.PrintMore
set_option linter.unusedVariables false
set_option linter.unusedSimpArgs false
theorem keysL_flat (x : S27) : keysL (flatL x) = keysP (flatD 0 x) := by rw [← flatL_map 0 x]; unfold keysL keysP; rw [List.map_map]; rfl
theorem made_stays {w w' : World} {lo : Nat} {x : S27} {A4 : Option Addr} {c4 : Nat} {A5 : Option Addr} {c5 : Nat} (h : k27.M w lo (fun _ => True) x (cs27 x A4 c4 A5 c5).toList) (hk : ∀ k, lo ≤ k → k < w.heap.size → w'.heap[k]? = w.heap[k]?) : RK w' x A4 c4 A5 c5 :=
  RK.of (k27.K_of_M (k27.M_move (fun k hk' => hk k hk'.2.1 hk'.2.2.1) (k27.M_bound h)))
def vas.B4 : List Nat := [0, 1, 0, 7, 15, 31, 63, 127, 255, 127, 1023, 2047, 4095, 8191, 16383, 32767, 16383, 131071, 262143, 524287, 1048575]
end Go.Proofs.Ytnkbgimihikhoaa.PVt
namespace Go.Proofs.Ytnkbgimihikhoaa.PVt
open Go.RowKit Go.Proofs.YtnkbgimihikhoaaW.PrintWords Go.Proofs.YtnkbgimihikhoaaW.PrintLast Go.Proofs.YtnkbgimihikhoaaW.PrintMore
set_option linter.unusedVariables false
/-- No key stands twice. -/
def Uniq : List (Nat × S27) → Prop
  | [] => True
  | p :: l => noKey l p.2.f0 ∧ Uniq l
theorem sameK_symm (a b : S23) : sameK a b = sameK b a := by
  cases h : sameK b a with
  | true => exact sameK_iff.2 (sameK_iff.1 h).symm
  | false =>
    cases h2 : sameK a b with
    | false => rfl
    | true => rw [sameK_iff.2 (sameK_iff.1 h2).symm] at h; cases h
theorem goC_new : ∀ (l : List (Nat × S27)) (ks : List S23), goC ks l = 0 → ∀ p ∈ l, ks.any (sameK p.2.f0) = false
  | [], _, _, p, hp => by cases hp
  | q :: l, ks, h, p, hp => by
    unfold goC at h
    by_cases h1 : badK q = true
    · rw [if_pos h1] at h; cases h
    · rw [if_neg h1] at h
      by_cases h2 : (ks.any (sameK q.2.f0)) = true
      · rw [if_pos h2] at h; cases h
      · rw [if_neg h2] at h
        by_cases h3 : nodeP q.2 = 0
        · rw [if_pos h3] at h
          rcases List.mem_cons.1 hp with rfl | hp
          · exact Bool.eq_false_iff.2 h2
          · have := goC_new l _ h p hp
            rw [List.any_append, Bool.or_eq_false_iff] at this
            exact this.1
        · rw [if_neg h3] at h; exact absurd h h3
theorem goC_uniq : ∀ (l : List (Nat × S27)) (ks : List S23), goC ks l = 0 → Uniq l
  | [], _, _ => trivial
  | q :: l, ks, h => by
    unfold goC at h
    by_cases h1 : badK q = true
    · rw [if_pos h1] at h; cases h
    · rw [if_neg h1] at h
      by_cases h2 : (ks.any (sameK q.2.f0)) = true
      · rw [if_pos h2] at h; cases h
      · rw [if_neg h2] at h
        by_cases h3 : nodeP q.2 = 0
        · rw [if_pos h3] at h
          refine ⟨fun p hp => ?_, goC_uniq l _ h⟩
          have := goC_new l _ h p hp
          rw [List.any_append, Bool.or_eq_false_iff] at this
          have h4 := this.2
          rw [List.any_cons, List.any_nil, Bool.or_false] at h4
          exact h4
        · rw [if_neg h3] at h; exact absurd h h3
theorem Uniq.split : ∀ {a : List (Nat × S27)} {p : Nat × S27} {b : List (Nat × S27)}, Uniq (a ++ p :: b) → noKey a p.2.f0
  | [], p, b, _ => fun q hq => by cases hq
  | q :: a, p, b, h => fun r hr => by
    rcases List.mem_cons.1 hr with rfl | hr
    · rw [sameK_symm]
      exact h.1 p (List.mem_append_right _ (List.mem_cons_self ..))
    · exact Uniq.split h.2 r hr
theorem findL_skip : ∀ (a : List (Nat × S27)) (b : List S27) (key : S23), noKey a key → findL (a.map (·.2) ++ b) key = findL b key
  | [], b, key, _ => rfl
  | q :: a, b, key, h => by
    rw [List.map_cons, List.cons_append, findL, if_neg (by rw [h q (List.mem_cons_self ..)]; simp)]
    exact findL_skip a b key (fun r hr => h r (List.mem_cons_of_mem _ hr))
/-- A right tree finds each of its nodes. -/
theorem find_at {x : S27} (h : Uniq (flatD 0 x)) {i : Nat} (hi : i < (flatL x).length) : findL (flatL x) ((flatL x).getD i z27).f0 = ((flatL x).getD i z27, true) := by
  have hi' : i < (flatD 0 x).length := by rw [flatD_length, ← flatL_length]; exact hi
  have e := flatL_get x hi'
  rw [e]
  obtain ⟨p, hp⟩ : ∃ p, (flatD 0 x).getD i (0, z27) = p := ⟨_, rfl⟩
  have hs : flatD 0 x = (flatD 0 x).take i ++ p :: (flatD 0 x).drop (i + 1) := by
    rw [← hp, ← drop_one _ hi', List.take_append_drop]
  rw [hp, ← findD_flat, hs]
  unfold findD
  rw [List.map_append, findL_skip _ _ _ (Uniq.split (hs ▸ h)), List.map_cons, findL, if_pos (sameK_self _)]
theorem keys_at (x : S27) {i : Nat} (hi : i < (flatL x).length) : (keysP (flatD 0 x)).getD i z23 = ((flatL x).getD i z27).f0 := by
  rw [← keysL_flat]
  unfold keysL
  rw [List.getD_eq_getElem?_getD, List.getD_eq_getElem?_getD, List.getElem?_map, List.getElem?_eq_getElem hi]
  rfl
mutual
/-- Where a node stands in the tree's order, all beneath it follows. -/
theorem flat_at : ∀ (d : Nat) (x : S27) (i : Nat), i < (flatD d x).length → ∃ b, flatD d x = (flatD d x).take i ++ (flatD ((flatD d x).getD i (0, z27)).1 ((flatD d x).getD i (0, z27)).2 ++ b)
  | d, ⟨k, t, u, a, l⟩, 0, _ => ⟨[], by rw [flatD]; simp [flatD]⟩
  | d, ⟨k, t, u, a, l⟩, i + 1, h => by
    rw [flatD] at h ⊢
    obtain ⟨b, hb⟩ := flats_at (d + 1) l i (by simpa using h)
    refine ⟨b, ?_⟩
    rw [List.take_succ_cons, List.cons_append]
    exact congrArg (List.cons _) hb
theorem flats_at : ∀ (d : Nat) (l : List S27) (i : Nat), i < (flatDs d l).length → ∃ b, flatDs d l = (flatDs d l).take i ++ (flatD ((flatDs d l).getD i (0, z27)).1 ((flatDs d l).getD i (0, z27)).2 ++ b)
  | d, [], i, h => by rw [flatDs] at h; simp at h
  | d, x :: l, i, h => by
    rw [flatDs] at h ⊢
    by_cases hi : i < (flatD d x).length
    · obtain ⟨b, hb⟩ := flat_at d x i hi
      refine ⟨b ++ flatDs d l, ?_⟩
      rw [List.take_append_of_le_length (Nat.le_of_lt hi), List.getD_eq_getElem?_getD, List.getElem?_append_left hi, ← List.getD_eq_getElem?_getD, ← List.append_assoc (flatD _ _), ← List.append_assoc, ← hb]
    · have hj : i - (flatD d x).length < (flatDs d l).length := by rw [List.length_append] at h; omega
      obtain ⟨b, hb⟩ := flats_at d l _ hj
      refine ⟨b, ?_⟩
      rw [List.take_append, List.take_of_length_le (by omega), List.getD_eq_getElem?_getD, List.getElem?_append_right (by omega), ← List.getD_eq_getElem?_getD, List.append_assoc]
      exact congrArg _ hb
end
theorem backP_deep : ∀ (r s : List (Nat × S27)) (d : Nat), (∀ p ∈ r, d ≤ p.1) → backP (r ++ s) d = backP s d
  | [], s, d, _ => rfl
  | p :: r, s, d, h => by
    rw [List.cons_append, backP, if_neg (by have := h p (List.mem_cons_self ..); omega)]
    exact backP_deep r s d (fun q hq => h q (List.mem_cons_of_mem _ hq))
/-- A right tree finds the node above each of its nodes. -/
theorem parent_at {x : S27} (h : Uniq (flatD 0 x)) {i k : Nat} (hi : i < (flatL x).length) (hk : k < ((flatL x).getD i z27).f4.length) :
    parR [] (flatD 0 x) (((flatL x).getD i z27).f4.getD k z27).f0 = (((flatL x).getD i z27).f0, true) := by
  have hi' : i < (flatD 0 x).length := by rw [flatD_length, ← flatL_length]; exact hi
  have e := flatL_get x hi'
  rw [e] at hk ⊢
  obtain ⟨b, hb⟩ := flat_at 0 x i hi'
  obtain ⟨⟨d, y⟩, hp⟩ : ∃ p, (flatD 0 x).getD i (0, z27) = p := ⟨_, rfl⟩
  rw [hp] at hb hk ⊢
  simp only at hb hk ⊢
  obtain ⟨z, hz⟩ : ∃ z, y.f4.getD k z27 = z := ⟨_, rfl⟩
  have h2 := flatDs_snoc (d + 1) y.f4 hk
  obtain ⟨c, hc⟩ := flatDs_prefix (d + 1) y.f4 (k + 1)
  rw [h2, hz] at hc
  obtain ⟨a, ha⟩ : ∃ a, (flatD 0 x).take i = a := ⟨_, rfl⟩
  rw [ha] at hb
  have hs : flatD 0 x = (a ++ (d, y) :: flatDs (d + 1) (y.f4.take k)) ++ (d + 1, z) :: (flatDs (d + 1 + 1) z.f4 ++ (c ++ b)) := by
    rw [hb, flatD_eq d y, ← hc, flatD_eq (d + 1) z]
    simp
  have hn := Uniq.split (hs ▸ h)
  rw [hz, hs, parR_skip _ _ [] _ hn, parR, if_pos (sameK_self _), List.append_nil, List.reverse_append, List.reverse_cons, List.append_assoc]
  rw [backP_deep _ _ _ (fun p hp => flatDs_deep (d + 1) _ p (List.mem_reverse.1 hp))]
  rw [List.singleton_append, backP, if_pos rfl]
theorem parent_top (x : S27) : parR [] (flatD 0 x) x.f0 = (z23, false) := by
  rw [flatD_eq, parR, if_pos (sameK_self _), backP]
theorem check_uniq {x : S27} (h : checkP x = 0) : Uniq (flatD 0 x) := by
  unfold checkP at h
  split at h
  · cases h
  · exact goC_uniq _ _ h
end Go.Proofs.Ytnkbgimihikhoaa.PVt
namespace Go.Proofs.Ytnkbgimihikhoaa.PVt
open Go.RowKit Go.Proofs.YtnkbgimihikhoaaW.PrintWords Go.Proofs.YtnkbgimihikhoaaW.PrintLast Go.Proofs.YtnkbgimihikhoaaW.PrintMore
attribute [local go_sem high] eqA23
set_option linter.unusedVariables false
set_option linter.unusedSimpArgs false
def vf10.T10 : Bool × List (List Nat × List Nat) := (true, [([], []), ([], []), ([], []), ([1, 2], [1, 2]), ([3], [3]), ([0, 4], [0, 4]), ([5], [5]), ([6], [6]), ([6], [6]), ([], []), ([9, 7, 5, 0, 1, 2, 3, 4, 5, 6, 7, 9], [7, 9]), ([8, 10, 0, 1, 2, 3, 4, 5, 6, 7, 8, 9, 10], [8])])
def vf10.B10 : List Nat := [0, 0, 0, 6, 14, 31, 63, 127, 127, 0, 767, 2047]
theorem vf10.tab10 : rtab .any (opsOf Try.f10 10) = vf10.T10 := by kernel_rfl
theorem vf10.bits10 : waitsOk vf10.T10.2 vf10.B10 = true := by kernel_rfl
def vf11.T11 : Bool × List (List Nat × List Nat) := (true, [([], []), ([0], [0]), ([1], [1]), ([2], [2]), ([2], [2]), ([2], [2]), ([4, 5, 2], [2, 4, 5]), ([6, 2], [2, 6]), ([3, 7, 2, 2], [2, 3, 7]), ([8, 2], [2, 8]), ([2, 9], [2, 9])])
def vf11.B11 : List Nat := [0, 1, 3, 7, 7, 7, 55, 119, 255, 511, 1023]
theorem vf11.tab11 : rtab .any (opsOf Try.f10 11) = vf11.T11 := by kernel_rfl
theorem vf11.bits11 : waitsOk vf11.T11.2 vf11.B11 = true := by kernel_rfl
def vf16.T16 : Bool × List (List Nat × List Nat) := (true, [([], []), ([], []), ([1], [1]), ([], []), ([2, 3], [2, 3]), ([4], [4]), ([5], [5]), ([0, 6], [0, 6]), ([7], [7]), ([8], [8]), ([8], [8]), ([], []), ([11, 9, 7, 0, 1, 2, 3, 4, 5, 6, 7, 8, 9, 11], [9, 11]), ([10, 12, 0, 1, 2, 3, 4, 5, 6, 7, 8, 9, 10, 11, 12], [10])])
def vf16.B16 : List Nat := [0, 0, 2, 0, 14, 30, 62, 127, 255, 511, 511, 0, 3071, 8191]
theorem vf16.tab16 : rtab .any (opsOf Try.f10 16) = vf16.T16 := by kernel_rfl
theorem vf16.bits16 : waitsOk vf16.T16.2 vf16.B16 = true := by kernel_rfl
theorem keysP_length (x : S27) : (keysP (flatD 0 x)).length = szT x := by unfold keysP; rw [List.length_map, flatD_length]
theorem b2_set {b g : Nat} {W : World} (hg : b ≤ g) (v0 v1 : Value) : Below b W ((W.setCell ⟨g, 0, none⟩ v0).setCell ⟨g, 1, none⟩ v1) := (low_set hg _).trans (low_set hg _)
set_option maxHeartbeats 16000000 in
set_option maxRecDepth 100000 in
theorem finds_calls (w : World) (x : S27) (A4 : Option Addr) (c4 : Nat) (A5 : Option Addr) (c5 : Nat) (hx : RK w x A4 c4 A5 c5) (hf : fitT x) (hs : szT x ≤ 1048576) :
    Calls Try.prog 10 #[.agg #[.int .i64 x.f0.f0, .int .i64 x.f0.f1, .string x.f1, .string x.f2, .slice A4 x.f3.length c4, .slice A5 x.f4.length c5]] w fun e w' => e = .returned (.bool true) ∧ Below w.heap.size w w' := by
  have hB := below_alloc (Below.refl w.heap.size w) (.cells #[.int .i64 x.f0.f0, .int .i64 x.f0.f1, .string x.f1, .string x.f2, .slice A4 x.f3.length c4, .slice A5 x.f4.length c5] 27)
  have HRX0 := Aside0.mk (hx.below hB)
  have HX0 : Aside0 ((w.alloc (.cells #[.int .i64 x.f0.f0, .int .i64 x.f0.f1, .string x.f1, .string x.f2, .slice A4 x.f3.length c4, .slice A5 x.f4.length c5] 27)).heap[w.heap.size]? = some (.cells #[.int .i64 x.f0.f0, .int .i64 x.f0.f1, .string x.f1, .string x.f2, .slice A4 x.f3.length c4, .slice A5 x.f4.length c5] 27 (0, 0))) := ⟨Mem.alloc_new _ _⟩
  have HB0 := Aside0.mk hB
  have HF := Aside0.mk hf
  have HSZ : Aside0 (szT x ≤ 1099511627776) := ⟨by omega⟩
  have HRM : Aside0 (Room 0 (szT x)) := ⟨by unfold Room; omega⟩
  clear hx hB hf hs
  go_enter Try.func10, Try.ntmps10
  go_wp2_with (fail)
  generalize (w.alloc (.cells #[.int .i64 x.f0.f0, .int .i64 x.f0.f1, .string x.f1, .string x.f2, .slice A4 x.f3.length c4, .slice A5 x.f4.length c5] 27)) = U0 at *
  refine (many_calls _ _ x _ _ _ _ (TK.of HRX0.out.K) (Nat.le_refl _) HRM.out).mono ?_
  rintro e w1 ⟨rfl, hb1⟩
  have HB1 := Aside0.mk (HB0.out.trans (hb1.mono HB0.out.size))
  have HRX1 := Aside0.mk (HRX0.out.below hb1)
  have HX1 := Aside0.mk ((hb1.block _ (blk_lt HX0.out)).trans HX0.out)
  clear hb1
  cases hm : decide (1500 < szT x) with
  | true =>
    go_wp2_with (fail)
    refine (awake_calls _).mono ?_
    rintro e w2 ⟨rfl, hbz⟩
    dsimp only
    have HBZ := Aside0.mk hbz
    clear hbz
    go_wp2_with (fail)
    go_ret
    exact ⟨rfl, HB1.out.trans (HBZ.out.mono HB1.out.size)⟩
  | false =>
    clear hm
    have a0 := Mem.cell_of HX1.out 0
    have a1 := Mem.cell_of HX1.out 1
    have a2 := Mem.cell_of HX1.out 2
    have a3 := Mem.cell_of HX1.out 3
    have a4 := Mem.cell_of HX1.out 4
    have a5 := Mem.cell_of HX1.out 5
    go_wp2_with (fail)
    refine (rcheck_calls _ _ x _ _ _ _ (TK.of HRX1.out.K) (Nat.le_refl _) HRM.out HF.out).mono ?_
    rintro e w2 ⟨rfl, hb2⟩
    dsimp only
    have HB2 := Aside0.mk (HB1.out.trans (hb2.mono HB1.out.size))
    have HRX2 := Aside0.mk (HRX1.out.below hb2)
    have HX2 := Aside0.mk ((hb2.block _ (blk_lt HX1.out)).trans HX1.out)
    clear hb2
    clear a0 a1 a2 a3 a4 a5
    by_cases hc : checkP x = 0
    case neg =>
      have e1 : (checkP x != 0) = true := bne_iff_ne.2 hc
      have e2 : (checkP x == 0) = false := beq_eq_false_iff_ne.2 hc
      have e3 : (checkP x = 0) = False := eq_false hc
      clear hc
      go_wp2_with (fail)
      refine (awake_calls _).mono ?_
      rintro e w3 ⟨rfl, hbz⟩
      dsimp only
      have HBZ := Aside0.mk hbz
      clear hbz
      go_wp2_with (fail)
      go_ret
      exact ⟨rfl, HB2.out.trans (HBZ.out.mono HB2.out.size)⟩
    have HUQ := Aside0.mk (check_uniq hc)
    rw [hc]
    clear hc
    have a0 := Mem.cell_of HX2.out 0
    have a1 := Mem.cell_of HX2.out 1
    have a2 := Mem.cell_of HX2.out 2
    have a3 := Mem.cell_of HX2.out 3
    have a4 := Mem.cell_of HX2.out 4
    have a5 := Mem.cell_of HX2.out 5
    go_wp2_with (fail)
    refine (flatten_calls _ _ x _ _ _ _ (TK.of HRX2.out.K) (Nat.le_refl _) HRM.out).mono ?_
    rintro e w3 ⟨vl, rfl, hvl, hb3⟩
    obtain ⟨Al, cl_, rfl⟩ := Kd.N_slice hvl
    have HCL3 := Aside0.mk (Kd.N_reads' hvl).2.2
    dsimp only
    have HB3 := Aside0.mk (HB2.out.trans (hb3.mono HB2.out.size))
    have HRX3 := Aside0.mk (HRX2.out.below hb3)
    have HX3 := Aside0.mk ((hb3.block _ (blk_lt HX2.out)).trans HX2.out)
    clear hvl hb3
    clear a0 a1 a2 a3 a4 a5
    have a0 := Mem.cell_of HX3.out 0
    have a1 := Mem.cell_of HX3.out 1
    have a2 := Mem.cell_of HX3.out 2
    have a3 := Mem.cell_of HX3.out 3
    have a4 := Mem.cell_of HX3.out 4
    have a5 := Mem.cell_of HX3.out 5
    go_wp2_with (fail)
    refine (keys_calls _ x _ _ _ _ HSZ.out (TK.of HRX3.out.K)).mono ?_
    rintro e w4 ⟨vk, rfl, hvk, hb4⟩
    obtain ⟨Ak, ck, rfl, hlk, hck⟩ := Kd.R_reads hvk
    have HCK := Aside0.mk hck
    have HCL := Aside0.mk (Kd.C_below HCL3.out hb4)
    dsimp only
    have HB4 := Aside0.mk (HB3.out.trans (hb4.mono HB3.out.size))
    have HRX := Aside0.mk (HRX3.out.below hb4)
    have HX := Aside0.mk ((hb4.block _ (blk_lt HX3.out)).trans HX3.out)
    clear hvk hlk hck hb4 HB0 HB1 HB2 HB3 HRX0 HRX1 HRX2 HRX3 HX0 HX1 HX2 HX3 HCL3
    clear a0 a1 a2 a3 a4 a5
    obtain ⟨L, hL⟩ : ∃ L, flatL x = L := ⟨_, rfl⟩
    obtain ⟨K, hK⟩ : ∃ K, keysP (flatD 0 x) = K := ⟨_, rfl⟩
    have hLn : L.length = szT x := by rw [← hL, flatL_length]
    have hKn : K.length = szT x := by rw [← hK, keysP_length]
    have HFI : Aside0 (∀ i, i < szT x → findL (flatL x) (L.getD i z27).f0 = (L.getD i z27, true)) := ⟨fun i hi => by rw [← hL]; exact find_at HUQ.out (by rw [flatL_length]; exact hi)⟩
    have HKI : Aside0 (∀ i, i < szT x → K.getD i z23 = (L.getD i z27).f0) := ⟨fun i hi => by rw [← hL, ← hK]; exact keys_at x (by rw [flatL_length]; exact hi)⟩
    have HPI : Aside0 (∀ i k, i < szT x → k < (L.getD i z27).f4.length → parR [] (flatD 0 x) ((L.getD i z27).f4.getD k z27).f0 = ((L.getD i z27).f0, true)) := ⟨fun i k hi hk => by rw [← hL] at hk ⊢; exact parent_at HUQ.out (by rw [flatL_length]; exact hi) hk⟩
    have HFT : Aside0 (∀ i, i < szT x → fitT (L.getD i z27)) := ⟨fun i hi => by rw [← hL, List.getD_eq_getElem?_getD, List.getElem?_eq_getElem (by rw [flatL_length]; exact hi)]; exact fit_flat x HF.out _ (List.getElem_mem _)⟩
    rw [hL] at HCL
    rw [hK] at HCK
    simp only [hL, hK]
    rw [hLn] at HCL
    rw [hKn] at HCK
    simp only [hLn, hKn]
    clear hL hK
    obtain ⟨n, hn⟩ : ∃ n, szT x = n := ⟨_, rfl⟩
    have HNN := Aside0.mk hn
    rw [hn] at HFI HKI HPI HFT HCL HCK hLn hKn
    simp only [hn]
    have HLN := Aside0.mk hLn
    have HKN := Aside0.mk hKn
    have HNM : Aside0 (n ≤ 1099511627776) := ⟨by rw [← hn]; exact HSZ.out⟩
    clear hn hLn hKn
    by_cases h200 : 200 < n
    case pos =>
      have e1 : ((200 : Int) < (n : Int)) = True := eq_true (by omega)
      have e2 : (200 < n) = True := eq_true h200
      clear h200
      go_wp2_with (fail)
      refine (awake_calls _).mono ?_
      rintro e w5 ⟨rfl, hbz⟩
      dsimp only
      have HBZ := Aside0.mk hbz
      clear hbz
      go_wp2_with (fail)
      go_ret
      exact ⟨rfl, HB4.out.trans (HBZ.out.mono HB4.out.size)⟩
    have e1 : ((200 : Int) < (n : Int)) = False := eq_false (by omega)
    have e2 : (200 < n) = False := eq_false h200
    clear h200
    go_wp2_with (fail)
    clear e1 e2
    go_loopw [5] (fun i wr => ∃ k : Nat, i = .int .i64 (k : Int) ∧ Aside0 (k ≤ n) ∧ Aside0 (Below w4.heap.size w4 wr)) (fun i _ => n - (intOf i).toNat)
    case atStart => exact ⟨0, rfl, ⟨Nat.zero_le _⟩, ⟨Below.refl _ _⟩⟩
    case round =>
      obtain ⟨k, rfl, HK, HBW⟩ := hrel
      have HXR := Aside0.mk ((HBW.out.block _ (blk_lt HX.out)).trans HX.out)
      have HRXR := Aside0.mk (HRX.out.below HBW.out)
      by_cases hlt : k < n
      case neg =>
        have e6 : ((k : Int) < (n : Int)) = False := eq_false (by omega)
        have e7 : (k < n) = False := eq_false hlt
        clear hlt
        have HTP := Aside0.mk (parent_top x)
        have a0 := Mem.cell_of HXR.out 0
        have a1 := Mem.cell_of HXR.out 1
        have a2 := Mem.cell_of HXR.out 2
        have a3 := Mem.cell_of HXR.out 3
        have a4 := Mem.cell_of HXR.out 4
        have a5 := Mem.cell_of HXR.out 5
        go_wp2_with (fail)
        refine (parent_calls _ x x.f0 _ _ _ _ HSZ.out HF.out (TK.of HRXR.out.K)).mono ?_
        rw [HTP.out]
        rintro e w5 ⟨rfl, hb5⟩
        dsimp only
        have HBC := Aside0.mk hb5
        clear hb5
        clear a0 a1 a2 a3 a4 a5
        go_wp2_with (fail)
        refine (awake_calls _).mono ?_
        rintro e w6 ⟨rfl, hbz⟩
        dsimp only
        have HBZ := Aside0.mk hbz
        clear hbz
        go_wp2_with (fail)
        go_ret
        have hbx := HBC.out.trans ((below_alloc (Below.refl w5.heap.size w5) (.cells #[.int .i64 0, .int .i64 0] 23)).mono HBC.out.size)
        have hbx2 := hbx.trans (HBZ.out.mono hbx.size)
        exact ⟨rfl, (HB4.out.trans (HBW.out.mono HB4.out.size)).trans (hbx2.mono (HB4.out.trans (HBW.out.mono HB4.out.size)).size)⟩
      have HW := Aside0.mk (wrap_in (k := k) (n := n) hlt (by have := HNM.out; omega))
      have HLT := Aside0.mk hlt
      obtain ⟨adl, E4, j4, E5, j5, rfl, hlc, hlr⟩ := kid_read (Kd.C_below HCL.out HBW.out) k hlt
      obtain ⟨adk, rfl, i0, i1⟩ := at_T23 (Kd.C_below HCK.out HBW.out) (k : Int) (Int.natCast_nonneg _) (Int.ofNat_lt.2 hlt)
      rw [Int.toNat_natCast] at i0 i1
      rw [rd23, HKI.out k hlt] at i0 i1
      have HFY := Aside0.mk (HFI.out k hlt)
      have HPY := Aside0.mk (fun q => HPI.out k q hlt)
      have HTY := Aside0.mk (HFT.out k hlt)
      obtain ⟨y, hy⟩ : ∃ y, L.getD k z27 = y := ⟨_, rfl⟩
      rw [hy] at hlc hlr i0 i1 HFY HPY HTY
      obtain ⟨pl_, hp⟩ : ∃ p, adl.add (k * 6) = p := ⟨_, rfl⟩
      rw [hp] at hlc
      obtain ⟨pk, hpk⟩ : ∃ p, adk.add (k * 2) = p := ⟨_, rfl⟩
      rw [hpk] at i0 i1
      have HLC := Aside0.mk hlc
      have HLR := Aside0.mk hlr
      have HKC := Aside0.mk (And.intro i0 i1)
      have e6 : ((k : Int) < (n : Int)) = True := eq_true (Int.ofNat_lt.2 hlt)
      have e7 : (k < n) = True := eq_true hlt
      have hkn : (k : Int).toNat = k := Int.toNat_natCast k
      have hkp : (0 : Int) ≤ (k : Int) := Int.natCast_nonneg k
      clear hlt hy hlc hlr
      have a0 := Mem.cell_of HXR.out 0
      have a1 := Mem.cell_of HXR.out 1
      have a2 := Mem.cell_of HXR.out 2
      have a3 := Mem.cell_of HXR.out 3
      have a4 := Mem.cell_of HXR.out 4
      have a5 := Mem.cell_of HXR.out 5
      go_upto_region 10 with (fail)
      have hS0 : (wr.drew.cell? ⟨w.heap.size, 0, none⟩ = some (.int .i64 x.f0.f0) ∧ wr.drew.cell? ⟨w.heap.size, 1, none⟩ = some (.int .i64 x.f0.f1) ∧ wr.drew.cell? ⟨w.heap.size, 2, none⟩ = some (.string x.f1) ∧ wr.drew.cell? ⟨w.heap.size, 3, none⟩ = some (.string x.f2) ∧ wr.drew.cell? ⟨w.heap.size, 4, none⟩ = some (.slice A4 x.f3.length c4) ∧ wr.drew.cell? ⟨w.heap.size, 5, none⟩ = some (.slice A5 x.f4.length c5)) ∧ (wr.drew.cell? pk = some (.int .i64 y.f0.f0) ∧ wr.drew.cell? ⟨pk.block, pk.off + 1, none⟩ = some (.int .i64 y.f0.f1)) := ⟨⟨a0, a1, a2, a3, a4, a5⟩, i0, i1⟩
      clear a0 a1 a2 a3 a4 a5
      clear i0 i1
      go_cut [6, 7] from 109 (fun s6 s7 wc => ∃ bn C4 g4 C5 g5, s6 = .pointer (some ⟨bn, 0, none⟩) ∧ s7 = .bool true ∧ Aside0 (wc.heap[bn]? = some (.cells #[.int .i64 y.f0.f0, .int .i64 y.f0.f1, .string y.f1, .string y.f2, .slice C4 y.f3.length g4, .slice C5 y.f4.length g5] 27 (0, 0))) ∧ Aside0 (RK wc y C4 g4 C5 g5) ∧ Aside0 (Below wr.heap.size wr wc))
      case first =>
        refine start_ (n := 12) (S := (fun w' => (w'.cell? ⟨w.heap.size, 0, none⟩ = some (.int .i64 x.f0.f0) ∧ w'.cell? ⟨w.heap.size, 1, none⟩ = some (.int .i64 x.f0.f1) ∧ w'.cell? ⟨w.heap.size, 2, none⟩ = some (.string x.f1) ∧ w'.cell? ⟨w.heap.size, 3, none⟩ = some (.string x.f2) ∧ w'.cell? ⟨w.heap.size, 4, none⟩ = some (.slice A4 x.f3.length c4) ∧ w'.cell? ⟨w.heap.size, 5, none⟩ = some (.slice A5 x.f4.length c5)) ∧ (w'.cell? pk = some (.int .i64 y.f0.f0) ∧ w'.cell? ⟨pk.block, pk.off + 1, none⟩ = some (.int .i64 y.f0.f1)))) (ds := [10]) #[false, false, false, false, false, false, false, false, false, false, false, false] (by kernel_rfl) rfl rfl (hS0) (fun hHeld => ?_)
        refine with_tabW vf10.tab10 vf10.bits10 (fun HT_ HW_ => ?_)
        refine pure_ (i := 1) (N := (some 51)) (v := ?_) (a' := ?_) #[false, true, false, false, false, false, false, false, false, false, false, false] rfl rfl (any_of HT_.out (by kernel_rfl)) (fun _ _ _ h => h) (Or.inl ⟨by rfl, ?_⟩) ?_ ?_
        rotate_left
        · intro w'
          go_simp
          with_reducible rfl
        rotate_left
        · simp only [Act.put, List.setIfInBounds_toArray, List.set_cons_zero, List.set_cons_succ, i64_w, i32_w]
          rfl
        refine pure_ (i := 2) (N := (some 52)) (v := ?_) (a' := ?_) #[false, true, true, false, false, false, false, false, false, false, false, false] rfl rfl (any_of HT_.out (by kernel_rfl)) (fun _ _ _ h => h) (Or.inl ⟨by rfl, ?_⟩) ?_ ?_
        rotate_left
        · intro w'
          go_simp
          with_reducible rfl
        rotate_left
        · simp only [Act.put, List.setIfInBounds_toArray, List.set_cons_zero, List.set_cons_succ, i64_w, i32_w]
          rfl
        refine pure_ (i := 3) (N := (some 53)) (v := ?_) (a' := ?_) #[false, true, true, true, false, false, false, false, false, false, false, false] rfl rfl (any_of HT_.out (by kernel_rfl)) (fun _ _ _ h => h) (Or.inl ⟨by rfl, ?_⟩) ?_ ?_
        rotate_left
        · intro w'
          go_simp
          with_reducible rfl
        rotate_left
        · simp only [Act.put, List.setIfInBounds_toArray, List.set_cons_zero, List.set_cons_succ, i64_w, i32_w]
          rfl
        refine take_ (i := 0) (N := (some 50)) (v := ?_) (a' := ?_) #[true, true, true, true, false, false, false, false, false, false, false, false] rfl rfl (take_ofW HT_.out HW_.out (by kernel_rfl)) (fun _ _ _ h => h) (Or.inl ⟨by rfl, ?_⟩) hHeld ?_ ?_
        rotate_left
        · rintro w' ⟨⟨s0, s1, s2, s3, s4, s5⟩, u0, u1⟩
          go_simp
          with_reducible rfl
        rotate_left
        · simp only [Act.put, List.setIfInBounds_toArray, List.set_cons_zero, List.set_cons_succ, i64_w, i32_w]
          rfl
        refine take_ (i := 4) (N := (some 54)) (v := ?_) (a' := ?_) #[true, true, true, true, true, false, false, false, false, false, false, false] rfl rfl (take_ofW HT_.out HW_.out (by kernel_rfl)) (fun _ _ _ h => h) (Or.inl ⟨by rfl, ?_⟩) hHeld ?_ ?_
        rotate_left
        · rintro w' ⟨⟨s0, s1, s2, s3, s4, s5⟩, u0, u1⟩
          go_simp
          with_reducible rfl
        rotate_left
        · simp only [Act.put, List.setIfInBounds_toArray, List.set_cons_zero, List.set_cons_succ, i64_w, i32_w]
          rfl
        refine two_ (i := 5) (j := 9) (Ni := (some 55)) (Nj := (some 6)) #[true, true, true, true, true, true, false, false, false, false, false, false] #[true, true, true, true, true, false, false, false, false, true, false, false] rfl rfl rfl rfl (two_of HT_.out (by kernel_rfl)) (by decide) (by decide) (fun K hK => ?_) (fun K hK => ?_)
        · refine goes_ Try.func37 (by kernel_rfl) rfl #[.agg #[.int .i64 x.f0.f0, .int .i64 x.f0.f1, .string x.f1, .string x.f2, .slice A4 x.f3.length c4, .slice A5 x.f4.length c5], .agg #[.int .i64 y.f0.f0, .int .i64 y.f0.f1]] (by rfl) rfl rfl (by (try simp only [List.map_toArray, List.map_cons, List.map_nil]); first | done | rfl) ?_
          refine (find_calls wr.drew x y.f0 A4 c4 A5 c5 HSZ.out HF.out (TK.of ((HRXR.out.below (below_drew (Below.refl _ _))).K))).mono ?_
          rw [HFY.out]
          rintro e w5 ⟨C4, g4, C5, g5, rfl, hM5, hb5⟩
          refine ⟨_, rfl, ?_⟩
          have HB5 := Aside0.mk hb5
          have HM5 := Aside0.mk hM5
          clear hM5
          have hSn : (w5.cell? ⟨w.heap.size, 0, none⟩ = some (.int .i64 x.f0.f0) ∧ w5.cell? ⟨w.heap.size, 1, none⟩ = some (.int .i64 x.f0.f1) ∧ w5.cell? ⟨w.heap.size, 2, none⟩ = some (.string x.f1) ∧ w5.cell? ⟨w.heap.size, 3, none⟩ = some (.string x.f2) ∧ w5.cell? ⟨w.heap.size, 4, none⟩ = some (.slice A4 x.f3.length c4) ∧ w5.cell? ⟨w.heap.size, 5, none⟩ = some (.slice A5 x.f4.length c5)) ∧ (w5.cell? pk = some (.int .i64 y.f0.f0) ∧ w5.cell? ⟨pk.block, pk.off + 1, none⟩ = some (.int .i64 y.f0.f1)) := ⟨⟨(hb5.cell (World.block_lt_of_cell? _ _ hHeld.1.1)).trans hHeld.1.1, (hb5.cell (World.block_lt_of_cell? _ _ hHeld.1.2.1)).trans hHeld.1.2.1, (hb5.cell (World.block_lt_of_cell? _ _ hHeld.1.2.2.1)).trans hHeld.1.2.2.1, (hb5.cell (World.block_lt_of_cell? _ _ hHeld.1.2.2.2.1)).trans hHeld.1.2.2.2.1, (hb5.cell (World.block_lt_of_cell? _ _ hHeld.1.2.2.2.2.1)).trans hHeld.1.2.2.2.2.1, (hb5.cell (World.block_lt_of_cell? _ _ hHeld.1.2.2.2.2.2)).trans hHeld.1.2.2.2.2.2⟩, ⟨(hb5.cell (World.block_lt_of_cell? _ _ hHeld.2.1)).trans hHeld.2.1, (hb5.cell (World.block_lt_of_cell? _ _ hHeld.2.2)).trans hHeld.2.2⟩⟩
          refine hK.out _ _ (hSn) (fun hHeld => ?_)
          clear hK K
          refine norm_ (a' := ?_) ?_ ?_
          rotate_left
          · show Act.put _ (some 55) _ = _
            simp only [Act.put, List.setIfInBounds_toArray, List.set_cons_zero, List.set_cons_succ, i64_w, i32_w]
            rfl
          refine pure_ (i := 6) (N := (some 49)) (v := ?_) (a' := ?_) #[true, true, true, true, true, true, true, false, false, false, false, false] rfl rfl (any_of HT_.out (by kernel_rfl)) (fun _ _ _ h => h) (Or.inl ⟨by rfl, ?_⟩) ?_ ?_
          rotate_left
          · intro w'
            go_simp
            with_reducible rfl
          rotate_left
          · simp only [Act.put, List.setIfInBounds_toArray, List.set_cons_zero, List.set_cons_succ, i64_w, i32_w]
            rfl
          refine pure_ (i := 7) (N := (some 56)) (v := ?_) (a' := ?_) #[true, true, true, true, true, true, true, true, false, false, false, false] rfl rfl (any_of HT_.out (by kernel_rfl)) (fun _ _ _ h => h) (Or.inl ⟨by rfl, ?_⟩) ?_ ?_
          rotate_left
          · intro w'
            go_simp
            with_reducible rfl
          rotate_left
          · simp only [Act.put, List.setIfInBounds_toArray, List.set_cons_zero, List.set_cons_succ, i64_w, i32_w]
            rfl
          refine pure_ (i := 8) (N := (some 57)) (v := ?_) (a' := ?_) #[true, true, true, true, true, true, true, true, true, false, false, false] rfl rfl (any_of HT_.out (by kernel_rfl)) (fun _ _ _ h => h) (Or.inl ⟨by rfl, ?_⟩) ?_ ?_
          rotate_left
          · intro w'
            go_simp
            with_reducible rfl
          rotate_left
          · simp only [Act.put, List.setIfInBounds_toArray, List.set_cons_zero, List.set_cons_succ, i64_w, i32_w]
            rfl
          refine one_ (i := 9) (N := (some 6)) #[true, true, true, true, true, true, true, true, true, true, false, false] rfl rfl (one_of HT_.out (by kernel_rfl)) (by decide) (fun K hK => ?_)
          refine value_ (w1 := ?_) (v := ?_) (by rfl) rfl ?_ ?_
          rotate_left 2
          · go_simp
            constructor
            · rfl
            · rfl
          refine hK.out _ _ (⟨⟨Mem.cell_alloc hHeld.1.1 _, Mem.cell_alloc hHeld.1.2.1 _, Mem.cell_alloc hHeld.1.2.2.1 _, Mem.cell_alloc hHeld.1.2.2.2.1 _, Mem.cell_alloc hHeld.1.2.2.2.2.1 _, Mem.cell_alloc hHeld.1.2.2.2.2.2 _⟩, ⟨Mem.cell_alloc hHeld.2.1 _, Mem.cell_alloc hHeld.2.2 _⟩⟩) (fun hHeld => ?_)
          clear hK K
          refine norm_ (a' := ?_) ?_ ?_
          rotate_left
          · show Act.put _ (some 6) _ = _
            simp only [Act.put, List.setIfInBounds_toArray, List.set_cons_zero, List.set_cons_succ, i64_w, i32_w]
            rfl
          refine last_ (i := 10) (N := none) #[true, true, true, true, true, true, true, true, true, true, true, false] rfl rfl (one_of HT_.out (by kernel_rfl)) (by decide) (fun K hK => ?_)
          have hzb : (w5.alloc (.cells #[.int .i64 0, .int .i64 0, .string ⟨#[]⟩, .string ⟨#[]⟩, .slice none 0 0, .slice none 0 0] 27)).heap[w5.heap.size]? = some (.cells #[.int .i64 0, .int .i64 0, .string ⟨#[]⟩, .string ⟨#[]⟩, .slice none 0 0, .slice none 0 0] 27 (0, 0)) := Mem.alloc_new _ _
          have zc0 := Mem.cell_of hzb 0
          have zf0 := Mem.free_of hzb 0
          have zc1 := Mem.cell_of hzb 1
          have zf1 := Mem.free_of hzb 1
          have zc2 := Mem.cell_of hzb 2
          have zf2 := Mem.free_of hzb 2
          have zc3 := Mem.cell_of hzb 3
          have zf3 := Mem.free_of hzb 3
          have zc4 := Mem.cell_of hzb 4
          have zf4 := Mem.free_of hzb 4
          have zc5 := Mem.cell_of hzb 5
          have zf5 := Mem.free_of hzb 5
          have HZB := Aside0.mk hzb
          clear hzb
          refine skip_ (w1 := (w5.alloc (.cells #[.int .i64 y.f0.f0, .int .i64 y.f0.f1, .string y.f1, .string y.f2, .slice C4 y.f3.length g4, .slice C5 y.f4.length g5] 27))) (by rfl) rfl ?_ ?_
          · go_simp
          refine hK.out _ _ ?_
          clear hK K
          refine pure_ (i := 11) (N := (some 7)) (v := ?_) (a' := ?_) #[true, true, true, true, true, true, true, true, true, true, true, true] rfl rfl (any_of HT_.out (by kernel_rfl)) (fun _ _ _ h => h) (Or.inl ⟨by rfl, ?_⟩) ?_ ?_
          rotate_left
          · intro w'
            go_simp
            with_reducible rfl
          rotate_left
          · simp only [Act.put, List.setIfInBounds_toArray, List.set_cons_zero, List.set_cons_succ, i64_w, i32_w]
            rfl
          refine done_ (done_of HT_.out (by kernel_rfl)) ?_
          go_wp2_with (fail)
          go_meet
          case rel =>
            refine ⟨w5.heap.size, C4, g4, C5, g5, rfl, rfl, ⟨Mem.alloc_new _ _⟩, ⟨made_stays HM5.out (fun q hq1 hq2 => (below_alloc (Below.refl w5.heap.size w5) _).block q hq2)⟩, ⟨(pw_below_drewN (Below.refl wr.heap.size wr) 1).trans (below_alloc HB5.out _)⟩⟩
        · refine value_ (w1 := ?_) (v := ?_) (by rfl) rfl ?_ ?_
          rotate_left 2
          · go_simp
            constructor
            · rfl
            · rfl
          refine hK.out _ _ (⟨⟨Mem.cell_alloc hHeld.1.1 _, Mem.cell_alloc hHeld.1.2.1 _, Mem.cell_alloc hHeld.1.2.2.1 _, Mem.cell_alloc hHeld.1.2.2.2.1 _, Mem.cell_alloc hHeld.1.2.2.2.2.1 _, Mem.cell_alloc hHeld.1.2.2.2.2.2 _⟩, ⟨Mem.cell_alloc hHeld.2.1 _, Mem.cell_alloc hHeld.2.2 _⟩⟩) (fun hHeld => ?_)
          clear hK K
          refine norm_ (a' := ?_) ?_ ?_
          rotate_left
          · show Act.put _ (some 6) _ = _
            simp only [Act.put, List.setIfInBounds_toArray, List.set_cons_zero, List.set_cons_succ, i64_w, i32_w]
            rfl
          refine one_ (i := 5) (N := (some 55)) #[true, true, true, true, true, true, false, false, false, true, false, false] rfl rfl (one_of HT_.out (by kernel_rfl)) (by decide) (fun K hK => ?_)
          refine goes_ Try.func37 (by kernel_rfl) rfl #[.agg #[.int .i64 x.f0.f0, .int .i64 x.f0.f1, .string x.f1, .string x.f2, .slice A4 x.f3.length c4, .slice A5 x.f4.length c5], .agg #[.int .i64 y.f0.f0, .int .i64 y.f0.f1]] (by rfl) rfl rfl (by (try simp only [List.map_toArray, List.map_cons, List.map_nil]); first | done | rfl) ?_
          refine (find_calls (wr.drew.alloc (.cells #[.int .i64 0, .int .i64 0, .string ⟨#[]⟩, .string ⟨#[]⟩, .slice none 0 0, .slice none 0 0] 27)) x y.f0 A4 c4 A5 c5 HSZ.out HF.out (TK.of ((HRXR.out.below (below_alloc (below_drew (Below.refl _ _)) _)).K))).mono ?_
          rw [HFY.out]
          rintro e w5 ⟨C4, g4, C5, g5, rfl, hM5, hb5⟩
          refine ⟨_, rfl, ?_⟩
          have HB5 := Aside0.mk hb5
          have HM5 := Aside0.mk hM5
          clear hM5
          have hSn : (w5.cell? ⟨w.heap.size, 0, none⟩ = some (.int .i64 x.f0.f0) ∧ w5.cell? ⟨w.heap.size, 1, none⟩ = some (.int .i64 x.f0.f1) ∧ w5.cell? ⟨w.heap.size, 2, none⟩ = some (.string x.f1) ∧ w5.cell? ⟨w.heap.size, 3, none⟩ = some (.string x.f2) ∧ w5.cell? ⟨w.heap.size, 4, none⟩ = some (.slice A4 x.f3.length c4) ∧ w5.cell? ⟨w.heap.size, 5, none⟩ = some (.slice A5 x.f4.length c5)) ∧ (w5.cell? pk = some (.int .i64 y.f0.f0) ∧ w5.cell? ⟨pk.block, pk.off + 1, none⟩ = some (.int .i64 y.f0.f1)) := ⟨⟨(hb5.cell (World.block_lt_of_cell? _ _ hHeld.1.1)).trans hHeld.1.1, (hb5.cell (World.block_lt_of_cell? _ _ hHeld.1.2.1)).trans hHeld.1.2.1, (hb5.cell (World.block_lt_of_cell? _ _ hHeld.1.2.2.1)).trans hHeld.1.2.2.1, (hb5.cell (World.block_lt_of_cell? _ _ hHeld.1.2.2.2.1)).trans hHeld.1.2.2.2.1, (hb5.cell (World.block_lt_of_cell? _ _ hHeld.1.2.2.2.2.1)).trans hHeld.1.2.2.2.2.1, (hb5.cell (World.block_lt_of_cell? _ _ hHeld.1.2.2.2.2.2)).trans hHeld.1.2.2.2.2.2⟩, ⟨(hb5.cell (World.block_lt_of_cell? _ _ hHeld.2.1)).trans hHeld.2.1, (hb5.cell (World.block_lt_of_cell? _ _ hHeld.2.2)).trans hHeld.2.2⟩⟩
          refine hK.out _ _ (hSn) (fun hHeld => ?_)
          clear hK K
          refine norm_ (a' := ?_) ?_ ?_
          rotate_left
          · show Act.put _ (some 55) _ = _
            simp only [Act.put, List.setIfInBounds_toArray, List.set_cons_zero, List.set_cons_succ, i64_w, i32_w]
            rfl
          refine pure_ (i := 6) (N := (some 49)) (v := ?_) (a' := ?_) #[true, true, true, true, true, true, true, false, false, true, false, false] rfl rfl (any_of HT_.out (by kernel_rfl)) (fun _ _ _ h => h) (Or.inl ⟨by rfl, ?_⟩) ?_ ?_
          rotate_left
          · intro w'
            go_simp
            with_reducible rfl
          rotate_left
          · simp only [Act.put, List.setIfInBounds_toArray, List.set_cons_zero, List.set_cons_succ, i64_w, i32_w]
            rfl
          refine pure_ (i := 7) (N := (some 56)) (v := ?_) (a' := ?_) #[true, true, true, true, true, true, true, true, false, true, false, false] rfl rfl (any_of HT_.out (by kernel_rfl)) (fun _ _ _ h => h) (Or.inl ⟨by rfl, ?_⟩) ?_ ?_
          rotate_left
          · intro w'
            go_simp
            with_reducible rfl
          rotate_left
          · simp only [Act.put, List.setIfInBounds_toArray, List.set_cons_zero, List.set_cons_succ, i64_w, i32_w]
            rfl
          refine pure_ (i := 8) (N := (some 57)) (v := ?_) (a' := ?_) #[true, true, true, true, true, true, true, true, true, true, false, false] rfl rfl (any_of HT_.out (by kernel_rfl)) (fun _ _ _ h => h) (Or.inl ⟨by rfl, ?_⟩) ?_ ?_
          rotate_left
          · intro w'
            go_simp
            with_reducible rfl
          rotate_left
          · simp only [Act.put, List.setIfInBounds_toArray, List.set_cons_zero, List.set_cons_succ, i64_w, i32_w]
            rfl
          refine last_ (i := 10) (N := none) #[true, true, true, true, true, true, true, true, true, true, true, false] rfl rfl (one_of HT_.out (by kernel_rfl)) (by decide) (fun K hK => ?_)
          have hzb : w5.heap[wr.heap.size]? = some (.cells #[.int .i64 0, .int .i64 0, .string ⟨#[]⟩, .string ⟨#[]⟩, .slice none 0 0, .slice none 0 0] 27 (0, 0)) := (HB5.out.block _ (by rw [Mem.alloc_size]; exact Nat.lt_succ_self _)).trans (Mem.alloc_new _ _)
          have zc0 := Mem.cell_of hzb 0
          have zf0 := Mem.free_of hzb 0
          have zc1 := Mem.cell_of hzb 1
          have zf1 := Mem.free_of hzb 1
          have zc2 := Mem.cell_of hzb 2
          have zf2 := Mem.free_of hzb 2
          have zc3 := Mem.cell_of hzb 3
          have zf3 := Mem.free_of hzb 3
          have zc4 := Mem.cell_of hzb 4
          have zf4 := Mem.free_of hzb 4
          have zc5 := Mem.cell_of hzb 5
          have zf5 := Mem.free_of hzb 5
          have HZB := Aside0.mk hzb
          clear hzb
          refine skip_ (w1 := ((((((w5.setCell ⟨wr.heap.size, 0, none⟩ (.int .i64 y.f0.f0)).setCell ⟨wr.heap.size, 1, none⟩ (.int .i64 y.f0.f1)).setCell ⟨wr.heap.size, 2, none⟩ (.string y.f1)).setCell ⟨wr.heap.size, 3, none⟩ (.string y.f2)).setCell ⟨wr.heap.size, 4, none⟩ (.slice C4 y.f3.length g4)).setCell ⟨wr.heap.size, 5, none⟩ (.slice C5 y.f4.length g5))) (by rfl) rfl ?_ ?_
          · go_simp
          refine hK.out _ _ ?_
          clear hK K
          refine pure_ (i := 11) (N := (some 7)) (v := ?_) (a' := ?_) #[true, true, true, true, true, true, true, true, true, true, true, true] rfl rfl (any_of HT_.out (by kernel_rfl)) (fun _ _ _ h => h) (Or.inl ⟨by rfl, ?_⟩) ?_ ?_
          rotate_left
          · intro w'
            go_simp
            with_reducible rfl
          rotate_left
          · simp only [Act.put, List.setIfInBounds_toArray, List.set_cons_zero, List.set_cons_succ, i64_w, i32_w]
            rfl
          refine done_ (done_of HT_.out (by kernel_rfl)) ?_
          go_wp2_with (fail)
          go_meet
          case rel =>
            refine ⟨wr.heap.size, C4, g4, C5, g5, rfl, rfl, ⟨putRow_row HZB.out⟩, ⟨made_stays HM5.out (fun q hq1 hq2 => putRow_other q (by rw [Mem.alloc_size] at hq1; exact Nat.ne_of_gt hq1))⟩, ⟨((pw_below_drewN (Below.refl wr.heap.size wr) 1).trans ((below_alloc (Below.refl _ _) _).trans (HB5.out.mono (by rw [Mem.alloc_size]; exact Nat.le_succ _)))).trans (putRow_below (Nat.le_refl wr.heap.size))⟩⟩
      case rest =>
        obtain ⟨bn, C4, g4, C5, g5, rfl, rfl, HNB, HRN, HBC⟩ := hcut
        have HLC2 := Aside0.mk (HLC.out.below HBC.out)
        have HLR2 := Aside0.mk (HLR.out.below HBC.out)
        have HKC2 : Aside0 (wc.cell? pk = some (.int .i64 y.f0.f0) ∧ wc.cell? ⟨pk.block, pk.off + 1, none⟩ = some (.int .i64 y.f0.f1)) := ⟨(HBC.out.cell (World.block_lt_of_cell? _ _ HKC.out.1)).trans HKC.out.1, (HBC.out.cell (World.block_lt_of_cell? _ _ HKC.out.2)).trans HKC.out.2⟩
        have HX2 := Aside0.mk ((HBC.out.block _ (blk_lt HXR.out)).trans HXR.out)
        have HRX2 := Aside0.mk (HRXR.out.below HBC.out)
        go_upto_region 11 with (fail)
        have hS0 : (wc.drew.cell? ⟨bn, 0, none⟩ = some (.int .i64 y.f0.f0) ∧ wc.drew.cell? ⟨bn, 1, none⟩ = some (.int .i64 y.f0.f1) ∧ wc.drew.cell? ⟨bn, 2, none⟩ = some (.string y.f1) ∧ wc.drew.cell? ⟨bn, 3, none⟩ = some (.string y.f2) ∧ wc.drew.cell? ⟨bn, 4, none⟩ = some (.slice C4 y.f3.length g4) ∧ wc.drew.cell? ⟨bn, 5, none⟩ = some (.slice C5 y.f4.length g5)) ∧ (wc.drew.cell? pl_ = some (.int .i64 y.f0.f0) ∧ wc.drew.cell? ⟨pl_.block, pl_.off + 1, none⟩ = some (.int .i64 y.f0.f1) ∧ wc.drew.cell? ⟨pl_.block, pl_.off + 2, none⟩ = some (.string y.f1) ∧ wc.drew.cell? ⟨pl_.block, pl_.off + 3, none⟩ = some (.string y.f2) ∧ wc.drew.cell? ⟨pl_.block, pl_.off + 4, none⟩ = some (.slice E4 y.f3.length j4) ∧ wc.drew.cell? ⟨pl_.block, pl_.off + 5, none⟩ = some (.slice E5 y.f4.length j5)) := ⟨⟨Mem.cell_of HNB.out 0, Mem.cell_of HNB.out 1, Mem.cell_of HNB.out 2, Mem.cell_of HNB.out 3, Mem.cell_of HNB.out 4, Mem.cell_of HNB.out 5⟩, HLC2.out⟩
        refine start_ (n := 11) (S := (fun w' => (w'.cell? ⟨bn, 0, none⟩ = some (.int .i64 y.f0.f0) ∧ w'.cell? ⟨bn, 1, none⟩ = some (.int .i64 y.f0.f1) ∧ w'.cell? ⟨bn, 2, none⟩ = some (.string y.f1) ∧ w'.cell? ⟨bn, 3, none⟩ = some (.string y.f2) ∧ w'.cell? ⟨bn, 4, none⟩ = some (.slice C4 y.f3.length g4) ∧ w'.cell? ⟨bn, 5, none⟩ = some (.slice C5 y.f4.length g5)) ∧ (w'.cell? pl_ = some (.int .i64 y.f0.f0) ∧ w'.cell? ⟨pl_.block, pl_.off + 1, none⟩ = some (.int .i64 y.f0.f1) ∧ w'.cell? ⟨pl_.block, pl_.off + 2, none⟩ = some (.string y.f1) ∧ w'.cell? ⟨pl_.block, pl_.off + 3, none⟩ = some (.string y.f2) ∧ w'.cell? ⟨pl_.block, pl_.off + 4, none⟩ = some (.slice E4 y.f3.length j4) ∧ w'.cell? ⟨pl_.block, pl_.off + 5, none⟩ = some (.slice E5 y.f4.length j5)))) (ds := []) #[false, false, false, false, false, false, false, false, false, false, false] (by kernel_rfl) rfl rfl (hS0) (fun hHeld => ?_)
        refine with_tabW vf11.tab11 vf11.bits11 (fun HT_ HW_ => ?_)
        refine pure_ (i := 0) (N := (some 58)) (v := ?_) (a' := ?_) #[true, false, false, false, false, false, false, false, false, false, false] rfl rfl (any_of HT_.out (by kernel_rfl)) (fun _ _ _ h => h) (Or.inl ⟨by rfl, ?_⟩) ?_ ?_
        rotate_left
        · intro w'
          go_simp
          with_reducible rfl
        rotate_left
        · simp only [Act.put, List.setIfInBounds_toArray, List.set_cons_zero, List.set_cons_succ, i64_w, i32_w]
          rfl
        refine pure_ (i := 1) (N := (some 59)) (v := ?_) (a' := ?_) #[true, true, false, false, false, false, false, false, false, false, false] rfl rfl (any_of HT_.out (by kernel_rfl)) (fun _ _ _ h => h) (Or.inl ⟨by rfl, ?_⟩) ?_ ?_
        rotate_left
        · intro w'
          go_simp
          with_reducible rfl
        rotate_left
        · simp only [Act.put, List.setIfInBounds_toArray, List.set_cons_zero, List.set_cons_succ, i64_w, i32_w]
          rfl
        refine pure_ (i := 2) (N := (some 60)) (v := ?_) (a' := ?_) #[true, true, true, false, false, false, false, false, false, false, false] rfl rfl (any_of HT_.out (by kernel_rfl)) (fun _ _ _ h => h) (Or.inl ⟨by rfl, ?_⟩) ?_ ?_
        rotate_left
        · intro w'
          go_simp
          with_reducible rfl
        rotate_left
        · simp only [Act.put, List.setIfInBounds_toArray, List.set_cons_zero, List.set_cons_succ, i64_w, i32_w]
          rfl
        refine pure_ (i := 4) (N := (some 62)) (v := ?_) (a' := ?_) #[true, true, true, false, true, false, false, false, false, false, false] rfl rfl (any_of HT_.out (by kernel_rfl)) (fun _ _ _ h => h) (Or.inl ⟨by rfl, ?_⟩) ?_ ?_
        rotate_left
        · intro w'
          go_simp
          with_reducible rfl
        rotate_left
        · simp only [Act.put, List.setIfInBounds_toArray, List.set_cons_zero, List.set_cons_succ, i64_w, i32_w]
          rfl
        refine pure_ (i := 5) (N := (some 63)) (v := ?_) (a' := ?_) #[true, true, true, false, true, true, false, false, false, false, false] rfl rfl (any_of HT_.out (by kernel_rfl)) (fun _ _ _ h => h) (Or.inl ⟨by rfl, ?_⟩) ?_ ?_
        rotate_left
        · intro w'
          go_simp
          with_reducible rfl
        rotate_left
        · simp only [Act.put, List.setIfInBounds_toArray, List.set_cons_zero, List.set_cons_succ, i64_w, i32_w]
          rfl
        refine pure_ (i := 6) (N := (some 64)) (v := ?_) (a' := ?_) #[true, true, true, false, true, true, true, false, false, false, false] rfl rfl (any_of HT_.out (by kernel_rfl)) (fun _ _ _ h => h) (Or.inl ⟨by rfl, ?_⟩) ?_ ?_
        rotate_left
        · intro w'
          go_simp
          with_reducible rfl
        rotate_left
        · simp only [Act.put, List.setIfInBounds_toArray, List.set_cons_zero, List.set_cons_succ, i64_w, i32_w]
          rfl
        refine take_ (i := 3) (N := (some 61)) (v := ?_) (a' := ?_) #[true, true, true, true, true, true, true, false, false, false, false] rfl rfl (take_ofW HT_.out HW_.out (by kernel_rfl)) (fun _ _ _ h => h) (Or.inl ⟨by rfl, ?_⟩) hHeld ?_ ?_
        rotate_left
        · rintro w' ⟨⟨s0, s1, s2, s3, s4, s5⟩, u0, u1, u2, u3, u4, u5⟩
          go_simp
          with_reducible rfl
        rotate_left
        · simp only [Act.put, List.setIfInBounds_toArray, List.set_cons_zero, List.set_cons_succ, i64_w, i32_w]
          rfl
        refine take_ (i := 7) (N := (some 65)) (v := ?_) (a' := ?_) #[true, true, true, true, true, true, true, true, false, false, false] rfl rfl (take_ofW HT_.out HW_.out (by kernel_rfl)) (fun _ _ _ h => h) (Or.inl ⟨by rfl, ?_⟩) hHeld ?_ ?_
        rotate_left
        · rintro w' ⟨⟨s0, s1, s2, s3, s4, s5⟩, u0, u1, u2, u3, u4, u5⟩
          go_simp
          with_reducible rfl
        rotate_left
        · simp only [Act.put, List.setIfInBounds_toArray, List.set_cons_zero, List.set_cons_succ, i64_w, i32_w]
          rfl
        refine one_ (i := 8) (N := (some 66)) #[true, true, true, true, true, true, true, true, true, false, false] rfl rfl (one_of HT_.out (by kernel_rfl)) (by decide) (fun K hK => ?_)
        refine goes_ Try.func14 (by kernel_rfl) rfl #[.agg #[.int .i64 y.f0.f0, .int .i64 y.f0.f1, .string y.f1, .string y.f2, .slice C4 y.f3.length g4, .slice C5 y.f4.length g5], .agg #[.int .i64 y.f0.f0, .int .i64 y.f0.f1, .string y.f1, .string y.f2, .slice E4 y.f3.length j4, .slice E5 y.f4.length j5]] (by rfl) rfl rfl (by (try simp only [List.map_toArray, List.map_cons, List.map_nil]); first | done | rfl) ?_
        refine (rsame_calls _ y y _ _ _ _ _ _ _ _ (HRN.out.below (below_drew (Below.refl _ _))) (HLR2.out.below (below_drew (Below.refl _ _))) HTY.out).mono ?_
        rintro e w6 ⟨rfl, hb6⟩
        rw [eqT_self]
        refine ⟨_, rfl, ?_⟩
        have HB6 : Aside0 (Below wc.heap.size wc w6) := ⟨(below_drew (Below.refl _ _)).trans hb6⟩
        have hSn : (w6.cell? ⟨bn, 0, none⟩ = some (.int .i64 y.f0.f0) ∧ w6.cell? ⟨bn, 1, none⟩ = some (.int .i64 y.f0.f1) ∧ w6.cell? ⟨bn, 2, none⟩ = some (.string y.f1) ∧ w6.cell? ⟨bn, 3, none⟩ = some (.string y.f2) ∧ w6.cell? ⟨bn, 4, none⟩ = some (.slice C4 y.f3.length g4) ∧ w6.cell? ⟨bn, 5, none⟩ = some (.slice C5 y.f4.length g5)) ∧ (w6.cell? pl_ = some (.int .i64 y.f0.f0) ∧ w6.cell? ⟨pl_.block, pl_.off + 1, none⟩ = some (.int .i64 y.f0.f1) ∧ w6.cell? ⟨pl_.block, pl_.off + 2, none⟩ = some (.string y.f1) ∧ w6.cell? ⟨pl_.block, pl_.off + 3, none⟩ = some (.string y.f2) ∧ w6.cell? ⟨pl_.block, pl_.off + 4, none⟩ = some (.slice E4 y.f3.length j4) ∧ w6.cell? ⟨pl_.block, pl_.off + 5, none⟩ = some (.slice E5 y.f4.length j5)) := ⟨⟨(hb6.cell (World.block_lt_of_cell? _ _ hHeld.1.1)).trans hHeld.1.1, (hb6.cell (World.block_lt_of_cell? _ _ hHeld.1.2.1)).trans hHeld.1.2.1, (hb6.cell (World.block_lt_of_cell? _ _ hHeld.1.2.2.1)).trans hHeld.1.2.2.1, (hb6.cell (World.block_lt_of_cell? _ _ hHeld.1.2.2.2.1)).trans hHeld.1.2.2.2.1, (hb6.cell (World.block_lt_of_cell? _ _ hHeld.1.2.2.2.2.1)).trans hHeld.1.2.2.2.2.1, (hb6.cell (World.block_lt_of_cell? _ _ hHeld.1.2.2.2.2.2)).trans hHeld.1.2.2.2.2.2⟩, ⟨(hb6.cell (World.block_lt_of_cell? _ _ hHeld.2.1)).trans hHeld.2.1, (hb6.cell (World.block_lt_of_cell? _ _ hHeld.2.2.1)).trans hHeld.2.2.1, (hb6.cell (World.block_lt_of_cell? _ _ hHeld.2.2.2.1)).trans hHeld.2.2.2.1, (hb6.cell (World.block_lt_of_cell? _ _ hHeld.2.2.2.2.1)).trans hHeld.2.2.2.2.1, (hb6.cell (World.block_lt_of_cell? _ _ hHeld.2.2.2.2.2.1)).trans hHeld.2.2.2.2.2.1, (hb6.cell (World.block_lt_of_cell? _ _ hHeld.2.2.2.2.2.2)).trans hHeld.2.2.2.2.2.2⟩⟩
        clear hb6
        refine hK.out _ _ (hSn) (fun hHeld => ?_)
        clear hK K
        refine norm_ (a' := ?_) ?_ ?_
        rotate_left
        · show Act.put _ (some 66) _ = _
          simp only [Act.put, List.setIfInBounds_toArray, List.set_cons_zero, List.set_cons_succ, i64_w, i32_w]
          rfl
        refine pure_ (i := 9) (N := (some 67)) (v := ?_) (a' := ?_) #[true, true, true, true, true, true, true, true, true, true, false] rfl rfl (any_of HT_.out (by kernel_rfl)) (fun _ _ _ h => h) (Or.inl ⟨by rfl, ?_⟩) ?_ ?_
        rotate_left
        · intro w'
          go_simp
          with_reducible rfl
        rotate_left
        · simp only [Act.put, List.setIfInBounds_toArray, List.set_cons_zero, List.set_cons_succ, i64_w, i32_w]
          rfl
        refine pure_ (i := 10) (N := (some 68)) (v := ?_) (a' := ?_) #[true, true, true, true, true, true, true, true, true, true, true] rfl rfl (any_of HT_.out (by kernel_rfl)) (fun _ _ _ h => h) (Or.inl ⟨by rfl, ?_⟩) ?_ ?_
        rotate_left
        · intro w'
          go_simp
          with_reducible rfl
        rotate_left
        · simp only [Act.put, List.setIfInBounds_toArray, List.set_cons_zero, List.set_cons_succ, i64_w, i32_w]
          rfl
        refine done_ (done_of HT_.out (by kernel_rfl)) ?_
        go_wp2_with (fail)
        have HX6 := Aside0.mk ((HB6.out.block _ (blk_lt HX2.out)).trans HX2.out)
        have HRX6 := Aside0.mk (HRX2.out.below HB6.out)
        have HNB6 := Aside0.mk ((HB6.out.block _ (blk_lt HNB.out)).trans HNB.out)
        have HRN6 := Aside0.mk (HRN.out.below HB6.out)
        have HKC6 : Aside0 (w6.cell? pk = some (.int .i64 y.f0.f0) ∧ w6.cell? ⟨pk.block, pk.off + 1, none⟩ = some (.int .i64 y.f0.f1)) := ⟨(HB6.out.cell (World.block_lt_of_cell? _ _ HKC2.out.1)).trans HKC2.out.1, (HB6.out.cell (World.block_lt_of_cell? _ _ HKC2.out.2)).trans HKC2.out.2⟩
        have HB6W : Aside0 (Below w4.heap.size w4 w6) := ⟨HBW.out.trans ((HBC.out.trans (HB6.out.mono HBC.out.size)).mono HBW.out.size)⟩
        have hmy : y.f4.length ≤ 9223372036854775807 := HRN.out.2.2.2.2.1
        have HMY := Aside0.mk hmy
        clear hmy
        go_loopw [8] (fun j wi => ∃ q : Nat, j = .int .i64 (q : Int) ∧ Aside0 (q ≤ y.f4.length) ∧ Aside0 (Below w6.heap.size w6 wi)) (fun j _ => y.f4.length - (intOf j).toNat)
        case atStart => exact ⟨0, rfl, ⟨Nat.zero_le _⟩, ⟨Below.refl _ _⟩⟩
        case round =>
          obtain ⟨q, rfl, HQ, HBI⟩ := hrel
          have HXI := Aside0.mk ((HBI.out.block _ (blk_lt HX6.out)).trans HX6.out)
          have HRXI := Aside0.mk (HRX6.out.below HBI.out)
          have HNBI := Aside0.mk ((HBI.out.block _ (blk_lt HNB6.out)).trans HNB6.out)
          have HRNI := Aside0.mk (HRN6.out.below HBI.out)
          have HKCI : Aside0 (wr.cell? pk = some (.int .i64 y.f0.f0) ∧ wr.cell? ⟨pk.block, pk.off + 1, none⟩ = some (.int .i64 y.f0.f1)) := ⟨(HBI.out.cell (World.block_lt_of_cell? _ _ HKC6.out.1)).trans HKC6.out.1, (HBI.out.cell (World.block_lt_of_cell? _ _ HKC6.out.2)).trans HKC6.out.2⟩
          have n5 := Mem.cell_of HNBI.out 5
          by_cases hlq : q < y.f4.length
          case neg =>
            have e8 : ((q : Int) < (y.f4.length : Int)) = False := eq_false (by omega)
            have e9 : (q < y.f4.length) = False := eq_false hlq
            clear hlq
            go_wp2_with (fail)
            exact ⟨⟨k + 1, by rw [HW.out], ⟨HLT.out⟩, ⟨HB6W.out.trans (HBI.out.mono HB6W.out.size)⟩⟩, dec_kid HLT.out HW.out⟩
          have HWQ := Aside0.mk (wrap_in (k := q) (n := y.f4.length) hlq HMY.out)
          have HLQ := Aside0.mk hlq
          obtain ⟨ad5, F4, m4, F5, m5, hC5, hzc, _⟩ := kid_read HRNI.out.2.2.2 q hlq
          subst hC5
          have HPZ := Aside0.mk (HPY.out q hlq)
          obtain ⟨z, hz⟩ : ∃ z, y.f4.getD q z27 = z := ⟨_, rfl⟩
          rw [hz] at hzc HPZ
          obtain ⟨pz, hpz⟩ : ∃ p, ad5.add (q * 6) = p := ⟨_, rfl⟩
          rw [hpz] at hzc
          obtain ⟨i0, i1, _, _, _, _⟩ := hzc
          have e8 : ((q : Int) < (y.f4.length : Int)) = True := eq_true (Int.ofNat_lt.2 hlq)
          have e9 : (q < y.f4.length) = True := eq_true hlq
          have hqn : (q : Int).toNat = q := Int.toNat_natCast q
          have hqp : (0 : Int) ≤ (q : Int) := Int.natCast_nonneg q
          clear hlq hz
          have a0 := Mem.cell_of HXI.out 0
          have a1 := Mem.cell_of HXI.out 1
          have a2 := Mem.cell_of HXI.out 2
          have a3 := Mem.cell_of HXI.out 3
          have a4 := Mem.cell_of HXI.out 4
          have a5 := Mem.cell_of HXI.out 5
          go_upto_region 16 with (fail)
          have hS0 : (wr.drew.cell? ⟨w.heap.size, 0, none⟩ = some (.int .i64 x.f0.f0) ∧ wr.drew.cell? ⟨w.heap.size, 1, none⟩ = some (.int .i64 x.f0.f1) ∧ wr.drew.cell? ⟨w.heap.size, 2, none⟩ = some (.string x.f1) ∧ wr.drew.cell? ⟨w.heap.size, 3, none⟩ = some (.string x.f2) ∧ wr.drew.cell? ⟨w.heap.size, 4, none⟩ = some (.slice A4 x.f3.length c4) ∧ wr.drew.cell? ⟨w.heap.size, 5, none⟩ = some (.slice A5 x.f4.length c5)) ∧ (wr.drew.cell? ⟨bn, 5, none⟩ = some (.slice (some ad5) y.f4.length g5)) ∧ (wr.drew.cell? pz = some (.int .i64 z.f0.f0) ∧ wr.drew.cell? ⟨pz.block, pz.off + 1, none⟩ = some (.int .i64 z.f0.f1)) := ⟨⟨a0, a1, a2, a3, a4, a5⟩, n5, i0, i1⟩
          clear a0 a1 a2 a3 a4 a5
          clear i0 i1 n5
          go_cut [9, 10] from 109 (fun s9 s10 wc => ∃ bp, s9 = .pointer (some ⟨bp, 0, none⟩) ∧ s10 = .bool true ∧ Aside0 (wc.heap[bp]? = some (.cells #[.int .i64 y.f0.f0, .int .i64 y.f0.f1] 23 (0, 0))) ∧ Aside0 (Below wr.heap.size wr wc))
          case first =>
            refine start_ (n := 14) (S := (fun w' => (w'.cell? ⟨w.heap.size, 0, none⟩ = some (.int .i64 x.f0.f0) ∧ w'.cell? ⟨w.heap.size, 1, none⟩ = some (.int .i64 x.f0.f1) ∧ w'.cell? ⟨w.heap.size, 2, none⟩ = some (.string x.f1) ∧ w'.cell? ⟨w.heap.size, 3, none⟩ = some (.string x.f2) ∧ w'.cell? ⟨w.heap.size, 4, none⟩ = some (.slice A4 x.f3.length c4) ∧ w'.cell? ⟨w.heap.size, 5, none⟩ = some (.slice A5 x.f4.length c5)) ∧ (w'.cell? ⟨bn, 5, none⟩ = some (.slice (some ad5) y.f4.length g5)) ∧ (w'.cell? pz = some (.int .i64 z.f0.f0) ∧ w'.cell? ⟨pz.block, pz.off + 1, none⟩ = some (.int .i64 z.f0.f1)))) (ds := [12]) #[false, false, false, false, false, false, false, false, false, false, false, false, false, false] (by kernel_rfl) rfl rfl (hS0) (fun hHeld => ?_)
            refine with_tabW vf16.tab16 vf16.bits16 (fun HT_ HW_ => ?_)
            refine pure_ (i := 1) (N := (some 78)) (v := ?_) (a' := ?_) #[false, true, false, false, false, false, false, false, false, false, false, false, false, false] rfl rfl (any_of HT_.out (by kernel_rfl)) (fun _ _ _ h => h) (Or.inl ⟨by rfl, ?_⟩) ?_ ?_
            rotate_left
            · intro w'
              go_simp
              with_reducible rfl
            rotate_left
            · simp only [Act.put, List.setIfInBounds_toArray, List.set_cons_zero, List.set_cons_succ, i64_w, i32_w]
              rfl
            refine pure_ (i := 3) (N := (some 80)) (v := ?_) (a' := ?_) #[false, true, false, true, false, false, false, false, false, false, false, false, false, false] rfl rfl (any_of HT_.out (by kernel_rfl)) (fun _ _ _ h => h) (Or.inl ⟨by rfl, ?_⟩) ?_ ?_
            rotate_left
            · intro w'
              go_simp
              with_reducible rfl
            rotate_left
            · simp only [Act.put, List.setIfInBounds_toArray, List.set_cons_zero, List.set_cons_succ, i64_w, i32_w]
              rfl
            refine take_ (i := 0) (N := (some 77)) (v := ?_) (a' := ?_) #[true, true, false, true, false, false, false, false, false, false, false, false, false, false] rfl rfl (take_ofW HT_.out HW_.out (by kernel_rfl)) (fun _ _ _ h => h) (Or.inl ⟨by rfl, ?_⟩) hHeld ?_ ?_
            rotate_left
            · rintro w' ⟨⟨s0, s1, s2, s3, s4, s5⟩, v5, u0, u1⟩
              go_simp
              with_reducible rfl
            rotate_left
            · simp only [Act.put, List.setIfInBounds_toArray, List.set_cons_zero, List.set_cons_succ, i64_w, i32_w]
              rfl
            refine take_ (i := 2) (N := (some 79)) (v := ?_) (a' := ?_) #[true, true, true, true, false, false, false, false, false, false, false, false, false, false] rfl rfl (take_ofW HT_.out HW_.out (by kernel_rfl)) (fun _ _ _ h => h) (Or.inl ⟨by rfl, ?_⟩) hHeld ?_ ?_
            rotate_left
            · rintro w' ⟨⟨s0, s1, s2, s3, s4, s5⟩, v5, u0, u1⟩
              go_simp
              with_reducible rfl
            rotate_left
            · simp only [Act.put, List.setIfInBounds_toArray, List.set_cons_zero, List.set_cons_succ, i64_w, i32_w]
              rfl
            refine pure_ (i := 4) (N := (some 81)) (v := ?_) (a' := ?_) #[true, true, true, true, true, false, false, false, false, false, false, false, false, false] rfl rfl (any_of HT_.out (by kernel_rfl)) (fun _ _ _ h => h) (Or.inl ⟨by rfl, ?_⟩) ?_ ?_
            rotate_left
            · intro w'
              go_simp
              with_reducible rfl
            rotate_left
            · simp only [Act.put, List.setIfInBounds_toArray, List.set_cons_zero, List.set_cons_succ, i64_w, i32_w]
              rfl
            refine pure_ (i := 5) (N := (some 82)) (v := ?_) (a' := ?_) #[true, true, true, true, true, true, false, false, false, false, false, false, false, false] rfl rfl (any_of HT_.out (by kernel_rfl)) (fun _ _ _ h => h) (Or.inl ⟨by rfl, ?_⟩) ?_ ?_
            rotate_left
            · intro w'
              go_simp
              with_reducible rfl
            rotate_left
            · simp only [Act.put, List.setIfInBounds_toArray, List.set_cons_zero, List.set_cons_succ, i64_w, i32_w]
              rfl
            refine take_ (i := 6) (N := (some 83)) (v := ?_) (a' := ?_) #[true, true, true, true, true, true, true, false, false, false, false, false, false, false] rfl rfl (take_ofW HT_.out HW_.out (by kernel_rfl)) (fun _ _ _ h => h) (Or.inl ⟨by rfl, ?_⟩) hHeld ?_ ?_
            rotate_left
            · rintro w' ⟨⟨s0, s1, s2, s3, s4, s5⟩, v5, u0, u1⟩
              go_simp
              with_reducible rfl
            rotate_left
            · simp only [Act.put, List.setIfInBounds_toArray, List.set_cons_zero, List.set_cons_succ, i64_w, i32_w]
              rfl
            refine two_ (i := 7) (j := 11) (Ni := (some 84)) (Nj := (some 9)) #[true, true, true, true, true, true, true, true, false, false, false, false, false, false] #[true, true, true, true, true, true, true, false, false, false, false, true, false, false] rfl rfl rfl rfl (two_of HT_.out (by kernel_rfl)) (by decide) (by decide) (fun K hK => ?_) (fun K hK => ?_)
            · refine goes_ Try.func39 (by kernel_rfl) rfl #[.agg #[.int .i64 x.f0.f0, .int .i64 x.f0.f1, .string x.f1, .string x.f2, .slice A4 x.f3.length c4, .slice A5 x.f4.length c5], .agg #[.int .i64 z.f0.f0, .int .i64 z.f0.f1]] (by rfl) rfl rfl (by (try simp only [List.map_toArray, List.map_cons, List.map_nil]); first | done | rfl) ?_
              refine (parent_calls wr.drew x z.f0 A4 c4 A5 c5 HSZ.out HF.out (TK.of ((HRXI.out.below (below_drew (Below.refl _ _))).K))).mono ?_
              rw [HPZ.out]
              rintro e w5 ⟨rfl, hb5⟩
              refine ⟨_, rfl, ?_⟩
              have HB5 := Aside0.mk hb5
              have hSn : (w5.cell? ⟨w.heap.size, 0, none⟩ = some (.int .i64 x.f0.f0) ∧ w5.cell? ⟨w.heap.size, 1, none⟩ = some (.int .i64 x.f0.f1) ∧ w5.cell? ⟨w.heap.size, 2, none⟩ = some (.string x.f1) ∧ w5.cell? ⟨w.heap.size, 3, none⟩ = some (.string x.f2) ∧ w5.cell? ⟨w.heap.size, 4, none⟩ = some (.slice A4 x.f3.length c4) ∧ w5.cell? ⟨w.heap.size, 5, none⟩ = some (.slice A5 x.f4.length c5)) ∧ (w5.cell? ⟨bn, 5, none⟩ = some (.slice (some ad5) y.f4.length g5)) ∧ (w5.cell? pz = some (.int .i64 z.f0.f0) ∧ w5.cell? ⟨pz.block, pz.off + 1, none⟩ = some (.int .i64 z.f0.f1)) := ⟨⟨(hb5.cell (World.block_lt_of_cell? _ _ hHeld.1.1)).trans hHeld.1.1, (hb5.cell (World.block_lt_of_cell? _ _ hHeld.1.2.1)).trans hHeld.1.2.1, (hb5.cell (World.block_lt_of_cell? _ _ hHeld.1.2.2.1)).trans hHeld.1.2.2.1, (hb5.cell (World.block_lt_of_cell? _ _ hHeld.1.2.2.2.1)).trans hHeld.1.2.2.2.1, (hb5.cell (World.block_lt_of_cell? _ _ hHeld.1.2.2.2.2.1)).trans hHeld.1.2.2.2.2.1, (hb5.cell (World.block_lt_of_cell? _ _ hHeld.1.2.2.2.2.2)).trans hHeld.1.2.2.2.2.2⟩, (hb5.cell (World.block_lt_of_cell? _ _ hHeld.2.1)).trans hHeld.2.1, ⟨(hb5.cell (World.block_lt_of_cell? _ _ hHeld.2.2.1)).trans hHeld.2.2.1, (hb5.cell (World.block_lt_of_cell? _ _ hHeld.2.2.2)).trans hHeld.2.2.2⟩⟩
              refine hK.out _ _ (hSn) (fun hHeld => ?_)
              clear hK K
              refine norm_ (a' := ?_) ?_ ?_
              rotate_left
              · show Act.put _ (some 84) _ = _
                simp only [Act.put, List.setIfInBounds_toArray, List.set_cons_zero, List.set_cons_succ, i64_w, i32_w]
                rfl
              refine pure_ (i := 8) (N := (some 76)) (v := ?_) (a' := ?_) #[true, true, true, true, true, true, true, true, true, false, false, false, false, false] rfl rfl (any_of HT_.out (by kernel_rfl)) (fun _ _ _ h => h) (Or.inl ⟨by rfl, ?_⟩) ?_ ?_
              rotate_left
              · intro w'
                go_simp
                with_reducible rfl
              rotate_left
              · simp only [Act.put, List.setIfInBounds_toArray, List.set_cons_zero, List.set_cons_succ, i64_w, i32_w]
                rfl
              refine pure_ (i := 9) (N := (some 85)) (v := ?_) (a' := ?_) #[true, true, true, true, true, true, true, true, true, true, false, false, false, false] rfl rfl (any_of HT_.out (by kernel_rfl)) (fun _ _ _ h => h) (Or.inl ⟨by rfl, ?_⟩) ?_ ?_
              rotate_left
              · intro w'
                go_simp
                with_reducible rfl
              rotate_left
              · simp only [Act.put, List.setIfInBounds_toArray, List.set_cons_zero, List.set_cons_succ, i64_w, i32_w]
                rfl
              refine pure_ (i := 10) (N := (some 86)) (v := ?_) (a' := ?_) #[true, true, true, true, true, true, true, true, true, true, true, false, false, false] rfl rfl (any_of HT_.out (by kernel_rfl)) (fun _ _ _ h => h) (Or.inl ⟨by rfl, ?_⟩) ?_ ?_
              rotate_left
              · intro w'
                go_simp
                with_reducible rfl
              rotate_left
              · simp only [Act.put, List.setIfInBounds_toArray, List.set_cons_zero, List.set_cons_succ, i64_w, i32_w]
                rfl
              refine one_ (i := 11) (N := (some 9)) #[true, true, true, true, true, true, true, true, true, true, true, true, false, false] rfl rfl (one_of HT_.out (by kernel_rfl)) (by decide) (fun K hK => ?_)
              refine value_ (w1 := ?_) (v := ?_) (by rfl) rfl ?_ ?_
              rotate_left 2
              · go_simp
                constructor
                · rfl
                · rfl
              refine hK.out _ _ (⟨⟨Mem.cell_alloc hHeld.1.1 _, Mem.cell_alloc hHeld.1.2.1 _, Mem.cell_alloc hHeld.1.2.2.1 _, Mem.cell_alloc hHeld.1.2.2.2.1 _, Mem.cell_alloc hHeld.1.2.2.2.2.1 _, Mem.cell_alloc hHeld.1.2.2.2.2.2 _⟩, Mem.cell_alloc hHeld.2.1 _, ⟨Mem.cell_alloc hHeld.2.2.1 _, Mem.cell_alloc hHeld.2.2.2 _⟩⟩) (fun hHeld => ?_)
              clear hK K
              refine norm_ (a' := ?_) ?_ ?_
              rotate_left
              · show Act.put _ (some 9) _ = _
                simp only [Act.put, List.setIfInBounds_toArray, List.set_cons_zero, List.set_cons_succ, i64_w, i32_w]
                rfl
              refine last_ (i := 12) (N := none) #[true, true, true, true, true, true, true, true, true, true, true, true, true, false] rfl rfl (one_of HT_.out (by kernel_rfl)) (by decide) (fun K hK => ?_)
              have hzb : (w5.alloc (.cells #[.int .i64 0, .int .i64 0] 23)).heap[w5.heap.size]? = some (.cells #[.int .i64 0, .int .i64 0] 23 (0, 0)) := Mem.alloc_new _ _
              have zc0 := Mem.cell_of hzb 0
              have zf0 := Mem.free_of hzb 0
              have zc1 := Mem.cell_of hzb 1
              have zf1 := Mem.free_of hzb 1
              have HZB := Aside0.mk hzb
              clear hzb
              refine skip_ (w1 := (w5.alloc (.cells #[.int .i64 y.f0.f0, .int .i64 y.f0.f1] 23))) (by rfl) rfl ?_ ?_
              · go_simp
              refine hK.out _ _ ?_
              clear hK K
              refine pure_ (i := 13) (N := (some 10)) (v := ?_) (a' := ?_) #[true, true, true, true, true, true, true, true, true, true, true, true, true, true] rfl rfl (any_of HT_.out (by kernel_rfl)) (fun _ _ _ h => h) (Or.inl ⟨by rfl, ?_⟩) ?_ ?_
              rotate_left
              · intro w'
                go_simp
                with_reducible rfl
              rotate_left
              · simp only [Act.put, List.setIfInBounds_toArray, List.set_cons_zero, List.set_cons_succ, i64_w, i32_w]
                rfl
              refine done_ (done_of HT_.out (by kernel_rfl)) ?_
              go_wp2_with (fail)
              go_meet
              case rel =>
                refine ⟨w5.heap.size, rfl, rfl, ⟨Mem.alloc_new _ _⟩, ⟨(pw_below_drewN (Below.refl wr.heap.size wr) 1).trans (below_alloc HB5.out _)⟩⟩
            · refine value_ (w1 := ?_) (v := ?_) (by rfl) rfl ?_ ?_
              rotate_left 2
              · go_simp
                constructor
                · rfl
                · rfl
              refine hK.out _ _ (⟨⟨Mem.cell_alloc hHeld.1.1 _, Mem.cell_alloc hHeld.1.2.1 _, Mem.cell_alloc hHeld.1.2.2.1 _, Mem.cell_alloc hHeld.1.2.2.2.1 _, Mem.cell_alloc hHeld.1.2.2.2.2.1 _, Mem.cell_alloc hHeld.1.2.2.2.2.2 _⟩, Mem.cell_alloc hHeld.2.1 _, ⟨Mem.cell_alloc hHeld.2.2.1 _, Mem.cell_alloc hHeld.2.2.2 _⟩⟩) (fun hHeld => ?_)
              clear hK K
              refine norm_ (a' := ?_) ?_ ?_
              rotate_left
              · show Act.put _ (some 9) _ = _
                simp only [Act.put, List.setIfInBounds_toArray, List.set_cons_zero, List.set_cons_succ, i64_w, i32_w]
                rfl
              refine one_ (i := 7) (N := (some 84)) #[true, true, true, true, true, true, true, true, false, false, false, true, false, false] rfl rfl (one_of HT_.out (by kernel_rfl)) (by decide) (fun K hK => ?_)
              refine goes_ Try.func39 (by kernel_rfl) rfl #[.agg #[.int .i64 x.f0.f0, .int .i64 x.f0.f1, .string x.f1, .string x.f2, .slice A4 x.f3.length c4, .slice A5 x.f4.length c5], .agg #[.int .i64 z.f0.f0, .int .i64 z.f0.f1]] (by rfl) rfl rfl (by (try simp only [List.map_toArray, List.map_cons, List.map_nil]); first | done | rfl) ?_
              refine (parent_calls (wr.drew.alloc (.cells #[.int .i64 0, .int .i64 0] 23)) x z.f0 A4 c4 A5 c5 HSZ.out HF.out (TK.of ((HRXI.out.below (below_alloc (below_drew (Below.refl _ _)) _)).K))).mono ?_
              rw [HPZ.out]
              rintro e w5 ⟨rfl, hb5⟩
              refine ⟨_, rfl, ?_⟩
              have HB5 := Aside0.mk hb5
              have hSn : (w5.cell? ⟨w.heap.size, 0, none⟩ = some (.int .i64 x.f0.f0) ∧ w5.cell? ⟨w.heap.size, 1, none⟩ = some (.int .i64 x.f0.f1) ∧ w5.cell? ⟨w.heap.size, 2, none⟩ = some (.string x.f1) ∧ w5.cell? ⟨w.heap.size, 3, none⟩ = some (.string x.f2) ∧ w5.cell? ⟨w.heap.size, 4, none⟩ = some (.slice A4 x.f3.length c4) ∧ w5.cell? ⟨w.heap.size, 5, none⟩ = some (.slice A5 x.f4.length c5)) ∧ (w5.cell? ⟨bn, 5, none⟩ = some (.slice (some ad5) y.f4.length g5)) ∧ (w5.cell? pz = some (.int .i64 z.f0.f0) ∧ w5.cell? ⟨pz.block, pz.off + 1, none⟩ = some (.int .i64 z.f0.f1)) := ⟨⟨(hb5.cell (World.block_lt_of_cell? _ _ hHeld.1.1)).trans hHeld.1.1, (hb5.cell (World.block_lt_of_cell? _ _ hHeld.1.2.1)).trans hHeld.1.2.1, (hb5.cell (World.block_lt_of_cell? _ _ hHeld.1.2.2.1)).trans hHeld.1.2.2.1, (hb5.cell (World.block_lt_of_cell? _ _ hHeld.1.2.2.2.1)).trans hHeld.1.2.2.2.1, (hb5.cell (World.block_lt_of_cell? _ _ hHeld.1.2.2.2.2.1)).trans hHeld.1.2.2.2.2.1, (hb5.cell (World.block_lt_of_cell? _ _ hHeld.1.2.2.2.2.2)).trans hHeld.1.2.2.2.2.2⟩, (hb5.cell (World.block_lt_of_cell? _ _ hHeld.2.1)).trans hHeld.2.1, ⟨(hb5.cell (World.block_lt_of_cell? _ _ hHeld.2.2.1)).trans hHeld.2.2.1, (hb5.cell (World.block_lt_of_cell? _ _ hHeld.2.2.2)).trans hHeld.2.2.2⟩⟩
              refine hK.out _ _ (hSn) (fun hHeld => ?_)
              clear hK K
              refine norm_ (a' := ?_) ?_ ?_
              rotate_left
              · show Act.put _ (some 84) _ = _
                simp only [Act.put, List.setIfInBounds_toArray, List.set_cons_zero, List.set_cons_succ, i64_w, i32_w]
                rfl
              refine pure_ (i := 8) (N := (some 76)) (v := ?_) (a' := ?_) #[true, true, true, true, true, true, true, true, true, false, false, true, false, false] rfl rfl (any_of HT_.out (by kernel_rfl)) (fun _ _ _ h => h) (Or.inl ⟨by rfl, ?_⟩) ?_ ?_
              rotate_left
              · intro w'
                go_simp
                with_reducible rfl
              rotate_left
              · simp only [Act.put, List.setIfInBounds_toArray, List.set_cons_zero, List.set_cons_succ, i64_w, i32_w]
                rfl
              refine pure_ (i := 9) (N := (some 85)) (v := ?_) (a' := ?_) #[true, true, true, true, true, true, true, true, true, true, false, true, false, false] rfl rfl (any_of HT_.out (by kernel_rfl)) (fun _ _ _ h => h) (Or.inl ⟨by rfl, ?_⟩) ?_ ?_
              rotate_left
              · intro w'
                go_simp
                with_reducible rfl
              rotate_left
              · simp only [Act.put, List.setIfInBounds_toArray, List.set_cons_zero, List.set_cons_succ, i64_w, i32_w]
                rfl
              refine pure_ (i := 10) (N := (some 86)) (v := ?_) (a' := ?_) #[true, true, true, true, true, true, true, true, true, true, true, true, false, false] rfl rfl (any_of HT_.out (by kernel_rfl)) (fun _ _ _ h => h) (Or.inl ⟨by rfl, ?_⟩) ?_ ?_
              rotate_left
              · intro w'
                go_simp
                with_reducible rfl
              rotate_left
              · simp only [Act.put, List.setIfInBounds_toArray, List.set_cons_zero, List.set_cons_succ, i64_w, i32_w]
                rfl
              refine last_ (i := 12) (N := none) #[true, true, true, true, true, true, true, true, true, true, true, true, true, false] rfl rfl (one_of HT_.out (by kernel_rfl)) (by decide) (fun K hK => ?_)
              have hzb : w5.heap[wr.heap.size]? = some (.cells #[.int .i64 0, .int .i64 0] 23 (0, 0)) := (HB5.out.block _ (by rw [Mem.alloc_size]; exact Nat.lt_succ_self _)).trans (Mem.alloc_new _ _)
              have zc0 := Mem.cell_of hzb 0
              have zf0 := Mem.free_of hzb 0
              have zc1 := Mem.cell_of hzb 1
              have zf1 := Mem.free_of hzb 1
              have HZB := Aside0.mk hzb
              clear hzb
              refine skip_ (w1 := ((w5.setCell ⟨wr.heap.size, 0, none⟩ (.int .i64 y.f0.f0)).setCell ⟨wr.heap.size, 1, none⟩ (.int .i64 y.f0.f1))) (by rfl) rfl ?_ ?_
              · go_simp
              refine hK.out _ _ ?_
              clear hK K
              refine pure_ (i := 13) (N := (some 10)) (v := ?_) (a' := ?_) #[true, true, true, true, true, true, true, true, true, true, true, true, true, true] rfl rfl (any_of HT_.out (by kernel_rfl)) (fun _ _ _ h => h) (Or.inl ⟨by rfl, ?_⟩) ?_ ?_
              rotate_left
              · intro w'
                go_simp
                with_reducible rfl
              rotate_left
              · simp only [Act.put, List.setIfInBounds_toArray, List.set_cons_zero, List.set_cons_succ, i64_w, i32_w]
                rfl
              refine done_ (done_of HT_.out (by kernel_rfl)) ?_
              go_wp2_with (fail)
              go_meet
              case rel =>
                refine ⟨wr.heap.size, rfl, rfl, ⟨setB (setB HZB.out 0 _) 1 _⟩, ⟨((pw_below_drewN (Below.refl wr.heap.size wr) 1).trans ((below_alloc (Below.refl _ _) _).trans (HB5.out.mono (by rw [Mem.alloc_size]; exact Nat.le_succ _)))).trans (b2_set (Nat.le_refl wr.heap.size) _ _)⟩⟩
          case rest =>
            obtain ⟨bp, rfl, rfl, HPB, HBC2⟩ := hcut
            have i0 := (HBC2.out.cell (World.block_lt_of_cell? _ _ HKCI.out.1)).trans HKCI.out.1
            have i1 := (HBC2.out.cell (World.block_lt_of_cell? _ _ HKCI.out.2)).trans HKCI.out.2
            have p0 := Mem.cell_of HPB.out 0
            have p1 := Mem.cell_of HPB.out 1
            go_wp2_with (fail)
            go_quiet ((fail))
            go_wp2_with (fail)
            exact ⟨⟨q + 1, by rw [HWQ.out], ⟨HLQ.out⟩, ⟨(HBI.out.trans (HBC2.out.mono HBI.out.size)).trans ((pw_below_drewN (Below.refl _ _) _).mono (HBI.out.trans (HBC2.out.mono HBI.out.size)).size)⟩⟩, dec_kid HLQ.out HWQ.out⟩
end Go.Proofs.Ytnkbgimihikhoaa.PVt
namespace Go.Proofs.Ytnkbgimihikhoaa.Rdb
open Go.RowKit Go.Proofs.YtnkbgimihikhoaaW.PrintWords
theorem one_le {H : Type} (d : DataW H) : 1 ≤ Rows.uptoBulk d := by
  cases d with
  | lit l => cases l <;> simp [Rows.uptoBulk]
  | _ => simp [Rows.uptoBulk]
theorem sum_le {H : Type} {α : Type} (sz : α → Nat) : ∀ (l : List (DataW H)) (xs : List α), xs.length = l.length → (∀ (i : Nat) a d, xs[i]? = some a → l[i]? = some d → sz a ≤ Rows.uptoBulk d) → (xs.map sz).sum ≤ Rows.uptoBulkAll l
  | [], [], _, _ => by simp [Rows.uptoBulkAll]
  | [], x :: xs, h, _ => by simp at h
  | d :: l, [], h, _ => by simp at h
  | d :: l, x :: xs, h, g => by
    have h1 := g 0 x d rfl rfl
    have h2 := sum_le sz l xs (by simpa using h) (fun i a e h1 h2 => g (i + 1) a e (by simpa using h1) (by simpa using h2))
    simp only [List.map_cons, List.sum_cons, Rows.uptoBulkAll]
    omega
theorem cells_get {w : World} {a : Addr} : ∀ {n : Nat} {cs : List Value}, w.cells? 0 a n = some cs → cs.length = n ∧ ∀ i u, cs[i]? = some u → w.cell? (a.add i) = some u := by
  intro n cs h
  obtain ⟨_, h1, h2⟩ := World.cells?_some h
  refine ⟨h1, fun i u hu => ?_⟩
  have hi := (List.getElem?_eq_some_iff.1 hu).1
  rw [h2 i (by omega)]
  exact hu
/-- Cells of type t that can be read as data are a value of kind d, of size at most the data's bulk. -/
def Reads (N : Nat) {α : Type} (t : TypeId) (d : Kd α) (sz : α → Nat) : Prop :=
  ∀ {H : Type} (enc : TypeId × Value → H) (w : World) (spare : Nat → Bool) (held : Bool) (fuel : Nat) (cs : List Value) (x : DataW H × List MemPlace), fuel ≤ N →
    DataW.trod enc Try.prog w 0 spare held fuel t cs = some x → ∃ a : α, d.K w a cs ∧ sz a ≤ Rows.uptoBulk x.1
theorem int {N : Nat} {t : TypeId} {k : IntKind} (ht : Try.prog.underlying t = some (.int k)) : Reads N t (Kd.int k) (fun _ => 1) := by
  intro H enc w spare held fuel cs x hN h
  obtain ⟨n, rfl, rfl, hw⟩ := DataW.trod_int ht h
  exact ⟨n, rfl, one_le _⟩
theorem bool {N : Nat} {t : TypeId} (ht : Try.prog.underlying t = some .bool) : Reads N t Kd.bool (fun _ => 1) := by
  intro H enc w spare held fuel cs x hN h
  obtain ⟨n, rfl, rfl⟩ := DataW.trod_bool ht h
  exact ⟨n, rfl, one_le _⟩
theorem string {N : Nat} {t : TypeId} (ht : Try.prog.underlying t = some .string) : Reads N t Kd.string (fun s => s.size + 1) := by
  intro H enc w spare held fuel cs x hN h
  obtain ⟨s, rfl, rfl, hw⟩ := DataW.trod_string ht h
  refine ⟨s, rfl, ?_⟩
  simp only [Rows.uptoBulk]
  have : s.data.toList.length = s.size := by rw [Array.length_toList]; rfl
  omega
theorem slice {N : Nat} {α : Type} {t e : TypeId} {d : Kd α} {sz : α → Nat} (ht : Try.prog.underlying t = some (.slice e)) (hc : Try.prog.cellsOf e = d.sz) (R : Reads N e d sz) :
    Reads (N + 1) t (Kd.slice e d) (fun xs => (xs.map sz).sum + 1) := by
  intro H enc w spare held fuel cs x hN h
  rcases DataW.trod_slice ht h with ⟨rfl, rfl⟩ | ⟨a, len, cap, elems, rest, n, hfn, rfl, rfl, _, hlc, hm, hel, hg, _, _⟩
  · exact ⟨[], ⟨none, 0, rfl, Nat.le_refl _, rfl, by simp, fun h => by simp at h⟩, by simp [Rows.uptoBulk]⟩
  · have step : ∀ i, i < len → ∃ (v : α) (c : List Value) (y : DataW H × List MemPlace), elems[i]? = some y ∧ c.length = d.sz ∧ d.K w v c ∧ (∀ j u, c[j]? = some u → w.cell? (a.add (i * d.sz + j)) = some u) ∧ sz v ≤ Rows.uptoBulk y.1 := by
      intro i hi
      have h1 := hg i hi
      obtain ⟨y, hy⟩ : ∃ y, elems[i]? = some y := ⟨_, List.getElem?_eq_getElem (by omega)⟩
      rw [hy] at h1
      obtain ⟨c, hc1, hc2⟩ := Option.bind_eq_some_iff.1 h1
      obtain ⟨v, hv1, hv2⟩ := R enc w spare held n c y (by omega) hc2
      obtain ⟨g1, g2⟩ := cells_get hc1
      rw [hc] at g1 g2
      exact ⟨v, c, y, hy, g1, hv1, fun j u hu => by
        have := g2 j u hu
        rwa [Go.Addr.add_add] at this, hv2⟩
    have build : ∀ m, m ≤ len → ∃ xs : List α, xs.length = m ∧ (∀ (i : Nat) v, xs[i]? = some v → ∃ (c : List Value) (y : DataW H × List MemPlace), elems[i]? = some y ∧ c.length = d.sz ∧ d.K w v c ∧ (∀ j u, c[j]? = some u → w.cell? (a.add (i * d.sz + j)) = some u) ∧ sz v ≤ Rows.uptoBulk y.1) := by
      intro m
      induction m with
      | zero => intro _; exact ⟨[], rfl, fun i v hv => by simp at hv⟩
      | succ m ih =>
        intro hm
        obtain ⟨xs, hx1, hx2⟩ := ih (by omega)
        obtain ⟨v, c, y, hv⟩ := step m (by omega)
        refine ⟨xs ++ [v], by simp [hx1], fun i u hu => ?_⟩
        rcases Nat.lt_or_ge i xs.length with hi | hi
        · rw [List.getElem?_append_left hi] at hu
          exact hx2 i u hu
        · have : i = m := by
            have := (List.getElem?_eq_some_iff.1 hu).1
            rw [List.length_append, List.length_singleton] at this
            omega
          subst this
          have : v = u := by rw [← hx1] at hu; simpa using hu
          subst this
          exact ⟨c, y, hv⟩
    obtain ⟨xs, hx1, hx2⟩ := build len (Nat.le_refl _)
    refine ⟨xs, ⟨some a, cap, by rw [hx1], by omega, ⟨rfl, by unfold maxLen at hm; omega, fun _ => ⟨a, rfl, fun i v hv => ?_⟩⟩⟩, ?_⟩
    · obtain ⟨c, y, _, h2, h3, h4, _⟩ := hx2 i v hv
      exact ⟨c, h2, h3, h4⟩
    · have := sum_le sz (elems.map (·.1)) xs (by rw [List.length_map]; omega) (fun i v y hv hy => by
        obtain ⟨c, z, h1, _, _, _, h5⟩ := hx2 i v hv
        rw [List.getElem?_map, h1] at hy
        have : z.1 = y := by simpa using hy
        rw [← this]; exact h5)
      simp only [Rows.uptoBulk]
      omega
/-- Fields one behind the other, from cell o on. -/
def ReadsAt (N : Nat) {α : Type} (o : Nat) (fs : List Field) (d : Kd α) (sz : α → Nat) : Prop :=
  ∀ {H : Type} (enc : TypeId × Value → H) (w : World) (spare : Nat → Bool) (held : Bool) (n : Nat) (cs : List Value) (xs : List (DataW H × List MemPlace)), n ≤ N → xs.length = fs.length →
    (∀ (i : Nat) (f : Field), fs[i]? = some f → DataW.trod enc Try.prog w 0 spare held n f.type ((cs.drop f.offset).take (Try.prog.cellsOf f.type)) = xs[i]?) →
    ∃ a : α, d.K w a ((cs.drop o).take d.sz) ∧ sz a ≤ Rows.uptoBulkAll (xs.map (·.1))
theorem last {N : Nat} {α : Type} {f : Field} {d : Kd α} {sz : α → Nat} (hc : Try.prog.cellsOf f.type = d.sz) (R : Reads N f.type d sz) : ReadsAt N f.offset [f] d sz := by
  intro H enc w spare held n cs xs hN hl hx
  match xs, hl with
  | [y], _ =>
    have h := hx 0 f rfl
    rw [hc] at h
    obtain ⟨a, h1, h2⟩ := R enc w spare held n _ y hN h
    refine ⟨a, h1, ?_⟩
    simp only [List.map_cons, List.map_nil, Rows.uptoBulkAll]
    omega
theorem more {N : Nat} {α β : Type} {f : Field} {fs : List Field} {d : Kd α} {e : Kd β} {sz : α → Nat} {sz2 : β → Nat} (hc : Try.prog.cellsOf f.type = d.sz) (R : Reads N f.type d sz) (R2 : ReadsAt N (f.offset + d.sz) fs e sz2) :
    ReadsAt N f.offset (f :: fs) (Kd.pair d e) (fun x => sz x.1 + sz2 x.2) := by
  intro H enc w spare held n cs xs hN hl hx
  match xs, hl with
  | y :: ys, hl =>
    have h := hx 0 f rfl
    rw [hc] at h
    obtain ⟨a, h1, h2⟩ := R enc w spare held n _ y hN h
    obtain ⟨b, g1, g2⟩ := R2 enc w spare held n cs ys hN (by simpa using hl) (fun i f' hf => hx (i + 1) f' hf)
    refine ⟨(a, b), ⟨_, _, ?_, h1, g1⟩, ?_⟩
    · show (cs.drop f.offset).take (d.sz + e.sz) = _
      rw [List.take_add, List.drop_drop]
    · simp only [List.map_cons, Rows.uptoBulkAll]
      omega
theorem struct {N : Nat} {α : Type} {t : TypeId} {fs : Array Field} {d : Kd α} {sz : α → Nat} (ht : Try.prog.underlying t = some (.struct fs)) (hc : Try.prog.cellsOf t = d.sz) (R : ReadsAt N 0 fs.toList d sz) : Reads (N + 1) t d (fun a => sz a + 1) := by
  intro H enc w spare held fuel cs x hN h
  obtain ⟨xs, n, hfn, rfl, hl, hlen, hx⟩ := DataW.trod_struct ht h
  obtain ⟨a, h1, h2⟩ := R enc w spare held n cs xs (by omega) (by rw [hlen, Array.length_toList]) (fun i f hf => hx i f (by rwa [Array.getElem?_toList] at hf))
  rw [List.drop_zero, List.take_of_length_le (by rw [hl, hc]; exact Nat.le_refl _)] at h1
  refine ⟨a, h1, ?_⟩
  simp only [Rows.uptoBulk]
  omega
theorem iso {N : Nat} {α β : Type} {t : TypeId} {d : Kd α} {sz : α → Nat} (R : Reads N t d sz) (f : β → α) (g : α → β) (hfg : ∀ a, f (g a) = a) : Reads N t (Kd.iso d f) (fun b => sz (f b)) := by
  intro H enc w spare held fuel cs x hN h
  obtain ⟨a, h1, h2⟩ := R enc w spare held fuel cs x hN h
  refine ⟨g a, ?_, ?_⟩
  · show d.K w (f (g a)) cs
    rw [hfg]; exact h1
  · show sz (f (g a)) ≤ _
    rw [hfg]; exact h2
theorem Reads.less {N M : Nat} {α : Type} {t : TypeId} {d : Kd α} {sz : α → Nat} (R : Reads N t d sz) (h : M ≤ N) : Reads M t d sz := fun enc w spare held fuel cs x hM hx => R enc w spare held fuel cs x (Nat.le_trans hM h) hx
theorem Reads.imp {N : Nat} {α : Type} {t : TypeId} {d d' : Kd α} {sz sz' : α → Nat} (R : Reads N t d sz) (hk : ∀ w a cs, d.K w a cs → d'.K w a cs) (h : ∀ a, sz' a ≤ sz a) : Reads N t d' sz' := fun enc w spare held fuel cs x hN hx => by
  obtain ⟨a, h1, h2⟩ := R enc w spare held fuel cs x hN hx
  exact ⟨a, hk _ _ _ h1, Nat.le_trans (h a) h2⟩
/-- A parameter. -/
theorem Reads.param {α : Type} {t : TypeId} {d : Kd α} {sz : α → Nat} (R : ∀ N, Reads N t d sz) {H : Type} {enc : TypeId × Value → H} {w : World} {spare : Nat → Bool} {held : Bool} {v : Value} {x : DataW H} {ps : List MemPlace}
    (h : DataW.Trod enc Try.prog w 0 spare held t v x ps) : ∃ a : α, d.K w a v.cells.toList ∧ sz a ≤ Rows.uptoBulk x ∧ True := by
  obtain ⟨fuel, hf⟩ := h
  obtain ⟨a, h1, h2⟩ := R fuel enc w spare held fuel _ _ (Nat.le_refl _) hf
  exact ⟨a, h1, h2, trivial⟩
end Go.Proofs.Ytnkbgimihikhoaa.Rdb
namespace Go.Proofs.Ytnkbgimihikhoaa.PVt
open Go.RowKit Go.Proofs.YtnkbgimihikhoaaW.PrintWords Go.Proofs.YtnkbgimihikhoaaW.PrintLast Go.Proofs.YtnkbgimihikhoaaW.PrintMore
set_option linter.unusedVariables false
def bulkA (p : S99) : Nat := (p.f0.size + 1) + (p.f1.size + 1) + 1
mutual
/-- A tree's bulk, at least. -/
def bulkT : S27 → Nat
  | ⟨_, t, u, a, l⟩ => 3 + ((t.size + 1) + ((u.size + 1) + (((a.map bulkA).sum + 1) + (bulkTs l + 1)))) + 1
def bulkTs : List S27 → Nat
  | [] => 0
  | x :: l => bulkT x + bulkTs l
end
theorem bulkT_eq (x : S27) : bulkT x = 3 + ((x.f1.size + 1) + ((x.f2.size + 1) + (((x.f3.map bulkA).sum + 1) + (bulkTs x.f4 + 1)))) + 1 := by cases x; simp [bulkT]
theorem bulkTs_sum : ∀ l : List S27, (l.map bulkT).sum = bulkTs l
  | [] => by simp [bulkTs]
  | x :: l => by simp [bulkTs, bulkTs_sum l]
mutual
theorem bulk_sz : ∀ x : S27, szT x ≤ bulkT x
  | ⟨k, t, u, a, l⟩ => by have := bulk_szs l; rw [szT, bulkT]; omega
theorem bulk_szs : ∀ l : List S27, szTs l ≤ bulkTs l
  | [] => by simp [szTs, bulkTs]
  | x :: l => by have h1 := bulk_sz x; have h2 := bulk_szs l; rw [szTs, bulkTs]; omega
end
theorem bulkA_mem {a : List S99} : ∀ p ∈ a, bulkA p ≤ (a.map bulkA).sum := by
  induction a with
  | nil => intro p hp; cases hp
  | cons q a ih =>
    intro p hp
    rw [List.map_cons, List.sum_cons]
    rcases List.mem_cons.1 hp with rfl | hp
    · omega
    · have := ih p hp; omega
theorem bulkA_len (a : List S99) : a.length ≤ (a.map bulkA).sum := by
  induction a with
  | nil => simp
  | cons q a ih => rw [List.map_cons, List.sum_cons, List.length_cons]; have : 1 ≤ bulkA q := by unfold bulkA; omega
                   omega
theorem bulkTs_len (l : List S27) : l.length ≤ bulkTs l := Nat.le_trans (szTs_len l) (bulk_szs l)
theorem reach_b : reachBytes = 140737488351232 := by decide
mutual
theorem bulk_fit : ∀ x : S27, bulkT x ≤ 1048576 → fitT x
  | ⟨k, t, u, a, l⟩, h => by
    rw [bulkT] at h
    have h1 := bulkA_len a
    have h2 := bulkTs_len l
    have h3 := bulk_fits l (by omega)
    rw [fitT, reach_b]
    refine ⟨by omega, by omega, ⟨by omega, fun p hp => ?_⟩, by omega, h3⟩
    have h4 := bulkA_mem p hp
    have h5 : bulkA p = (p.f0.size + 1) + (p.f1.size + 1) + 1 := rfl
    unfold fitA
    rw [reach_b]
    omega
theorem bulk_fits : ∀ l : List S27, bulkTs l ≤ 1048576 → fitTs l
  | [], _ => by simp [fitTs]
  | x :: l, h => by
    rw [bulkTs] at h
    rw [fitTs]
    exact ⟨bulk_fit x (by omega), bulk_fits l (by omega)⟩
end
theorem bulk23 (N : Nat) : Rdb.Reads N 23 k23 (fun _ => 3) :=
  Rdb.Reads.imp (Rdb.Reads.less (Rdb.iso (Rdb.struct (N := N) Try.underlying23 (by kernel_rfl) (Rdb.more (by kernel_rfl) (Rdb.int Try.underlying3) (Rdb.last (by kernel_rfl) (Rdb.int Try.underlying3)))) (fun x : S23 => (x.f0, x.f1)) (fun p => ⟨p.1, p.2⟩) (fun _ => rfl)) (Nat.le_succ N)) (fun _ _ _ h => h) (fun _ => Nat.le_refl _)
theorem bulk99 (N : Nat) : Rdb.Reads N 99 k99 bulkA :=
  Rdb.Reads.imp (Rdb.Reads.less (Rdb.iso (Rdb.struct (N := N) Try.underlying99 (by kernel_rfl) (Rdb.more (by kernel_rfl) (Rdb.string Try.underlying9) (Rdb.last (by kernel_rfl) (Rdb.string Try.underlying9)))) (fun x : S99 => (x.f0, x.f1)) (fun p => ⟨p.1, p.2⟩) (fun _ => rfl)) (Nat.le_succ N)) (fun _ _ _ h => h) (fun a => Nat.le_refl _)
theorem bulk24 (N : Nat) : Rdb.Reads N 24 (Kd.slice 99 k99) (fun xs => (xs.map bulkA).sum + 1) := Rdb.Reads.less (Rdb.slice (N := N) Try.underlying24 (by kernel_rfl) (bulk99 N)) (Nat.le_succ N)
theorem bulk_step (N : Nat) (ih : Rdb.Reads N 27 k27 bulkT) : Rdb.Reads (N + 2) 27 k27 bulkT :=
  Rdb.Reads.imp (Rdb.iso (Rdb.struct (N := N + 1) Try.underlying27 (by kernel_rfl) (Rdb.more (by kernel_rfl) (bulk23 _) (Rdb.more (by kernel_rfl) (Rdb.string Try.underlying9) (Rdb.more (by kernel_rfl) (Rdb.string Try.underlying9) (Rdb.more (by kernel_rfl) (bulk24 _) (Rdb.last (by kernel_rfl) (Rdb.slice Try.underlying25 (by kernel_rfl) ih))))))) (fun x : S27 => (x.f0, x.f1, x.f2, x.f3, x.f4)) (fun p => ⟨p.1, p.2.1, p.2.2.1, p.2.2.2.1, p.2.2.2.2⟩) (fun _ => rfl)) (fun _ _ _ h => fold27 h) (fun a => by
    rw [bulkT_eq, ← bulkTs_sum]
    exact Nat.le_refl _)
theorem bulk27 : ∀ N, Rdb.Reads N 27 k27 bulkT
  | 0 => fun enc w spare held fuel cs x h0 hx => by
    obtain ⟨_, n, hn, _⟩ := DataW.trod_struct Try.underlying27 hx
    omega
  | 1 => Rdb.Reads.less (bulk_step 0 (bulk27 0)) (by omega)
  | N + 2 => bulk_step N (bulk27 N)
end Go.Proofs.Ytnkbgimihikhoaa.PVt
