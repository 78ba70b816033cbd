/- What the statement's row needs of this session's texts, joined by program: part 7. -/
import Derived.Maps.RangeRun
import Derived.Test.YtnopjjilpgekfaaQT5
namespace Go.Proofs.Ytnopjjilpgekfaa.PCa
open Go.RowKit Go.Proofs.YtnopjjilpgekfaaW.PrintWords Go.Proofs.YtnopjjilpgekfaaW.PrintLast Go.Proofs.YtnopjjilpgekfaaW.PrintMore
attribute [local go_sem] max2_int min2_int max_two min_two max_three min_three max_four min_four
set_option linter.unusedVariables false
set_option linter.unusedSimpArgs false
def cln.T8 : Bool × List (List Nat × List Nat) := (true, [([], []), ([0], [0]), ([1], [1]), ([2], [2]), ([], []), ([], []), ([3, 4, 5, 0, 1, 2, 3, 4, 5], [3, 4, 5])])
def cln.B8 : List Nat := [0, 1, 3, 7, 0, 0, 63]
theorem cln.tab8 : rtab .any (opsOf Try.f27 8) = cln.T8 := by kernel_rfl
theorem cln.bits8 : waitsOk cln.T8.2 cln.B8 = true := by kernel_rfl
theorem upd_run {W : World} {b c : Nat} {l : List ((Nat × KeyP) × Int)} (h : MapE W b l c) (k : KeyP) (v : Int) (hn : findP l k 0 = none) :
  (Instr.mapUpdate 69 (.map (some b)) (keyV k) (.int .i64 v)).run Try.prog W = .ok () (W.putObj b (.map ((l ++ [((c, k), v)]).map entE).toArray (c + 1))) := by
 have e2 := get_run h
 have hf := find_run W k l
 rw [hn] at hf
 have hc := fun em => check_key em W k
 have hs := fun o' => set_run (o' := o') h
 unfold Instr.mapUpdate
 simp only [Sem.run_bind, und_run, Result.andThen_ok, e2, Sem.run_pure, hc, hf, hs]
 rw [List.map_append]
 simp [entE]
/-- The loop's step: nothing is left, or one entry comes that has not come. -/
theorem next_ent {W : World} {r bm since c0 c : Nat} {seen : Array Nat} {es : List ((Nat × KeyP) × Int)} (hr : W.heap[r]? = some (.mapIter (some bm) since seen c0)) (hb : MapE W bm es c) (hold : ∀ e ∈ es, e.1.1 < since) (hsc : since ≤ c0) (ty : TypeId) :
  ((∀ e ∈ es, seen.contains e.1.1 = true) ∧ (Instr.next (.pointer (some ⟨r, 0, none⟩)) false ty).run Try.prog W = .ok (.tuple #[.bool false]) W) ∨
  ∃ e ∈ es, seen.contains e.1.1 = false ∧ ∃ W1, (W1 = W ∨ W1 = W.drew) ∧ (Instr.next (.pointer (some ⟨r, 0, none⟩)) false ty).run Try.prog W = .ok (.tuple #[.bool true, keyV e.1.2, .int .i64 e.2]) (W1.putObj r (.mapIter (some bm) since (seen.push e.1.1) c)) := by
 rcases run_next_at (P := Try.prog) W ty r bm since c0 seen (es.map entE).toArray c hr hb (fun x hx => by
  rw [List.toList_toArray] at hx
  obtain ⟨e, he, rfl⟩ := List.mem_map.1 hx
  exact hold e he) hsc with ⟨h0, hrun⟩ | ⟨x, hx, W1, hW1, hrun⟩
 ·refine .inl ⟨fun e he => ?_, hrun⟩
  by_cases hs : seen.contains e.1.1 = true
  ·exact hs
  ·exfalso
   have hm : entE e ∈ leftOf (es.map entE).toArray seen := by
    unfold leftOf
    rw [Array.mem_filter]
    exact ⟨by rw [List.mem_toArray]; exact List.mem_map_of_mem he, by simpa [entE] using hs⟩
   have hz : leftOf (es.map entE).toArray seen = #[] := Array.eq_empty_of_size_eq_zero h0
   rw [hz] at hm
   exact absurd hm (by simp)
 ·right
  have hx' : x ∈ leftOf (es.map entE).toArray seen := Array.mem_toList_iff.1 hx
  unfold leftOf at hx'
  rw [Array.mem_filter] at hx'
  have hxe : x ∈ es.map entE := by simpa using hx'.1
  obtain ⟨e, he, rfl⟩ := List.mem_map.1 hxe
  exact ⟨e, he, by simpa [entE] using hx'.2, W1, hW1, hrun⟩
theorem entry_ent {W : World} {r bm since c : Nat} {seen : Array Nat} {es : List ((Nat × KeyP) × Int)} {e : (Nat × KeyP) × Int} (hr : W.heap[r]? = some (.mapIter (some bm) since (seen.push e.1.1) c)) (hb : MapE W bm es c) (he : e ∈ es) (hn : (es.map (·.1.1)).Nodup) :
  (Instr.entry (.pointer (some ⟨r, 0, none⟩))).run Try.prog W = .ok (.tuple #[keyV e.1.2, .int .i64 e.2]) W :=
 run_entry_at (P := Try.prog) W r bm since seen (es.map entE).toArray c (entE e) hr hb (by rw [List.toList_toArray]; exact List.mem_map_of_mem he) (by
  rw [List.toList_toArray, List.map_map]
  exact hn)
/-- What a copy under way holds: the entries that have come. -/
structure CA (es es2 : List ((Nat × KeyP) × Int)) (seen : Array Nat) (c2 : Nat) : Prop where
 ones : ∀ e ∈ es2, e.2 = 1
 born : ∀ e ∈ es2, e.1.1 < c2
 nd : (es2.map (·.1.2)).Nodup
 bn : (es2.map (·.1.1)).Nodup
 mem : ∀ k, k ∈ es2.map (·.1.2) ↔ ∃ e ∈ es, e.1.2 = k ∧ seen.contains e.1.1 = true
theorem CA.start' (es : List ((Nat × KeyP) × Int)) (c2 : Nat) : CA es [] #[] c2 := ⟨(fun _ h => nomatch h), (fun _ h => nomatch h), List.nodup_nil, List.nodup_nil, fun k => ⟨fun h => (nomatch h), fun ⟨e, _, _, h⟩ => by simp at h⟩⟩
theorem CA.start (es : List ((Nat × KeyP) × Int)) : CA es [] #[] 0 := ⟨(fun _ h => nomatch h), (fun _ h => nomatch h), List.nodup_nil, List.nodup_nil, fun k => ⟨fun h => (nomatch h), fun ⟨e, _, _, h⟩ => by simp at h⟩⟩
theorem nodup_key {α β : Type} {f : α → β} : ∀ {l : List α} {a b : α}, (l.map f).Nodup → a ∈ l → b ∈ l → f a = f b → a = b
 | x :: t, a, b, hn, ha, hb, h => by
  rw [List.map_cons, List.nodup_cons] at hn
  rcases List.mem_cons.1 ha with e1 | h1
  ·rcases List.mem_cons.1 hb with e2 | h2
   ·rw [e1, e2]
   ·rw [e1] at h
    exact absurd (h ▸ List.mem_map_of_mem h2) hn.1
  ·rcases List.mem_cons.1 hb with e2 | h2
   ·rw [e2] at h
    exact absurd (h ▸ List.mem_map_of_mem h1) hn.1
   ·exact nodup_key hn.2 h1 h2 h
section
variable {es es2 : List ((Nat × KeyP) × Int)} {seen : Array Nat} {c c2 : Nat} {L : List S32} {e : (Nat × KeyP) × Int}
theorem CA.fresh (h : CA es es2 seen c2) (hk : (es.map (·.1.2)).Nodup) (he : e ∈ es) (hs : seen.contains e.1.1 = false) : e.1.2 ∉ es2.map (·.1.2) := fun hm => by
 obtain ⟨e', he', h1, h2⟩ := (h.mem _).1 hm
 rw [nodup_key (f := fun e : (Nat × KeyP) × Int => e.1.2) hk he' he h1, hs] at h2
 exact Bool.false_ne_true h2
theorem CA.more (h : CA es es2 seen c2) (hk : (es.map (·.1.2)).Nodup) (hb : (es.map (·.1.1)).Nodup) (he : e ∈ es) (hs : seen.contains e.1.1 = false) : CA es (es2 ++ [((c2, e.1.2), 1)]) (seen.push e.1.1) (c2 + 1) := by
 have hf := h.fresh hk he hs
 refine ⟨fun x hx => ?_, fun x hx => ?_, ?_, ?_, fun k => ?_⟩
 ·rcases List.mem_append.1 hx with hx | hx
  ·exact h.ones x hx
  ·rw [List.mem_singleton.1 hx]
 ·rcases List.mem_append.1 hx with hx | hx
  ·exact Nat.lt_succ_of_lt (h.born x hx)
  ·rw [List.mem_singleton.1 hx]; exact Nat.lt_succ_self _
 ·rw [List.map_append]
  refine List.nodup_append.2 ⟨h.nd, by simp, fun a ha b hb' => ?_⟩
  simp only [List.map_cons, List.map_nil, List.mem_singleton] at hb'
  subst hb'
  intro q
  exact hf (q ▸ ha)
 ·rw [List.map_append]
  refine List.nodup_append.2 ⟨h.bn, by simp, fun a ha b hb' => ?_⟩
  simp only [List.map_cons, List.map_nil, List.mem_singleton] at hb'
  subst hb'
  obtain ⟨x, hx, rfl⟩ := List.mem_map.1 ha
  exact Nat.ne_of_lt (h.born x hx)
 ·rw [List.map_append, List.mem_append, h.mem k, List.map_cons, List.map_nil, List.mem_singleton]
  constructor
  ·rintro (⟨x, hx, h1, h2⟩ | h1)
   ·exact ⟨x, hx, h1, by simp at h2 ⊢; exact .inl h2⟩
   ·exact ⟨e, he, h1.symm, by simp⟩
  ·rintro ⟨x, hx, h1, h2⟩
   simp at h2
   rcases h2 with h2 | h2
   ·exact .inl ⟨x, hx, h1, by simpa using h2⟩
   ·right
    rw [← h1, nodup_key (f := fun e : (Nat × KeyP) × Int => e.1.1) hb hx he h2]
theorem CA.done (h : CA es es2 seen c2) (hM : MapOk es c L) (hall : ∀ e ∈ es, seen.contains e.1.1 = true) : MapOk es2 c2 L :=
 ⟨h.born, h.ones, h.nd, hM.once, fun k => by
  rw [← hM.mem k, h.mem k]
  constructor
  ·rintro ⟨e, he, h1, _⟩
   rw [← h1]
   exact List.mem_map_of_mem (f := fun e : (Nat × KeyP) × Int => e.1.2) he
  ·intro hk
   obtain ⟨e, he, h1⟩ := List.mem_map.1 hk
   exact ⟨e, he, h1, hall e he⟩, h.bn⟩
end
def seenAt (w : World) (r : Nat) : Array Nat := match w.heap[r]? with | some (.mapIter _ _ s _) => s | _ => #[]
theorem seenAt_of {w : World} {r a b : Nat} {s : Array Nat} {m : Option Nat} (h : w.heap[r]? = some (.mapIter m a s b)) : seenAt w r = s := by unfold seenAt; rw [h]
def leftN (es : List ((Nat × KeyP) × Int)) (seen : Array Nat) : Nat := (es.filter (fun e => !seen.contains e.1.1)).length
theorem leftN_lt {es : List ((Nat × KeyP) × Int)} {seen : Array Nat} {e : (Nat × KeyP) × Int} (he : e ∈ es) (hs : seen.contains e.1.1 = false) : leftN es (seen.push e.1.1) < leftN es seen := by
 unfold leftN
 have h1 : es.filter (fun x => !(seen.push e.1.1).contains x.1.1) = (es.filter (fun x => !seen.contains x.1.1)).filter (fun x => !(x.1.1 == e.1.1)) := by
  rw [List.filter_filter]
  refine List.filter_congr (fun x _ => ?_)
  by_cases hx : x.1.1 = e.1.1 <;> simp [hx]
 rw [h1]
 have hm : e ∈ es.filter (fun x => !seen.contains x.1.1) := List.mem_filter.2 ⟨he, by rw [hs]; rfl⟩
 exact List.length_filter_lt_length_iff_exists.2 ⟨e, hm, by simp⟩
/-- The copy's memory. -/
structure CI (w wq : World) (g2 mb2 r mb : Nat) (room : Int) (A10 : Option Addr) (c10 : Nat) (L : List S32) (seen : Array Nat) (c : Nat) (es2 : List ((Nat × KeyP) × Int)) (c2 : Nat) : Prop where
 bel : Below w.heap.size w wq
 it : wq.heap[r]? = some (.mapIter (some mb) c seen c)
 blk : wq.heap[g2]? = some (.cells #[.int .i64 room, .slice A10 L.length c10, .map (some mb2)] 71 (0, 0))
 map : MapE wq mb2 es2 c2
 row : Kd.S k32 32 wq w.heap.size (fun k => w.heap.size ≤ k ∧ k ≠ g2 ∧ k ≠ mb2 ∧ k ≠ r) (.slice A10 L.length c10) L
theorem CI.move {w wq wz : World} {g2 mb2 r mb : Nat} {room : Int} {A10 : Option Addr} {c10 : Nat} {L : List S32} {seen seen' : Array Nat} {c : Nat} {es2 es3 : List ((Nat × KeyP) × Int)} {c2 c3 : Nat}
  (h : CI w wq g2 mb2 r mb room A10 c10 L seen c es2 c2) (hr : w.heap.size ≤ r) (hm2 : w.heap.size ≤ mb2) (hne : g2 ≠ r) (hne2 : g2 ≠ mb2) (hk : Kept wq wz (fun k => k = r ∨ k = mb2)) (hit : wz.heap[r]? = some (.mapIter (some mb) c seen' c)) (hm : MapE wz mb2 es3 c3) : CI w wz g2 mb2 r mb room A10 c10 L seen' c es3 c3 :=
 ⟨((Kept.of_below h.bel (fun k => w.heap.size ≤ k)).then_ hk (fun k hk => .inl (by rcases hk with e | e <;> rw [e] <;> assumption))).to_below (fun _ h => h), hit, (hk.block g2 (blk_lt h.blk) (fun e => e.elim hne hne2)).trans h.blk, hm,
  Kd.S_step h.row (fun k hk1 hlt => hk.block k hlt (fun e => e.elim hk1.2.2.2 hk1.2.2.1))⟩
section
variable {o : Oper} {ops : Array Oper} {rest : List Oper} {a : Act} {Q : Exit → Act → World → Prop} {W W1 : World}
theorem stor_ev (hgd : o.guard = none) (hN : o.dst = none) (hrun : (execOp a.eval o).run Try.prog W = .ok .skip W1) (h : wpList Try.prog ops Q rest a W1) : wpList Try.prog ops Q (o :: rest) a W := by
 refine wpList_plain hgd fun K hK => ?_
 unfold Oper.wp
 rw [hrun]
 show K (a.put o.dst undef) _
 rw [hN]
 exact hK _ _ h
theorem range_ev (hgd : o.guard = none) {p : Operand} (ho : o.op = .range 69 p) {b c : Nat} {l : List ((Nat × KeyP) × Int)} (hp : a.eval p = .map (some b)) (hb : MapE W b l c) (h : wpList Try.prog ops Q rest (a.put o.dst (.pointer (some ⟨W.heap.size, 0, none⟩))) (W.alloc (.mapIter (some b) c #[] c))) : wpList Try.prog ops Q (o :: rest) a W :=
 Kd.event_run hgd (by
  have e : execOp a.eval o = (do let v ← Instr.range 69 (a.eval p); pure (.value v)) := by
   unfold execOp
   rw [ho]
  rw [e, hp]
  simp [run_range_map W 69 76 3 b _ c Try.underlying69 hb, Result.andThen]) h
theorem next_ev (hgd : o.guard = none) {p : Operand} (ho : o.op = .next p false) {r : Nat} {v : Value} (hp : a.eval p = .pointer (some ⟨r, 0, none⟩)) (hrun : (Instr.next (.pointer (some ⟨r, 0, none⟩)) false o.type).run Try.prog W = .ok v W1) (h : wpList Try.prog ops Q rest (a.put o.dst v) W1) : wpList Try.prog ops Q (o :: rest) a W :=
 Kd.event_run hgd (by
  have e : execOp a.eval o = (do let v ← Instr.next (a.eval p) false o.type; pure (.value v)) := by
   unfold execOp
   rw [ho]
  rw [e, hp]
  simp [hrun, Result.andThen]) h
theorem entry_ev (hgd : o.guard = none) {p : Operand} (ho : o.op = .entry p) {r : Nat} {v : Value} (hp : a.eval p = .pointer (some ⟨r, 0, none⟩)) (hrun : (Instr.entry (.pointer (some ⟨r, 0, none⟩))).run Try.prog W = .ok v W1) (h : wpList Try.prog ops Q rest (a.put o.dst v) W1) : wpList Try.prog ops Q (o :: rest) a W :=
 Kd.event_run hgd (by
  have e : execOp a.eval o = (do let v ← Instr.entry (a.eval p); pure (.value v)) := by
   unfold execOp
   rw [ho]
  rw [e, hp]
  simp [hrun, Result.andThen]) h
theorem upd_exec {ρ : Operand → Value} {m k' v' : Operand} {b c : Nat} {l : List ((Nat × KeyP) × Int)} {k : KeyP} {v : Int} (ho : o.op = .mapUpdate 69 m k' v') (hm : ρ m = .map (some b)) (hk : ρ k' = keyV k) (hv : ρ v' = .int .i64 v) (h : MapE W b l c) (hn : findP l k 0 = none) :
  (execOp ρ o).run Try.prog W = .ok .skip (W.putObj b (.map ((l ++ [((c, k), v)]).map entE).toArray (c + 1))) := by
 have e : execOp ρ o = (do Instr.mapUpdate 69 (ρ m) (ρ k') (ρ v'); pure .skip) := by
  unfold execOp
  rw [ho]
 rw [e, hm, hk, hv]
 simp [upd_run h k v hn, Result.andThen]
theorem info76 : (Try.prog.info? 76).map (fun i => (i.zero, i.size)) = some (some (.agg #[.int .i64 0, .int .i64 0]), 2) := by kernel_rfl
theorem store2_ev (t : TypeId) (hi : (Try.prog.info? t).map (fun i => (i.zero, i.size)) = some (some (.agg #[.int .i64 0, .int .i64 0]), 2)) (hgd : o.guard = none) (hN : o.dst = none) (x y : Int) {p q : Operand} (ho : o.op = .store t p q) {g : Nat} (hp : a.eval p = .pointer (some ⟨g, 0, none⟩)) (hq : a.eval q = .agg #[.int .i64 x, .int .i64 y]) {cs : Array Value} (hg : W.heap[g]? = some (.cells cs t (0, 0))) (hs : cs.size = 2)
  (h : ∀ w1, w1.heap[g]? = some (.cells #[.int .i64 x, .int .i64 y] t (0, 0)) → W.grownBy w1 (some g) → wpList Try.prog ops Q rest a w1) : wpList Try.prog ops Q (o :: rest) a W := by
 have hrun : (execOp a.eval o).run Try.prog W = .ok .skip (W.setRow g #[.int .i64 x, .int .i64 y]) := by
  have e : execOp a.eval o = (do Instr.storeAt t (a.eval p) (a.eval q); pure .skip) := by
   unfold execOp
   rw [ho]
  obtain ⟨i0, hi0, hzz⟩ := Option.map_eq_some_iff.1 hi
  simp only [Prod.mk.injEq] at hzz
  have hst := run_storeCells_at Try.prog g 0 t [.int .i64 x, .int .i64 y] 0 cs W hg (by rw [hs]; exact (Nat.le_refl 2 : 0 + 0 + 2 ≤ 2)) (by intro u hu; simp only [List.mem_cons, List.not_mem_nil, or_false] at hu; rcases hu with rfl | rfl <;> rfl)
  rw [show (cs.toList.take (0 + 0) ++ [Value.int .i64 x, Value.int .i64 y] ++ cs.toList.drop (0 + 0 + [Value.int .i64 x, Value.int .i64 y].length)).toArray = #[.int .i64 x, .int .i64 y] from by
   rw [List.drop_of_length_le (by rw [Array.length_toList, hs]; exact (Nat.le_refl 2 : 2 ≤ 0 + 0 + 2))]
   rfl] at hst
  have hcells : (Value.agg #[.int .i64 x, .int .i64 y]).cells = #[.int .i64 x, .int .i64 y] := rfl
  rw [e, hp, hq]
  simp [Instr.storeAt, Instr.sureAddr, storeVar, sizeOf, typeInfo, hi0, hzz.2, hcells, hst]
 exact stor_ev hgd hN hrun (h _ (setRow_heap W g cs _ t (0, 0) hg) ⟨rfl, rfl, rfl, by simp [World.setRow], fun k hk hne => setRow_other W g k _ (fun e => hne (by rw [e]))⟩)
end
/-- Behind the header's store. -/
structure CS (w w3 : World) (w1s g g2 mb2 mb : Nat) (room : Int) (A : Option Addr) (ch : Nat) (A10 : Option Addr) (c10 : Nat) (L : List S32) (es : List ((Nat × KeyP) × Int)) (c c2 : Nat) : Prop where
 bel : Below w.heap.size w w3
 src : w3.heap[g]? = some (.cells #[.int .i64 room, .slice A L.length ch, .map (some mb)] 71 (0, 0))
 smap : MapE w3 mb es c
 blk : w3.heap[g2]? = some (.cells #[.int .i64 room, .slice A10 L.length c10, .map (some mb2)] 71 (0, 0))
 map : MapE w3 mb2 [] c2
 row : Kd.S k32 32 w3 w.heap.size (fun k => w1s ≤ k ∧ k < w3.heap.size) (.slice A10 L.length c10) L
 ge : w.heap.size ≤ g2 ∧ g2 < w1s ∧ w.heap.size ≤ mb2 ∧ mb2 < w1s ∧ g2 ≠ mb2 ∧ w.heap.size ≤ w1s
theorem clone_set {w w1 w2 : World} {base : Nat} {P : Nat → Prop} {g mb c ch g2 mb2 c2 ch2 : Nat} {room : Int} {es es2 : List ((Nat × KeyP) × Int)} {A A2 A10 : Option Addr} {c10 : Nat} {L : List S32}
  (hO2 : BufO w1 w.heap.size (fun k => w.heap.size ≤ k) g2 room [] mb2 es2 c2 A2 ch2) (hb1 : Below w.heap.size w w1) (hb2 : Below w1.heap.size w1 w2)
  (hs : Kd.S k32 32 w2 w1.heap.size (fun k => w1.heap.size ≤ k ∧ w1.heap.size ≤ k ∧ k < w2.heap.size ∧ ∃ q, q ∈ 32 :: k32.E ∧ ∃ cells, w2.heap[k]? = some (.cells cells q (0, 0))) (.slice A10 L.length c10) L) (hO : BufO w base P g room L mb es c A ch) :
  CS w (w2.setCell ⟨g2, 1, none⟩ (.slice A10 L.length c10)) w1.heap.size g g2 mb2 mb room A ch A10 c10 L es c c2 := by
 have h2 := blk_lt hO2.blk
 have h2m : mb2 < w1.heap.size := blk_lt hO2.map
 have hb : Below w.heap.size w w2 := hb1.trans (hb2.mono hb1.size)
 have hg := blk_lt hO.blk
 have hm : mb < w.heap.size := blk_lt hO.map
 have he : es2 = [] := by
  rcases es2 with _ | ⟨e, t⟩
  ·rfl
  ·exact absurd ((hO2.ok.mem e.1.2).1 List.mem_cons_self) List.not_mem_nil
 subst he
 have hbg := hO2.bg
 refine ⟨below_set hb hO2.bg, (Mem.set_other _ _ _ g (fun e => by have e' : g = g2 := e; omega)).trans ((hb.block g hg).trans hO.blk), (Mem.set_other _ _ _ mb (fun e => by have e' : mb = g2 := e; omega)).trans ((hb.block mb hm).trans hO.map), blk_set (blk_below hO2.blk hb2) 1 _,
  (Mem.set_other _ _ _ mb2 (fun e => hO2.ne (show mb2 = g2 from e).symm)).trans ((hb2.block mb2 h2m).trans hO2.map), ?_, hO2.bg, h2, hO2.bm, h2m, hO2.ne, hb1.size⟩
 exact Kd.S_mono (Kd.S_lower (Kd.S_far hs (fun k hk e => by have e' : k = g2 := e; have := hk.1; omega) _) hb1.size) (fun k hk => ⟨hk.1, by rw [Mem.set_size]; exact hk.2.2.1⟩)
section
variable {w w3 : World} {w1s g g2 mb2 mb r ch c10 c c2 : Nat} {room : Int} {A A10 : Option Addr} {L : List S32} {es es2 : List ((Nat × KeyP) × Int)} {seen : Array Nat}
theorem CS.start (h : CS w w3 w1s g g2 mb2 mb room A ch A10 c10 L es c c2) (hr : w3.heap.size = r) : CI w (w3.alloc (.mapIter (some mb) c #[] c)) g2 mb2 r mb room A10 c10 L #[] c [] c2 :=
 ⟨below_alloc h.bel _, by rw [← hr]; exact heap_alloc_new _ _, blk_alloc h.blk _, Mem.alloc_old h.map _, Kd.S_mono (Kd.S_alloc h.row _) (fun k hk => by have := h.ge; refine ⟨?_, ?_, ?_, ?_⟩ <;> omega)⟩
structure CF (w : World) (r g2 mb2 : Nat) : Prop where
 hr : w.heap.size ≤ r
 hg : w.heap.size ≤ g2
 hm : w.heap.size ≤ mb2
 n1 : g2 ≠ r
 n2 : g2 ≠ mb2
 n3 : r ≠ mb2
theorem CS.far (h : CS w w3 w1s g g2 mb2 mb room A ch A10 c10 L es c c2) (hr : w3.heap.size = r) : CF w r g2 mb2 := by
 have h1 := blk_lt h.blk
 have h2 : mb2 < w3.heap.size := blk_lt h.map
 have h3 := h.ge
 have h4 := h.bel.size
 refine ⟨?_, ?_, ?_, ?_, ?_, ?_⟩ <;> omega
/-- Behind the step. -/
structure CN (wq w2 : World) (r mb : Nat) (seen : Array Nat) (c : Nat) : Prop where
 kept : Kept wq w2 (fun k => k = r)
 it' : w2.heap[r]? = some (.mapIter (some mb) c seen c)
theorem CI.next {wq W1 : World} (h : CI w wq g2 mb2 r mb room A10 c10 L seen c es2 c2) (hf : CF w r g2 mb2) (hW : W1 = wq ∨ W1 = wq.drew) {b : Nat} : CN wq (W1.putObj r (.mapIter (some mb) c (seen.push b) c)) r mb (seen.push b) c := by
 have hlt : r < wq.heap.size := blk_lt h.it
 rcases hW with rfl | rfl
 ·exact ⟨(Kept.refl _ _).putObj r _ (.inl rfl), putObj_at _ _ _ hlt⟩
 ·exact ⟨(Kept.refl _ _).drew.putObj r _ (.inl rfl), putObj_at _ _ _ hlt⟩
theorem CN.src {wq w2 : World} {seen' : Array Nat} {base : Nat} {P : Nat → Prop} (h : CN wq w2 r mb seen' c) (hI : CI w wq g2 mb2 r mb room A10 c10 L seen c es2 c2) (hO : BufO w base P g room L mb es c A ch) (hr : w.heap.size ≤ r := by exact ‹Aside0 (CF _ _ _ _)›.out.hr) : MapE w2 mb es c := by
 have hm : mb < w.heap.size := blk_lt hO.map
 exact (h.kept.block mb (Nat.lt_of_lt_of_le hm hI.bel.size) (fun e => by have e' : mb = r := e; omega)).trans ((hI.bel.block mb hm).trans hO.map)
end
set_option maxHeartbeats 8000000 in
set_option maxRecDepth 100000 in
theorem clone_calls {w : World} {base : Nat} {P : Nat → Prop} {g : Nat} {room : Int} {L : List S32} (hB : BufI w base P g room L) (hr0 : 0 ≤ room) (hr1 : room ≤ 256) (hn : L.length < 1000) (h64 : ∀ y ∈ L, y.f2.length ≤ 64) :
  Calls Try.prog 27 #[.pointer (some ⟨g, 0, none⟩)] w fun e w' => ∃ g2, e = .returned (.pointer (some ⟨g2, 0, none⟩)) ∧ BufI w' w.heap.size (fun k => w.heap.size ≤ k) g2 room L ∧ Below w.heap.size w w' := by
 obtain ⟨mb, es, c, A, ch, hO⟩ := hB.opened
 have HBU := Aside0.mk hB
 have HO := Aside0.mk hO
 have HN := Aside0.mk hn
 have H64 := Aside0.mk h64
 have HNEW := Aside0.mk (new_calls w room hr0 hr1)
 have q0 : w.cell? ⟨g, 0, none⟩ = some (.int .i64 room) := (blk_cell hO.blk 0).trans rfl
 clear hB hn h64 hr0 hr1 hO
 go_enter Try.func27, Try.ntmps27
 go_wp2_with (first | (go_at_call 11; refine HNEW.out.mono ?_; rintro e w1 ⟨g2, rfl, hbn, hb1⟩; obtain ⟨mb2, es2, c2, A2, ch2, hO2⟩ := hbn.opened; have HO2 := Aside0.mk hO2; have HB1 := Aside0.mk hb1; have HBU1 := Aside0.mk (HBU.out.below hb1); clear hbn hb1 hO2) | (go_at_call 22; refine (held_calls HBU1.out HN.out H64.out).mono ?_; rintro e w2 ⟨v10, rfl, hs10, hb2⟩; obtain ⟨A10, c10, rfl⟩ := Kd.S_slice hs10; have HS10 := Aside0.mk (Kd.S_bound hs10); have HB2 := Aside0.mk hb2; clear hs10 hb2; have hx := blk_below HO2.out.blk HB2.out; have q1 : w2.cell? ⟨g2, 1, none⟩ = some (.slice A2 ([] : List S32).length ch2) := (blk_cell hx 1).trans rfl; have q3 := blk_frozen hx 1; clear hx) | ((with_reducible refine gate_store (t := 22) (p := 21) (v := .tmp 19) rfl ?_); refine stor_ev rfl rfl (W1 := w2.setCell ⟨g2, 1, none⟩ (.slice A10 L.length c10)) ?hr ?_; (case hr => go_simp); clear q1 q3; have HC := Aside0.mk (clone_set HO2.out HB1.out HB2.out HS10.out HO.out); clear HS10 HO2; generalize w2.setCell ⟨g2, 1, none⟩ (.slice A10 L.length c10) = w3 at *; have q2 : w3.cell? ⟨g, 2, none⟩ = some (.map (some mb)) := (blk_cell HC.out.src 2).trans rfl) | ((with_reducible refine gate_dst (N := 26) rfl ?_); refine range_ev rfl rfl rfl HC.out.smap ?_; clear q2; obtain ⟨r, hr⟩ : ∃ r, w3.heap.size = r := ⟨_, rfl⟩; have HCI := Aside0.mk (HC.out.start hr); have HRR := Aside0.mk (HC.out.far hr); rw [hr]; generalize w3.alloc (.mapIter (some mb) c #[] c) = w4 at *; clear hr))
 simp only [Act.put, List.setIfInBounds_toArray, List.set_cons_succ, List.set_cons_zero]
 clear HC HB1 HB2 HBU1 q0
 go_loopw [5, 6] (fun v5 v6 wq => ∃ (seen : Array Nat) (es3 : List ((Nat × KeyP) × Int)) (c3 : Nat), Aside0 (CI w wq g2 mb2 r mb room A10 c10 L seen c es3 c3) ∧ Aside0 (CA es es3 seen c3)) (fun _ _ wq => leftN es (seenAt wq r))
 case atStart => exact ⟨#[], [], _, HCI, ⟨CA.start' es _⟩⟩
 case round =>
  clear HCI
  obtain ⟨seen, es2, c2, HCI, HCA⟩ := hrel
  obtain ⟨wo, rfl⟩ : ∃ wo, wo = wr := ⟨wr, rfl⟩
  have HSM : Aside0 (MapE wo mb es c) := ⟨(HCI.out.bel.block mb (blk_lt HO.out.map)).trans HO.out.map⟩
  rcases next_ent HCI.out.it HSM.out HO.out.ok.born (Nat.le_refl _) 0 with ⟨hall, hrun⟩ | ⟨e, he, hns, W1, hW1, hrun⟩
  ·have HRUN := Aside0.mk hrun
   have HM := Aside0.mk (HCA.out.done HO.out.ok hall)
   clear hall hrun
   go_wp2_with (first | ((with_reducible refine gate_dst (N := 27) rfl ?_); refine next_ev rfl rfl rfl HRUN.out ?_))
   go_ret
   exact ⟨g2, rfl, ⟨mb2, es2, c2, A10, c10, HCI.out.blk, HRR.out.hg, HRR.out.hg, HRR.out.hm, HRR.out.hm, HCI.out.map, HM.out, Kd.S_mono HCI.out.row (fun k hk => ⟨hk.1, hk.2.1⟩)⟩, HCI.out.bel⟩
  ·obtain ⟨⟨eb, ka, kb⟩, ev⟩ := e
   obtain rfl : ev = 1 := HO.out.ok.ones _ he
   have HRUN : Aside0 ((Instr.next (.pointer (some ⟨r, 0, none⟩)) false 0).run Try.prog wo = .ok (.tuple #[.bool true, .agg #[.int .i64 ka, .int .i64 kb], .int .i64 1]) (W1.putObj r (.mapIter (some mb) c (seen.push eb) c))) := ⟨hrun⟩
   have HE := Aside0.mk he
   have HBN := Aside0.mk HO.out.ok.bn
   have HMORE : Aside0 (CA es (es2 ++ [((c2, (ka, kb)), 1)]) (seen.push eb) (c2 + 1)) := ⟨HCA.out.more HO.out.ok.nodup HO.out.ok.bn he hns⟩
   have HFN0 : Aside0 (findP es2 (ka, kb) 0 = none) := ⟨findP_none (HCA.out.fresh HO.out.ok.nodup he hns)⟩
   have HDEC : Aside0 (leftN es (seen.push eb) < leftN es seen) := ⟨leftN_lt he hns⟩
   clear he hns hrun HCA
   go_wp2_with (first | ((with_reducible refine gate_dst (N := 27) rfl ?_); refine next_ev rfl rfl rfl HRUN.out ?_; have HX1 := Aside0.mk (CI.next HCI.out HRR.out hW1 (b := eb)); generalize W1.putObj r (.mapIter (some mb) c (seen.push eb) c) = w2 at HX1 ⊢; clear hW1 HRUN) | ((with_reducible refine gate_dst (N := 29) rfl ?_); refine entry_ev rfl rfl rfl (entry_ent HX1.out.it' (HX1.out.src HCI.out HO.out) HE.out HBN.out) ?_) | ((with_reducible refine gate_dst (N := 5) rfl ?_); refine box_event ?hg (N := 5) ?hd (cs := #[.int .i64 0, .int .i64 0]) (t := 76) ?hr ?_; (case hd => rfl); (case hg => rfl); (case hr => first | (go_simp; done) | (go_simp; rfl)); intro gk hr_ w5 hbox hb; have HXK0 := Aside0.mk hbox; have HBK := Aside0.mk hb; have HGK := Aside0.mk (Nat.le_of_eq hr_.symm); clear hbox hb hr_) | ((with_reducible refine gate_store (t := 76) (p := 5) (v := .tmp 30) rfl ?_); refine store2_ev 76 info76 rfl rfl ka kb (p := .tmp 5) (q := .tmp 30) rfl (g := gk) rfl rfl HXK0.out rfl ?_; intro ws hb_ hg_; have HXK := Aside0.mk hb_; have HGS := Aside0.mk hg_; clear hb_ hg_ HXK0))
   have hk1 : Kept wo ws (fun k => k = r) := Kept.of_grown HGS.out (HX1.out.kept.below HBK.out) (fun k hk => by injection hk with hk; rw [← hk]; exact .inr (Nat.le_trans HX1.out.kept.size HGK.out))
   have hrl := blk_lt HX1.out.it'
   have hit : ws.heap[r]? = some (.mapIter (some mb) c (seen.push eb) c) := (HGS.out.block r (Nat.lt_of_lt_of_le hrl HBK.out.size) (fun h => by injection h with h; have := HGK.out; omega)).trans ((HBK.out.block r hrl).trans HX1.out.it')
   have HX2 := Aside0.mk ((hk1.block g2 (blk_lt HCI.out.blk) HRR.out.n1).trans HCI.out.blk)
   have hm2 : MapE ws.drew mb2 es2 c2 := (hk1.block mb2 (blk_lt HCI.out.map) (fun e => HRR.out.n3 e.symm)).trans HCI.out.map
   have HM2 := Aside0.mk hm2
   have HFN := HFN0
   have HNE : Aside0 (g2 ≠ mb2 ∧ gk ≠ mb2) := ⟨HRR.out.n2, fun e => by have h1_ := HGK.out; have h2_ := HX1.out.kept.size; have h3_ : mb2 < wo.heap.size := blk_lt HCI.out.map; omega⟩
   have HK1 := Aside0.mk hk1
   have HIT := Aside0.mk hit
   clear hk1 hrl hit hm2 HGS HBK
   refine start_ (n := 7) (S := (fun w' => w'.heap[g2]? = some (.cells #[.int .i64 room, .slice A10 L.length c10, .map (some mb2)] 71 (0, 0)) ∧ w'.heap[gk]? = some (.cells #[.int .i64 ka, .int .i64 kb] 76 (0, 0)))) (ds := []) #[false, false, false, false, false, false, false] (by kernel_rfl) rfl rfl (⟨blk_drew HX2.out, blk_drew HXK.out⟩) (fun hHeld => ?_)
   refine with_tabW cln.tab8 cln.bits8 (fun HT_ HW_ => ?_)
   refine pureS (i := 0) (N := (some 32)) #[true, false, false, false, false, false, false] HT_ ?_
   refine pureS (i := 1) (N := (some 33)) #[true, true, false, false, false, false, false] HT_ ?_
   refine pureS (i := 2) (N := (some 34)) #[true, true, true, false, false, false, false] HT_ ?_
   refine pureS (i := 5) (N := (some 37)) #[true, true, true, false, false, true, false] HT_ ?_
   refine take_ (i := 3) (N := (some 35)) (v := ?_) (a' := ?_) #[true, true, true, true, false, true, false] rfl rfl (take_ofW HT_.out HW_.out (by kernel_rfl)) (fun _ _ _ h => h) (Or.inl ⟨by rfl, ?_⟩) hHeld ?_ ?_
   rotate_left
   ·rintro w' ⟨s0, s1⟩
    have f : w'.cell? ⟨g2, 2, none⟩ = some (.map (some mb2)) := (blk_cell s0 2).trans rfl
    go_simp
    with_reducible rfl
   rotate_left
   ·simp only [Act.put, List.setIfInBounds_toArray, List.set_cons_zero, List.set_cons_succ, i64_w, i32_w]
    rfl
   refine take_ (i := 4) (N := (some 36)) (v := ?_) (a' := ?_) #[true, true, true, true, true, true, false] rfl rfl (take_ofW HT_.out HW_.out (by kernel_rfl)) (fun _ _ _ h => h) (Or.inl ⟨by rfl, ?_⟩) hHeld ?_ ?_
   rotate_left
   ·rintro w' ⟨s0, s1⟩
    have f0 : w'.cell? ⟨gk, 0, none⟩ = some (.int .i64 ka) := (blk_cell s1 0).trans rfl
    have f1 : w'.cell? ⟨gk, 1, none⟩ = some (.int .i64 kb) := (blk_cell s1 1).trans rfl
    go_simp
    with_reducible rfl
   rotate_left
   ·simp only [Act.put, List.setIfInBounds_toArray, List.set_cons_zero, List.set_cons_succ, i64_w, i32_w]
    rfl
   refine one_ (i := 6) (N := none) #[true, true, true, true, true, true, true] rfl rfl (one_of HT_.out (by kernel_rfl)) (by decide) (fun K hK => ?_)
   have hH := hHeld
   refine skip_ (w1 := _) (by rfl) rfl (upd_exec (b := mb2) (k := (ka, kb)) (v := 1) rfl rfl rfl rfl HM2.out HFN.out) ?_
   have hS : (fun w' => w'.heap[g2]? = some (.cells #[.int .i64 room, .slice A10 L.length c10, .map (some mb2)] 71 (0, 0)) ∧ w'.heap[gk]? = some (.cells #[.int .i64 ka, .int .i64 kb] 76 (0, 0))) ((ws.drew).putObj mb2 (.map ((es2 ++ [((c2, (ka, kb)), 1)]).map entE).toArray (c2 + 1))) := ⟨(putObj_other _ _ _ _ HNE.out.1).trans hHeld.1, (putObj_other _ _ _ _ HNE.out.2).trans hHeld.2⟩
   clear hH hHeld
   refine hK.out _ _ (hS) (fun hHeld => ?_)
   clear hK K
   refine done_ (done_of HT_.out (by kernel_rfl)) ?_
   try go_wp2
   have hit2 : (ws.drew.putObj mb2 (.map ((es2 ++ [((c2, (ka, kb)), 1)]).map entE).toArray (c2 + 1))).heap[r]? = some (.mapIter (some mb) c (seen.push eb) c) := (putObj_other _ _ _ _ HRR.out.n3).trans HIT.out
   exact ⟨⟨seen.push eb, _, _, ⟨HCI.out.move HRR.out.hr HRR.out.hm HRR.out.n1 HRR.out.n2 ((HK1.out.mono (fun k hk => .inl hk)).drew.putObj mb2 _ (.inl (.inr rfl))) hit2 (putObj_at _ _ _ (blk_lt HM2.out))⟩, HMORE⟩, by rw [seenAt_of hit2, seenAt_of HCI.out.it]; exact HDEC.out⟩
end Go.Proofs.Ytnopjjilpgekfaa.PCa
namespace Go.Proofs.Ytnopjjilpgekfaa.PCa
open Go.RowKit Go.Proofs.YtnopjjilpgekfaaW.PrintWords Go.Proofs.YtnopjjilpgekfaaW.PrintLast Go.Proofs.YtnopjjilpgekfaaW.PrintMore
set_option linter.unusedVariables false
set_option linter.unusedSimpArgs false
theorem relF_sub : ∀ (n : Nat) (now : List Int) (out left : List S32) (y : S32), y ∈ (relF n now out left).1 ∨ y ∈ (relF n now out left).2 → y ∈ out ∨ y ∈ left
 | 0, _, _, _, _, h => h
 | n + 1, now, out, left, y, h => by
  unfold relF at h
  by_cases h0 : 0 ≤ nextI now left 0
  ·rw [if_pos h0] at h
   obtain ⟨j, hj, hje⟩ := next_lt now left 0 h0
   rw [Nat.zero_add] at hje
   rw [hje] at h
   rcases relF_sub n _ _ _ y h with h | h
   ·rcases List.mem_append.1 h with h | h
    ·exact .inl h
    ·rw [List.mem_singleton.1 h]
     exact .inr (List.mem_of_getElem? (rd32_at hj))
   ·exact .inr (List.mem_of_mem_eraseIdx h)
  ·rw [if_neg h0] at h
   exact h
end Go.Proofs.Ytnopjjilpgekfaa.PCa
namespace Go.Proofs.Ytnopjjilpgekfaa.PCa
open Go.RowKit Go.Proofs.YtnopjjilpgekfaaW.PrintWords Go.Proofs.YtnopjjilpgekfaaW.PrintLast Go.Proofs.YtnopjjilpgekfaaW.PrintMore
attribute [local go_sem] max2_int min2_int max_two min_two max_three min_three max_four min_four
set_option linter.unusedVariables false
set_option linter.unusedSimpArgs false
/-- A change that comes, and the clock with which. -/
structure S58 where
 f0 : Int
 f1 : List Int
 f2 : S32
def z58 : S58 := ⟨0, [], z32⟩
def k58 : Kd S58 := Kd.iso (Kd.pair (Kd.int .i64) (Kd.pair (Kd.slice 3 (Kd.int .i64)) k32)) (fun x : S58 => (x.f0, x.f1, x.f2))
theorem k58_open {w : World} {x : S58} {cs : List Value} (h : k58.K w x cs) : ∃ Ak ck A3 c3, cs = .int .i64 x.f0 :: .slice Ak x.f1.length ck :: chL x.f2 (.slice A3 x.f2.f2.length c3) ∧ x.f1.length ≤ ck ∧ (Kd.int .i64).C w Ak x.f1.length x.f1 ∧ x.f2.f2.length ≤ c3 ∧ (Kd.int .i64).C w A3 x.f2.f2.length x.f2.f2 := by
 obtain ⟨_, _, rfl, rfl, ⟨_, _, rfl, ⟨Ak, ck, rfl, lk, gk⟩, s⟩⟩ := h
 obtain ⟨A3, c3, rfl, l3, g3⟩ := k32_open s
 exact ⟨Ak, ck, A3, c3, rfl, lk, gk, l3, g3⟩
def rd58 (l : List S58) (i : Nat) : S58 := l.getD i z58
theorem rd58_at {l : List S58} {j : Nat} (h : j < l.length) : rd58 l j ∈ l := by
 unfold rd58
 rw [List.getD_eq_getElem?_getD, List.getElem?_eq_getElem h, Option.getD_some]
 exact List.getElem_mem h
theorem elem58 {w : World} {A1 : Option Addr} {l : List S58} (hl : Kd.C k58 w A1 l.length l) {i : Nat} (hi : i < l.length) :
  ∃ ad Ak ck A3 c3, A1 = some ad ∧ (∀ W, Below w.heap.size w W → W.cell? (ad.add (i * 15)) = some (.int .i64 (rd58 l i).f0) ∧ W.cell? ⟨(ad.add (i * 15)).block, (ad.add (i * 15)).off + 1, none⟩ = some (.slice Ak (rd58 l i).f1.length ck) ∧ ∀ j u, (chL (rd58 l i).f2 (.slice A3 (rd58 l i).f2.f2.length c3))[j]? = some u → W.cell? ((⟨(ad.add (i * 15)).block, (ad.add (i * 15)).off + 2, none⟩ : Addr).add j) = some u) ∧
   (rd58 l i).f1.length ≤ ck ∧ (Kd.int .i64).C w Ak (rd58 l i).f1.length (rd58 l i).f1 ∧ (rd58 l i).f2.f2.length ≤ c3 ∧ (Kd.int .i64).C w A3 (rd58 l i).f2.f2.length (rd58 l i).f2.f2 := by
 obtain ⟨ad, c, e, hcl, hK, hcc⟩ := Kd.C_get hl z58 (i : Int) (by omega) (by omega)
 rw [Int.toNat_natCast] at hK hcc
 obtain ⟨Ak, ck, A3, c3, rfl, lk, gk, l3, g3⟩ := k58_open hK
 refine ⟨ad, Ak, ck, A3, c3, e, fun W hb => ⟨?_, ?_, fun j u hj => ?_⟩, lk, gk, l3, g3⟩
 ·have h := hcc 0 _ rfl
  exact (hb.cell (World.block_lt_of_cell? w _ h)).trans h
 ·have h := hcc 1 _ rfl
  have h2 := (hb.cell (World.block_lt_of_cell? w _ h)).trans h
  rw [add_field _ _ 1 (by omega)] at h2
  exact h2
 ·have h := hcc (j + 2) u hj
  have h2 := (hb.cell (World.block_lt_of_cell? w _ h)).trans h
  rw [add_field _ _ (j + 2) (by omega)] at h2
  rw [add_at, show (ad.add (i * 15)).off + 2 + j = (ad.add (i * 15)).off + (j + 2) from by omega]
  exact h2
theorem stale_eq (known : List Int) (l : List S32) : (if chkC known = 0 then (l.length : Int) - ((l.filter (fun x => !withinX known x)).length : Int) else 0) = (l.length : Int) - ((staleF known l).length : Int) := by
 unfold staleF
 split
 ·rfl
 ·rw [Int.sub_self]
theorem stale_len (known : List Int) (l : List S32) : (staleF known l).length ≤ l.length := by
 unfold staleF
 split
 ·exact List.length_filter_le _ _
 ·exact Nat.le_refl _
theorem stale_good {known : List Int} {l : List S32} (h : Good l) : Good (staleF known l) := by
 unfold staleF
 split
 ·exact h.filter _
 ·exact h
theorem same02_big (l : List Int) : ∀ (n i k : Nat), i + n = l.length → l.length < 4611686018427387904 → n < k → topiaryref02_Same.l0 k l l (i : Int) = some true := by
 intro n
 induction n with
 | zero =>
  intro i k hi hl hk
  obtain ⟨k, rfl⟩ : ∃ m, k = m + 1 := ⟨k - 1, by omega⟩
  rw [topiaryref02_Same.l0, if_neg (by omega)]
 | succ n ih =>
  intro i k hi hl hk
  obtain ⟨k, rfl⟩ : ∃ m, k = m + 1 := ⟨k - 1, by omega⟩
  rw [topiaryref02_Same.l0, if_pos (by omega), if_pos (by omega), if_pos (by omega), if_pos rfl, w1s (by omega)]
  exact ih (i + 1) k (by omega) hl (by omega)
theorem same02_is (l : List Int) (hl : l.length < 4611686018427387904) : topiaryref02_Same.f (l.length + 1) l l = some true := by
 unfold topiaryref02_Same.f
 rw [if_pos rfl]
 exact same02_big l l.length 0 _ (by omega) hl (by omega)
/-- An own row of deps, written over. -/
theorem deps_elem {w : World} {base : Nat} {O : Nat → Prop} {A3 : Option Addr} {c3 : Nat} {d : List Int} (h : (Kd.int .i64).R 3 w base O (.slice A3 d.length c3) d) : ∀ i, i < d.length → ∃ g3, A3 = some ⟨g3, 0, none⟩ ∧ O g3 ∧ ∀ W, Sp w W O → ∃ (cs : Array Value) (v : Value), W.heap[g3]? = some (.cells cs 3 (0, 0)) ∧ W.cell? ⟨g3, i, none⟩ = some v ∧ W.frozen? ⟨g3, i, none⟩ = false := by
 intro i hi
 obtain ⟨h0, inner, ho, hr⟩ := h
 rcases ho.2 with ⟨hv, hn⟩ | ⟨g3, cap, cur, hv, hb, hh, hn, hcap, hsz, htk⟩
 ·injection hv with _ hv _
  omega
 ·injection hv with ha hn2 hc2
  subst ha
  refine ⟨g3, rfl, h0 g3 rfl, fun W hW => ?_⟩
  obtain ⟨cs', e1, e2⟩ := hW.row g3 cur (0, 0) hh
  have hlt : i < cs'.size := by
   have : (Kd.int .i64).sz = 1 := rfl
   rw [e2, hsz, this]
   omega
  exact ⟨cs', cs'[i], e1, (Mem.cell_of e1 i).trans (Array.getElem?_eq_getElem hlt), Mem.free_of e1 i⟩
/-- The law's memory: the buffer x (list L, blocks P), the document's one (g7; list Y). -/
structure TI (w W : World) (g7 g : Nat) (room : Int) (L : List S32) (P : Nat → Prop) (Y : List S32) (Ay : Option Addr) (cy : Nat) : Prop where
 bi : BI w W g room L P
 p7 : ¬ P g7
 l7 : w.heap.size ≤ g7
 h7 : W.heap[g7]? = some (.cells (bA room (.slice Ay Y.length cy)) 52 (0, 0))
 hv : Kd.V k32 32 W w.heap.size (fun k => ¬ P k ∧ k ≠ g7 ∧ k < W.heap.size) (.slice Ay Y.length cy) Y
section
variable {w W W1 W2 : World} {g7 g g2 : Nat} {room : Int} {L L1 Y Y1 : List S32} {P P' O S : Nat → Prop} {Ay A1 : Option Addr} {cy c1 : Nat}
theorem TI.below (h : TI w W g7 g room L P Y Ay cy) (hb : Below W.heap.size W W1) : TI w W1 g7 g room L P Y Ay cy :=
 ⟨h.bi.below hb, h.p7, h.l7, blk_below h.h7 hb, Kd.V_mono (Kd.V_below h.hv hb) (fun k hk => ⟨hk.1, hk.2.1, Nat.lt_of_lt_of_le hk.2.2 hb.size⟩)⟩
/-- The document's buffer is another one. -/
theorem TI.set (h : TI w W g7 g room L P Y Ay cy) (hb : Below W.heap.size W W1) (hv : Kd.V k32 32 W1 w.heap.size (fun k => ((¬ P k ∧ k ≠ g7 ∧ k < W.heap.size) ∨ k < w.heap.size) ∨ W.heap.size ≤ k) (.slice A1 Y1.length c1) Y1)
  (hg : W1.grownBy W2 (some g7)) (h7 : W2.heap[g7]? = some (.cells (bA room (.slice A1 Y1.length c1)) 52 (0, 0))) : TI w W2 g7 g room L P Y1 A1 c1 := by
 have h7' := blk_lt h.h7
 have hlb := h.l7
 have hk : Kept W1 W2 (fun k => k = g7) := ⟨hg.size, fun k hk hne => hg.block k hk (fun e => hne (by injection e)), hg.os, hg.tape, hg.output⟩
 have hbi := (h.bi.below hb).kept hk (fun k e hp => h.p7 (e ▸ hp)) (fun k e => by rw [e]; exact h.l7)
 refine ⟨hbi, h.p7, h.l7, h7, Kd.V_mono (Kd.V_kept (Kd.V_mono (Kd.V_bound hv) (ok' := fun k => (¬ P k ∧ k ≠ g7) ∧ k < W1.heap.size) (fun k hk => ⟨?_, hk.2⟩)) hk (fun k h1 e => h1.1.2 e)) (fun k h1 => ⟨h1.1.1, h1.1.2, Nat.lt_of_lt_of_le h1.2 hk.size⟩)⟩
 rcases hk.1 with (h1 | h1) | h1
 ·exact ⟨h1.1, h1.2.1⟩
 ·exact ⟨fun hp => by have := h.bi.lo k hp; omega, by omega⟩
 ·exact ⟨fun hp => by have := h.bi.hi k hp; omega, by omega⟩
/-- The buffer has turned. -/
theorem TI.turned (h : TI w W g7 g room L P Y Ay cy) (hbi : BI w W1 g2 room L1 P') (hk : Kept W W1 P) (hp : ∀ k, P' k → P k ∨ W.heap.size ≤ k) : TI w W1 g7 g2 room L1 P' Y Ay cy := by
 have old : ∀ k, k < W.heap.size → ¬ P k → ¬ P' k := fun k h1 h2 h3 => by rcases hp k h3 with h4 | h4; exact h2 h4; omega
 have hl7 := blk_lt h.h7
 exact ⟨hbi, old g7 hl7 h.p7, h.l7, (hk.block g7 hl7 h.p7).trans h.h7, Kd.V_mono (Kd.V_step h.hv (fun k hk1 _ => hk.block k hk1.2.2 hk1.1)) (fun k hk1 => ⟨old k hk1.2.2 hk1.1, hk1.2.1, Nat.lt_of_lt_of_le hk1.2.2 hk.size⟩)⟩
/-- Other blocks were written. -/
theorem TI.kept (h : TI w W g7 g room L P Y Ay cy) (hk : Kept W W1 S) (hlo : ∀ k, S k → w.heap.size ≤ k) (hS : ∀ k, S k → ¬ P k) (h7 : ¬ S g7) (hV : Kd.V k32 32 W w.heap.size (fun k => (¬ P k ∧ k ≠ g7 ∧ k < W.heap.size) ∧ ¬ S k) (.slice Ay Y.length cy) Y) : TI w W1 g7 g room L P Y Ay cy :=
 ⟨h.bi.kept hk hS hlo, h.p7, h.l7, (hk.block g7 (blk_lt h.h7) h7).trans h.h7, Kd.V_mono (Kd.V_kept hV hk (fun k h1 => h1.2)) (fun k h1 => ⟨h1.1.1, h1.1.2.1, Nat.lt_of_lt_of_le h1.1.2.2 hk.size⟩)⟩
/-- A buffer of its own. -/
theorem BI.cloned (h : BI w W g room L P) (hb : BufI W1 W.heap.size (fun k => W.heap.size ≤ k) g2 room L) (hw : Below W.heap.size W W1) : BI w W1 g2 room L (fun k => W.heap.size ≤ k ∧ k < W1.heap.size) := by
 have hs := h.bel.size
 refine ⟨?_, fun k hk => Nat.le_trans hs hk.1, fun k hk => hk.2, h.good, h.len, h.rm, h.bel.trans (hw.mono hs)⟩
 obtain ⟨mb, es, c, A, ch, h1, h2, h3, h4, h5, h6, h7, h8⟩ := hb.bound
 exact ⟨mb, es, c, A, ch, h1, by omega, h3, by omega, h5, h6, h7, Kd.S_lower h8 hs⟩
theorem BI.stale (h : BI w W g room L P) {known : List Int} (hb : BufI W1 w.heap.size P' g room (staleF known L)) (hp : ∀ k, P' k → P k) (hk : Kept W W1 P) : BI w W1 g room (staleF known L) P' :=
 ⟨hb, fun k hk1 => h.lo k (hp k hk1), fun k hk1 => Nat.lt_of_lt_of_le (h.hi k (hp k hk1)) hk.size, stale_good h.good, by have := stale_len known L; have := h.len; omega, h.rm, ((Kept.of_below h.bel P).then_ hk (fun k hk1 => .inl hk1)).to_below (fun k hk1 => h.lo k hk1)⟩
end
theorem relF_len1 : ∀ (n : Nat) (now : List Int) (out left : List S32), (relF n now out left).1.length ≤ out.length + n
 | 0, _, out, _ => Nat.le_refl _
 | n + 1, now, out, left => by
  rw [relF]
  split
  ·have h := relF_len1 n (tickC now (rd_T32 left (nextI now left 0)).f0.f1).1 (out ++ [rd_T32 left (nextI now left 0)]) (left.eraseIdx (nextI now left 0).toNat)
   rw [List.length_append, List.length_singleton] at h
   omega
  ·exact Nat.le_add_right _ _
/-- What comes is short enough to be compared. -/
theorem take_out64 {room : Int} {l : List S32} (hg : Good l) (hl : l.length < 1000) (known : List Int) (x : S32) : (∀ y ∈ (takeF room l known x).2.1, y.f2.length ≤ 64) ∧ (takeF room l known x).2.1.length < 90000 := by
 have h0 : (∀ y ∈ ([] : List S32), y.f2.length ≤ 64) ∧ ([] : List S32).length < 90000 := ⟨fun _ h => absurd h (List.not_mem_nil), by decide⟩
 unfold takeF
 split
 ·split
  ·rename_i c2
   split
   ·exact h0
   ·split
    ·refine ⟨fun y hy => ?_, ?_⟩
     ·rcases relF_sub l.length (tickC known x.f0.f1).1 [x] l y (.inl hy) with h | h
      ·rw [List.mem_singleton.1 h]
       exact (check_ok c2).2.2.2.2.2
      ·exact hg.len y h
     ·have h := relF_len1 l.length (tickC known x.f0.f1).1 [x] l
      rw [List.length_singleton] at h
      show (relF l.length (tickC known x.f0.f1).1 [x] l).1.length < 90000
      omega
    ·split
     ·exact h0
     ·exact h0
  ·exact h0
 ·exact h0
/-- The law's memory: the buffer b (list L, blocks P), the change that comes last (gb), the document's buffer (g7; list Y). -/
structure OI (w W : World) (gb g7 g : Nat) (cx : Array Value) (L : List S32) (P : Nat → Prop) (Y : List S32) (Ay : Option Addr) (cy : Nat) : Prop where
 bi : BI w W g 256 L P
 pb : ¬ P gb
 p7 : ¬ P g7
 lb : w.heap.size ≤ gb
 l7 : w.heap.size ≤ g7
 hb : W.heap[gb]? = some (.cells cx 32 (0, 0))
 h7 : W.heap[g7]? = some (.cells (bA 256 (.slice Ay Y.length cy)) 52 (0, 0))
 hv : Kd.V k32 32 W w.heap.size (fun k => ¬ P k ∧ k ≠ g7 ∧ k < W.heap.size) (.slice Ay Y.length cy) Y
section
variable {w W W1 W2 : World} {gb g7 g : Nat} {cx : Array Value} {L Y Y1 : List S32} {P P' O : Nat → Prop} {Ay A1 : Option Addr} {cy c1 : Nat}
theorem OI.below (h : OI w W gb g7 g cx L P Y Ay cy) (hb : Below W.heap.size W W1) : OI w W1 gb g7 g cx L P Y Ay cy :=
 ⟨h.bi.below hb, h.pb, h.p7, h.lb, h.l7, blk_below h.hb hb, blk_below h.h7 hb, Kd.V_mono (Kd.V_below h.hv hb) (fun k hk => ⟨hk.1, hk.2.1, Nat.lt_of_lt_of_le hk.2.2 hb.size⟩)⟩
theorem OI.ne (h : OI w W gb g7 g cx L P Y Ay cy) : gb ≠ g7 := by
 rintro rfl
 have h1 := h.hb.symm.trans h.h7
 injection h1 with h1
 injection h1 with _ h2 _
 exact absurd h2 (by decide)
/-- The document's buffer is another one. -/
theorem OI.set (h : OI w W gb g7 g cx L P Y Ay cy) (hb : Below W.heap.size W W1) (hv : Kd.V k32 32 W1 w.heap.size (fun k => ((¬ P k ∧ k ≠ g7 ∧ k < W.heap.size) ∨ k < w.heap.size) ∨ W.heap.size ≤ k) (.slice A1 Y1.length c1) Y1)
  (hg : W1.grownBy W2 (some g7)) (h7 : W2.heap[g7]? = some (.cells (bA 256 (.slice A1 Y1.length c1)) 52 (0, 0))) : OI w W2 gb g7 g cx L P Y1 A1 c1 := by
 have h7' := blk_lt h.h7
 have hlb := h.l7
 have hk : Kept W1 W2 (fun k => k = g7) := ⟨hg.size, fun k hk hne => hg.block k hk (fun e => hne (by injection e)), hg.os, hg.tape, hg.output⟩
 have hbi := (h.bi.below hb).kept hk (fun k e hp => h.p7 (e ▸ hp)) (fun k e => by rw [e]; exact h.l7)
 refine ⟨hbi, h.pb, h.p7, h.lb, h.l7, (hk.block gb (Nat.lt_of_lt_of_le (blk_lt h.hb) hb.size) h.ne).trans (blk_below h.hb hb), h7, Kd.V_mono (Kd.V_kept (Kd.V_mono (Kd.V_bound hv) (ok' := fun k => (¬ P k ∧ k ≠ g7) ∧ k < W1.heap.size) (fun k hk => ⟨?_, hk.2⟩)) hk (fun k h1 e => h1.1.2 e)) (fun k h1 => ⟨h1.1.1, h1.1.2, Nat.lt_of_lt_of_le h1.2 hk.size⟩)⟩
 rcases hk.1 with (h1 | h1) | h1
 ·exact ⟨h1.1, h1.2.1⟩
 ·exact ⟨fun hp => by have := h.bi.lo k hp; omega, by omega⟩
 ·exact ⟨fun hp => by have := h.bi.hi k hp; omega, by omega⟩
end
theorem w1t {n : Nat} (h : n + 1 ≤ 9223372036854775807) : wrap64 ((n : Int) + 1) = ((n + 1 : Nat) : Int) := by rw [← i64_w, IntKind.wrap_i64]; omega
section
variable {w1 w3 : World} {b b' nx n0 n1 g9 : Nat} {Q Z : Nat → Prop} {v : Value} {Y : List S32}
theorem own_va (h : Kd.V k32 32 w1 b (fun k => (Q k ∨ k < n0) ∨ nx ≤ k) v Y) (hn : n1 ≤ nx) : Kd.V k32 32 w1 b' (fun k => ((Q k ∨ k < n0) ∨ n1 ≤ k) ∧ k < w1.heap.size) v Y :=
 Kd.V_mono (Kd.V_bound h) (fun k hk => ⟨hk.1.imp id (fun h => Nat.le_trans hn h), hk.2⟩)
theorem own_vb (h : Kd.V k32 32 w1 b (fun k => (Q k ∨ k < n0) ∨ nx ≤ k) v Y) (hQ : ∀ k, Q k → k < n1) (h0 : n0 ≤ n1) (h9 : n1 ≤ g9) (h9x : g9 < nx) (hn : n1 ≤ nx) : Kd.V k32 32 w1 b' (fun k => ((Q k ∨ k < n0) ∨ n1 ≤ k) ∧ k ≠ g9) v Y :=
 Kd.V_mono h (fun k hk => ⟨hk.imp id (fun h => Nat.le_trans hn h), by rcases hk with (h1 | h1) | h1; have := hQ k h1; omega; omega; omega⟩)
theorem own_vc (h : Kd.V k32 32 w1 b (fun k => Z k ∧ k < w1.heap.size) v Y) (o : Obj) : Kd.V k32 32 (w1.alloc o) b (fun k => Z k ∧ k ≠ w1.heap.size) v Y :=
 Kd.V_mono (Kd.V_alloc h o) (fun k hk => ⟨hk.1, Nat.ne_of_lt hk.2⟩)
theorem own_vd (h : Kd.V k32 32 w3 b (fun k => Z k ∧ k ≠ g9) v Y) (ds : Array Value) : Kd.V k32 32 (w3.setRow g9 ds) b Z v Y :=
 Kd.V_mono (Kd.V_step h (fun k hk _ => setRow_other w3 g9 k _ hk.2)) (fun k hk => hk.1)
end
def tkl.T12 : Bool × List (List Nat × List Nat) := (true, [([], []), ([], []), ([], []), ([], []), ([2, 3], [2, 3]), ([4], [4]), ([5], [5]), ([0, 1, 6], [0, 1, 6]), ([7], [7]), ([8], [8]), ([8], [8]), ([8], [8]), ([], []), ([12, 9, 7, 0, 1, 2, 3, 4, 5, 6, 7, 8, 9, 12], [9, 12]), ([10, 13, 0, 1, 2, 3, 4, 5, 6, 7, 8, 9, 10, 12, 13], [10]), ([11, 14, 0, 1, 2, 3, 4, 5, 6, 7, 8, 9, 10, 11, 12, 13, 14], [11])])
def tkl.B12 : List Nat := [0, 0, 0, 0, 12, 28, 60, 127, 255, 511, 511, 511, 0, 5119, 14335, 32767]
theorem tkl.tab12 : rtab .any (opsOf Try.f8 12) = tkl.T12 := by kernel_rfl
theorem tkl.bits12 : waitsOk tkl.T12.2 tkl.B12 = true := by kernel_rfl
theorem ref_copy_big (y : S32) (h : y.f2.length < 17592186044416) : topiaryref05_Copy.f y.f0.f0 y.f0.f1 y.f1 y.f2 y.f3 y.f4.f0 y.f4.f1 y.f5.f0 y.f5.f1 y.f6.f0 y.f6.f1 y.f7 y.f8 = some (y.f0.f0, y.f0.f1, y.f1, y.f2, y.f3, y.f4.f0, y.f4.f1, y.f5.f0, y.f5.f1, y.f6.f0, y.f6.f1, y.f7, y.f8) := by
 unfold topiaryref05_Copy.f
 rw [Option.bind_some, if_pos (by simp only [List.length_nil]; omega), List.nil_append]
set_option maxHeartbeats 8000000 in
set_option maxRecDepth 100000 in
theorem takes_law_none (w : World) (room : Int) (hr : room < 0 ∨ 256 < room) (v : Value) : Calls Try.prog 8 #[.int .i64 room, v] w fun e w' => e = .returned (.bool true) ∧ Below w.heap.size w w' := by
 have HN := Aside0.mk (new_none w room hr)
 have hc : (decide (room < 0) = true) ∨ (decide (room < 0) = false ∧ decide (256 < room) = true) := by
  simp only [decide_eq_true_eq, decide_eq_false_iff_not]
  omega
 clear hr
 rcases hc with h0 | ⟨h0, h1⟩
 all_goals
  go_enter Try.func8, Try.ntmps8
  go_wp2_with (first | (go_at_call 11; refine HN.out.mono ?_; rintro e w1 ⟨rfl, rfl⟩) | (go_at_call 17; refine (awake_calls _).mono ?_; rintro e wa ⟨rfl, hb_⟩; have HBA := Aside0.mk hb_; clear hb_))
  go_ret
  exact ⟨rfl, HBA.out⟩
set_option maxHeartbeats 8000000 in
set_option maxRecDepth 100000 in
theorem takes_law_some (w : World) (room : Int) (hr0 : 0 ≤ room) (hr1 : room ≤ 256) (A1 : Option Addr) (c1 : Nat) (l : List S58) (hl : Kd.C k58 w A1 l.length l) (hln : l.length < 4611686018427387904)
  (hs : ∀ x ∈ l, x.f1.length < 17592186044416 ∧ x.f2.f2.length < 17592186044416 ∧ x.f2.f7.size < 4611686018427387904) :
  Calls Try.prog 8 #[.int .i64 room, .slice A1 l.length c1] w fun e w' => e = .returned (.bool true) ∧ Below w.heap.size w w' := by
 have HL := Aside0.mk hl
 have HLN := Aside0.mk hln
 have HS := Aside0.mk hs
 have HNEW := Aside0.mk (new_calls w room hr0 hr1)
 have HRM := Aside0.mk hr0
 have HR1 := Aside0.mk hr1
 have h0 : decide (room < 0) = false := decide_eq_false (by omega)
 have h1 : decide (256 < room) = false := decide_eq_false (by omega)
 clear hl hln hs hr0 hr1
 go_enter Try.func8, Try.ntmps8
 go_wp2_with (fail)
 refine HNEW.out.mono ?_
 rintro e w1 ⟨g, rfl, hbn, hw0⟩
 have HBI := Aside0.mk (BI.new (w0 := w) (room := room) HRM.out HR1.out hbn hw0 (Below.refl _ _))
 clear hbn hw0 HNEW
 go_wp2_with (first | ((with_reducible refine gate_dst (N := 7) rfl ?_); refine box_event ?hg (N := 7) ?hd (cs := #[.int .i64 0, .slice none 0 0]) (t := 52) ?hr ?_; (case hd => rfl); (case hg => rfl); (case hr => first | (go_simp; done) | (go_simp; rfl)); intro g7 hr_ w2 hbox hb; have HX7 := Aside0.mk hbox; have HB7 := Aside0.mk hb; have HN7 := Aside0.mk hr_; clear hbox hb hr_) | ((with_reducible refine gate_store (t := 52) (p := 7) (v := .tmp 47) rfl ?_); refine store52_ev rfl rfl room (.slice none 0 0) (p := .tmp 7) (q := .tmp 47) rfl (g := g7) rfl rfl rfl HX7.out rfl ?_; intro ws hb_ hg_; have HXs := Aside0.mk hb_; have HGs := Aside0.mk hg_; clear hb_ hg_))
 have hb2 : Below w1.heap.size w1 ws := HB7.out.grown HGs.out HB7.out.size (fun k hk => by injection hk with hk; rw [← hk]; exact Nat.le_of_eq HN7.out.symm)
 have HSTART : Aside0 (TI w ws g7 g room [] (fun k => w.heap.size ≤ k ∧ k < w1.heap.size) [] none 0) := ⟨HBI.out.below hb2, fun h => by have h1_ := h.2; have h2_ := HN7.out; omega, by have h1_ := HBI.out.bel.size; have h2_ := HN7.out; omega, HXs.out, Kd.V_nil _ _ _ _ _⟩
 clear hb2 HBI HB7 HN7 HX7 HXs HGs h0 h1
 go_loopw [5, 8] (fun v5 v8 wq => ∃ (i g : Nat) (L : List S32) (P : Nat → Prop) (Ay : Option Addr) (cy : Nat), v5 = .pointer (some ⟨g, 0, none⟩) ∧ v8 = .int .i64 (i : Int) ∧ Aside0 (i ≤ l.length) ∧ Aside0 (TI w wq g7 g room L P L Ay cy)) (fun _ v8 _ => l.length - (intOf v8).toNat)
 case atStart => exact ⟨0, g, [], _, _, _, rfl, rfl, ⟨Nat.zero_le _⟩, HSTART⟩
 case round =>
  clear HSTART
  obtain ⟨i, g, L, P, Ay, cy, rfl, rfl, HI, HT⟩ := hrel
  obtain ⟨wo, rfl⟩ : ∃ wo, wo = wr := ⟨wr, rfl⟩
  by_cases hi : i < l.length
  case neg =>
   have e1 : decide (i < l.length) = false := decide_eq_false hi
   clear hi
   go_wp2_with (first | (go_at_call 17; refine (awake_calls _).mono ?_; rintro e wa ⟨rfl, hb_⟩; have HBA := Aside0.mk (HT.out.bi.bel.trans (hb_.mono HT.out.bi.bel.size)); clear hb_))
   go_ret
   exact ⟨rfl, HBA.out⟩
  have HI' := Aside0.mk hi
  obtain ⟨ad, Ak, ck, A4, c4, rfl, hcc, hlk, hCk, hl4, hC4⟩ := elem58 HL.out hi
  have hbd := HS.out _ (rd58_at hi)
  generalize rd58 l i = cm at *
  obtain ⟨kd, kn, y⟩ := cm
  dsimp only at hcc hlk hCk hl4 hC4 hbd
  have HCC := Aside0.mk hcc
  have HKC := Aside0.mk hCk
  have HKL := Aside0.mk hlk
  have HKN := Aside0.mk hbd.1
  have HCP := Aside0.mk (ref_copy_big y hbd.2.1)
  have HSZ := Aside0.mk hbd.2.2
  have HC4 := Aside0.mk hC4
  have HL4 := Aside0.mk hl4
  have HXF := Aside0.mk (Kd.C_F (Kd.heap_int .i64) hC4)
  have b1 : (0 ≤ (i : Int)) = True := eq_true (by omega)
  have b2 : ((i : Int) < (l.length : Int)) = True := eq_true (by omega)
  have b3 : (i < l.length) = True := eq_true hi
  have b4 : decide (i < l.length) = true := decide_eq_true hi
  have HIW := Aside0.mk (w1s (n := i) (by have h1_ := HLN.out; omega))
  clear hcc hlk hCk hl4 hC4 hbd hi
  have qk := (HCC.out wo HT.out.bi.bel).1
  have qa := (HCC.out wo HT.out.bi.bel).2.1
  go_upto_region 11 with (first | ((with_reducible refine gate_dst (N := 54) rfl ?_); refine Kd.R_lit (Kd.int .i64) wo.heap.size 3 ?hg (N := 54) ?hd (w0 := wo) (xs := ([] : List Int)) (inner := []) (ok := fun k => wo.heap.size ≤ k) (okp := fun k => wo.heap.size ≤ k) ?hr ?hp (fun _ hk => hk) (Nat.le_refl _) (Below.refl _ _) (Nat.le_refl _) (by simp) ?_; (case hd => rfl); (case hg => rfl); (case hr => first | (go_simp; done) | (go_simp; rfl)); (case hp => exact (Reps.none _ _)); intro v54 w2 hr0 hb hg_ hnew_; have HR0 := Aside0.mk hr0; have HB0 := Aside0.mk hb; clear hr0 hb hg_ hnew_ qk qa; have qk := (HCC.out w2 (HT.out.bi.bel.trans (HB0.out.mono HT.out.bi.bel.size))).1; have qa := (HCC.out w2 (HT.out.bi.bel.trans (HB0.out.mono HT.out.bi.bel.size))).2.1) | ((with_reducible refine gate_builtin (b := .append) (xs := #[.tmp 54, .tmp 59]) rfl ?_); at_builtin; refine Kd.R_append_rows (Kd.int .i64) (w0 := wo) wo.heap.size rfl (.tmp 54) (.tmp 59) 23 3 (.int .i64 0) 8 rfl Try.underlying23 info3 rfl (by decide) (by omega) v54 [] kn _ _ _ (fun k => wo.heap.size ≤ k) (fun _ => False) rfl rfl HR0.out ?aR (fun _ _ h => h) (fun _ h => h.elim) (fun k hk => Nat.le_trans HB0.out.size hk) HB0.out HB0.out.size ?aL ?_; (case aR => exact (Kd.C_below HKC.out (HT.out.bi.bel.trans (HB0.out.mono HT.out.bi.bel.size)))); (case aL => have h_ := HKN.out; simp only [List.length_nil]; omega); intro v9 wk ho hb hg hat; rw [List.nil_append] at ho; obtain ⟨Aq, cq, rfl⟩ := Kd.R_slice ho; have HKR := Aside0.mk (Kd.R_bound ho); have HBK := Aside0.mk hb; clear ho hb hg hat HR0 HB0 qk qa; have qk := (HCC.out wk (HT.out.bi.bel.trans (HBK.out.mono HT.out.bi.bel.size))).1; have qa := (HCC.out wk (HT.out.bi.bel.trans (HBK.out.mono HT.out.bi.bel.size))).2.1))
  have HTk := Aside0.mk (HT.out.below HBK.out)
  have hkd : kd = 0 ∨ kd = 1 ∨ (kd ≠ 0 ∧ kd ≠ 1) := by omega
  rcases hkd with rfl | rfl | ⟨hk0, hk1⟩
  ·have h64 := take_out64 (room := room) HTk.out.bi.good (by have h1_ := HTk.out.bi.len; have h2_ := HTk.out.bi.rm; omega) kn y
   obtain ⟨⟨Lr, out, er⟩, hr⟩ : ∃ r, takeF room L kn y = r := ⟨_, rfl⟩
   rw [hr] at h64
   have HTF := Aside0.mk hr
   have H64 := Aside0.mk h64
   have e2 : (er != er) = false := by rw [bne_eq_false_iff_eq]
   clear hr h64
   go_upto_region 12 with (fail)
   go_cut [10, 11, 12] (fun v10 v11 v12 wc => ∃ (g9 : Nat) (A1 : Option Addr) (c1 : Nat) (A2 : Option Addr) (c2 : Nat), v10 = .pointer (some ⟨g9, 0, none⟩) ∧ v11 = .slice A2 out.length c2 ∧ v12 = .int .i64 er ∧ Aside0 (wc.heap[g9]? = some (.cells (bA room (.slice A1 Lr.length c1)) 52 (0, 0))) ∧ Aside0 (Below wk.heap.size wk wc) ∧ Aside0 (Kd.V k32 32 wc w.heap.size (fun k => ((¬ P k ∧ k ≠ g7 ∧ k < wk.heap.size) ∨ k < w.heap.size) ∨ wk.heap.size ≤ k) (.slice A1 Lr.length c1) Lr) ∧ Aside0 (Kd.V k32 32 wc w.heap.size (fun k => ((¬ P k ∧ k ≠ g7 ∧ k < wk.heap.size) ∨ k < w.heap.size) ∨ wk.heap.size ≤ k) (.slice A2 out.length c2) out))
   case first =>
    refine start_ (n := 16) (S := (fun w' => Below wk.heap.size wk w')) (ds := []) #[false, false, false, false, false, false, false, false, false, false, false, false, false, false, false, false] (by kernel_rfl) rfl rfl (below_drew (Below.refl _ _)) (fun hHeld => ?_)
    refine with_tabW tkl.tab12 tkl.bits12 (fun HT_ HW_ => ?_)
    refine pureS (i := 1) (N := (some 69)) #[false, true, false, false, false, false, false, false, false, false, false, false, false, false, false, false] HT_ ?_
    refine pureS (i := 2) (N := (some 70)) #[false, true, true, false, false, false, false, false, false, false, false, false, false, false, false, false] HT_ ?_
    refine pureS (i := 3) (N := (some 71)) #[false, true, true, true, false, false, false, false, false, false, false, false, false, false, false, false] HT_ ?_
    refine pureS (i := 4) (N := (some 72)) #[false, true, true, true, true, false, false, false, false, false, false, false, false, false, false, false] HT_ ?_
    refine pureS (i := 5) (N := (some 73)) #[false, true, true, true, true, true, false, false, false, false, false, false, false, false, false, false] HT_ ?_
    refine take_ (i := 0) (N := (some 68)) (v := ?_) (a' := ?_) #[true, true, true, true, true, true, false, false, false, false, false, false, false, false, false, false] rfl rfl (take_ofW HT_.out HW_.out (by kernel_rfl)) (fun _ _ _ h => h) (Or.inl ⟨by rfl, ?_⟩) hHeld ?_ ?_
    rotate_left
    ·intro w' s0
     refine Eq.trans (load52_run (room := room) (v := .slice Ay L.length cy) _ (p := .tmp 7) ?ho_ ?hp_ (blk52 (HTk.out.below s0).h7)) ?hr_
     case ho_ => rfl
     case hp_ => rfl
     case hr_ => rfl
    rotate_left
    ·simp only [Act.put, List.setIfInBounds_toArray, List.set_cons_zero, List.set_cons_succ, i64_w, i32_w]
     rfl
    refine take_ (i := 6) (N := (some 74)) (v := ?_) (a' := ?_) #[true, true, true, true, true, true, true, false, false, false, false, false, false, false, false, false] rfl rfl (take_ofW HT_.out HW_.out (by kernel_rfl)) (fun _ _ _ h => h) (Or.inl ⟨by rfl, ?_⟩) hHeld ?_ ?_
    rotate_left
    ·intro w' s0
     refine Eq.trans (load32_run (x := y) (v := (.slice A4 y.f2.length c4)) _ (p := .tmp 73) ?ho_ ?hp_ (fun j u hj => (HCC.out w' (HTk.out.below s0).bi.bel).2.2 j u hj)) ?hr_
     case ho_ => rfl
     case hp_ => rfl
     case hr_ => rfl
    rotate_left
    ·simp only [Act.put, List.setIfInBounds_toArray, List.set_cons_zero, List.set_cons_succ, i64_w, i32_w]
     rfl
    refine two_ (i := 7) (j := 12) (Ni := (some 75)) (Nj := (some 10)) #[true, true, true, true, true, true, true, true, false, false, false, false, false, false, false, false] #[true, true, true, true, true, true, true, false, false, false, false, false, true, false, false, false] rfl rfl rfl rfl (two_of HT_.out (by kernel_rfl)) (by decide) (by decide) (fun K hK => ?_) (fun K hK => ?_)
    ·refine goes_ Try.func23 (by kernel_rfl) rfl #[.agg #[.int .i64 room, .slice Ay L.length cy], (.slice Aq kn.length cq), (.agg #[.int .i64 y.f0.f0, .int .i64 y.f0.f1, .int .i64 y.f1, (.slice A4 y.f2.length c4), .int .i64 y.f3, .int .i64 y.f4.f0, .int .i64 y.f4.f1, .int .i64 y.f5.f0, .int .i64 y.f5.f1, .int .i64 y.f6.f0, .int .i64 y.f6.f1, .string y.f7, .string y.f8])] (by rfl) rfl rfl (by (try simp only [List.map_toArray, List.map_cons, List.map_nil]); first | done | rfl) ?_
     have hH := hHeld
     refine (rtake_calls room Ay cy L (Kd.V_below HTk.out.hv hH) HTk.out.bi.good (by have h1_ := HTk.out.bi.len; have h2_ := HTk.out.bi.rm; omega) Aq cq kn (Kd.C_below (Kd.R_reads' HKR.out).2.2 hH) (Kd.R_reads' HKR.out).2.1 y A4 c4 (P1 := fun k => k < w.heap.size) (Kd.V_mk (base := 0) (e := 3) HL4.out (Kd.F_below HXF.out (HTk.out.below hH).bi.bel)) HSZ.out).mono ?_
     rw [HTF.out]
     intro e w1 ht_
     obtain ⟨B1, d1, B2, d2, rfl, hv1, hv2, hb1⟩ := ht_
     refine ⟨_, rfl, ?_⟩
     have hS : Below wk.heap.size wk w1 := hH.trans (hb1.mono hH.size)
     have HVY := Aside0.mk (own_va (b' := w.heap.size) hv1 hH.size)
     have HVU := Aside0.mk (own_va (b' := w.heap.size) hv2 hH.size)
     clear hb1 hv1 hv2 hH hHeld
     refine hK.out _ _ (hS) (fun hHeld => ?_)
     clear hK K
     refine norm_ (a' := ?_) ?_ ?_
     rotate_left
     ·show Act.put _ (some 75) _ = _
      simp only [Act.put, List.setIfInBounds_toArray, List.set_cons_zero, List.set_cons_succ, i64_w, i32_w]
      rfl
     refine pureS (i := 8) (N := (some 67)) #[true, true, true, true, true, true, true, true, true, false, false, false, false, false, false, false] HT_ ?_
     refine pureS (i := 9) (N := (some 76)) #[true, true, true, true, true, true, true, true, true, true, false, false, false, false, false, false] HT_ ?_
     refine pureS (i := 10) (N := (some 77)) #[true, true, true, true, true, true, true, true, true, true, true, false, false, false, false, false] HT_ ?_
     refine pureS (i := 11) (N := (some 78)) #[true, true, true, true, true, true, true, true, true, true, true, true, false, false, false, false] HT_ ?_
     refine one_ (i := 12) (N := (some 10)) #[true, true, true, true, true, true, true, true, true, true, true, true, true, false, false, false] rfl rfl (one_of HT_.out (by kernel_rfl)) (by decide) (fun K hK => ?_)
     obtain ⟨g9, hgg⟩ : ∃ g9, w1.heap.size = g9 := ⟨_, rfl⟩
     refine value_ (w1 := (w1.alloc (.cells #[.int .i64 0, .slice none 0 0] 52 (0, 0)))) (v := .pointer (some ⟨g9, 0, none⟩)) (by rfl) rfl ?_ ?_
     ·rw [← hgg]; go_simp
     have hH := hHeld
     have hS : Below wk.heap.size wk (w1.alloc (.cells #[.int .i64 0, .slice none 0 0] 52 (0, 0))) := below_alloc hH _
     have HX9 : Aside0 ((w1.alloc (.cells #[.int .i64 0, .slice none 0 0] 52 (0, 0))).heap[g9]? = some (.cells #[.int .i64 0, .slice none 0 0] 52 (0, 0))) := ⟨by rw [← hgg]; exact blk_new w1 (.cells #[.int .i64 0, .slice none 0 0] 52 (0, 0))⟩
     have H9 : Aside0 (wk.heap.size ≤ g9 ∧ g9 < (w1.alloc (.cells #[.int .i64 0, .slice none 0 0] 52 (0, 0))).heap.size) := ⟨by rw [← hgg]; exact hH.size, by rw [Mem.alloc_size, ← hgg]; exact Nat.lt_succ_self _⟩
     have HVZ := Aside0.mk (own_vc HVY.out (.cells #[.int .i64 0, .slice none 0 0] 52 (0, 0)))
     have HVX := Aside0.mk (own_vc HVU.out (.cells #[.int .i64 0, .slice none 0 0] 52 (0, 0)))
     rw [hgg] at HVZ HVX
     clear HVY HVU
     clear hHeld
     generalize hww : (w1.alloc (.cells #[.int .i64 0, .slice none 0 0] 52 (0, 0))) = w2 at *
     clear hH hww hgg
     refine hK.out _ _ (hS) (fun hHeld => ?_)
     clear hK K
     refine norm_ (a' := ?_) ?_ ?_
     rotate_left
     ·show Act.put _ (some 10) _ = _
      simp only [Act.put, List.setIfInBounds_toArray, List.set_cons_zero, List.set_cons_succ, i64_w, i32_w]
      rfl
     refine one_ (i := 13) (N := none) #[true, true, true, true, true, true, true, true, true, true, true, true, true, true, false, false] rfl rfl (one_of HT_.out (by kernel_rfl)) (by decide) (fun K hK => ?_)
     have h6_ := hHeld
     refine skip_ (w1 := _) (by rfl) rfl (store52_run (room := room) (v := .slice B1 Lr.length d1) _ rfl rfl rfl rfl HX9.out rfl) ?_
     have hS : Below wk.heap.size wk (World.setRow _ g9 (bA room (.slice B1 Lr.length d1))) := row_below h6_ H9.out.1 HX9.out _
     have HXZ := Aside0.mk (setRow_heap _ g9 _ (bA room (.slice B1 Lr.length d1)) 52 (0, 0) HX9.out)
     have HV9 := Aside0.mk (own_vd HVZ.out (bA room (.slice B1 Lr.length d1)))
     have HV8 := Aside0.mk (own_vd HVX.out (bA room (.slice B1 Lr.length d1)))
     clear HVZ HVX HX9 hHeld
     refine hK.out _ _ (hS) (fun hHeld => ?_)
     clear hK K
     refine pureS (i := 14) (N := (some 11)) #[true, true, true, true, true, true, true, true, true, true, true, true, true, true, true, false] HT_ ?_
     refine pureS (i := 15) (N := (some 12)) #[true, true, true, true, true, true, true, true, true, true, true, true, true, true, true, true] HT_ ?_
     refine done_ (done_of HT_.out (by kernel_rfl)) ?_
     go_wp2_with (fail)
     go_meet
     case rel => exact ⟨g9, B1, d1, B2, d2, rfl, rfl, rfl, HXZ, ⟨hHeld⟩, HV9, HV8⟩
    ·obtain ⟨g9, hgg⟩ : ∃ g9, wk.heap.size = g9 := ⟨_, rfl⟩
     refine value_ (w1 := (wk.drew.alloc (.cells #[.int .i64 0, .slice none 0 0] 52 (0, 0)))) (v := .pointer (some ⟨g9, 0, none⟩)) (by rfl) rfl ?_ ?_
     ·rw [← hgg]; go_simp
     have hH := hHeld
     have hS : Below wk.heap.size wk (wk.drew.alloc (.cells #[.int .i64 0, .slice none 0 0] 52 (0, 0))) := below_alloc hH _
     have HX9 : Aside0 ((wk.drew.alloc (.cells #[.int .i64 0, .slice none 0 0] 52 (0, 0))).heap[g9]? = some (.cells #[.int .i64 0, .slice none 0 0] 52 (0, 0))) := ⟨by rw [← hgg]; exact blk_new wk.drew (.cells #[.int .i64 0, .slice none 0 0] 52 (0, 0))⟩
     have H9 : Aside0 (wk.heap.size ≤ g9 ∧ g9 < (wk.drew.alloc (.cells #[.int .i64 0, .slice none 0 0] 52 (0, 0))).heap.size) := ⟨by rw [← hgg]; exact hH.size, by rw [Mem.alloc_size, ← hgg]; exact Nat.lt_succ_self _⟩
     clear hHeld
     generalize hww : (wk.drew.alloc (.cells #[.int .i64 0, .slice none 0 0] 52 (0, 0))) = w2 at *
     clear hH hww hgg
     refine hK.out _ _ (hS) (fun hHeld => ?_)
     clear hK K
     refine norm_ (a' := ?_) ?_ ?_
     rotate_left
     ·show Act.put _ (some 10) _ = _
      simp only [Act.put, List.setIfInBounds_toArray, List.set_cons_zero, List.set_cons_succ, i64_w, i32_w]
      rfl
     refine one_ (i := 7) (N := (some 75)) #[true, true, true, true, true, true, true, true, false, false, false, false, true, false, false, false] rfl rfl (one_of HT_.out (by kernel_rfl)) (by decide) (fun K hK => ?_)
     refine goes_ Try.func23 (by kernel_rfl) rfl #[.agg #[.int .i64 room, .slice Ay L.length cy], (.slice Aq kn.length cq), (.agg #[.int .i64 y.f0.f0, .int .i64 y.f0.f1, .int .i64 y.f1, (.slice A4 y.f2.length c4), .int .i64 y.f3, .int .i64 y.f4.f0, .int .i64 y.f4.f1, .int .i64 y.f5.f0, .int .i64 y.f5.f1, .int .i64 y.f6.f0, .int .i64 y.f6.f1, .string y.f7, .string y.f8])] (by rfl) rfl rfl (by (try simp only [List.map_toArray, List.map_cons, List.map_nil]); first | done | rfl) ?_
     have hH := hHeld
     refine (rtake_calls room Ay cy L (Kd.V_below HTk.out.hv hH) HTk.out.bi.good (by have h1_ := HTk.out.bi.len; have h2_ := HTk.out.bi.rm; omega) Aq cq kn (Kd.C_below (Kd.R_reads' HKR.out).2.2 hH) (Kd.R_reads' HKR.out).2.1 y A4 c4 (P1 := fun k => k < w.heap.size) (Kd.V_mk (base := 0) (e := 3) HL4.out (Kd.F_below HXF.out (HTk.out.below hH).bi.bel)) HSZ.out).mono ?_
     rw [HTF.out]
     intro e w1 ht_
     obtain ⟨B1, d1, B2, d2, rfl, hv1, hv2, hb1⟩ := ht_
     refine ⟨_, rfl, ?_⟩
     have hS : Below wk.heap.size wk w1 := hH.trans (hb1.mono hH.size)
     have HXa := Aside0.mk (blk_below HX9.out hb1)
     clear HX9
     have HX9 := HXa
     clear HXa
     have HVZ := Aside0.mk (own_vb (b' := w.heap.size) hv1 (fun k h => h.2.2) HTk.out.bi.bel.size H9.out.1 H9.out.2 hH.size)
     have HVX := Aside0.mk (own_vb (b' := w.heap.size) hv2 (fun k h => h.2.2) HTk.out.bi.bel.size H9.out.1 H9.out.2 hH.size)
     clear hb1 hv1 hv2 hH hHeld
     refine hK.out _ _ (hS) (fun hHeld => ?_)
     clear hK K
     refine norm_ (a' := ?_) ?_ ?_
     rotate_left
     ·show Act.put _ (some 75) _ = _
      simp only [Act.put, List.setIfInBounds_toArray, List.set_cons_zero, List.set_cons_succ, i64_w, i32_w]
      rfl
     refine pureS (i := 8) (N := (some 67)) #[true, true, true, true, true, true, true, true, true, false, false, false, true, false, false, false] HT_ ?_
     refine pureS (i := 9) (N := (some 76)) #[true, true, true, true, true, true, true, true, true, true, false, false, true, false, false, false] HT_ ?_
     refine pureS (i := 10) (N := (some 77)) #[true, true, true, true, true, true, true, true, true, true, true, false, true, false, false, false] HT_ ?_
     refine pureS (i := 11) (N := (some 78)) #[true, true, true, true, true, true, true, true, true, true, true, true, true, false, false, false] HT_ ?_
     refine one_ (i := 13) (N := none) #[true, true, true, true, true, true, true, true, true, true, true, true, true, true, false, false] rfl rfl (one_of HT_.out (by kernel_rfl)) (by decide) (fun K hK => ?_)
     have h6_ := hHeld
     refine skip_ (w1 := _) (by rfl) rfl (store52_run (room := room) (v := .slice B1 Lr.length d1) _ rfl rfl rfl rfl HX9.out rfl) ?_
     have hS : Below wk.heap.size wk (World.setRow _ g9 (bA room (.slice B1 Lr.length d1))) := row_below h6_ H9.out.1 HX9.out _
     have HXZ := Aside0.mk (setRow_heap _ g9 _ (bA room (.slice B1 Lr.length d1)) 52 (0, 0) HX9.out)
     have HV9 := Aside0.mk (own_vd HVZ.out (bA room (.slice B1 Lr.length d1)))
     have HV8 := Aside0.mk (own_vd HVX.out (bA room (.slice B1 Lr.length d1)))
     clear HVZ HVX HX9 hHeld
     refine hK.out _ _ (hS) (fun hHeld => ?_)
     clear hK K
     refine pureS (i := 14) (N := (some 11)) #[true, true, true, true, true, true, true, true, true, true, true, true, true, true, true, false] HT_ ?_
     refine pureS (i := 15) (N := (some 12)) #[true, true, true, true, true, true, true, true, true, true, true, true, true, true, true, true] HT_ ?_
     refine done_ (done_of HT_.out (by kernel_rfl)) ?_
     go_wp2_with (fail)
     go_meet
     case rel => exact ⟨g9, B1, d1, B2, d2, rfl, rfl, rfl, HXZ, ⟨hHeld⟩, HV9, HV8⟩
   case rest =>
    obtain ⟨g9, B1, d1, A2, c2, rfl, rfl, rfl, HX9, HB9, HV9, HV8⟩ := hcut
    go_wp2_with (first | ((with_reducible refine gate_dst (N := 79) rfl ?_); refine load52_ev rfl (N := 79) rfl room (.slice B1 Lr.length d1) (p := .tmp 10) rfl (ad := ⟨g9, 0, none⟩) rfl (blk52 HX9.out) ?_) | ((with_reducible refine gate_store (t := 52) (p := 7) (v := .tmp 79) rfl ?_); refine store52_ev rfl rfl room (.slice B1 Lr.length d1) (p := .tmp 7) (q := .tmp 79) rfl (g := g7) rfl rfl rfl (blk_below HTk.out.h7 HB9.out) rfl ?_; intro ws hb_ hg_; have HT2 := Aside0.mk (HTk.out.set HB9.out HV9.out hg_ hb_); have HVW := Aside0.mk (Kd.V_bound (Kd.V_grown HV8.out hg_ (fun k hk e => by injection e with e; subst e; have h1_ := HTk.out.l7; have h2_ := blk_lt HTk.out.h7; rcases hk with (h | h) | h; exact h.2.1 rfl; omega; omega))); have HKV := Aside0.mk (Kd.V_grown (Kd.V_below (Kd.V_mono (Kd.R_V (base' := 0) HKR.out) (ok' := fun k => wo.heap.size ≤ k ∧ k < wk.heap.size) (fun k hk => ⟨hk.1, hk.2.2.1⟩)) HB9.out) hg_ (fun k hk e => by injection e with e; subst e; have h1_ := blk_lt HT.out.h7; have h2_ := hk.1; omega)); have HSZW := Aside0.mk (Nat.le_trans HB9.out.size hg_.size); have HSWS := Aside0.mk (Nat.le_refl ws.heap.size); clear hb_ hg_ HV9 HV8 HX9 qk qa; have qk := (HCC.out ws HT2.out.bi.bel).1; have qa := (HCC.out ws HT2.out.bi.bel).2.1) | ((with_reducible refine gate_dst (N := 84) rfl ?_); refine load32_ev rfl (N := 84) rfl y (.slice A4 y.f2.length c4) (p := .tmp 83) rfl rfl (fun j u hj => (HCC.out ws HT2.out.bi.bel).2.2 j u hj) ?_) | (go_at_call 19; refine (topiaryref05_Copy.calls y.f0.f0 y.f0.f1 y.f1 A4 c4 y.f2 y.f3 y.f4.f0 y.f4.f1 y.f5.f0 y.f5.f1 y.f6.f0 y.f6.f1 y.f7 y.f8 _ _ _ _ _ _ _ _ _ _ _ _ _ _ (Kd.C_below HC4.out HT2.out.bi.bel) HL4.out HCP.out).mono ?_; rintro e w3 ⟨v3, rfl, hr5, hb_⟩; obtain ⟨A5, c5, rfl⟩ := Kd.R_slice hr5; have HR5 := Aside0.mk (Kd.R_mono (Kd.R_bound hr5) (ok' := fun k => ws.heap.size ≤ k ∧ k < w3.heap.size) (fun k hk => ⟨hk.2.1, hk.2.2.1⟩)); have HB3 := Aside0.mk hb_; clear hr5 hb_ qk qa) | ((with_reducible refine gate_dst (N := 13) rfl ?_); refine box_event ?hg (N := 13) ?hd (cs := #[.int .i64 0, .int .i64 0, .int .i64 0, .slice none 0 0, .int .i64 0, .int .i64 0, .int .i64 0, .int .i64 0, .int .i64 0, .int .i64 0, .int .i64 0, .string ⟨#[]⟩, .string ⟨#[]⟩]) (t := 32) ?hr ?_; (case hd => rfl); (case hg => rfl); (case hr => first | (go_simp; done) | (go_simp; rfl)); intro g13 hr_ w4 hbox hb; have HXB := Aside0.mk hbox; have HN13 := Aside0.mk (Nat.le_of_eq hr_.symm); have HB4 := Aside0.mk (HB3.out.trans (hb.mono HB3.out.size)); have n_ := Aside0.mk (Kd.R_below HR5.out hb); clear HR5; have HR5 := n_; clear n_ hbox hb hr_) | ((with_reducible refine gate_store (t := 32) (p := 13) (v := .tmp 85) rfl ?_); refine store32_ev rfl rfl y (.slice A5 y.f2.length c5) (p := .tmp 13) (q := .tmp 85) rfl (g := g13) rfl rfl rfl HXB.out rfl ?_; intro w5 hb_ hg_; have HX13 := Aside0.mk hb_; have HB5 := Aside0.mk (HB4.out.grown hg_ HB4.out.size (fun k hk => by injection hk with hk; rw [← hk]; exact Nat.le_trans HB3.out.size HN13.out)); have n_ := Aside0.mk (Kd.R_grown HR5.out hg_ (fun k hk e => by injection e with e; subst e; have h1_ := hk.2; have h2_ := HN13.out; omega)); clear HR5; have HR5 := n_; clear n_; have HSZ5 : Aside0 (w3.heap.size ≤ w5.heap.size) := ⟨Nat.le_trans (Nat.le_trans HN13.out (Nat.le_of_lt (blk_lt HXB.out))) hg_.size⟩; clear hb_ hg_ HXB) | ((with_reducible refine gate_dst (N := 89) rfl ?_); refine load32_ev rfl (N := 89) rfl y (.slice A5 y.f2.length c5) (p := .tmp 13) rfl (ad := ⟨g13, 0, none⟩) rfl (blk_cells HX13.out) ?_) | (go_at_call 13; have HT3 := Aside0.mk (HT2.out.below HB5.out); refine (take13_calls HT3.out.bi.buf HT3.out.bi.good HT3.out.bi.len HT3.out.bi.rm Aq cq kn (Kd.V_reads' (Kd.V_below HKV.out HB5.out)).2.2 (Kd.V_reads' HKV.out).2.1 y A5 c5 (Kd.R_F HR5.out) (fun k hk hp => by have h1_ := HT2.out.bi.hi k hp; have h2_ := hk.1; omega) (Kd.R_reads' HR5.out).2.1 HSZ.out).mono ?_; rw [HTF.out]; intro e w6 ht_; obtain ⟨P', O, v9, rfl, hbi, hs9, ho1, ho2, hp, hk⟩ := HT3.out.bi.of_take HTF.out ht_; obtain ⟨A9, c9, rfl⟩ := Kd.S_slice hs9; have HS9 := Aside0.mk hs9; have HO2 := Aside0.mk ho2; have HP := Aside0.mk hp; have HT4 := Aside0.mk (HT3.out.turned hbi hk hp); have hnp : ∀ k, ws.heap.size ≤ k → ¬ P k := (fun k hk hp => by have h1_ := HT2.out.bi.hi k hp; omega); have n_ := Aside0.mk (Kd.R_kept HR5.out hk (fun k hk1 => hnp k hk1.1)); clear HR5; have HR5 := n_; clear n_; have n_ := Aside0.mk ((hk.block g13 (blk_lt HX13.out) (hnp g13 (Nat.le_trans HB3.out.size HN13.out))).trans HX13.out); clear HX13; have HX13 := n_; clear n_; have n_ := Aside0.mk (Kd.V_kept (Kd.V_below HVW.out HB5.out) hk (fun k hk1 hp_ => by have h1_ := HTk.out.bi.lo k hp_; have h2_ := HTk.out.bi.hi k hp_; rcases hk1.1 with (h | h) | h; exact h.1 hp_; omega; omega)); clear HVW; have HVW := n_; clear n_; have n_ := Aside0.mk (Kd.V_kept (Kd.V_below HKV.out HB5.out) hk (fun k hk1 hp_ => by have h1_ := HT.out.bi.hi k hp_; have h2_ := hk1.1; omega)); clear HKV; have HKV := n_; clear n_; have HVZ := Aside0.mk (Kd.V_kept (Kd.V_below HT2.out.hv HB5.out) hk (fun k hk1 => hk1.1)); have HZ6 := Aside0.mk hk.size; clear hbi hs9 ho1 ho2 hp hk ht_ hnp))
    have HMX := Aside0.mk (Kd.C_max (Kd.R_reads' HR5.out).2.2)
    go_loopw [16] (fun v16 wq => ∃ d : Nat, v16 = .int .i64 (d : Int) ∧ Aside0 (d ≤ y.f2.length) ∧ Aside0 (Sp w6 wq (fun k => ws.heap.size ≤ k ∧ k < w3.heap.size))) (fun v16 _ => y.f2.length - (intOf v16).toNat)
    case atStart => exact ⟨0, rfl, ⟨Nat.zero_le _⟩, ⟨Sp.refl _ _⟩⟩
    case round =>
     obtain ⟨d, rfl, HID, HZ⟩ := hrel
     obtain ⟨wz, rfl⟩ : ∃ wz, wz = wr := ⟨wr, rfl⟩
     have q1 : wz.cell? ⟨g13, 3, none⟩ = some (.slice A5 y.f2.length c5) := (blk_cell (HZ.out.typ _ _ _ _ HX13.out (by decide)) 3).trans rfl
     by_cases hd : d < y.f2.length
     case neg =>
      have e3 : decide (d < y.f2.length) = false := decide_eq_false hd
      have hX : ∀ k, (ws.heap.size ≤ k ∧ k < w3.heap.size) → ¬ P' k := fun k hk hp => by rcases HP.out k hp with h | h; (have h1_ := HT2.out.bi.hi k h; omega); (have h1_ := HSZ5.out; omega)
      have HT5 := Aside0.mk (HT4.out.kept HZ.out.kept (fun k hk => Nat.le_trans HT2.out.bi.bel.size hk.1) hX (fun h => by have h1_ := blk_lt HT2.out.h7; omega) (Kd.V_mono HVZ.out (fun k hk => ⟨⟨fun hp => by rcases HP.out k hp with h | h; (exact hk.1 h); (have h1_ := HSZ5.out; have h2_ := hk.2.2; have h3_ := HB5.out.size; omega), hk.2.1, by have h2_ := hk.2.2; have h3_ := HB5.out.size; have h4_ := HZ6.out; omega⟩, fun h => by have h2_ := hk.2.2; omega⟩)))
      have HSz := Aside0.mk (Kd.S_step HS9.out (fun k hk hlt => HZ.out.kept.block k hlt (fun h => by rcases (HO2.out k hk).2 with h1 | h1; (have h2_ := HT2.out.bi.hi k h1; omega); (have h2_ := HSZ5.out; omega))))
      have HVWz := Aside0.mk (Kd.V_kept HVW.out HZ.out.kept (fun k hk h => by have h1_ := hk.2; have h2_ := HSWS.out; omega))
      have HKVz := Aside0.mk (Kd.V_kept HKV.out HZ.out.kept (fun k hk h => by have h1_ := hk.2; have h2_ := HSZW.out; omega))
      clear hd hX
      have qk := (HCC.out wz HT5.out.bi.bel).1
      have qa := (HCC.out wz HT5.out.bi.bel).2.1
      go_wp2_with (first | (go_at_call 15; refine (sameAll_self A9 c9 A2 c2 out (Kd.S_reads' HSz.out).2.2 (Kd.S_reads' HSz.out).2.1 (Kd.V_reads' HVWz.out).2.2 (Kd.V_reads' HVWz.out).2.1 H64.out.1 H64.out.2).mono ?_; clear qk qa; rintro e w7 ⟨rfl, hb_⟩; have HT6 := Aside0.mk (HT5.out.below hb_); have HB7 := Aside0.mk hb_; clear hb_; have qk := (HCC.out w7 HT6.out.bi.bel).1; have qa := (HCC.out w7 HT6.out.bi.bel).2.1) | (go_at_call 24; refine (topiaryref02_Same.calls (kn.length + 1) Aq cq kn Ak ck kn true _ (Kd.C_below (Kd.V_reads' HKVz.out).2.2 HB7.out) (Kd.V_reads' HKVz.out).2.1 (Kd.C_below HKC.out HT6.out.bi.bel) HKL.out (same02_is kn (by have h_ := HKN.out; omega))).mono ?_; clear qk qa; rintro e w8 ⟨rfl, ⟨nd, hnd⟩⟩; have hb_ := drew_below hnd; clear hnd; have HT7 := Aside0.mk (HT6.out.below hb_); clear hb_; have qk := (HCC.out w8 HT7.out.bi.bel).1; have qa := (HCC.out w8 HT7.out.bi.bel).2.1) | ((with_reducible refine gate_dst (N := 167) rfl ?_); refine load52_ev rfl (N := 167) rfl room (.slice B1 Lr.length d1) (p := .tmp 7) rfl (ad := ⟨g7, 0, none⟩) rfl (blk52 HT7.out.h7) ?_) | (go_at_call 30; refine (told_calls HT7.out.bi.buf (by have h1_ := HT7.out.bi.len; have h2_ := HT7.out.bi.rm; omega) HT7.out.bi.good.len B1 d1 HT7.out.hv).mono ?_; clear qk qa; rintro e w9 ⟨rfl, hb_⟩; have HT9 := Aside0.mk (HT7.out.below hb_); clear hb_))
      rw [HIW.out]
      exact ⟨⟨i + 1, g, Lr, P', _, _, rfl, rfl, ⟨HI'.out⟩, HT9⟩, dec_lt HI'.out⟩
     have HJD := Aside0.mk hd
     have d1' : (0 ≤ (d : Int)) = True := eq_true (by omega)
     have d2' : ((d : Int) < (y.f2.length : Int)) = True := eq_true (by omega)
     have d3' : (d < y.f2.length) = True := eq_true hd
     have d4' : decide (d < y.f2.length) = true := decide_eq_true hd
     have HWD := Aside0.mk (w1t (Nat.le_trans hd HMX.out))
     obtain ⟨g3, rfl, hO3, hrow⟩ := deps_elem HR5.out d hd
     obtain ⟨cs, v, hrw, q2, q3⟩ := hrow wz HZ.out
     have HZ2 := Aside0.mk (HZ.out.set hO3 hrw d (.int .i64 (-7)))
     clear hd hO3 hrow hrw
     go_wp2_with (fail)
     rw [HWD.out]
     exact ⟨⟨d + 1, rfl, ⟨HJD.out⟩, HZ2⟩, dec_lt HJD.out⟩
  ·obtain ⟨st, hst⟩ : ∃ st, (L.length : Int) - ((staleF kn L).length : Int) = st := ⟨_, rfl⟩
   have e2 : (st != st) = false := by rw [bne_eq_false_iff_eq]
   go_wp2_with (first | ((with_reducible refine gate_dst (N := 130) rfl ?_); refine load52_ev rfl (N := 130) rfl room (.slice Ay L.length cy) (p := .tmp 7) rfl (ad := ⟨g7, 0, none⟩) rfl (blk52 HTk.out.h7) ?_) | (go_at_call 25; refine (rstale_calls room Ay cy L HTk.out.hv (by have h1_ := HTk.out.bi.len; have h2_ := HTk.out.bi.rm; omega) Aq cq kn (Kd.R_reads' HKR.out).2.2 (Kd.R_reads' HKR.out).2.1).mono ?_; clear qk qa; rintro e w2 ⟨B1, d1, rfl, hv1, hb1⟩; have HV1 := Aside0.mk (Kd.V_bound hv1); have HB1 := Aside0.mk hb1; clear hv1 hb1) | ((with_reducible refine gate_dst (N := 17) rfl ?_); refine box_event ?hg (N := 17) ?hd (cs := #[.int .i64 0, .slice none 0 0]) (t := 52) ?hr ?_; (case hd => rfl); (case hg => rfl); (case hr => first | (go_simp; done) | (go_simp; rfl)); intro ga hr_ w3 hbox hb; have HXa := Aside0.mk hbox; have HBa := Aside0.mk (HB1.out.trans (hb.mono HB1.out.size)); have HNa := Aside0.mk (Nat.le_trans HB1.out.size (Nat.le_of_eq hr_.symm)); have HVa := Aside0.mk (Kd.V_mono (Kd.V_below HV1.out hb) (ok' := fun k => (((¬ P k ∧ k ≠ g7 ∧ k < wk.heap.size) ∨ k < w.heap.size) ∨ wk.heap.size ≤ k) ∧ k ≠ ga) (fun k h => ⟨(by rcases h.1 with h1 | h1; exact .inl (.inl h1); exact .inr h1), fun h2 => by have h3_ := h.2; omega⟩)); clear hbox hb hr_) | ((with_reducible refine gate_store (t := 52) (p := 17) (v := .tmp 133) rfl ?_); refine store52_ev rfl rfl room (.slice B1 (staleF kn L).length d1) (p := .tmp 17) (q := .tmp 133) rfl (g := ga) rfl rfl rfl HXa.out rfl ?_; intro w4 hb_ hg_; have HBs := Aside0.mk (HBa.out.grown hg_ HBa.out.size (fun k hk => by injection hk with hk; rw [← hk]; exact HNa.out)); have HVs := Aside0.mk (Kd.V_mono (Kd.V_grown HVa.out hg_ (fun k hk h2 => hk.2 (by injection h2))) (fun k hk => hk.1)); have HXA4 := Aside0.mk hb_; clear hb_ hg_) | ((with_reducible refine gate_dst (N := 135) rfl ?_); refine load52_ev rfl (N := 135) rfl room (.slice B1 (staleF kn L).length d1) (p := .tmp 17) rfl (ad := ⟨ga, 0, none⟩) rfl (blk52 HXA4.out) ?_) | ((with_reducible refine gate_store (t := 52) (p := 7) (v := .tmp 135) rfl ?_); refine store52_ev rfl rfl room (.slice B1 (staleF kn L).length d1) (p := .tmp 7) (q := .tmp 135) rfl (g := g7) rfl rfl rfl (blk_below HTk.out.h7 HBs.out) rfl ?_; intro w5 hb_ hg_; have HT2 := Aside0.mk (HTk.out.set HBs.out HVs.out hg_ hb_); have HKR2 := Aside0.mk (Kd.R_grown (Kd.R_below HKR.out HBs.out) hg_ (fun k hk e => by injection e with e; subst e; have h1_ := blk_lt HT.out.h7; have h2_ := hk.1; omega)); clear hb_ hg_) | (go_at_call 26; refine (stale_calls HT2.out.bi.buf (by have h1_ := HTk.out.bi.len; have h2_ := HTk.out.bi.rm; omega) Aq cq kn HKR2.out (fun k hk hp => by have h1_ := HT.out.bi.hi k hp; have h2_ := hk.1; omega)).mono ?_; rintro e w6 ⟨P', rfl, hbu, hp, hk⟩; rw [stale_eq, hst]; have HT3 := Aside0.mk (HT2.out.turned (HT2.out.bi.stale hbu hp hk) hk (fun k hk => .inl (hp k hk))); clear hbu hp hk; have qk := (HCC.out w6 HT3.out.bi.bel).1; have qa := (HCC.out w6 HT3.out.bi.bel).2.1) | ((with_reducible refine gate_dst (N := 167) rfl ?_); refine load52_ev rfl (N := 167) rfl room (.slice B1 (staleF kn L).length d1) (p := .tmp 7) rfl (ad := ⟨g7, 0, none⟩) rfl (blk52 HT3.out.h7) ?_) | (go_at_call 30; refine (told_calls HT3.out.bi.buf (by have h1_ := HT3.out.bi.len; have h2_ := HT3.out.bi.rm; omega) HT3.out.bi.good.len B1 d1 HT3.out.hv).mono ?_; clear qk qa; rintro e w9 ⟨rfl, hb_⟩; have HT9 := Aside0.mk (HT3.out.below hb_); clear hb_))
   rw [HIW.out]
   exact ⟨⟨i + 1, g, _, _, _, _, rfl, rfl, ⟨HI'.out⟩, HT9⟩, dec_lt HI'.out⟩
  ·have hk2 : (decide (kd < 0) = true) ∨ (decide (kd < 0) = false ∧ decide (1 < kd) = true) := by
    simp only [decide_eq_true_eq, decide_eq_false_iff_not]
    omega
   have e2 : (kd == 0) = false := beq_eq_false_iff_ne.2 hk0
   have e3 : (kd == 1) = false := beq_eq_false_iff_ne.2 hk1
   clear hk0 hk1
   rcases hk2 with h0 | ⟨h0, h1⟩
   all_goals
    go_wp2_with (first | (go_at_call 27; refine (clone_calls HTk.out.bi.buf HRM.out HTk.out.bi.rm (by have h1_ := HTk.out.bi.len; have h2_ := HTk.out.bi.rm; omega) HTk.out.bi.good.len).mono ?_; clear qk qa; rintro e w2 ⟨gn, rfl, hbu, hb2⟩; have HT2 := Aside0.mk (HTk.out.turned (W1 := w2) (g2 := gn) (HTk.out.bi.cloned hbu hb2) (Kept.of_below hb2 _) (fun k hk => .inr hk.1)); have HB2 := Aside0.mk hb2; clear hbu hb2) | (go_at_call 28; refine (topiarylaw09_second.calls _ _ _ _ _ _ _ _ _ _ _ _ _ w2 rfl).mono ?_; rintro e w3 ⟨v3, rfl, hr3, hb_⟩; obtain ⟨A5, c5, rfl⟩ := Kd.R_slice hr3; have HR3 := Aside0.mk (Kd.R_bound hr3); have HBO := Aside0.mk (HTk.out.bi.below (HB2.out.trans (hb_.mono HB2.out.size))); have HT3 := Aside0.mk (HT2.out.below hb_); have HVo := Aside0.mk (Kd.V_below HTk.out.hv (HB2.out.trans (hb_.mono HB2.out.size))); have HSZ3 := Aside0.mk hb_.size; clear hr3 hb_) | (go_at_call 13; refine (take13_calls HBO.out.buf HBO.out.good HBO.out.len HBO.out.rm none 0 [] (Kd.C_nil _ _) (Nat.le_refl _) x2 A5 c5 (Kd.R_F HR3.out) (fun k hk hp => by have h1_ := HTk.out.bi.hi k hp; have h2_ := hk.2.1; have h3_ := HB2.out.size; omega) (Kd.R_reads' HR3.out).2.1 (by decide)).mono ?_; intro e w4 ht_; obtain ⟨P1, O1, v4, rfl, hbi, hs9, -, -, hp, hk⟩ := HBO.out.of_take0 ht_; obtain ⟨A9, c9, rfl⟩ := Kd.S_slice hs9; have HBO4 := Aside0.mk hbi; have HP1 := Aside0.mk hp; have HT4 := Aside0.mk (HT3.out.kept hk (fun k hk1 => HTk.out.bi.lo k hk1) (fun k hk1 hn => by have h1_ := HTk.out.bi.hi k hk1; have h2_ := hn.1; omega) HTk.out.p7 (Kd.V_mono HVo.out (fun k h => ⟨⟨fun hn => by have h1_ := hn.1; have h2_ := h.2.2; omega, h.2.1, by have h2_ := h.2.2; have h3_ := HB2.out.size; have h4_ := HSZ3.out; omega⟩, h.1⟩))); have HVo4 := Aside0.mk (Kd.V_kept HVo.out hk (fun k h => h.1)); have HSZ4 := Aside0.mk hk.size; clear hbi hs9 hp hk ht_ HBO) | (go_at_call 29; refine (topiarylaw09_first.calls _ _ _ _ _ _ _ _ _ _ _ _ _ w4 rfl).mono ?_; rintro e w5 ⟨v5, rfl, hr5, hb_⟩; obtain ⟨A6, c6, rfl⟩ := Kd.R_slice hr5; have HR5 := Aside0.mk (Kd.R_bound hr5); have HBO5 := Aside0.mk (HBO4.out.below hb_); have HT5 := Aside0.mk (HT4.out.below hb_); have HVo5 := Aside0.mk (Kd.V_below HVo4.out hb_); have HSZ5 := Aside0.mk hb_.size; clear hr5 hb_) | (go_at_call 13; refine (take13_calls HBO5.out.buf HBO5.out.good HBO5.out.len HBO5.out.rm none 0 [] (Kd.C_nil _ _) (Nat.le_refl _) x1 A6 c6 (Kd.R_F HR5.out) (fun k hk hp => by have h1_ := HBO4.out.hi k hp; have h2_ := hk.2.1; omega) (Kd.R_reads' HR5.out).2.1 (by decide)).mono ?_; intro e w6 ht_; obtain ⟨P2, O2, v6, rfl, hbi, hs9, -, -, hp, hk⟩ := HBO5.out.of_take0 ht_; obtain ⟨A9, c9, rfl⟩ := Kd.S_slice hs9; have HT6 := Aside0.mk (HT5.out.kept hk (fun k hk1 => HBO5.out.lo k hk1) (fun k hk1 hn => by have h2_ := hn.1; have h3_ := hn.2; have h4_ := HSZ3.out; rcases HP1.out k hk1 with h | h; have h1_ := HTk.out.bi.hi k h; omega; omega) (fun hk1 => by have h5_ := blk_lt HTk.out.h7; have h3_ := HB2.out.size; have h4_ := HSZ3.out; rcases HP1.out _ hk1 with h | h; exact HTk.out.p7 h; omega) (Kd.V_mono HVo5.out (fun k h => ⟨⟨fun hn => by have h1_ := hn.1; have h2_ := h.2.2; omega, h.2.1, by have h2_ := h.2.2; have h3_ := HB2.out.size; have h4_ := HSZ3.out; have h5_ := HSZ4.out; have h6_ := HSZ5.out; omega⟩, fun hk1 => by have h2_ := h.2.2; have h3_ := HB2.out.size; have h4_ := HSZ3.out; rcases HP1.out k hk1 with h1 | h1; exact h.1 h1; omega⟩))); clear hbi hs9 hp hk ht_; have qk := (HCC.out w6 HT6.out.bi.bel).1; have qa := (HCC.out w6 HT6.out.bi.bel).2.1) | ((with_reducible refine gate_dst (N := 167) rfl ?_); refine load52_ev rfl (N := 167) rfl room (.slice Ay L.length cy) (p := .tmp 7) rfl (ad := ⟨g7, 0, none⟩) rfl (blk52 HT6.out.h7) ?_) | (go_at_call 30; refine (told_calls HT6.out.bi.buf (by have h1_ := HT6.out.bi.len; have h2_ := HT6.out.bi.rm; omega) HT6.out.bi.good.len Ay cy HT6.out.hv).mono ?_; clear qk qa; rintro e w9 ⟨rfl, hb_⟩; have HT9 := Aside0.mk (HT6.out.below hb_); clear hb_))
    rw [HIW.out]
    exact ⟨⟨i + 1, gn, L, _, _, _, rfl, rfl, ⟨HI'.out⟩, HT9⟩, dec_lt HI'.out⟩
theorem takes_law_calls (w : World) (room : Int) (A1 : Option Addr) (c1 : Nat) (l : List S58) (hl : Kd.C k58 w A1 l.length l) (hln : l.length < 4611686018427387904)
  (hs : ∀ x ∈ l, x.f1.length < 17592186044416 ∧ x.f2.f2.length < 17592186044416 ∧ x.f2.f7.size < 4611686018427387904) :
  Calls Try.prog 8 #[.int .i64 room, .slice A1 l.length c1] w fun e w' => e = .returned (.bool true) ∧ Below w.heap.size w w' := by
 by_cases h0 : room < 0 ∨ 256 < room
 ·exact takes_law_none w room h0 _
 ·exact takes_law_some w room (by omega) (by omega) A1 c1 l hl hln hs
end Go.Proofs.Ytnopjjilpgekfaa.PCa
