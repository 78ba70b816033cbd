/- A map from stamps to how often: looked up, an entry more. -/
import Derived.Test.YtnkbgimihikhoaaVtA
import Derived.Maps.Own
namespace Go.Proofs.Ytnkbgimihikhoaa.PVt
open Go.RowKit Go.Proofs.YtnkbgimihikhoaaW.PrintWords Go.Proofs.YtnkbgimihikhoaaW.PrintLast Go.Proofs.YtnkbgimihikhoaaW.PrintMore
set_option linter.unusedVariables false
set_option linter.unusedSimpArgs false
def keyV (k : S23) : Value := .agg #[.int .i64 k.f0, .int .i64 k.f1]
theorem check_int (em : Bool) (n : Nat) (w : World) (a : Int) : (Instr.checkKey em (n + 1) 3 (.int .i64 a)).run Try.prog w = .ok () w := by
  unfold Instr.checkKey
  have hu := Try.underlying3
  go_simp
theorem check_key (em : Bool) (w : World) (k : S23) : (Instr.checkKey em 10000 23 (keyV k)).run Try.prog w = .ok () w := by
  unfold keyV
  rw [show (10000 : Nat) = 9999 + 1 from rfl]
  unfold Instr.checkKey
  have hu := Try.underlying23
  have h1 := fun w => check_int em 9998 w k.f0
  have h2 := fun w => check_int em 9998 w k.f1
  go_simp
theorem eqA23 (d : Nat) (w : World) (x0 y0 x1 y1 : Int) :
    (Op.equalIn (d + 2) 23 (.agg #[.int .i64 x0, .int .i64 x1]) (.agg #[.int .i64 y0, .int .i64 y1])).run Try.prog w = .ok (x0 == y0 && (x1 == y1)) w := by
  refine eqA_of Try.underlying23 (by kernel_rfl) ?_
  refine eqf_cons (by rfl) (by go_simp; rfl) (by go_simp; rfl) (by go_simp) ?_
  exact eqf_last (by rfl) (by go_simp; rfl) (by go_simp; rfl) (by go_simp)
def sameK (x y : S23) : Bool := x.f0 == y.f0 && (x.f1 == y.f1)
theorem sameK_iff {x y : S23} : sameK x y = true ↔ x = y := by
  cases x; cases y
  simp [sameK]
theorem equal_key (w : World) (x y : S23) : (Op.equal 23 (keyV x) (keyV y)).run Try.prog w = .ok (sameK x y) w :=
  eqA23 (Op.maxDepth - 2) w x.f0 y.f0 x.f1 y.f1
/-- The entries of a map: keys and how often, in the order in which they came. -/
def ents : Nat → List (S23 × Int) → List MapEntry
  | _, [] => []
  | n, (k, v) :: t => { key := keyV k, val := .int .i64 v, born := n } :: ents (n + 1) t
def findP : List (S23 × Int) → S23 → Nat → Option (Nat × Value)
  | [], _, _ => none
  | (k', v) :: t, k, i => if sameK k k' = true then some (i, .int .i64 v) else findP t k (i + 1)
theorem ask_run (w : World) (k : S23) : ∀ (l : List (S23 × Int)) (n i : Nat), (Instr.findAsking 23 (keyV k) (ents n l) i).run Try.prog w = .ok (findP l k i) w
  | [], n, i => by simp [ents, Instr.findAsking, findP, Sem.run_pure]
  | (k', v) :: t, n, i => by
    unfold ents Instr.findAsking findP
    rw [Sem.run_bind, equal_key, Result.andThen_ok]
    cases sameK k k' with
    | true => simp [Sem.run_pure]
    | false => simpa using ask_run w k t (n + 1) (i + 1)
theorem find_run (w : World) (k : S23) (l : List (S23 × Int)) : (Instr.findKey 23 (keyV k) (ents 0 l)).run Try.prog w = .ok (findP l k 0) w := by
  unfold Instr.findKey
  have hu := Try.underlying23
  cases l with
  | nil => simp [ents, Instr.findNow, findP, go_sem, hu]
  | cons a t =>
    obtain ⟨k', v⟩ := a
    have h := ask_run w k ((k', v) :: t) 0 0
    unfold ents at h ⊢
    simp only [Sem.run_bind]
    rw [show (underlying 23).run Try.prog w = .ok (TypeDesc.struct #[{ name := "Count", type := 3, offset := 0, embedded := false, tag := "", pkgPath := "", byteOffset := 0 }, { name := "Replica", type := 3, offset := 1, embedded := false, tag := "", pkgPath := "", byteOffset := 8 }]) w from by simp [go_sem, hu], Result.andThen_ok]
    simp only [Instr.findNow, Instr.sameNow, keyV]
    exact h
/-- A map of one's own: block b, with such entries. -/
def MapS (W : World) (b : Nat) (l : List (S23 × Int)) : Prop := W.heap[b]? = some (.map (ents 0 l).toArray l.length)
def valP (l : List (S23 × Int)) (k : S23) : Value := match findP l k 0 with | some (_, v) => v | none => .int .i64 0
theorem und_run (W : World) : (underlying 70).run Try.prog W = .ok (TypeDesc.map 23 3) W := by
  have hu := Try.underlying70
  simp [go_sem, hu]
theorem zero_run (W : World) : (zeroValue 3).run Try.prog W = .ok (.int .i64 0) W := by
  have hu := Try.underlying3
  go_simp
theorem get_run {W : World} {b c : Nat} {es : Array MapEntry} (h : W.heap[b]? = some (.map es c)) : (getObj b).run Try.prog W = .ok (.map es c) W := by simp [getObj, Sem.run, h]
theorem set_run {W : World} {b c : Nat} {es : Array MapEntry} {o' : Obj} (h : W.heap[b]? = some (.map es c)) : (setObj b o').run Try.prog W = .ok () (W.putObj b o') := by
  simp [setObj, Sem.run, h, World.putObj]
theorem look_run {W : World} {b : Nat} {l : List (S23 × Int)} (h : MapS W b l) (k : S23) : (Instr.lookup 70 (.map (some b)) (keyV k) false).run Try.prog W = .ok (valP l k) W := by
  have e2 := get_run h
  have hf := find_run W k l
  have hc := fun em => check_key em W k
  unfold Instr.lookup valP
  simp only [Sem.run_bind, und_run, Result.andThen_ok, e2, Sem.run_pure, hc, hf]
  cases findP l k 0 with
  | none => simp [Sem.run_bind, zero_run, Sem.run_pure, Result.andThen_ok]
  | some r => simp [Sem.run_bind, Sem.run_pure, Result.andThen_ok]
theorem ents_append (l m : List (S23 × Int)) : ∀ n, ents n (l ++ m) = ents n l ++ ents (n + l.length) m := by
  induction l with
  | nil => intro n; simp [ents]
  | cons a t ih => intro n; obtain ⟨k, v⟩ := a; simp only [List.cons_append, ents, ih (n + 1), List.length_cons]; rw [show n + 1 + t.length = n + (t.length + 1) from by omega]
theorem entry_run {W : World} {b : Nat} {l : List (S23 × Int)} (h : MapS W b l) (k : S23) (hn : findP l k 0 = none) :
    (Instr.mapEntry 70 (.map (some b)) (keyV k)).run Try.prog W = .ok (.tuple #[.int .i64 0, .int .i64 (l.length : Int)]) (W.putObj b (.map (ents 0 (l ++ [(k, 0)])).toArray (l ++ [(k, 0)]).length)) := by
  have e2 := get_run h
  have hf := find_run W k l
  rw [hn] at hf
  have hc := fun em => check_key em W k
  have hs := fun o' => set_run (o' := o') h
  unfold Instr.mapEntry
  simp only [Sem.run_bind, und_run, Result.andThen_ok, e2, Sem.run_pure, hc, hf, zero_run, hs]
  rw [ents_append]
  simp [ents, goInt]
theorem ents_born : ∀ (l : List (S23 × Int)) (n : Nat), ∀ e ∈ ents n l, e.born < n + l.length
  | [], n, e, he => by cases he
  | (k, v) :: t, n, e, he => by
    unfold ents at he
    rcases List.mem_cons.1 he with rfl | he
    · show n < n + (t.length + 1); omega
    · have := ents_born t (n + 1) e he; simp only [List.length_cons]; omega
theorem ents_length : ∀ (l : List (S23 × Int)) (n : Nat), (ents n l).length = l.length
  | [], n => rfl
  | (k, v) :: t, n => by simp [ents, ents_length t (n + 1)]
theorem modify_last_ {α : Type} {f : α → α} {a : α} : ∀ (l : List α), (l ++ [a]).modify l.length f = l ++ [f a]
  | [] => rfl
  | b :: l => by simp only [List.cons_append, List.length_cons, List.modify_succ_cons, modify_last_ l]
theorem store_run {W : World} {b : Nat} {l : List (S23 × Int)} (k : S23) (v : Int) (h : MapS W b (l ++ [(k, 0)])) :
    (Instr.entryStore 70 (.map (some b)) (.int .i64 (l.length : Int)) (.int .i64 v)).run Try.prog W = .ok () (W.putObj b (.map (ents 0 (l ++ [(k, v)])).toArray (l ++ [(k, v)]).length)) := by
  have e2 := get_run h
  have hs := fun o' => set_run (o' := o') h
  have hlen : (ents 0 l).length = l.length := ents_length l 0
  have hb : ents 0 (l ++ [(k, 0)]) = ents 0 l ++ [{ key := keyV k, val := .int .i64 0, born := l.length }] := by rw [ents_append, Nat.zero_add]; rfl
  have hb2 : ents 0 (l ++ [(k, v)]) = ents 0 l ++ [{ key := keyV k, val := .int .i64 v, born := l.length }] := by rw [ents_append, Nat.zero_add]; rfl
  have hi : (ents 0 (l ++ [(k, 0)])).toArray.findIdx? (fun e => (e.born : Int) == (l.length : Int)) = some (ents 0 l).length := by
    rw [List.findIdx?_toArray, hb, List.findIdx?_append]
    have h1 : (ents 0 l).findIdx? (fun e => (e.born : Int) == (l.length : Int)) = none := by
      rw [List.findIdx?_eq_none_iff]
      intro e he
      have := ents_born l 0 e he
      simp only [beq_eq_false_iff_ne, ne_eq]
      omega
    rw [h1]
    simp
  have hm : (ents 0 (l ++ [(k, 0)])).toArray.modify (ents 0 l).length (fun e => { e with val := .int .i64 v }) = (ents 0 (l ++ [(k, v)])).toArray := by
    rw [hb, hb2, List.modify_toArray, modify_last_ (ents 0 l)]
  unfold Instr.entryStore
  have ha : (asInt (.int .i64 (l.length : Int))).run Try.prog W = .ok (l.length : Int) W := by simp [asInt, asIntOf, Sem.run_bind, Sem.run_pure, Result.andThen]
  simp only [Sem.run_bind, Result.andThen_ok, e2, ha, hi, hs]
  rw [hm, List.length_append, List.length_append]
  rfl
end Go.Proofs.Ytnkbgimihikhoaa.PVt
