/- What the statement's row needs of this session's texts, joined by program: part 7. -/
import Derived.RangeFuncNested
import Derived.RangeFuncBound
import Derived.RangeFuncCalls
import Derived.RangeFuncLeaves
import Derived.RangeFuncBox
import Derived.Shelf.Abstract
import Derived.Shelf.RegionOpen
import Derived.WalkKit
import Derived.OwnWalkIn
import Derived.TacticsInMore
import Derived.LoopNIn
import Derived.LoopIn
import Derived.ControlIn
import Derived.Deep.QuietTactic
import Derived.BigQuiet
import Derived.Deep.DeepCutAuto
import Derived.Deep.CutBlock
import Derived.Test.YtnkbgimihikhoaaQU5
namespace Go.Proofs.Ytnkbgimihikhoaa.PVt
open Go.RowKit Go.Shelf Go.Proofs.YtnkbgimihikhoaaW.PrintWords Go.Proofs.YtnkbgimihikhoaaW.PrintLast Go.Proofs.YtnkbgimihikhoaaW.PrintMore
attribute [local go_sem] Oper.semAt_some
set_option linter.unusedVariables false
set_option linter.unusedSimpArgs false
theorem back69 (w : World) : Calls Try.prog 69 #[.slice none 0 0] w fun e w' => e = .returned (.func (.func 83) #[] #[.pointer (some ⟨w.heap.size, 0, none⟩)]) ∧ w' = w.alloc (.cells #[.slice none 0 0] 34) := by
 go_enter Try.func69, Try.ntmps69
 go_wp2
 go_ret
 exact ⟨rfl, rfl⟩
theorem back70 (w : World) : Calls Try.prog 70 #[.slice none 0 0] w fun e w' => e = .returned (.func (.func 84) #[] #[.pointer (some ⟨w.heap.size, 0, none⟩)]) ∧ w' = w.alloc (.cells #[.slice none 0 0] 36) := by
 go_enter Try.func70, Try.ntmps70
 go_wp2
 go_ret
 exact ⟨rfl, rfl⟩
def encE (x : Empty) : Array Value := x.elim
set_option maxHeartbeats 8000000 in
set_option maxRecDepth 100000 in
theorem stops83 {w : World} {bx : Nat} (hbx : w.heap[bx]? = some (.cells #[.slice none 0 0] 34 (0, 0))) :
  SeqStopsK Fence.wide 2 Try.prog 83 #[.pointer (some ⟨bx, 0, none⟩)] encE (fun W W' => W.heap.size ≤ W'.heap.size) (fun _ => True) (fun _ => False) 0 w := fun l J Jx W hW hJ hJx hY h0 => by
 have hbl := (Array.getElem?_eq_some_iff.1 hbx).1
 have c0 : W.cell? ⟨bx, 0, none⟩ = some (.slice none 0 0) := Mem.cell_of ((hW.block bx hbl).trans hbx) 0
 clear hbl hbx hY
 refine callsIn_of_wp Try.func83 rfl trivial ?_ rfl
 simp only [Try.ntmps83, List.append_toArray, List.size_toArray, List.length_cons, List.length_nil, Nat.reduceAdd, Nat.reduceSub, Array.replicate_succ, Array.replicate_zero, List.push_toArray, List.append_toArray, List.nil_append, List.cons_append]
 gi_wp2_with (fail)
 gi_loopw [3] (fun v wr => v = .int .i64 (-1) ∧ wr = W) (fun _ _ => 0)
 case atStart => exact ⟨rfl, rfl⟩
 case round =>
  obtain ⟨rfl, rfl⟩ := hrel
  gi_wp2_with (fail)
  go_end0
  exact ⟨⟨_, rfl⟩, .inl ⟨[], trivial, h0⟩⟩
set_option maxHeartbeats 8000000 in
set_option maxRecDepth 100000 in
theorem stops84 {w : World} {bx : Nat} (hbx : w.heap[bx]? = some (.cells #[.slice none 0 0] 36 (0, 0))) :
  SeqStopsK Fence.wide 2 Try.prog 84 #[.pointer (some ⟨bx, 0, none⟩)] encE (fun W W' => W.heap.size ≤ W'.heap.size) (fun _ => True) (fun _ => False) 0 w := fun l J Jx W hW hJ hJx hY h0 => by
 have hbl := (Array.getElem?_eq_some_iff.1 hbx).1
 have c0 : W.cell? ⟨bx, 0, none⟩ = some (.slice none 0 0) := Mem.cell_of ((hW.block bx hbl).trans hbx) 0
 clear hbl hbx hY
 refine callsIn_of_wp Try.func84 rfl trivial ?_ rfl
 simp only [Try.ntmps84, List.append_toArray, List.size_toArray, List.length_cons, List.length_nil, Nat.reduceAdd, Nat.reduceSub, Array.replicate_succ, Array.replicate_zero, List.push_toArray, List.append_toArray, List.nil_append, List.cons_append]
 gi_wp2_with (fail)
 gi_loopw [3] (fun v wr => v = .int .i64 (-1) ∧ wr = W) (fun _ _ => 0)
 case atStart => exact ⟨rfl, rfl⟩
 case round =>
  obtain ⟨rfl, rfl⟩ := hrel
  gi_wp2_with (fail)
  go_end0
  exact ⟨⟨_, rfl⟩, .inl ⟨[], trivial, h0⟩⟩
theorem look_empty {W : World} {b t e : Nat} {z : Value} (hu : Try.prog.underlying t = some (.map 23 e)) (hz : (zeroValue e).run Try.prog W = .ok z W) (h : W.heap[b]? = some (.map #[] 0)) (k : S23) : (Instr.lookup t (.map (some b)) (keyV k) false).run Try.prog W = .ok z W := by
 have e2 := get_run h
 have hf : (Instr.findKey 23 (keyV k) []).run Try.prog W = .ok none W := find_run W k []
 have hc := fun em => check_key em W k
 have hur : (underlying t).run Try.prog W = .ok (TypeDesc.map 23 e) W := by simp [underlying, hu, Sem.run]
 unfold Instr.lookup
 simp only [Sem.run_bind, hur, Result.andThen_ok, e2, Sem.run_pure, hc, hf, hz]
 rfl
/-- A projector of nothing. -/
structure Proj0 (W : World) (p m : Nat) (v : Nat) (a1 a2 a3 a4 : Nat) : Prop where
 box : W.heap[p]? = some (.cells #[.map (some a1), .map (some a2), .map (some a3), .map (some a4), .map (some m), .int .i64 (v : Int)] 83 (0, 0))
 h2 : W.heap[a2]? = some (.map #[] 0)
 h3 : W.heap[a3]? = some (.map #[] 0)
 ne2 : a2 ≠ m
 ne3 : a3 ≠ m
set_option maxHeartbeats 8000000 in
set_option maxRecDepth 100000 in
theorem of_empty (w : World) : Calls Try.prog 49 #[.agg #[.slice none 0 0, .slice none 0 0, .slice none 0 0, .slice none 0 0]] w fun e w' => ∃ p m a1 a2 a3 a4, e = .returned (.pointer (some ⟨p, 0, none⟩)) ∧ Proj0 w' p m 0 a1 a2 a3 a4 ∧ w'.heap[m]? = some (.map #[] 0) ∧ w.heap.size ≤ p ∧ w.heap.size ≤ m ∧ Below w.heap.size w w' := by
 refine (callsIn_wide (n := 3)).1 ?_
 refine callsIn_of_wp_marks Try.func49 rfl trivial ?_ rfl
 simp only [Try.ntmps49, List.size_toArray, List.length_cons, List.length_nil, Nat.reduceAdd, Nat.reduceSub, Array.replicate_succ, Array.replicate_zero, List.push_toArray, List.append_toArray, List.nil_append, List.cons_append]
 refine wpIn_wide.2 ?_
 have hmm := @run_makeMap Try.prog
 go_wp2_with (fail)
 clear hmm
 refine (back69 _).mono ?_
 rintro e w1 ⟨rfl, rfl⟩
 go_wp2_with (fail)
 have hBU : Below w.heap.size w (((((((((w.alloc (.cells #[.slice none 0 0, .slice none 0 0, .slice none 0 0, .slice none 0 0] 39)).alloc (.map #[] 0)).alloc (.map #[] 0)).alloc (.map #[] 0)).alloc (.map #[] 0)).alloc (.map #[] 0)).alloc (.cells #[.map (some (w.heap.size + 1)), .map (some (w.heap.size + 1 + 1)), .map (some (w.heap.size + 1 + 1 + 1)), .map (some (w.heap.size + 1 + 1 + 1 + 1)), .map (some (w.heap.size + 1 + 1 + 1 + 1 + 1)), .int .i64 0] 83)).alloc (.cells #[.pointer (some ⟨w.heap.size + 1 + 1 + 1 + 1 + 1 + 1, 0, none⟩)] 75)).alloc (.cells #[.slice none 0 0] 34)) := below_alloc (below_alloc (below_alloc (below_alloc (below_alloc (below_alloc (below_alloc (below_alloc (below_alloc (Below.refl _ _) _) _) _) _) _) _) _) _) _
 have hUS : (((((((((w.alloc (.cells #[.slice none 0 0, .slice none 0 0, .slice none 0 0, .slice none 0 0] 39)).alloc (.map #[] 0)).alloc (.map #[] 0)).alloc (.map #[] 0)).alloc (.map #[] 0)).alloc (.map #[] 0)).alloc (.cells #[.map (some (w.heap.size + 1)), .map (some (w.heap.size + 1 + 1)), .map (some (w.heap.size + 1 + 1 + 1)), .map (some (w.heap.size + 1 + 1 + 1 + 1)), .map (some (w.heap.size + 1 + 1 + 1 + 1 + 1)), .int .i64 0] 83)).alloc (.cells #[.pointer (some ⟨w.heap.size + 1 + 1 + 1 + 1 + 1 + 1, 0, none⟩)] 75)).alloc (.cells #[.slice none 0 0] 34)).heap.size = w.heap.size + 9 := by rw [Mem.alloc_size, Mem.alloc_size, Mem.alloc_size, Mem.alloc_size, Mem.alloc_size, Mem.alloc_size, Mem.alloc_size, Mem.alloc_size, Mem.alloc_size]
 have hd : (((((((((w.alloc (.cells #[.slice none 0 0, .slice none 0 0, .slice none 0 0, .slice none 0 0] 39)).alloc (.map #[] 0)).alloc (.map #[] 0)).alloc (.map #[] 0)).alloc (.map #[] 0)).alloc (.map #[] 0)).alloc (.cells #[.map (some (w.heap.size + 1)), .map (some (w.heap.size + 1 + 1)), .map (some (w.heap.size + 1 + 1 + 1)), .map (some (w.heap.size + 1 + 1 + 1 + 1)), .map (some (w.heap.size + 1 + 1 + 1 + 1 + 1)), .int .i64 0] 83)).alloc (.cells #[.pointer (some ⟨w.heap.size + 1 + 1 + 1 + 1 + 1 + 1, 0, none⟩)] 75)).alloc (.cells #[.slice none 0 0] 34)).heap[w.heap.size]? = some (.cells #[.slice none 0 0, .slice none 0 0, .slice none 0 0, .slice none 0 0] 39 (0, 0)) := Mem.alloc_old (Mem.alloc_old (Mem.alloc_old (Mem.alloc_old (Mem.alloc_old (Mem.alloc_old (Mem.alloc_old (Mem.alloc_old (Mem.alloc_new _ _) _) _) _) _) _) _) _) _
 have ha2 : (((((((((w.alloc (.cells #[.slice none 0 0, .slice none 0 0, .slice none 0 0, .slice none 0 0] 39)).alloc (.map #[] 0)).alloc (.map #[] 0)).alloc (.map #[] 0)).alloc (.map #[] 0)).alloc (.map #[] 0)).alloc (.cells #[.map (some (w.heap.size + 1)), .map (some (w.heap.size + 1 + 1)), .map (some (w.heap.size + 1 + 1 + 1)), .map (some (w.heap.size + 1 + 1 + 1 + 1)), .map (some (w.heap.size + 1 + 1 + 1 + 1 + 1)), .int .i64 0] 83)).alloc (.cells #[.pointer (some ⟨w.heap.size + 1 + 1 + 1 + 1 + 1 + 1, 0, none⟩)] 75)).alloc (.cells #[.slice none 0 0] 34)).heap[w.heap.size + 1 + 1]? = some (.map #[] 0) := Mem.alloc_old (Mem.alloc_old (Mem.alloc_old (Mem.alloc_old (Mem.alloc_old (Mem.alloc_old (Mem.alloc_new_at _ _ _ (by rw [Mem.alloc_size, Mem.alloc_size])) _) _) _) _) _) _
 have ha3 : (((((((((w.alloc (.cells #[.slice none 0 0, .slice none 0 0, .slice none 0 0, .slice none 0 0] 39)).alloc (.map #[] 0)).alloc (.map #[] 0)).alloc (.map #[] 0)).alloc (.map #[] 0)).alloc (.map #[] 0)).alloc (.cells #[.map (some (w.heap.size + 1)), .map (some (w.heap.size + 1 + 1)), .map (some (w.heap.size + 1 + 1 + 1)), .map (some (w.heap.size + 1 + 1 + 1 + 1)), .map (some (w.heap.size + 1 + 1 + 1 + 1 + 1)), .int .i64 0] 83)).alloc (.cells #[.pointer (some ⟨w.heap.size + 1 + 1 + 1 + 1 + 1 + 1, 0, none⟩)] 75)).alloc (.cells #[.slice none 0 0] 34)).heap[w.heap.size + 1 + 1 + 1]? = some (.map #[] 0) := Mem.alloc_old (Mem.alloc_old (Mem.alloc_old (Mem.alloc_old (Mem.alloc_old (Mem.alloc_new_at _ _ _ (by rw [Mem.alloc_size, Mem.alloc_size, Mem.alloc_size])) _) _) _) _) _
 have hm : (((((((((w.alloc (.cells #[.slice none 0 0, .slice none 0 0, .slice none 0 0, .slice none 0 0] 39)).alloc (.map #[] 0)).alloc (.map #[] 0)).alloc (.map #[] 0)).alloc (.map #[] 0)).alloc (.map #[] 0)).alloc (.cells #[.map (some (w.heap.size + 1)), .map (some (w.heap.size + 1 + 1)), .map (some (w.heap.size + 1 + 1 + 1)), .map (some (w.heap.size + 1 + 1 + 1 + 1)), .map (some (w.heap.size + 1 + 1 + 1 + 1 + 1)), .int .i64 0] 83)).alloc (.cells #[.pointer (some ⟨w.heap.size + 1 + 1 + 1 + 1 + 1 + 1, 0, none⟩)] 75)).alloc (.cells #[.slice none 0 0] 34)).heap[w.heap.size + 1 + 1 + 1 + 1 + 1]? = some (.map #[] 0) := Mem.alloc_old (Mem.alloc_old (Mem.alloc_old (Mem.alloc_new_at _ _ _ (by rw [Mem.alloc_size, Mem.alloc_size, Mem.alloc_size, Mem.alloc_size, Mem.alloc_size])) _) _) _
 have hp : (((((((((w.alloc (.cells #[.slice none 0 0, .slice none 0 0, .slice none 0 0, .slice none 0 0] 39)).alloc (.map #[] 0)).alloc (.map #[] 0)).alloc (.map #[] 0)).alloc (.map #[] 0)).alloc (.map #[] 0)).alloc (.cells #[.map (some (w.heap.size + 1)), .map (some (w.heap.size + 1 + 1)), .map (some (w.heap.size + 1 + 1 + 1)), .map (some (w.heap.size + 1 + 1 + 1 + 1)), .map (some (w.heap.size + 1 + 1 + 1 + 1 + 1)), .int .i64 0] 83)).alloc (.cells #[.pointer (some ⟨w.heap.size + 1 + 1 + 1 + 1 + 1 + 1, 0, none⟩)] 75)).alloc (.cells #[.slice none 0 0] 34)).heap[w.heap.size + 1 + 1 + 1 + 1 + 1 + 1]? = some (.cells #[.map (some (w.heap.size + 1)), .map (some (w.heap.size + 1 + 1)), .map (some (w.heap.size + 1 + 1 + 1)), .map (some (w.heap.size + 1 + 1 + 1 + 1)), .map (some (w.heap.size + 1 + 1 + 1 + 1 + 1)), .int .i64 0] 83 (0, 0)) := Mem.alloc_old (Mem.alloc_old (Mem.alloc_new_at _ _ _ (by rw [Mem.alloc_size, Mem.alloc_size, Mem.alloc_size, Mem.alloc_size, Mem.alloc_size, Mem.alloc_size])) _) _
 have hq : (((((((((w.alloc (.cells #[.slice none 0 0, .slice none 0 0, .slice none 0 0, .slice none 0 0] 39)).alloc (.map #[] 0)).alloc (.map #[] 0)).alloc (.map #[] 0)).alloc (.map #[] 0)).alloc (.map #[] 0)).alloc (.cells #[.map (some (w.heap.size + 1)), .map (some (w.heap.size + 1 + 1)), .map (some (w.heap.size + 1 + 1 + 1)), .map (some (w.heap.size + 1 + 1 + 1 + 1)), .map (some (w.heap.size + 1 + 1 + 1 + 1 + 1)), .int .i64 0] 83)).alloc (.cells #[.pointer (some ⟨w.heap.size + 1 + 1 + 1 + 1 + 1 + 1, 0, none⟩)] 75)).alloc (.cells #[.slice none 0 0] 34)).heap[w.heap.size + 1 + 1 + 1 + 1 + 1 + 1 + 1]? = some (.cells #[.pointer (some ⟨w.heap.size + 1 + 1 + 1 + 1 + 1 + 1, 0, none⟩)] 75 (0, 0)) := Mem.alloc_old (Mem.alloc_new_at _ _ _ (by rw [Mem.alloc_size, Mem.alloc_size, Mem.alloc_size, Mem.alloc_size, Mem.alloc_size, Mem.alloc_size, Mem.alloc_size])) _
 have hbx : (((((((((w.alloc (.cells #[.slice none 0 0, .slice none 0 0, .slice none 0 0, .slice none 0 0] 39)).alloc (.map #[] 0)).alloc (.map #[] 0)).alloc (.map #[] 0)).alloc (.map #[] 0)).alloc (.map #[] 0)).alloc (.cells #[.map (some (w.heap.size + 1)), .map (some (w.heap.size + 1 + 1)), .map (some (w.heap.size + 1 + 1 + 1)), .map (some (w.heap.size + 1 + 1 + 1 + 1)), .map (some (w.heap.size + 1 + 1 + 1 + 1 + 1)), .int .i64 0] 83)).alloc (.cells #[.pointer (some ⟨w.heap.size + 1 + 1 + 1 + 1 + 1 + 1, 0, none⟩)] 75)).alloc (.cells #[.slice none 0 0] 34)).heap[w.heap.size + 1 + 1 + 1 + 1 + 1 + 1 + 1 + 1]? = some (.cells #[.slice none 0 0] 34 (0, 0)) := Mem.alloc_new_at _ _ _ (by rw [Mem.alloc_size, Mem.alloc_size, Mem.alloc_size, Mem.alloc_size, Mem.alloc_size, Mem.alloc_size, Mem.alloc_size, Mem.alloc_size])
 generalize (((((((((w.alloc (.cells #[.slice none 0 0, .slice none 0 0, .slice none 0 0, .slice none 0 0] 39)).alloc (.map #[] 0)).alloc (.map #[] 0)).alloc (.map #[] 0)).alloc (.map #[] 0)).alloc (.map #[] 0)).alloc (.cells #[.map (some (w.heap.size + 1)), .map (some (w.heap.size + 1 + 1)), .map (some (w.heap.size + 1 + 1 + 1)), .map (some (w.heap.size + 1 + 1 + 1 + 1)), .map (some (w.heap.size + 1 + 1 + 1 + 1 + 1)), .int .i64 0] 83)).alloc (.cells #[.pointer (some ⟨w.heap.size + 1 + 1 + 1 + 1 + 1 + 1, 0, none⟩)] 75)).alloc (.cells #[.slice none 0 0] 34)) = U at *
 refine (wpIn_wide (n := 3)).1 ?_
 refine wpIn_rangeFunc_ownH (F := Fence.wide) (n := 3) rfl (by decide) (gf := 83) (lb := #[.pointer (some ⟨w.heap.size + 1 + 1 + 1 + 1 + 1 + 1 + 1 + 1, 0, none⟩)]) rfl trivial (enters_of Try.func83 (by kernel_rfl) rfl)
  (stops83 hbx) (fun h k => Nat.le_trans h k) (fun W l o o' hl h1 h2 _ => by simp) (Below.refl _ _) (fun x => x.elim)
  (fun (pre : List Empty) W => LK (fun _ => False) w.heap.size w U W) (fun _ _ _ => False) (LK_own (Nat.le_refl _) hBU.size) (fun _ _ _ _ _ hs _ _ => hs) ⟨KeptT.refl _ _, hBU⟩
  (fun x a' W => True) (fun x a' _ X Y row hs hg hr => trivial) ?assign ?body ?done ?stop
 case assign => rintro l pre x; exact x.elim
 case body => rintro l pre x; exact x.elim
 case stop => rintro D c pre W _ _ h _; exact h.elim
 case done =>
  rintro D ys W1 hD _ hL hKD
  have HL := Aside0.mk hL
  have HKD := Aside0.mk hKD
  have d1 : W1.cell? ⟨w.heap.size, 1, none⟩ = some (.slice none 0 0) := Mem.cell_of (hL.1.cells hd id) 1
  have d2 : W1.cell? ⟨w.heap.size, 2, none⟩ = some (.slice none 0 0) := Mem.cell_of (hL.1.cells hd id) 2
  have d3 : W1.cell? ⟨w.heap.size, 3, none⟩ = some (.slice none 0 0) := Mem.cell_of (hL.1.cells hd id) 3
  have HU : Aside0 (U.heap.size ≤ W1.heap.size) := ⟨hL.1.size⟩
  clear hL hKD
  go_wp2_with (fail)
  go_loopw [36] (fun v wr => v = .int .i64 0 ∧ wr = W1) (fun _ _ => 0)
  case atStart => exact ⟨rfl, rfl⟩
  case round =>
   obtain ⟨rfl, rfl⟩ := hrel
   rename World => W1
   go_wp2_with (fail)
   refine (back70 _).mono ?_
   rintro e w1 ⟨rfl, rfl⟩
   go_wp2_with (fail)
   have hbx2 : (W1.alloc (.cells #[.slice none 0 0] 36)).heap[W1.heap.size]? = some (.cells #[.slice none 0 0] 36 (0, 0)) := Mem.alloc_new _ _
   have hL2 : LK (fun _ => False) w.heap.size w U (W1.alloc (.cells #[.slice none 0 0] 36)) := HL.out.on (below_alloc (Below.refl _ _) _) hBU.size
   have HD2 : Aside0 ((W1.alloc (.cells #[.slice none 0 0] 36)).heap[D]? = some (.deferred (some []))) := ⟨Mem.alloc_old HKD.out _⟩
   generalize W1.alloc (.cells #[.slice none 0 0] 36) = V at *
   have hBV := hL2.2
   refine (wpIn_wide (n := 3)).1 ?_
   refine wpIn_rangeFunc_ownH (F := Fence.wide) (n := 3) rfl (by decide) (gf := 84) (lb := #[.pointer (some ⟨W1.heap.size, 0, none⟩)]) rfl trivial (enters_of Try.func84 (by kernel_rfl) rfl)
    (stops84 hbx2) (fun h k => Nat.le_trans h k) (fun W l o o' hl h1 h2 _ => by simp) (Below.refl _ _) (fun x => x.elim)
    (fun (pre : List Empty) W => LK (fun _ => False) w.heap.size w V W) (fun _ _ _ => False) (LK_own (Nat.le_refl _) hBV.size) (fun _ _ _ _ _ hs _ _ => hs) ⟨KeptT.refl _ _, hBV⟩
    (fun x a' W => True) (fun x a' _ X Y row hs hg hr => trivial) ?assign2 ?body2 ?done2 ?stop2
   case assign2 => rintro l pre x; exact x.elim
   case body2 => rintro l pre x; exact x.elim
   case stop2 => rintro D c pre W _ _ h _; exact h.elim
   case done2 =>
    rintro D2 ys W2 hD2 _ hL3 hKD2
    have hK : KeptT (fun _ => False) U W2 := ⟨Nat.le_trans hL2.1.size hL3.1.size, fun i hi hn => (hL3.1.block i (Nat.lt_of_lt_of_le hi hL2.1.size) hn).trans (hL2.1.block i hi hn)⟩
    have HK := Aside0.mk hK
    have HB := Aside0.mk hL3.2
    have HKD2 := Aside0.mk hKD2
    have HKD1 := Aside0.mk (hL3.1.cells HD2.out id)
    have d1' : W2.cell? ⟨w.heap.size, 1, none⟩ = some (.slice none 0 0) := Mem.cell_of (hK.cells hd id) 1
    have q0 : W2.cell? ⟨w.heap.size + 1 + 1 + 1 + 1 + 1 + 1 + 1, 0, none⟩ = some (.pointer (some ⟨w.heap.size + 1 + 1 + 1 + 1 + 1 + 1, 0, none⟩)) := Mem.cell_of (hK.cells hq id) 0
    clear hK hL3 hKD2 d1 d2 d3
    go_wp2_with (fail)
    go_loopw [69] (fun v wr => v = .int .i64 0 ∧ wr = W2) (fun _ _ => 0)
    case atStart => exact ⟨rfl, rfl⟩
    case round =>
     obtain ⟨rfl, rfl⟩ := hrel
     rename World => W2
     go_wp2_with (fail)
     have hlt : D < D2 := Nat.lt_of_lt_of_le (blk_lt' HD2.out) hD2
     have he4 : (W2.putObj D2 (.deferred none)).heap[D]? = _ := (World.putObj_heap_other (by omega)).trans HKD1.out
     refine ⟨by simp, .inl ⟨_, _, rfl, run_takeDeferred HKD2.out, by simp, .inl ⟨_, _, rfl, run_takeDeferred he4, ?_⟩⟩⟩
     have he : ∀ k o, k < w.heap.size + 9 → U.heap[k]? = some o → ((W2.putObj D2 (.deferred none)).putObj D (.deferred none)).heap[k]? = some o := fun k o hk ho => (World.putObj_heap_other (by omega)).trans ((World.putObj_heap_other (by omega)).trans (HK.out.cells ho id))
     refine ⟨_, results_tmp rfl _ _ _, w.heap.size + 1 + 1 + 1 + 1 + 1 + 1, w.heap.size + 1 + 1 + 1 + 1 + 1, w.heap.size + 1, w.heap.size + 1 + 1, w.heap.size + 1 + 1 + 1, w.heap.size + 1 + 1 + 1 + 1, rfl, ⟨he _ _ (by omega) hp, he _ _ (by omega) ha2, he _ _ (by omega) ha3, by omega, by omega⟩, he _ _ (by omega) hm, by omega, by omega, ?_⟩
     exact (HB.out.trans (belowK_b (w := V) hBV.size _ D2 _ _ hD2 HKD2.out rfl rfl)).trans (belowK_b (w := U) hBU.size _ D _ _ hD he4 rfl rfl)
theorem below_put' {n b : Nat} {w W : World} (h : Below n w W) (hb : n ≤ b) (o : Obj) : Below n w (W.putObj b o) := ⟨h.os, h.tape, h.output, Nat.le_trans h.size (by simp), fun i hi => (World.putObj_heap_other (by omega)).trans (h.block i hi)⟩
theorem set6 {P : World} {b t : Nat} {u0 u1 u2 u3 u4 u5 : Value} (h : P.heap[b]? = some (.cells #[u0, u1, u2, u3, u4, u5] t (0, 0))) (v0 v1 v2 v3 v4 v5 : Value) :
  ((((((P.setCell ⟨b, 0, none⟩ v0).setCell ⟨b, 1, none⟩ v1).setCell ⟨b, 2, none⟩ v2).setCell ⟨b, 3, none⟩ v3).setCell ⟨b, 4, none⟩ v4).setCell ⟨b, 5, none⟩ v5).heap[b]? = some (.cells #[v0, v1, v2, v3, v4, v5] t (0, 0)) :=
 Mem.set_heap (Mem.set_heap (Mem.set_heap (Mem.set_heap (Mem.set_heap (Mem.set_heap h 0 v0) 1 v1) 2 v2) 3 v3) 4 v4) 5 v5
theorem set6_far (P : World) {b k : Nat} (h : k ≠ b) (v0 v1 v2 v3 v4 v5 : Value) :
  ((((((P.setCell ⟨b, 0, none⟩ v0).setCell ⟨b, 1, none⟩ v1).setCell ⟨b, 2, none⟩ v2).setCell ⟨b, 3, none⟩ v3).setCell ⟨b, 4, none⟩ v4).setCell ⟨b, 5, none⟩ v5).heap[k]? = P.heap[k]? :=
 (Mem.set_other _ _ _ _ h).trans ((Mem.set_other _ _ _ _ h).trans ((Mem.set_other _ _ _ _ h).trans ((Mem.set_other _ _ _ _ h).trans ((Mem.set_other _ _ _ _ h).trans (Mem.set_other _ _ _ _ h)))))
theorem set6_below {P w : World} {b n : Nat} (h : Below n w P) (hn : n ≤ b) (v0 v1 v2 v3 v4 v5 : Value) :
  Below n w ((((((P.setCell ⟨b, 0, none⟩ v0).setCell ⟨b, 1, none⟩ v1).setCell ⟨b, 2, none⟩ v2).setCell ⟨b, 3, none⟩ v3).setCell ⟨b, 4, none⟩ v4).setCell ⟨b, 5, none⟩ v5) :=
 (((((h.setCell (p := ⟨b, 0, none⟩) hn _).setCell (p := ⟨b, 1, none⟩) hn _).setCell (p := ⟨b, 2, none⟩) hn _).setCell (p := ⟨b, 3, none⟩) hn _).setCell (p := ⟨b, 4, none⟩) hn _).setCell (p := ⟨b, 5, none⟩) hn _
theorem below_after {n m : Nat} {w w1 w2 : World} (h : Below m w w1) (k : Below n w1 w2) (hn : n ≤ m) : Below n w w2 := (h.mono hn).trans k
theorem wrap_one' : IntKind.i64.wrap 1 = 1 := by decide
def z0 : S23 := ⟨0, 0⟩
set_option maxHeartbeats 8000000 in
set_option maxRecDepth 100000 in
theorem node_empty (w : World) (p m a1 a2 a3 a4 n0 : Nat) (h : Proj0 w p m 0 a1 a2 a3 a4) (hm : w.heap[m]? = some (.map #[] 0)) (hp : n0 ≤ p) (hm0 : n0 ≤ m) (hn : n0 ≤ w.heap.size) :
  Calls Try.prog 50 #[.pointer (some ⟨p, 0, none⟩), .agg #[.int .i64 0, .int .i64 0], .string { data := #[114, 111, 111, 116] }] w fun e w' => e = .returned (.agg #[.int .i64 0, .int .i64 0, .string { data := #[114, 111, 111, 116] }, .string ⟨#[]⟩, .slice none 0 0, .slice none 0 0]) ∧ w'.heap[p]? = some (.cells #[.map (some a1), .map (some a2), .map (some a3), .map (some a4), .map (some m), .int .i64 1] 83 (0, 0)) ∧ Below n0 w w' := by
 have hpl := blk_lt' h.box
 have hml := blk_lt' hm
 have hB1 : Below w.heap.size w (((w.alloc (.cells #[.int .i64 0, .int .i64 0] 23)).alloc (.cells #[.int .i64 0, .int .i64 0, .string ⟨#[]⟩, .string ⟨#[]⟩, .slice none 0 0, .slice none 0 0] 27)).alloc (.cells #[.int .i64 0, .int .i64 0, .string { data := #[114, 111, 111, 116] }, .string ⟨#[]⟩, .slice none 0 0, .slice none 0 0] 27)) := below_alloc (below_alloc (below_alloc (Below.refl _ _) _) _) _
 have hp1 := (hB1.block p hpl).trans h.box
 have hm1 : MapS (((w.alloc (.cells #[.int .i64 0, .int .i64 0] 23)).alloc (.cells #[.int .i64 0, .int .i64 0, .string ⟨#[]⟩, .string ⟨#[]⟩, .slice none 0 0, .slice none 0 0] 27)).alloc (.cells #[.int .i64 0, .int .i64 0, .string { data := #[114, 111, 111, 116] }, .string ⟨#[]⟩, .slice none 0 0, .slice none 0 0] 27)) m [] := (hB1.block m hml).trans hm
 have h21 := (hB1.block a2 (blk_lt' h.h2)).trans h.h2
 have h31 := (hB1.block a3 (blk_lt' h.h3)).trans h.h3
 have h4 : (((w.alloc (.cells #[.int .i64 0, .int .i64 0] 23)).alloc (.cells #[.int .i64 0, .int .i64 0, .string ⟨#[]⟩, .string ⟨#[]⟩, .slice none 0 0, .slice none 0 0] 27)).alloc (.cells #[.int .i64 0, .int .i64 0, .string { data := #[114, 111, 111, 116] }, .string ⟨#[]⟩, .slice none 0 0, .slice none 0 0] 27)).heap[w.heap.size]? = some (.cells #[.int .i64 0, .int .i64 0] 23 (0, 0)) := Mem.alloc_old (Mem.alloc_old (Mem.alloc_new _ _) _) _
 have h6 : (((w.alloc (.cells #[.int .i64 0, .int .i64 0] 23)).alloc (.cells #[.int .i64 0, .int .i64 0, .string ⟨#[]⟩, .string ⟨#[]⟩, .slice none 0 0, .slice none 0 0] 27)).alloc (.cells #[.int .i64 0, .int .i64 0, .string { data := #[114, 111, 111, 116] }, .string ⟨#[]⟩, .slice none 0 0, .slice none 0 0] 27)).heap[w.heap.size + 1]? = some (.cells #[.int .i64 0, .int .i64 0, .string ⟨#[]⟩, .string ⟨#[]⟩, .slice none 0 0, .slice none 0 0] 27 (0, 0)) := Mem.alloc_old (Mem.alloc_new_at _ _ _ (by rw [Mem.alloc_size])) _
 have h7 : (((w.alloc (.cells #[.int .i64 0, .int .i64 0] 23)).alloc (.cells #[.int .i64 0, .int .i64 0, .string ⟨#[]⟩, .string ⟨#[]⟩, .slice none 0 0, .slice none 0 0] 27)).alloc (.cells #[.int .i64 0, .int .i64 0, .string { data := #[114, 111, 111, 116] }, .string ⟨#[]⟩, .slice none 0 0, .slice none 0 0] 27)).heap[w.heap.size + 1 + 1]? = some (.cells #[.int .i64 0, .int .i64 0, .string { data := #[114, 111, 111, 116] }, .string ⟨#[]⟩, .slice none 0 0, .slice none 0 0] 27 (0, 0)) := Mem.alloc_new_at _ _ _ (by rw [Mem.alloc_size, Mem.alloc_size])
 have hne2 := h.ne2
 have hne3 := h.ne3
 clear h hm
 have HB1 := Aside0.mk hB1
 clear hB1
 go_enter Try.func50, Try.ntmps50
 go_upto_region 2 with (fail)
 generalize (((w.alloc (.cells #[.int .i64 0, .int .i64 0] 23)).alloc (.cells #[.int .i64 0, .int .i64 0, .string ⟨#[]⟩, .string ⟨#[]⟩, .slice none 0 0, .slice none 0 0] 27)).alloc (.cells #[.int .i64 0, .int .i64 0, .string { data := #[114, 111, 111, 116] }, .string ⟨#[]⟩, .slice none 0 0, .slice none 0 0] 27)) = W1 at *
 have hpm : p ≠ m := by rintro rfl; have h_ := hm1; unfold MapS at h_; rw [hp1] at h_; cases h_
 have hMd : MapS W1.drew m [] := hm1
 have r1 : Sem.run Try.prog (Instr.lookup 70 (.map (some m)) (.agg #[.int .i64 0, .int .i64 0]) false) W1.drew = .ok (.int .i64 0) W1.drew := look_run hMd z0
 have r2 : Sem.run Try.prog (Instr.mapEntry 70 (.map (some m)) (.agg #[.int .i64 0, .int .i64 0])) W1.drew = .ok (.tuple #[.int .i64 0, .int .i64 0]) (W1.drew.putObj m (.map (ents 0 [(z0, 0)]).toArray 1)) := entry_run hMd z0 rfl
 have hM1 : MapS (W1.drew.putObj m (.map (ents 0 [(z0, 0)]).toArray 1)) m [(z0, 0)] := World.putObj_heap_same (blk_lt' hMd)
 have hM2 : MapS ((W1.drew.putObj m (.map (ents 0 [(z0, 0)]).toArray 1)).putObj m (.map (ents 0 [(z0, 1)]).toArray 1)) m [(z0, 1)] := World.putObj_heap_same (blk_lt' hM1)
 have r3 : Sem.run Try.prog (Instr.lookup 70 (.map (some m)) (.agg #[.int .i64 0, .int .i64 0]) false) (W1.drew.putObj m (.map (ents 0 [(z0, 0)]).toArray 1)) = .ok (.int .i64 0) (W1.drew.putObj m (.map (ents 0 [(z0, 0)]).toArray 1)) := look_run hM1 z0
 have r4 : Sem.run Try.prog (Instr.entryStore 70 (.map (some m)) (.int .i64 0) (.int .i64 1)) (W1.drew.putObj m (.map (ents 0 [(z0, 0)]).toArray 1)) = .ok () ((W1.drew.putObj m (.map (ents 0 [(z0, 0)]).toArray 1)).putObj m (.map (ents 0 [(z0, 1)]).toArray 1)) := store_run (l := []) z0 1 hM1
 have hw1 := wrap_one'
 have ho : ∀ k o, k ≠ m → W1.heap[k]? = some o → ((W1.drew.putObj m (.map (ents 0 [(z0, 0)]).toArray 1)).putObj m (.map (ents 0 [(z0, 1)]).toArray 1)).heap[k]? = some o := fun k o hk h_ => (World.putObj_heap_other hk).trans ((World.putObj_heap_other hk).trans h_)
 have HPB : Aside0 (Below n0 W1 ((W1.drew.putObj m (.map (ents 0 [(z0, 0)]).toArray 1)).putObj m (.map (ents 0 [(z0, 1)]).toArray 1))) := ⟨below_put' (below_put' (below_drew (Below.refl _ _)) hm0 _) hm0 _⟩
 have c4 : W1.cell? ⟨p, 4, none⟩ = some (.map (some m)) := Mem.cell_of hp1 4
 have k0 : W1.cell? ⟨w.heap.size, 0, none⟩ = some (.int .i64 0) := Mem.cell_of h4 0
 have k1 : W1.cell? ⟨w.heap.size, 1, none⟩ = some (.int .i64 0) := Mem.cell_of h4 1
 have HP2 := Aside0.mk (ho _ _ hpm hp1)
 have HA2 := Aside0.mk (ho _ _ hne2 h21)
 have HA3 := Aside0.mk (ho _ _ hne3 h31)
 have HK4 := Aside0.mk (ho _ _ (by omega) h4)
 have HK6 := Aside0.mk (ho _ _ (by omega) h6)
 have HK7 := Aside0.mk (ho _ _ (by omega) h7)
 clear hM1 hM2 hMd ho hp1 hm1 h21 h31 h4 h6 h7
 generalize hq1 : (W1.drew.putObj m (.map (ents 0 [(z0, 0)]).toArray 1)) = P1 at *
 generalize hq2 : P1.putObj m (.map (ents 0 [(z0, 1)]).toArray 1) = P2 at *
 clear hq1 hq2
 go_cut [20] from 142 (fun v wr => Aside0 (wr = P2))
 case first =>
  go_region
  all_goals
   go_wp2_with (fail)
   go_meet
   case rel => exact ⟨rfl⟩
 case rest =>
  obtain rfl := hcut.out
  clear r1 r2 r3 r4 c4 k0 k1
  have c5 : wc.cell? ⟨p, 5, none⟩ = some (.int .i64 0) := Mem.cell_of HP2.out 5
  have f5 := Mem.free_of HP2.out 5
  go_upto_region 5 with (fail)
  have ho : ∀ k o, k ≠ p → wc.heap[k]? = some o → (wc.setCell ⟨p, 5, none⟩ (.int .i64 1)).heap[k]? = some o := fun k o hk h_ => (Mem.set_other _ _ _ _ hk).trans h_
  have HP3 : Aside0 ((wc.setCell ⟨p, 5, none⟩ (.int .i64 1)).heap[p]? = some (.cells #[.map (some a1), .map (some a2), .map (some a3), .map (some a4), .map (some m), .int .i64 1] 83 (0, 0))) := ⟨Mem.set_heap HP2.out 5 _⟩
  have HB3 : Aside0 (Below n0 W1 (wc.setCell ⟨p, 5, none⟩ (.int .i64 1))) := ⟨HPB.out.setCell (p := ⟨p, 5, none⟩) hp _⟩
  have hK4 := ho _ _ (by omega) HK4.out
  have hK6 := ho _ _ (by omega) HK6.out
  have hK7 := ho _ _ (by omega) HK7.out
  have hA2 := ho _ _ (by rintro rfl; have h_ := HA2.out; rw [HP2.out] at h_; cases h_) HA2.out
  have hA3 := ho _ _ (by rintro rfl; have h_ := HA3.out; rw [HP2.out] at h_; cases h_) HA3.out
  clear c5 f5 ho HP2 HA2 HA3 HK4 HK6 HK7 HPB
  generalize wc.setCell ⟨p, 5, none⟩ (.int .i64 1) = P3 at *
  have c1 : P3.cell? ⟨p, 1, none⟩ = some (.map (some a2)) := Mem.cell_of HP3.out 1
  have c2 : P3.cell? ⟨p, 2, none⟩ = some (.map (some a3)) := Mem.cell_of HP3.out 2
  have k0 : P3.cell? ⟨w.heap.size, 0, none⟩ = some (.int .i64 0) := Mem.cell_of hK4 0
  have k1 : P3.cell? ⟨w.heap.size, 1, none⟩ = some (.int .i64 0) := Mem.cell_of hK4 1
  have r5 : Sem.run Try.prog (Instr.lookup 79 (.map (some a2)) (.agg #[.int .i64 0, .int .i64 0]) false) P3.drew = .ok (.slice none 0 0) P3.drew := look_empty (W := P3.drew) (z := .slice none 0 0) Try.underlying79 (by have hu := Try.underlying37; go_simp) hA2 z0
  have r6 : Sem.run Try.prog (Instr.lookup 80 (.map (some a3)) (.agg #[.int .i64 0, .int .i64 0]) false) P3.drew.drew = .ok (.slice none 0 0) P3.drew.drew := look_empty (W := P3.drew.drew) (z := .slice none 0 0) Try.underlying80 (by have hu := Try.underlying48; go_simp) hA3 z0
  go_region
  all_goals
   go_wp2_with (fail)
   go_loopw [43] (fun v wr => v = .int .i64 0 ∧ wr = P3.drew) (fun _ _ => 0)
   case atStart => exact ⟨rfl, rfl⟩
   case round =>
    obtain ⟨rfl, rfl⟩ := hrel
    go_wp2_with (fail)
    go_region
    all_goals
     go_wp2_with (fail)
     go_loopw [87] (fun v wr => v = .int .i64 0 ∧ wr = P3.drew.drew) (fun _ _ => 0)
     case atStart => exact ⟨rfl, rfl⟩
     case round =>
      obtain ⟨rfl, rfl⟩ := hrel
      have hK6' : P3.drew.drew.heap[w.heap.size + 1]? = _ := hK6
      have hK7' : P3.drew.drew.heap[w.heap.size + 1 + 1]? = _ := hK7
      have HP5 : Aside0 (P3.drew.drew.heap[p]? = _) := HP3
      have HB5 : Aside0 (Below n0 W1 P3.drew.drew) := ⟨below_drew (below_drew HB3.out)⟩
      generalize P3.drew.drew = P5 at hK6' hK7' HP5 HB5 ⊢
      have y0 : P5.cell? ⟨w.heap.size + 1 + 1, 0, none⟩ = some (.int .i64 0) := Mem.cell_of hK7' 0
      have y1 : P5.cell? ⟨w.heap.size + 1 + 1, 1, none⟩ = some (.int .i64 0) := Mem.cell_of hK7' 1
      have y2 : P5.cell? ⟨w.heap.size + 1 + 1, 2, none⟩ = some (.string { data := #[114, 111, 111, 116] }) := Mem.cell_of hK7' 2
      have y3 : P5.cell? ⟨w.heap.size + 1 + 1, 3, none⟩ = some (.string ⟨#[]⟩) := Mem.cell_of hK7' 3
      have y4 : P5.cell? ⟨w.heap.size + 1 + 1, 4, none⟩ = some (.slice none 0 0) := Mem.cell_of hK7' 4
      have y5 : P5.cell? ⟨w.heap.size + 1 + 1, 5, none⟩ = some (.slice none 0 0) := Mem.cell_of hK7' 5
      have HK6 := Aside0.mk hK6'
      have g0 : P5.cell? ⟨w.heap.size + 1, 0, none⟩ = some (.int .i64 0) := Mem.cell_of hK6' 0
      have g1 : P5.cell? ⟨w.heap.size + 1, 1, none⟩ = some (.int .i64 0) := Mem.cell_of hK6' 1
      have g2 : P5.cell? ⟨w.heap.size + 1, 2, none⟩ = some (.string ⟨#[]⟩) := Mem.cell_of hK6' 2
      have g3 : P5.cell? ⟨w.heap.size + 1, 3, none⟩ = some (.string ⟨#[]⟩) := Mem.cell_of hK6' 3
      have g4 : P5.cell? ⟨w.heap.size + 1, 4, none⟩ = some (.slice none 0 0) := Mem.cell_of hK6' 4
      have g5 : P5.cell? ⟨w.heap.size + 1, 5, none⟩ = some (.slice none 0 0) := Mem.cell_of hK6' 5
      have fr0 := Mem.free_of hK6' 0
      have fr1 := Mem.free_of hK6' 1
      have fr2 := Mem.free_of hK6' 2
      have fr3 := Mem.free_of hK6' 3
      have fr4 := Mem.free_of hK6' 4
      have fr5 := Mem.free_of hK6' 5
      clear hK6' hK7' hK6 hK7 hK4 hA2 hA3 r5 r6 c1 c2 k0 k1
      go_wp2_with (fail)
      have hpl2 : p < w.heap.size := hpl
      refine bodyPost_ret (results_cell_row rfl _ _ (w.heap.size + 1) 27 #[.int .i64 0, .int .i64 0, .string { data := #[114, 111, 111, 116] }, .string ⟨#[]⟩, .slice none 0 0, .slice none 0 0] (0, 0) _ rfl (set6 HK6.out _ _ _ _ _ _) Try.underlying27 rfl (by kernel_rfl)) rfl ⟨rfl, (set6_far _ (by omega) _ _ _ _ _ _).trans HP5.out, ?_⟩
      exact set6_below (below_after HB1.out HB5.out hn) (by omega) _ _ _ _ _ _
set_option maxHeartbeats 8000000 in
set_option maxRecDepth 100000 in
theorem tree_empty (w : World) : Calls Try.prog 18 #[.agg #[.slice none 0 0, .slice none 0 0, .slice none 0 0, .slice none 0 0]] w fun e w' => e = .returned (.tuple #[.agg #[.int .i64 0, .int .i64 0, .string { data := #[114, 111, 111, 116] }, .string ⟨#[]⟩, .slice none 0 0, .slice none 0 0], .int .i64 0]) ∧ Below w.heap.size w w' := by
 go_enter Try.func18, Try.ntmps18
 go_wp2_with (fail)
 refine (of_empty _).mono ?_
 rintro e w1 ⟨p, m, a1, a2, a3, a4, rfl, hP, hm, hp, hmm, hb⟩
 have HB := Aside0.mk hb
 have hlo : w.heap.size + 2 ≤ p := by have h_ := hp; rw [Mem.alloc_size, Mem.alloc_size] at h_; exact h_
 have hlm : w.heap.size + 2 ≤ m := by have h_ := hmm; rw [Mem.alloc_size, Mem.alloc_size] at h_; exact h_
 have HB2 : Aside0 (Below (w.heap.size + 2) ((w.alloc (.cells #[.slice none 0 0, .slice none 0 0, .slice none 0 0, .slice none 0 0] 39)).alloc (.cells #[.int .i64 0, .int .i64 0, .string ⟨#[]⟩, .string ⟨#[]⟩, .slice none 0 0, .slice none 0 0] 27)) w1) := ⟨by have h_ := hb; rw [Mem.alloc_size, Mem.alloc_size] at h_; exact h_⟩
 have HN := Aside0.mk (node_empty w1 p m a1 a2 a3 a4 (w.heap.size + 2) hP hm hlo hlm (by have h_ := hb.size; rw [Mem.alloc_size, Mem.alloc_size] at h_; exact h_))
 clear hP hm hp hmm hb
 go_wp2_with (fail)
 refine HN.out.mono ?_
 rintro e w2 ⟨rfl, hp2, hb2⟩
 have hb12 := HB2.out.trans hb2
 have hr0 : w2.heap[w.heap.size + 1]? = some (.cells #[.int .i64 0, .int .i64 0, .string ⟨#[]⟩, .string ⟨#[]⟩, .slice none 0 0, .slice none 0 0] 27 (0, 0)) := (hb12.block _ (by omega)).trans (Mem.alloc_new_at _ _ _ (by rw [Mem.alloc_size]))
 have HBW : Aside0 (Below w.heap.size w w2) := ⟨(below_alloc (below_alloc (Below.refl _ _) _) _).trans (hb12.mono (by omega))⟩
 have HS : Aside0 (w.heap.size + 2 ≤ w2.heap.size) := ⟨by have h_ := hb12.size; rw [Mem.alloc_size, Mem.alloc_size] at h_; exact h_⟩
 have c5 : (w2.alloc (.cells #[.int .i64 0, .int .i64 0, .string { data := #[114, 111, 111, 116] }, .string ⟨#[]⟩, .slice none 0 0, .slice none 0 0] 27)).cell? ⟨p, 5, none⟩ = some (.int .i64 1) := Mem.cell_alloc (Mem.cell_of hp2 5) _
 clear hp2 hb2 hb12 HN HB
 go_upto_region 5 with (fail)
 have hr := Mem.alloc_old hr0 (.cells #[.int .i64 0, .int .i64 0, .string { data := #[114, 111, 111, 116] }, .string ⟨#[]⟩, .slice none 0 0, .slice none 0 0] 27)
 have h5 : (w2.alloc (.cells #[.int .i64 0, .int .i64 0, .string { data := #[114, 111, 111, 116] }, .string ⟨#[]⟩, .slice none 0 0, .slice none 0 0] 27)).heap[w2.heap.size]? = _ := Mem.alloc_new _ _
 have HB5 : Aside0 (Below w.heap.size w (w2.alloc (.cells #[.int .i64 0, .int .i64 0, .string { data := #[114, 111, 111, 116] }, .string ⟨#[]⟩, .slice none 0 0, .slice none 0 0] 27))) := ⟨HBW.out.alloc HBW.out.size _⟩
 generalize w2.alloc (.cells #[.int .i64 0, .int .i64 0, .string { data := #[114, 111, 111, 116] }, .string ⟨#[]⟩, .slice none 0 0, .slice none 0 0] 27) = P5 at *
 have y0 : P5.cell? ⟨w2.heap.size, 0, none⟩ = some (.int .i64 0) := Mem.cell_of h5 0
 have y1 : P5.cell? ⟨w2.heap.size, 1, none⟩ = some (.int .i64 0) := Mem.cell_of h5 1
 have y2 : P5.cell? ⟨w2.heap.size, 2, none⟩ = some (.string { data := #[114, 111, 111, 116] }) := Mem.cell_of h5 2
 have y3 : P5.cell? ⟨w2.heap.size, 3, none⟩ = some (.string ⟨#[]⟩) := Mem.cell_of h5 3
 have y4 : P5.cell? ⟨w2.heap.size, 4, none⟩ = some (.slice none 0 0) := Mem.cell_of h5 4
 have y5 : P5.cell? ⟨w2.heap.size, 5, none⟩ = some (.slice none 0 0) := Mem.cell_of h5 5
 have HK6 := Aside0.mk hr
 have g0 : P5.cell? ⟨w.heap.size + 1, 0, none⟩ = some (.int .i64 0) := Mem.cell_of hr 0
 have g1 : P5.cell? ⟨w.heap.size + 1, 1, none⟩ = some (.int .i64 0) := Mem.cell_of hr 1
 have g2 : P5.cell? ⟨w.heap.size + 1, 2, none⟩ = some (.string ⟨#[]⟩) := Mem.cell_of hr 2
 have g3 : P5.cell? ⟨w.heap.size + 1, 3, none⟩ = some (.string ⟨#[]⟩) := Mem.cell_of hr 3
 have g4 : P5.cell? ⟨w.heap.size + 1, 4, none⟩ = some (.slice none 0 0) := Mem.cell_of hr 4
 have g5 : P5.cell? ⟨w.heap.size + 1, 5, none⟩ = some (.slice none 0 0) := Mem.cell_of hr 5
 have fr0 := Mem.free_of hr 0
 have fr1 := Mem.free_of hr 1
 have fr2 := Mem.free_of hr 2
 have fr3 := Mem.free_of hr 3
 have fr4 := Mem.free_of hr 4
 have fr5 := Mem.free_of hr 5
 clear hr hr0 h5
 go_wp2_with (fail)
 refine bodyPost_ret (results_ct rfl _ _ (w.heap.size + 1) 27 #[.int .i64 0, .int .i64 0, .string { data := #[114, 111, 111, 116] }, .string ⟨#[]⟩, .slice none 0 0, .slice none 0 0] (0, 0) _ rfl (set6 HK6.out _ _ _ _ _ _) Try.underlying27 rfl (by kernel_rfl)) rfl ⟨rfl, ?_⟩
 exact set6_below HB5.out (by omega) _ _ _ _ _ _
end Go.Proofs.Ytnkbgimihikhoaa.PVt
namespace Go.Proofs.Ytnkbgimihikhoaa.PVt
open Go.RowKit Go.Shelf Go.Proofs.YtnkbgimihikhoaaW.PrintWords Go.Proofs.YtnkbgimihikhoaaW.PrintLast Go.Proofs.YtnkbgimihikhoaaW.PrintMore Go.Proofs.Ytnkbgimihikhoaa.Gm Go.Proofs.Ytnkbgimihikhoaa
attribute [local go_sem] Oper.semAt_some
set_option linter.unusedVariables false
set_option linter.unusedSimpArgs false
theorem MapA_own {P : Program} {α β : Type} [DecidableEq α] {d : Mk P α} {B b : Nat} (hb : b < B) (F : β → List (α × Value)) : OwnFrom B (fun s W => MapA d W b (F s)) := fun s X Y row hs hg hr => hs.step (hg.block b hs.lt (fun e => by have := (hr b e.symm).1; omega))
def vo.T4 : Bool × List (List Nat × List Nat) := (true, [([], []), ([0], [0]), ([1], [1]), ([2], [2]), ([], []), ([4], [4]), ([], []), ([6], [6]), ([3, 5, 7, 0, 1, 2, 3, 4, 5, 6, 7], [3, 5, 7])])
def vo.B4 : List Nat := [0, 1, 3, 7, 0, 16, 0, 64, 255]
theorem vo.tab4 : rtab .any (opsOf Try.f49 4) = vo.T4 := by kernel_rfl
theorem vo.bits4 : waitsOk vo.T4.2 vo.B4 = true := by kernel_rfl
def vo.T8 : Bool × List (List Nat × List Nat) := (true, [([], []), ([0], [0]), ([1], [1]), ([2], [2]), ([], []), ([4], [4]), ([], []), ([6], [6]), ([3, 5, 0, 1, 2, 3, 4, 5, 6, 7], [3, 5]), ([8], [8]), ([9, 7, 8], [7, 9]), ([8], [8]), ([3, 11, 10, 10, 0, 1, 2, 3, 4, 5, 6, 7, 8, 9, 10, 11], [3, 10, 11])])
def vo.B8 : List Nat := [0, 1, 3, 7, 0, 16, 0, 64, 255, 511, 1023, 511, 4095]
theorem vo.tab8 : rtab .any (opsOf Try.f49 8) = vo.T8 := by kernel_rfl
theorem vo.bits8 : waitsOk vo.T8.2 vo.B8 = true := by kernel_rfl
def vo.T12 : Bool × List (List Nat × List Nat) := (true, [([], []), ([0], [0]), ([1], [1]), ([2], [2]), ([], []), ([4], [4]), ([], []), ([6], [6]), ([3, 5, 7, 0, 1, 2, 3, 4, 5, 6, 7], [3, 5, 7])])
def vo.B12 : List Nat := [0, 1, 3, 7, 0, 16, 0, 64, 255]
theorem vo.tab12 : rtab .any (opsOf Try.f49 12) = vo.T12 := by kernel_rfl
theorem vo.bits12 : waitsOk vo.T12.2 vo.B12 = true := by kernel_rfl
def vo.T17 : Bool × List (List Nat × List Nat) := (true, [([], []), ([0], [0]), ([1], [1]), ([2], [2]), ([], []), ([], []), ([5], [5]), ([6], [6]), ([3, 4, 0, 1, 2, 3, 4, 5, 6, 7], [3, 4]), ([8], [8]), ([9, 7, 8], [7, 9]), ([8], [8]), ([3, 11, 10, 10, 0, 1, 2, 3, 4, 5, 6, 7, 8, 9, 10, 11], [3, 10, 11])])
def vo.B17 : List Nat := [0, 1, 3, 7, 0, 0, 32, 96, 255, 511, 1023, 511, 4095]
theorem vo.tab17 : rtab .any (opsOf Try.f49 17) = vo.T17 := by kernel_rfl
theorem vo.bits17 : waitsOk vo.T17.2 vo.B17 = true := by kernel_rfl
set_option maxHeartbeats 8000000 in
set_option maxRecDepth 100000 in
theorem of_calls (w : World) (D : DocP) (hD : Small D) (A0 A1 A2 A3 : Option Addr) (c0 c1 c2 c3 : Nat) (hF0 : Kd.F k52 w (fun k => k < w.heap.size) A0 D.made.length D.made) (hF1 : Kd.F k97 w (fun k => k < w.heap.size) A1 D.placed.length D.placed) (hF2 : Kd.F k74 w (fun k => k < w.heap.size) A2 D.rows.length D.rows) (hF3 : Kd.F k111 w (fun k => k < w.heap.size) A3 D.regs.length D.regs) :
  Calls Try.prog 49 #[.agg #[.slice A0 D.made.length c0, .slice A1 D.placed.length c1, .slice A2 D.rows.length c2, .slice A3 D.regs.length c3]] w fun e w' => ∃ p m a1 a2 a3 a4 : Nat, e = .returned (.pointer (some ⟨p, 0, none⟩)) ∧ ProjS w' w'.heap.size D p m a1 a2 a3 a4 ∧ w'.heap[p]? = some (.cells #[.map (some a1), .map (some a2), .map (some a3), .map (some a4), .map (some m), .int .i64 0] 83 (0, 0)) ∧ MapA dSeen w' m [] ∧ p ≠ m ∧ w.heap.size ≤ p ∧ w.heap.size ≤ m ∧ Below w.heap.size w w' := by
 have HF0 := Aside0.mk hF0
 have HF1 := Aside0.mk hF1
 have HF2 := Aside0.mk hF2
 have HF3 := Aside0.mk hF3
 have HD := Aside0.mk hD
 clear hF0 hF1 hF2 hF3 hD
 refine (callsIn_wide (n := 3)).1 ?_
 refine callsIn_of_wp_marks Try.func49 rfl trivial ?_ rfl
 simp only [Try.ntmps49, List.size_toArray, List.length_cons, List.length_nil, Nat.reduceAdd, Nat.reduceSub, Array.replicate_succ, Array.replicate_zero, List.push_toArray, List.append_toArray, List.nil_append, List.cons_append]
 refine wpIn_wide.2 ?_
 have hmm := @run_makeMap Try.prog
 go_wp2_with (fail)
 clear hmm
 refine (back69g _ _ _ _).mono ?_
 rintro e w1 ⟨rfl, rfl⟩
 go_wp2_with (fail)
 have hBU : Below w.heap.size w (((((((((w.alloc (.cells #[.slice A0 D.made.length c0, .slice A1 D.placed.length c1, .slice A2 D.rows.length c2, .slice A3 D.regs.length c3] 39)).alloc (.map #[] 0)).alloc (.map #[] 0)).alloc (.map #[] 0)).alloc (.map #[] 0)).alloc (.map #[] 0)).alloc (.cells #[.map (some (w.heap.size + 1)), .map (some (w.heap.size + 1 + 1)), .map (some (w.heap.size + 1 + 1 + 1)), .map (some (w.heap.size + 1 + 1 + 1 + 1)), .map (some (w.heap.size + 1 + 1 + 1 + 1 + 1)), .int .i64 0] 83)).alloc (.cells #[.pointer (some ⟨w.heap.size + 1 + 1 + 1 + 1 + 1 + 1, 0, none⟩)] 75)).alloc (.cells #[.slice A0 D.made.length c0] 34)) := below_alloc (below_alloc (below_alloc (below_alloc (below_alloc (below_alloc (below_alloc (below_alloc (below_alloc (Below.refl _ _) _) _) _) _) _) _) _) _) _
 have hUS : (((((((((w.alloc (.cells #[.slice A0 D.made.length c0, .slice A1 D.placed.length c1, .slice A2 D.rows.length c2, .slice A3 D.regs.length c3] 39)).alloc (.map #[] 0)).alloc (.map #[] 0)).alloc (.map #[] 0)).alloc (.map #[] 0)).alloc (.map #[] 0)).alloc (.cells #[.map (some (w.heap.size + 1)), .map (some (w.heap.size + 1 + 1)), .map (some (w.heap.size + 1 + 1 + 1)), .map (some (w.heap.size + 1 + 1 + 1 + 1)), .map (some (w.heap.size + 1 + 1 + 1 + 1 + 1)), .int .i64 0] 83)).alloc (.cells #[.pointer (some ⟨w.heap.size + 1 + 1 + 1 + 1 + 1 + 1, 0, none⟩)] 75)).alloc (.cells #[.slice A0 D.made.length c0] 34)).heap.size = w.heap.size + 9 := by rw [Mem.alloc_size, Mem.alloc_size, Mem.alloc_size, Mem.alloc_size, Mem.alloc_size, Mem.alloc_size, Mem.alloc_size, Mem.alloc_size, Mem.alloc_size]
 have hd : (((((((((w.alloc (.cells #[.slice A0 D.made.length c0, .slice A1 D.placed.length c1, .slice A2 D.rows.length c2, .slice A3 D.regs.length c3] 39)).alloc (.map #[] 0)).alloc (.map #[] 0)).alloc (.map #[] 0)).alloc (.map #[] 0)).alloc (.map #[] 0)).alloc (.cells #[.map (some (w.heap.size + 1)), .map (some (w.heap.size + 1 + 1)), .map (some (w.heap.size + 1 + 1 + 1)), .map (some (w.heap.size + 1 + 1 + 1 + 1)), .map (some (w.heap.size + 1 + 1 + 1 + 1 + 1)), .int .i64 0] 83)).alloc (.cells #[.pointer (some ⟨w.heap.size + 1 + 1 + 1 + 1 + 1 + 1, 0, none⟩)] 75)).alloc (.cells #[.slice A0 D.made.length c0] 34)).heap[w.heap.size]? = some (.cells #[.slice A0 D.made.length c0, .slice A1 D.placed.length c1, .slice A2 D.rows.length c2, .slice A3 D.regs.length c3] 39 (0, 0)) := Mem.alloc_old (Mem.alloc_old (Mem.alloc_old (Mem.alloc_old (Mem.alloc_old (Mem.alloc_old (Mem.alloc_old (Mem.alloc_old (Mem.alloc_new _ _) _) _) _) _) _) _) _) _
 have hb1 : (((((((((w.alloc (.cells #[.slice A0 D.made.length c0, .slice A1 D.placed.length c1, .slice A2 D.rows.length c2, .slice A3 D.regs.length c3] 39)).alloc (.map #[] 0)).alloc (.map #[] 0)).alloc (.map #[] 0)).alloc (.map #[] 0)).alloc (.map #[] 0)).alloc (.cells #[.map (some (w.heap.size + 1)), .map (some (w.heap.size + 1 + 1)), .map (some (w.heap.size + 1 + 1 + 1)), .map (some (w.heap.size + 1 + 1 + 1 + 1)), .map (some (w.heap.size + 1 + 1 + 1 + 1 + 1)), .int .i64 0] 83)).alloc (.cells #[.pointer (some ⟨w.heap.size + 1 + 1 + 1 + 1 + 1 + 1, 0, none⟩)] 75)).alloc (.cells #[.slice A0 D.made.length c0] 34)).heap[w.heap.size + 1]? = some (.map #[] 0) := Mem.alloc_old (Mem.alloc_old (Mem.alloc_old (Mem.alloc_old (Mem.alloc_old (Mem.alloc_old (Mem.alloc_old (Mem.alloc_new_at _ _ _ (by rw [Mem.alloc_size])) _) _) _) _) _) _) _
 have hb2 : (((((((((w.alloc (.cells #[.slice A0 D.made.length c0, .slice A1 D.placed.length c1, .slice A2 D.rows.length c2, .slice A3 D.regs.length c3] 39)).alloc (.map #[] 0)).alloc (.map #[] 0)).alloc (.map #[] 0)).alloc (.map #[] 0)).alloc (.map #[] 0)).alloc (.cells #[.map (some (w.heap.size + 1)), .map (some (w.heap.size + 1 + 1)), .map (some (w.heap.size + 1 + 1 + 1)), .map (some (w.heap.size + 1 + 1 + 1 + 1)), .map (some (w.heap.size + 1 + 1 + 1 + 1 + 1)), .int .i64 0] 83)).alloc (.cells #[.pointer (some ⟨w.heap.size + 1 + 1 + 1 + 1 + 1 + 1, 0, none⟩)] 75)).alloc (.cells #[.slice A0 D.made.length c0] 34)).heap[w.heap.size + 1 + 1]? = some (.map #[] 0) := Mem.alloc_old (Mem.alloc_old (Mem.alloc_old (Mem.alloc_old (Mem.alloc_old (Mem.alloc_old (Mem.alloc_new_at _ _ _ (by rw [Mem.alloc_size, Mem.alloc_size])) _) _) _) _) _) _
 have hb3 : (((((((((w.alloc (.cells #[.slice A0 D.made.length c0, .slice A1 D.placed.length c1, .slice A2 D.rows.length c2, .slice A3 D.regs.length c3] 39)).alloc (.map #[] 0)).alloc (.map #[] 0)).alloc (.map #[] 0)).alloc (.map #[] 0)).alloc (.map #[] 0)).alloc (.cells #[.map (some (w.heap.size + 1)), .map (some (w.heap.size + 1 + 1)), .map (some (w.heap.size + 1 + 1 + 1)), .map (some (w.heap.size + 1 + 1 + 1 + 1)), .map (some (w.heap.size + 1 + 1 + 1 + 1 + 1)), .int .i64 0] 83)).alloc (.cells #[.pointer (some ⟨w.heap.size + 1 + 1 + 1 + 1 + 1 + 1, 0, none⟩)] 75)).alloc (.cells #[.slice A0 D.made.length c0] 34)).heap[w.heap.size + 1 + 1 + 1]? = some (.map #[] 0) := Mem.alloc_old (Mem.alloc_old (Mem.alloc_old (Mem.alloc_old (Mem.alloc_old (Mem.alloc_new_at _ _ _ (by rw [Mem.alloc_size, Mem.alloc_size, Mem.alloc_size])) _) _) _) _) _
 have hb4 : (((((((((w.alloc (.cells #[.slice A0 D.made.length c0, .slice A1 D.placed.length c1, .slice A2 D.rows.length c2, .slice A3 D.regs.length c3] 39)).alloc (.map #[] 0)).alloc (.map #[] 0)).alloc (.map #[] 0)).alloc (.map #[] 0)).alloc (.map #[] 0)).alloc (.cells #[.map (some (w.heap.size + 1)), .map (some (w.heap.size + 1 + 1)), .map (some (w.heap.size + 1 + 1 + 1)), .map (some (w.heap.size + 1 + 1 + 1 + 1)), .map (some (w.heap.size + 1 + 1 + 1 + 1 + 1)), .int .i64 0] 83)).alloc (.cells #[.pointer (some ⟨w.heap.size + 1 + 1 + 1 + 1 + 1 + 1, 0, none⟩)] 75)).alloc (.cells #[.slice A0 D.made.length c0] 34)).heap[w.heap.size + 1 + 1 + 1 + 1]? = some (.map #[] 0) := Mem.alloc_old (Mem.alloc_old (Mem.alloc_old (Mem.alloc_old (Mem.alloc_new_at _ _ _ (by rw [Mem.alloc_size, Mem.alloc_size, Mem.alloc_size, Mem.alloc_size])) _) _) _) _
 have hb5 : (((((((((w.alloc (.cells #[.slice A0 D.made.length c0, .slice A1 D.placed.length c1, .slice A2 D.rows.length c2, .slice A3 D.regs.length c3] 39)).alloc (.map #[] 0)).alloc (.map #[] 0)).alloc (.map #[] 0)).alloc (.map #[] 0)).alloc (.map #[] 0)).alloc (.cells #[.map (some (w.heap.size + 1)), .map (some (w.heap.size + 1 + 1)), .map (some (w.heap.size + 1 + 1 + 1)), .map (some (w.heap.size + 1 + 1 + 1 + 1)), .map (some (w.heap.size + 1 + 1 + 1 + 1 + 1)), .int .i64 0] 83)).alloc (.cells #[.pointer (some ⟨w.heap.size + 1 + 1 + 1 + 1 + 1 + 1, 0, none⟩)] 75)).alloc (.cells #[.slice A0 D.made.length c0] 34)).heap[w.heap.size + 1 + 1 + 1 + 1 + 1]? = some (.map #[] 0) := Mem.alloc_old (Mem.alloc_old (Mem.alloc_old (Mem.alloc_new_at _ _ _ (by rw [Mem.alloc_size, Mem.alloc_size, Mem.alloc_size, Mem.alloc_size, Mem.alloc_size])) _) _) _
 have hp : (((((((((w.alloc (.cells #[.slice A0 D.made.length c0, .slice A1 D.placed.length c1, .slice A2 D.rows.length c2, .slice A3 D.regs.length c3] 39)).alloc (.map #[] 0)).alloc (.map #[] 0)).alloc (.map #[] 0)).alloc (.map #[] 0)).alloc (.map #[] 0)).alloc (.cells #[.map (some (w.heap.size + 1)), .map (some (w.heap.size + 1 + 1)), .map (some (w.heap.size + 1 + 1 + 1)), .map (some (w.heap.size + 1 + 1 + 1 + 1)), .map (some (w.heap.size + 1 + 1 + 1 + 1 + 1)), .int .i64 0] 83)).alloc (.cells #[.pointer (some ⟨w.heap.size + 1 + 1 + 1 + 1 + 1 + 1, 0, none⟩)] 75)).alloc (.cells #[.slice A0 D.made.length c0] 34)).heap[w.heap.size + 1 + 1 + 1 + 1 + 1 + 1]? = some (.cells #[.map (some (w.heap.size + 1)), .map (some (w.heap.size + 1 + 1)), .map (some (w.heap.size + 1 + 1 + 1)), .map (some (w.heap.size + 1 + 1 + 1 + 1)), .map (some (w.heap.size + 1 + 1 + 1 + 1 + 1)), .int .i64 0] 83 (0, 0)) := Mem.alloc_old (Mem.alloc_old (Mem.alloc_new_at _ _ _ (by rw [Mem.alloc_size, Mem.alloc_size, Mem.alloc_size, Mem.alloc_size, Mem.alloc_size, Mem.alloc_size])) _) _
 have hq : (((((((((w.alloc (.cells #[.slice A0 D.made.length c0, .slice A1 D.placed.length c1, .slice A2 D.rows.length c2, .slice A3 D.regs.length c3] 39)).alloc (.map #[] 0)).alloc (.map #[] 0)).alloc (.map #[] 0)).alloc (.map #[] 0)).alloc (.map #[] 0)).alloc (.cells #[.map (some (w.heap.size + 1)), .map (some (w.heap.size + 1 + 1)), .map (some (w.heap.size + 1 + 1 + 1)), .map (some (w.heap.size + 1 + 1 + 1 + 1)), .map (some (w.heap.size + 1 + 1 + 1 + 1 + 1)), .int .i64 0] 83)).alloc (.cells #[.pointer (some ⟨w.heap.size + 1 + 1 + 1 + 1 + 1 + 1, 0, none⟩)] 75)).alloc (.cells #[.slice A0 D.made.length c0] 34)).heap[w.heap.size + 1 + 1 + 1 + 1 + 1 + 1 + 1]? = some (.cells #[.pointer (some ⟨w.heap.size + 1 + 1 + 1 + 1 + 1 + 1, 0, none⟩)] 75 (0, 0)) := Mem.alloc_old (Mem.alloc_new_at _ _ _ (by rw [Mem.alloc_size, Mem.alloc_size, Mem.alloc_size, Mem.alloc_size, Mem.alloc_size, Mem.alloc_size, Mem.alloc_size])) _
 have hbx : (((((((((w.alloc (.cells #[.slice A0 D.made.length c0, .slice A1 D.placed.length c1, .slice A2 D.rows.length c2, .slice A3 D.regs.length c3] 39)).alloc (.map #[] 0)).alloc (.map #[] 0)).alloc (.map #[] 0)).alloc (.map #[] 0)).alloc (.map #[] 0)).alloc (.cells #[.map (some (w.heap.size + 1)), .map (some (w.heap.size + 1 + 1)), .map (some (w.heap.size + 1 + 1 + 1)), .map (some (w.heap.size + 1 + 1 + 1 + 1)), .map (some (w.heap.size + 1 + 1 + 1 + 1 + 1)), .int .i64 0] 83)).alloc (.cells #[.pointer (some ⟨w.heap.size + 1 + 1 + 1 + 1 + 1 + 1, 0, none⟩)] 75)).alloc (.cells #[.slice A0 D.made.length c0] 34)).heap[w.heap.size + 1 + 1 + 1 + 1 + 1 + 1 + 1 + 1]? = some (.cells #[.slice A0 D.made.length c0] 34 (0, 0)) := Mem.alloc_new_at _ _ _ (by rw [Mem.alloc_size, Mem.alloc_size, Mem.alloc_size, Mem.alloc_size, Mem.alloc_size, Mem.alloc_size, Mem.alloc_size, Mem.alloc_size])
 generalize (((((((((w.alloc (.cells #[.slice A0 D.made.length c0, .slice A1 D.placed.length c1, .slice A2 D.rows.length c2, .slice A3 D.regs.length c3] 39)).alloc (.map #[] 0)).alloc (.map #[] 0)).alloc (.map #[] 0)).alloc (.map #[] 0)).alloc (.map #[] 0)).alloc (.cells #[.map (some (w.heap.size + 1)), .map (some (w.heap.size + 1 + 1)), .map (some (w.heap.size + 1 + 1 + 1)), .map (some (w.heap.size + 1 + 1 + 1 + 1)), .map (some (w.heap.size + 1 + 1 + 1 + 1 + 1)), .int .i64 0] 83)).alloc (.cells #[.pointer (some ⟨w.heap.size + 1 + 1 + 1 + 1 + 1 + 1, 0, none⟩)] 75)).alloc (.cells #[.slice A0 D.made.length c0] 34)) = U at *
 generalize he8 : w.heap.size + 1 + 1 + 1 + 1 + 1 + 1 + 1 + 1 = bx at *
 generalize he7 : w.heap.size + 1 + 1 + 1 + 1 + 1 + 1 + 1 = p3 at *
 generalize he6 : w.heap.size + 1 + 1 + 1 + 1 + 1 + 1 = pb at *
 generalize he5 : w.heap.size + 1 + 1 + 1 + 1 + 1 = b5 at *
 generalize he4 : w.heap.size + 1 + 1 + 1 + 1 = b4 at *
 generalize he3 : w.heap.size + 1 + 1 + 1 = b3 at *
 generalize he2 : w.heap.size + 1 + 1 = b2 at *
 generalize he1 : w.heap.size + 1 = b1 at *
 have HE : Aside0 (w.heap.size + 1 = b1 ∧ b1 + 1 = b2 ∧ b2 + 1 = b3 ∧ b3 + 1 = b4 ∧ b4 + 1 = b5 ∧ b5 + 1 = pb ∧ pb + 1 = p3 ∧ p3 + 1 = bx ∧ U.heap.size = w.heap.size + 9) := ⟨he1, he2, he3, he4, he5, he6, he7, he8, hUS⟩
 have hBUs := hBU.size
 refine (wpIn_wide (n := 3)).1 ?_
 refine wpIn_rangeFunc_ownH (F := Fence.wide) (n := 3) rfl (by decide) (gf := 83) (lb := #[.pointer (some ⟨bx, 0, none⟩)]) rfl trivial (enters_of Try.func83 (by kernel_rfl) rfl)
  (stops83g (w0 := w) (n0 := w.heap.size) (by have := HD.out.made; omega) HF0.out (fun i hi => hBU.block i hi) hBU.size hbx) KT.trans (fun W l o o' hl h1 h2 _ => KT.put W l o o' (Nat.le_trans hBU.size hl) h1 h2) (Below.refl _ _) (fun _ => rfl)
  (fun pre W => MapA dTag W b1 (tagsF D.made pre) ∧ LK (fun i => i = b1) w.heap.size w U W)
  (fun c pre W => False)
  (OwnFrom.and (MapA_own (by omega) (fun pre => tagsF D.made pre)) (LK_own (Nat.le_refl _) hBU.size))
  (fun c s X Y row hs hg hr => hs)
  ⟨MapA.new dTag hb1, KeptT.refl _ _, hBU⟩
  (fun i a' Wr => ∃ Bx, U.heap.size ≤ Bx ∧ Wr.heap[Bx]? = some (.cells #[.int .i64 (rd_T52 D.made (i : Int)).f0.f0, .int .i64 (rd_T52 D.made (i : Int)).f0.f1, .string (rd_T52 D.made (i : Int)).f1] 52 (0, 0)) ∧ a' = { tmps := #[.agg #[.slice A0 D.made.length c0, .slice A1 D.placed.length c1, .slice A2 D.rows.length c2, .slice A3 D.regs.length c3], .pointer (some ⟨w.heap.size, 0, none⟩), .pointer none, .pointer (some ⟨p3, 0, none⟩), undef, .pointer (some ⟨Bx, 0, none⟩), undef, undef, undef, undef, undef, undef, undef, .map (some b1), .map (some b2), .map (some b3), .map (some b4), .map (some b5), .agg #[.map (some b1), .map (some b2), .map (some b3), .map (some b4), .map (some b5), .int .i64 0], .pointer (some ⟨pb, 0, none⟩), .pointer (some ⟨w.heap.size, 0, none⟩), .slice A0 D.made.length c0, .func (.func 83) #[] #[.pointer (some ⟨bx, 0, none⟩)], .int .i64 (i : Int), .agg #[.int .i64 (rd_T52 D.made (i : Int)).f0.f0, .int .i64 (rd_T52 D.made (i : Int)).f0.f1, .string (rd_T52 D.made (i : Int)).f1], undef, undef, undef, undef, undef, undef, undef, undef, undef, undef, undef, undef, undef, undef, undef, undef, undef, undef, undef, undef, undef, undef, undef, undef, undef, undef, undef, undef, undef, undef, undef, undef, undef, undef, undef, undef, undef, undef, undef, undef, undef, undef, undef, undef, undef, undef, undef, undef, undef, undef, undef, undef, undef, undef, undef, undef, undef, undef, undef, undef, undef, undef, undef, undef, undef, undef, undef], defers := [] })
  (fun i a' _ X Y row hs hg hr => by obtain ⟨Bx, h1, h2, h3⟩ := hs; exact ⟨Bx, h1, cells_own Bx 52 (fun (_ : Unit) => #[.int .i64 (rd_T52 D.made (i : Int)).f0.f0, .int .i64 (rd_T52 D.made (i : Int)).f0.f1, .string (rd_T52 D.made (i : Int)).f1]) () X Y row h2 hg (fun r e => (hr r e).2), h3⟩)
  ?assign ?body ?done ?stop
 case stop => rintro D_ c pre W _ _ h _; exact h.elim
 case assign =>
  rintro l pre i W K hI hK
  dsimp only [encM]
  gi_wp2
  have hbl : Below W.heap.size W (W.alloc (.cells #[.int .i64 (rd_T52 D.made (i : Int)).f0.f0, .int .i64 (rd_T52 D.made (i : Int)).f0.f1, .string (rd_T52 D.made (i : Int)).f1] 52)) := below_alloc (Below.refl _ _) _
  obtain ⟨hM, hL⟩ := hI
  exact hK _ _ ((KeepsOthers.alloc _ _).from _) (KT.below hbl hL.2.size) ⟨hM.step (hbl.block _ hM.lt), hL.on hbl hBU.size⟩ ⟨W.heap.size, hL.1.size, Mem.alloc_new _ _, rfl⟩
 case body =>
  rintro l pre i a' W hl ⟨r, hr⟩ ⟨hM, hK⟩ ⟨Bx, hBx, bX, rfl⟩ hlt
  have HX := Aside0.mk bX
  have HK := Aside0.mk hK
  have HBX := Aside0.mk hBx
  have HQ := Aside0.mk (hK.1.cells hq (by show ¬ (p3 = b1); have := HE.out; omega))
  have HP := Aside0.mk (hK.1.cells hp (by show ¬ (pb = b1); have := HE.out; omega))
  obtain ⟨x, hx⟩ : ∃ x, rd_T52 D.made (i : Int) = x := ⟨_, rfl⟩
  have HXE := Aside0.mk hx
  rw [hx] at HX
  rw [hx]
  obtain ⟨o1, hu1, hc1, hm1⟩ := (hM.step (W' := W.drew) rfl).update x.f0 (.string x.f1)
  have HU1 := Aside0.mk hu1
  have HM1 := Aside0.mk hm1
  have HML := Aside0.mk (show W.drew.heap[b1]? ≠ none from fun e_ => by have := hM.lt; rw [Array.getElem?_eq_none_iff] at e_; exact Nat.lt_irrefl _ (Nat.lt_of_lt_of_le this e_))
  have HMT := Aside0.mk hM
  clear hu1 hm1 hM hK hr hlt bX hx hBx
  have hS0 : (fun w' => w'.cell? ⟨p3, 0, none⟩ = some (.pointer (some ⟨pb, 0, none⟩)) ∧ w'.cell? ⟨pb, 0, none⟩ = some (.map (some b1)) ∧ w'.cell? ⟨Bx, 0, none⟩ = some (.int .i64 x.f0.f0) ∧ w'.cell? ⟨Bx, 1, none⟩ = some (.int .i64 x.f0.f1) ∧ w'.cell? ⟨Bx, 2, none⟩ = some (.string x.f1)) W.drew := ⟨Mem.cell_of HQ.out 0, Mem.cell_of HP.out 0, Mem.cell_of HX.out 0, Mem.cell_of HX.out 1, Mem.cell_of HX.out 2⟩
  gi_wp2_with (fail)
  refine Round.start (n := 9) (S := (fun w' => w'.cell? ⟨p3, 0, none⟩ = some (.pointer (some ⟨pb, 0, none⟩)) ∧ w'.cell? ⟨pb, 0, none⟩ = some (.map (some b1)) ∧ w'.cell? ⟨Bx, 0, none⟩ = some (.int .i64 x.f0.f0) ∧ w'.cell? ⟨Bx, 1, none⟩ = some (.int .i64 x.f0.f1) ∧ w'.cell? ⟨Bx, 2, none⟩ = some (.string x.f1))) (ds := [8]) #[false, false, false, false, false, false, false, false, false] (by kernel_rfl) rfl rfl (by kernel_rfl) (fun ⟨_, _, h⟩ => h) (hS0) (fun hHeld => ?_)
  refine with_tabW vo.tab4 vo.bits4 (fun HT_ HW_ => ?_)
  refine pureS (i := 4) (N := (some 29)) #[false, false, false, false, true, false, false, false, false] HT_ ?_
  refine pureS (i := 6) (N := (some 31)) #[false, false, false, false, true, false, true, false, false] HT_ ?_
  refine takeQ (i := 0) (N := (some 25)) (v := ?_) HT_ HW_ hHeld ?_ ?_
  rotate_left
  ·rintro w' ⟨s0, s1, s2, s3, s4⟩
   go_simp
   with_reducible rfl
  refine normS (N := (some 25)) ?_
  refine pureS (i := 1) (N := (some 26)) #[true, true, false, false, true, false, true, false, false] HT_ ?_
  refine pureS (i := 2) (N := (some 27)) #[true, true, true, false, true, false, true, false, false] HT_ ?_
  refine takeQ (i := 3) (N := (some 28)) (v := ?_) HT_ HW_ hHeld ?_ ?_
  rotate_left
  ·rintro w' ⟨s0, s1, s2, s3, s4⟩
   go_simp
   with_reducible rfl
  refine normS (N := (some 28)) ?_
  refine takeQ (i := 5) (N := (some 30)) (v := ?_) HT_ HW_ hHeld ?_ ?_
  rotate_left
  ·rintro w' ⟨s0, s1, s2, s3, s4⟩
   go_simp
   with_reducible rfl
  refine normS (N := (some 30)) ?_
  refine takeQ (i := 7) (N := (some 32)) (v := ?_) HT_ HW_ hHeld ?_ ?_
  rotate_left
  ·rintro w' ⟨s0, s1, s2, s3, s4⟩
   go_simp
   with_reducible rfl
  refine normS (N := (some 32)) ?_
  refine lastS (i := 8) (N := none) HT_ (fun K hK => ?_)
  refine skip_ (w1 := _) (by rfl) rfl (Gm.exec_update (d := dTag) (k := x.f0) (v := .string x.f1) rfl rfl rfl rfl HU1.out) ?_
  refine hK.out _ _ ?_
  clear hK K
  refine done_ (done_of HT_.out (by kernel_rfl)) ?_
  obtain ⟨o0, ho0, hc0⟩ := HMT.out.obj
  have hlt1 := HMT.out.lt
  have hb1U : b1 < U.heap.size := by have := HE.out; omega
  have hb1n : w.heap.size ≤ b1 := by have := HE.out; omega
  refine ⟨((KeepsOthers.drew _).from _).trans (KeepsFrom.put (b := b1) (o := o1) hb1U), (KT.below (below_drew (Below.refl _ _)) HK.out.2.size).trans (KT.put _ b1 o0 o1 hb1n ho0 hc0), ?_, ?_⟩
  ·rw [tagsF_snoc, HXE.out]
   exact HM1.out _ (World.putObj_heap_same hlt1)
  ·have hkd := HK.out.on (below_drew (Below.refl _ _)) hBU.size
   exact ⟨hkd.1.put o1 rfl, below_put hkd.2 hb1n o1⟩
 case done =>
  rintro Df ys W hDf hys ⟨hM, hL⟩ hKD
  subst hys
  have HMT := Aside0.mk hM
  have HL := Aside0.mk hL
  have HKD := Aside0.mk hKD
  have HDF := Aside0.mk hDf
  have d3 : W.cell? ⟨w.heap.size, 3, none⟩ = some (.slice A3 D.regs.length c3) := Mem.cell_of (hL.1.cells hd (by show ¬ (w.heap.size = b1); have := HE.out; omega)) 3
  clear hM hL hKD hDf
  have hWs : U.heap.size ≤ W.heap.size := HL.out.1.size
  obtain ⟨Wb, hWb⟩ : ∃ Wb, W.heap.size = Wb := ⟨_, rfl⟩
  have HWB0 := Aside0.mk hWb
  go_wp2_with (fail)
  go_loopw [36] (fun v wr => ∃ i : Nat, v = .int .i64 (i : Int) ∧ Aside0 (i ≤ D.regs.length) ∧ Aside0 (∃ f, MapA dReg wr b2 f ∧ RZ k111 111 wr Wb f (fun k => regsP (D.regs.take i) k)) ∧ Aside0 (LK (fun j => j = b2) w.heap.size w W wr)) (fun v _ => D.regs.length - (intOf v).toNat)
  case atStart => exact ⟨0, rfl, ⟨Nat.zero_le _⟩, ⟨[], (MapA.new dReg hb2).step (HL.out.1.block b2 (blk_lt' hb2) (by show ¬ (b2 = b1); have := HE.out; omega)), RZ.nil _ _ _ _⟩, ⟨KeptT.refl _ _, HL.out.2⟩⟩
  case round =>
   obtain ⟨i, rfl, HIL, HI, HK⟩ := hrel
   clear d3
   by_cases hlt : i < D.regs.length
   ·have p0 : (0 : Int) ≤ (i : Int) := Int.natCast_nonneg i
    have p1 : (i : Int) < (D.regs.length : Int) := Int.ofNat_lt.2 hlt
    have e1 : ((i : Int) < (D.regs.length : Int)) = True := eq_true p1
    have HC := Kd.F_now (rowF_low HF3.out (fun j hj => (HK.out.2.block j hj)))
    obtain ⟨ad, rfl, x0, x1, x2, x3, x4, x5, x6⟩ := at_T111 HC (i : Int) p0 p1
    rw [Int.toNat_natCast] at x0 x1 x2 x3 x4 x5 x6
    have HTK := Aside0.mk (fun k => regsP_take D.regs k hlt)
    obtain ⟨x, hx⟩ : ∃ x, rd_T111 D.regs (i : Int) = x := ⟨_, rfl⟩
    rw [hx] at x0 x1 x2 x3 x4 x5 x6 HTK
    obtain ⟨pp, hpp⟩ : ∃ pp, ad.add (i * 7) = pp := ⟨_, rfl⟩
    rw [hpp] at x0 x1 x2 x3 x4 x5 x6
    have hkn : (i : Int).toNat = i := Int.toNat_natCast i
    obtain ⟨f, hMf, hRf⟩ := HI.out
    have hw1 : wrap64 ((i : Int) + 1) = ((i + 1 : Nat) : Int) := wrap_up (by have := HD.out.regs; omega)
    have HLT := Aside0.mk hlt
    have HMf := Aside0.mk hMf
    have HRf := Aside0.mk hRf
    clear HC hlt hx hMf hRf
    go_wp2_with (fail)
    have hbl : Below wr.heap.size wr (wr.alloc (.cells #[.int .i64 x.f0.f0, .int .i64 x.f0.f1, .string x.f1, .int .i64 x.f2.f0, .int .i64 x.f2.f1, .string x.f3, .bool x.f4] 111)) := below_alloc (Below.refl _ _) _
    have hX : (wr.alloc (.cells #[.int .i64 x.f0.f0, .int .i64 x.f0.f1, .string x.f1, .int .i64 x.f2.f0, .int .i64 x.f2.f1, .string x.f3, .bool x.f4] 111)).heap[wr.heap.size]? = some (.cells #[.int .i64 x.f0.f0, .int .i64 x.f0.f1, .string x.f1, .int .i64 x.f2.f0, .int .i64 x.f2.f1, .string x.f3, .bool x.f4] 111 (0, 0)) := Mem.alloc_new _ _
    have HOWN := Aside0.mk (fun j h => (own_below (HRf.out.row x.f0) j h).2)
    have HKV := Aside0.mk ((HK.out.on hbl HL.out.2.size).on (below_drew (Below.refl _ _)) HL.out.2.size)
    have hM2 : MapA dReg (wr.alloc (.cells #[.int .i64 x.f0.f0, .int .i64 x.f0.f1, .string x.f1, .int .i64 x.f2.f0, .int .i64 x.f2.f1, .string x.f3, .bool x.f4] 111)).drew b2 f := HMf.out.step (hbl.block _ HMf.out.lt)
    have hR2 : RZ k111 111 (wr.alloc (.cells #[.int .i64 x.f0.f0, .int .i64 x.f0.f1, .string x.f1, .int .i64 x.f2.f0, .int .i64 x.f2.f1, .string x.f3, .bool x.f4] 111)).drew Wb f (fun k => regsP (D.regs.take i) k) := (HRf.out.below hbl).below (below_drew (Below.refl _ _))
    have HBX : Aside0 (U.heap.size ≤ wr.heap.size) := ⟨Nat.le_trans HL.out.1.size HK.out.1.size⟩
    have hX2 : (wr.alloc (.cells #[.int .i64 x.f0.f0, .int .i64 x.f0.f1, .string x.f1, .int .i64 x.f2.f0, .int .i64 x.f2.f1, .string x.f3, .bool x.f4] 111)).drew.heap[wr.heap.size]? = some (.cells #[.int .i64 x.f0.f0, .int .i64 x.f0.f1, .string x.f1, .int .i64 x.f2.f0, .int .i64 x.f2.f1, .string x.f3, .bool x.f4] 111 (0, 0)) := hX
    have HWV : Aside0 (Wb ≤ (wr.alloc (.cells #[.int .i64 x.f0.f0, .int .i64 x.f0.f1, .string x.f1, .int .i64 x.f2.f0, .int .i64 x.f2.f1, .string x.f3, .bool x.f4] 111)).drew.heap.size) := ⟨by rw [← HWB0.out]; exact HKV.out.1.size⟩
    generalize wr.heap.size = Bx at *
    generalize hV0 : wr.alloc (.cells #[.int .i64 x.f0.f0, .int .i64 x.f0.f1, .string x.f1, .int .i64 x.f2.f0, .int .i64 x.f2.f1, .string x.f3, .bool x.f4] 111) = V0 at *
    obtain ⟨V, hV⟩ : ∃ V, V0.drew = V := ⟨_, rfl⟩
    rw [hV] at HKV hM2 hR2 hX2 HWV
    obtain ⟨s_, o1, hent, hc1, _, hst⟩ := hM2.entry x.f0
    obtain ⟨o0, ho0, hc0⟩ := hM2.obj
    have HENT := Aside0.mk hent
    have HST := Aside0.mk hst
    have HM2 := Aside0.mk hM2
    have HRO := Aside0.mk (hR2.put ho0 hc0 o1)
    have HO1 : Aside0 ((V.putObj b2 o1).heap[b2]? = some o1 ∧ o1.isCells = false) := ⟨World.putObj_heap_same hM2.lt, hc1⟩
    have HWB : Aside0 (Wb ≤ (V.putObj b2 o1).heap.size) := ⟨by simpa using HWV.out⟩
    have HLN : Aside0 (((regsP (D.regs.take i) x.f0).length + 1) * 72 ≤ 140737488355328) := ⟨regs_room _ _ _ HD.out.regs⟩
    have HS0 : Aside0 ((fun w' => w'.heap[p3]? = some (.cells #[.pointer (some ⟨pb, 0, none⟩)] 75 (0, 0)) ∧ w'.heap[pb]? = some (.cells #[.map (some b1), .map (some b2), .map (some b3), .map (some b4), .map (some b5), .int .i64 0] 83 (0, 0)) ∧ w'.heap[Bx]? = some (.cells #[.int .i64 x.f0.f0, .int .i64 x.f0.f1, .string x.f1, .int .i64 x.f2.f0, .int .i64 x.f2.f1, .string x.f3, .bool x.f4] 111 (0, 0))) V) := ⟨⟨HKV.out.1.cells (HL.out.1.cells hq (by show ¬ (p3 = b1); have := HE.out; omega)) (by show ¬ (p3 = b2); have := HE.out; omega), HKV.out.1.cells (HL.out.1.cells hp (by show ¬ (pb = b1); have := HE.out; omega)) (by show ¬ (pb = b2); have := HE.out; omega), hX2⟩⟩
    have hS0 : (fun w' => w'.heap[p3]? = some (.cells #[.pointer (some ⟨pb, 0, none⟩)] 75 (0, 0)) ∧ w'.heap[pb]? = some (.cells #[.map (some b1), .map (some b2), .map (some b3), .map (some b4), .map (some b5), .int .i64 0] 83 (0, 0)) ∧ w'.heap[Bx]? = some (.cells #[.int .i64 x.f0.f0, .int .i64 x.f0.f1, .string x.f1, .int .i64 x.f2.f0, .int .i64 x.f2.f1, .string x.f3, .bool x.f4] 111 (0, 0))) V0.drew := by rw [hV]; exact HS0.out
    have HKD1 := Aside0.mk HKD.out
    clear hbl hX hM2 hR2 hX2 hent hst hc1 ho0 hc0 x0 x1 x2 x3 x4 x5 x6 hV0 HWV
    refine region_calm ?_
    refine startS (n := 13) (S := (fun w' => w'.heap[p3]? = some (.cells #[.pointer (some ⟨pb, 0, none⟩)] 75 (0, 0)) ∧ w'.heap[pb]? = some (.cells #[.map (some b1), .map (some b2), .map (some b3), .map (some b4), .map (some b5), .int .i64 0] 83 (0, 0)) ∧ w'.heap[Bx]? = some (.cells #[.int .i64 x.f0.f0, .int .i64 x.f0.f1, .string x.f1, .int .i64 x.f2.f0, .int .i64 x.f2.f1, .string x.f3, .bool x.f4] 111 (0, 0)))) (ds := [12]) (hS0) (fun hHeld => ?_)
    refine with_tabW vo.tab8 vo.bits8 (fun HT_ HW_ => ?_)
    rw [hV] at hHeld ⊢
    refine pureQ (i := 4) (N := (some 44)) HT_ ?_
    refine takeQ (i := 0) (N := (some 40)) (v := ?_) HT_ HW_ hHeld ?_ ?_
    rotate_left
    ·rintro w' ⟨s0, s1, s2⟩; have f0 := Mem.cell_of s0 0; have f1 := Mem.cell_of s1 1; have g0 := Mem.cell_of s2 0; have g1 := Mem.cell_of s2 1; have g2 := Mem.cell_of s2 2; have g3 := Mem.cell_of s2 3; have g4 := Mem.cell_of s2 4; have g5 := Mem.cell_of s2 5; have g6 := Mem.cell_of s2 6
     go_simp
     with_reducible rfl
    refine normS (N := (some 40)) ?_
    refine pureQ (i := 1) (N := (some 41)) HT_ ?_
    refine pureQ (i := 2) (N := (some 42)) HT_ ?_
    refine takeQ (i := 3) (N := (some 43)) (v := ?_) HT_ HW_ hHeld ?_ ?_
    rotate_left
    ·rintro w' ⟨s0, s1, s2⟩; have f0 := Mem.cell_of s0 0; have f1 := Mem.cell_of s1 1; have g0 := Mem.cell_of s2 0; have g1 := Mem.cell_of s2 1; have g2 := Mem.cell_of s2 2; have g3 := Mem.cell_of s2 3; have g4 := Mem.cell_of s2 4; have g5 := Mem.cell_of s2 5; have g6 := Mem.cell_of s2 6
     go_simp
     with_reducible rfl
    refine normS (N := (some 43)) ?_
    refine takeQ (i := 5) (N := (some 45)) (v := ?_) HT_ HW_ hHeld ?_ ?_
    rotate_left
    ·rintro w' ⟨s0, s1, s2⟩; have f0 := Mem.cell_of s0 0; have f1 := Mem.cell_of s1 1; have g0 := Mem.cell_of s2 0; have g1 := Mem.cell_of s2 1; have g2 := Mem.cell_of s2 2; have g3 := Mem.cell_of s2 3; have g4 := Mem.cell_of s2 4; have g5 := Mem.cell_of s2 5; have g6 := Mem.cell_of s2 6
     go_simp
     with_reducible rfl
    refine normS (N := (some 45)) ?_
    refine takeQ (i := 6) (N := (some 47)) (v := ?_) HT_ HW_ hHeld ?_ ?_
    rotate_left
    ·rintro w' ⟨s0, s1, s2⟩; have f0 := Mem.cell_of s0 0; have f1 := Mem.cell_of s1 1; have g0 := Mem.cell_of s2 0; have g1 := Mem.cell_of s2 1; have g2 := Mem.cell_of s2 2; have g3 := Mem.cell_of s2 3; have g4 := Mem.cell_of s2 4; have g5 := Mem.cell_of s2 5; have g6 := Mem.cell_of s2 6
     go_simp
     with_reducible rfl
    refine normS (N := (some 47)) ?_
    refine oneS (i := 7) (N := (some 48)) HT_ (fun K hK => ?_)
    refine value_ (w1 := ?_) (v := ?_) (by rfl) rfl ?_ ?_
    rotate_left 2
    ·go_simp
     constructor
     ·rfl
     ·rfl
    refine hK.out _ _ (⟨Mem.alloc_old hHeld.1 _, Mem.alloc_old hHeld.2.1 _, Mem.alloc_old hHeld.2.2 _⟩) (fun hHeld => ?_)
    clear hK K
    refine normS (N := (some 48)) ?_
    refine oneS (i := 8) (N := (some 49)) HT_ (fun K hK => ?_)
    refine value_ (w1 := _) (v := _) (by rfl) rfl (Gm.exec_entry (d := dReg) (k := x.f0) rfl rfl rfl (HENT.out _ (alloc_far HM2.out.lt _))) ?_
    rw [putObj_alloc _ HM2.out.lt]
    refine hK.out _ _ (⟨Mem.alloc_old ((World.putObj_heap_other (by have h1_ := HE.out; have h2_ := HBX.out; omega)).trans HS0.out.1) _, Mem.alloc_old ((World.putObj_heap_other (by have h1_ := HE.out; have h2_ := HBX.out; omega)).trans HS0.out.2.1) _, Mem.alloc_old ((World.putObj_heap_other (by have h1_ := HE.out; have h2_ := HBX.out; omega)).trans HS0.out.2.2) _⟩) (fun hHeld => ?_)
    clear hK K
    refine normS (N := (some 49)) ?_
    refine pureQ (i := 9) (N := (some 46)) HT_ ?_
    refine pureQ (i := 11) (N := (some 51)) HT_ ?_
    refine oneS (i := 10) (N := (some 50)) HT_ (fun K hK => ?_)
    refine Kd.R_append_step k111 (w0 := V.putObj b2 o1) Wb (by rfl) (.tmp 46) (.tmp 48) 37 111 (.agg #[(.int .i64 0), (.int .i64 0), (.string ⟨#[]⟩), (.int .i64 0), (.int .i64 0), (.string ⟨#[]⟩), (.bool false)]) 72 rfl Try.underlying37 info111 rfl (by decide) (by omega) (valM f x.f0) (regsP (D.regs.take i) x.f0) x [.int .i64 x.f0.f0, .int .i64 x.f0.f1, .string x.f1, .int .i64 x.f2.f0, .int .i64 x.f2.f1, .string x.f3, .bool x.f4] (fun _ => True) (fun _ => False) rfl (by first | rfl | (simp only [World.putObj_size]; rfl)) ?hp (fun _ hk => hk.elim) (fun _ _ => trivial) ?hO (Below.refl _ _) ?hb ?hl ?_
    case hp => exact k111_mkM _ _ _ x
    case hO => exact HRO.out.row _
    case hb => exact HWB.out
    case hl => exact HLN.out
    intro v6 w6 ho6 hb6 hg6 hat6
    have HO6 := Aside0.mk ho6
    have HG6 := Aside0.mk hg6
    have HA6 := Aside0.mk hat6
    obtain ⟨o2, hst2, hc2, hm2⟩ := HST.out v6 w6 ((hg6.block _ (by simpa using HM2.out.lt) (own_ne_map (HRO.out.row _) HO1.out.1 HO1.out.2)).trans HO1.out.1)
    have HST2 := Aside0.mk hst2
    have HM6 := Aside0.mk hm2
    have hS6 : (fun w' => w'.heap[p3]? = some (.cells #[.pointer (some ⟨pb, 0, none⟩)] 75 (0, 0)) ∧ w'.heap[pb]? = some (.cells #[.map (some b1), .map (some b2), .map (some b3), .map (some b4), .map (some b5), .int .i64 0] 83 (0, 0)) ∧ w'.heap[Bx]? = some (.cells #[.int .i64 x.f0.f0, .int .i64 x.f0.f1, .string x.f1, .int .i64 x.f2.f0, .int .i64 x.f2.f1, .string x.f3, .bool x.f4] 111 (0, 0))) w6 := ⟨(hg6.block _ (by simpa using blk_lt' HS0.out.1) (Kd.R_ne (HRO.out.row _) ((World.putObj_heap_other (by have h1_ := HE.out; have h2_ := HBX.out; omega)).trans HS0.out.1) (by decide))).trans ((World.putObj_heap_other (by have h1_ := HE.out; have h2_ := HBX.out; omega)).trans HS0.out.1), (hg6.block _ (by simpa using blk_lt' HS0.out.2.1) (Kd.R_ne (HRO.out.row _) ((World.putObj_heap_other (by have h1_ := HE.out; have h2_ := HBX.out; omega)).trans HS0.out.2.1) (by decide))).trans ((World.putObj_heap_other (by have h1_ := HE.out; have h2_ := HBX.out; omega)).trans HS0.out.2.1), (hg6.block _ (by simpa using blk_lt' HS0.out.2.2) (fun e_ => absurd (HOWN.out _ e_.symm) (by omega))).trans ((World.putObj_heap_other (by have h1_ := HE.out; have h2_ := HBX.out; omega)).trans HS0.out.2.2)⟩
    clear ho6 hg6 hb6 hat6 hst2 hm2
    refine hK.out _ _ (hS6) (fun hHeld => ?_)
    clear hK K
    refine normS (N := (some 50)) ?_
    refine lastS (i := 12) (N := none) HT_ (fun K hK => ?_)
    refine skip_ (w1 := _) (by rfl) rfl (Gm.exec_store (d := dReg) rfl rfl rfl rfl HST2.out) ?_
    refine hK.out _ _ ?_
    clear hK K
    refine done_ (done_of HT_.out (by kernel_rfl)) ?_
    refine ⟨rfl, ?_⟩
    clear hHeld hS6 hS0
    have HL6 : Aside0 (LK (fun j => j = b2) w.heap.size w W (w6.putObj b2 o2)) := ⟨((HKV.out.put o1 rfl (by have := HE.out; omega)).grown HG6.out (fun j hj => by rw [HWB0.out]; exact (own_below (HRO.out.row x.f0) j hj).1) HL.out.2.size).put o2 rfl (by have := HE.out; omega)⟩
    have HM7 : Aside0 (MapA dReg (w6.putObj b2 o2) b2 (kput f x.f0 v6)) := ⟨HM6.out _ (World.putObj_heap_same (Nat.lt_of_lt_of_le (blk_lt' HO1.out.1) HG6.out.size))⟩
    have HR7 : Aside0 (RZ k111 111 (w6.putObj b2 o2) Wb (kput f x.f0 v6) (fun k => regsP (D.regs.take (i + 1)) k)) := ⟨((HRO.out.grow rfl HO6.out HG6.out HA6.out).put ((HG6.out.block _ (blk_lt' HO1.out.1) (own_ne_map (HRO.out.row _) HO1.out.1 HO1.out.2)).trans HO1.out.1) HO1.out.2 o2).g_eq (fun k => by rw [HTK.out k]; by_cases hk : k = x.f0 <;> by_cases hk2 : sameK x.f0 k = true <;> first | (rw [if_pos hk, if_pos hk2, hk]) | (rw [if_neg hk, if_neg hk2]) | exact absurd (sameK_iff.1 hk2).symm hk | exact absurd (sameK_iff.2 hk.symm) hk2)⟩
    generalize w6.putObj b2 o2 = w7 at *
    go_wp2_with (fail)
    go_roundw
    case rel => exact ⟨i + 1, congrArg (Value.int .i64) hw1, HLT, ⟨_, HM7.out, HR7.out⟩, HL6⟩
    case measure => exact dec_lt HLT.out hw1
   ·obtain rfl : i = D.regs.length := by have := HIL.out; omega
    rename World => W2
    have d2 : W2.cell? ⟨w.heap.size, 2, none⟩ = some (.slice A2 D.rows.length c2) := Mem.cell_of (HK.out.1.cells (HL.out.1.cells hd (by show ¬ (w.heap.size = b1); have := HE.out; omega)) (by show ¬ (w.heap.size = b2); have := HE.out; omega)) 2
    have e1 : ((D.regs.length : Int) < (D.regs.length : Int)) = False := eq_false (Int.lt_irrefl _)
    go_wp2_with (fail)
    refine (back70g _ _ _ _).mono ?_
    rintro e w1 ⟨rfl, rfl⟩
    clear d2 e1
    go_wp2_with (fail)
    have hbx2 : (W2.alloc (.cells #[.slice A2 D.rows.length c2] 36)).heap[W2.heap.size]? = some (.cells #[.slice A2 D.rows.length c2] 36 (0, 0)) := Mem.alloc_new _ _
    have hVb : Below W2.heap.size W2 (W2.alloc (.cells #[.slice A2 D.rows.length c2] 36)) := below_alloc (Below.refl _ _) _
    have HT2 := HK.out.1.on hVb
    have HU2 : Aside0 (KeptT (fun j => j = b1 ∨ j = b2) U (W2.alloc (.cells #[.slice A2 D.rows.length c2] 36))) := ⟨HL.out.1.two HT2 (fun _ h => .inl h) (fun _ h => .inr h)⟩
    have hBV : Below w.heap.size w (W2.alloc (.cells #[.slice A2 D.rows.length c2] 36)) := HK.out.2.trans (hVb.mono HK.out.2.size)
    have hVs : W2.heap.size < (W2.alloc (.cells #[.slice A2 D.rows.length c2] 36)).heap.size := by rw [Mem.alloc_size]; exact Nat.lt_succ_self _
    have HKD2 := Aside0.mk (HT2.cells HKD.out (by show ¬ (Df = b2); have h1 := HE.out; have h2 := HDF.out; omega))
    have hb3V := HU2.out.cells hb3 (by show ¬ (b3 = b1 ∨ b3 = b2); have := HE.out; omega)
    have hb4V := HU2.out.cells hb4 (by show ¬ (b4 = b1 ∨ b4 = b2); have := HE.out; omega)
    have HVB := Aside0.mk hVb
    have HVB2 := Aside0.mk hVb.block
    have HVS2 := Aside0.mk hVb.size
    clear HT2 hVb
    generalize W2.alloc (.cells #[.slice A2 D.rows.length c2] 36) = V2 at *
    obtain ⟨bx2, hbx2e⟩ : ∃ z, W2.heap.size = z := ⟨_, rfl⟩
    rw [hbx2e] at hbx2 ⊢
    have HUV : Aside0 (U.heap.size ≤ V2.heap.size) := HU2.out.size |> Aside0.mk
    refine (wpIn_wide (n := 3)).1 ?_
    refine wpIn_rangeFunc_ownH (F := Fence.wide) (n := 3) rfl (by decide) (gf := 84) (lb := #[.pointer (some ⟨bx2, 0, none⟩)]) rfl trivial (enters_of Try.func84 (by kernel_rfl) rfl)
     (stops84g (w0 := w) (n0 := w.heap.size) (by have := HD.out.rows; omega) HF2.out (fun i hi => hBV.block i hi) hBV.size hbx2) KT.trans (fun W l o o' hl h1 h2 _ => KT.put W l o o' (Nat.le_trans hBV.size hl) h1 h2) (Below.refl _ _) (fun _ => rfl)
     (fun pre W => MapA dSlot W b3 (slotsV pre) ∧ LK (fun i => i = b3) w.heap.size w V2 W)
     (fun c pre W => False)
     (OwnFrom.and (MapA_own (by have h1 := HE.out; have h2 := HUV.out; omega) (fun pre => slotsV pre)) (LK_own (Nat.le_refl _) hBV.size))
     (fun c s X Y row hs hg hr => hs)
     ⟨MapA.new dSlot hb3V, KeptT.refl _ _, hBV⟩
     (fun r a' Wr => ∃ Bx, V2.heap.size ≤ Bx ∧ Wr.heap[Bx]? = some (.cells #[.int .i64 (rd_T74 D.rows (r.i : Int)).f0.f0, .int .i64 (rd_T74 D.rows (r.i : Int)).f0.f1, .slice r.A (rd_T74 D.rows (r.i : Int)).f1.length r.c] 74 (0, 0)) ∧ a' = { tmps := #[.agg #[.slice A0 D.made.length c0, .slice A1 D.placed.length c1, .slice A2 D.rows.length c2, .slice A3 D.regs.length c3], .pointer (some ⟨w.heap.size, 0, none⟩), .pointer none, .pointer (some ⟨p3, 0, none⟩), undef, undef, undef, u7, undef, .pointer (some ⟨Bx, 0, none⟩), undef, undef, undef, .map (some b1), .map (some b2), .map (some b3), .map (some b4), .map (some b5), .agg #[.map (some b1), .map (some b2), .map (some b3), .map (some b4), .map (some b5), .int .i64 0], .pointer (some ⟨pb, 0, none⟩), .pointer (some ⟨w.heap.size, 0, none⟩), .slice A0 D.made.length c0, .func (.func 83) #[] #[.pointer (some ⟨bx, 0, none⟩)], undef, undef, undef, undef, undef, undef, undef, undef, undef, undef, .pointer (some ⟨w.heap.size, 3, none⟩), .slice A3 D.regs.length c3, .int .i64 (D.regs.length : Int), .int .i64 (D.regs.length : Int), .bool false, u38, u39, u40, u41, u42, u43, u44, u45, u46, u47, u48, u49, u50, u51, u52, .pointer (some ⟨w.heap.size, 2, none⟩), .slice A2 D.rows.length c2, .func (.func 84) #[] #[.pointer (some ⟨bx2, 0, none⟩)], .int .i64 (r.i : Int), .agg #[.int .i64 (rd_T74 D.rows (r.i : Int)).f0.f0, .int .i64 (rd_T74 D.rows (r.i : Int)).f0.f1, .slice r.A (rd_T74 D.rows (r.i : Int)).f1.length r.c], undef, undef, undef, undef, undef, undef, undef, undef, undef, undef, undef, undef, undef, undef, undef, undef, undef, undef, undef, undef, undef, undef, undef, undef, undef, undef, undef, undef, undef, undef, undef, undef, undef, undef], defers := [] })
     (fun r a' _ X Y row hs hg hr => by obtain ⟨Bx, h1, h2, h3⟩ := hs; exact ⟨Bx, h1, cells_own Bx 74 (fun (_ : Unit) => #[.int .i64 (rd_T74 D.rows (r.i : Int)).f0.f0, .int .i64 (rd_T74 D.rows (r.i : Int)).f0.f1, .slice r.A (rd_T74 D.rows (r.i : Int)).f1.length r.c]) () X Y row h2 hg (fun r e => (hr r e).2), h3⟩)
     ?assign2 ?body2 ?done2 ?stop2
    case stop2 => rintro D_ c pre W _ _ h _; exact h.elim
    case assign2 =>
     rintro l pre r W K hI hK
     dsimp only [encR]
     gi_wp2
     have hbl : Below W.heap.size W (W.alloc (.cells #[.int .i64 (rd_T74 D.rows (r.i : Int)).f0.f0, .int .i64 (rd_T74 D.rows (r.i : Int)).f0.f1, .slice r.A (rd_T74 D.rows (r.i : Int)).f1.length r.c] 74)) := below_alloc (Below.refl _ _) _
     obtain ⟨hM, hL⟩ := hI
     exact hK _ _ ((KeepsOthers.alloc _ _).from _) (KT.below hbl hL.2.size) ⟨hM.step (hbl.block _ hM.lt), hL.on hbl hBV.size⟩ ⟨W.heap.size, hL.1.size, Mem.alloc_new _ _, rfl⟩
    case body2 =>
     rintro l pre r a' W hl ⟨r_, hr⟩ ⟨hM, hK⟩ ⟨Bx, hBx, bX, rfl⟩ hlt
     have HX := Aside0.mk bX
     have HK2 := Aside0.mk hK
     have HBX := Aside0.mk hBx
     have HQ := Aside0.mk (hK.1.cells (HU2.out.cells hq (by show ¬ (p3 = b1 ∨ p3 = b2); have := HE.out; omega)) (by show ¬ (p3 = b3); have := HE.out; omega))
     have HP := Aside0.mk (hK.1.cells (HU2.out.cells hp (by show ¬ (pb = b1 ∨ pb = b2); have := HE.out; omega)) (by show ¬ (pb = b3); have := HE.out; omega))
     obtain ⟨x, hx⟩ : ∃ x, rd_T74 D.rows (r.i : Int) = x := ⟨_, rfl⟩
     obtain ⟨rA, hrA⟩ : ∃ z, r.A = z := ⟨_, rfl⟩
     obtain ⟨rc, hrc⟩ : ∃ z, r.c = z := ⟨_, rfl⟩
     have HXE := Aside0.mk hx
     have HRA := Aside0.mk hrA
     have HRC := Aside0.mk hrc
     rw [hx, hrA, hrc] at HX
     rw [hx, hrA, hrc]
     obtain ⟨o1, hu1, hc1, hm1⟩ := (hM.step (W' := W.drew) rfl).update x.f0 (.slice rA x.f1.length rc)
     have HU1 := Aside0.mk hu1
     have HM1 := Aside0.mk hm1
     have HMT3 := Aside0.mk hM
     clear hu1 hm1 hM hK hr hlt bX hx hBx hrA hrc
     have hS0 : (fun w' => w'.cell? ⟨p3, 0, none⟩ = some (.pointer (some ⟨pb, 0, none⟩)) ∧ w'.cell? ⟨pb, 2, none⟩ = some (.map (some b3)) ∧ w'.cell? ⟨Bx, 0, none⟩ = some (.int .i64 x.f0.f0) ∧ w'.cell? ⟨Bx, 1, none⟩ = some (.int .i64 x.f0.f1) ∧ w'.cell? ⟨Bx, 2, none⟩ = some (.slice rA x.f1.length rc)) W.drew := ⟨Mem.cell_of HQ.out 0, Mem.cell_of HP.out 2, Mem.cell_of HX.out 0, Mem.cell_of HX.out 1, Mem.cell_of HX.out 2⟩
     gi_wp2_with (fail)
     refine Round.start (n := 9) (S := (fun w' => w'.cell? ⟨p3, 0, none⟩ = some (.pointer (some ⟨pb, 0, none⟩)) ∧ w'.cell? ⟨pb, 2, none⟩ = some (.map (some b3)) ∧ w'.cell? ⟨Bx, 0, none⟩ = some (.int .i64 x.f0.f0) ∧ w'.cell? ⟨Bx, 1, none⟩ = some (.int .i64 x.f0.f1) ∧ w'.cell? ⟨Bx, 2, none⟩ = some (.slice rA x.f1.length rc))) (ds := [8]) #[false, false, false, false, false, false, false, false, false] (by kernel_rfl) rfl rfl (by kernel_rfl) (fun ⟨_, _, h⟩ => h) (hS0) (fun hHeld => ?_)
     refine with_tabW vo.tab12 vo.bits12 (fun HT_ HW_ => ?_)
     refine pureS (i := 4) (N := (some 62)) #[false, false, false, false, true, false, false, false, false] HT_ ?_
     refine pureS (i := 6) (N := (some 64)) #[false, false, false, false, true, false, true, false, false] HT_ ?_
     refine takeQ (i := 0) (N := (some 58)) (v := ?_) HT_ HW_ hHeld ?_ ?_
     rotate_left
     ·rintro w' ⟨s0, s1, s2, s3, s4⟩
      go_simp
      with_reducible rfl
     refine normS (N := (some 58)) ?_
     refine pureS (i := 1) (N := (some 59)) #[true, true, false, false, true, false, true, false, false] HT_ ?_
     refine pureS (i := 2) (N := (some 60)) #[true, true, true, false, true, false, true, false, false] HT_ ?_
     refine takeQ (i := 3) (N := (some 61)) (v := ?_) HT_ HW_ hHeld ?_ ?_
     rotate_left
     ·rintro w' ⟨s0, s1, s2, s3, s4⟩
      go_simp
      with_reducible rfl
     refine normS (N := (some 61)) ?_
     refine takeQ (i := 5) (N := (some 63)) (v := ?_) HT_ HW_ hHeld ?_ ?_
     rotate_left
     ·rintro w' ⟨s0, s1, s2, s3, s4⟩
      go_simp
      with_reducible rfl
     refine normS (N := (some 63)) ?_
     refine takeQ (i := 7) (N := (some 65)) (v := ?_) HT_ HW_ hHeld ?_ ?_
     rotate_left
     ·rintro w' ⟨s0, s1, s2, s3, s4⟩
      go_simp
      with_reducible rfl
     refine normS (N := (some 65)) ?_
     refine lastS (i := 8) (N := none) HT_ (fun K hK => ?_)
     refine skip_ (w1 := _) (by rfl) rfl (Gm.exec_update (d := dSlot) (k := x.f0) (v := .slice rA x.f1.length rc) rfl rfl rfl rfl HU1.out) ?_
     refine hK.out _ _ ?_
     clear hK K
     refine done_ (done_of HT_.out (by kernel_rfl)) ?_
     obtain ⟨o0, ho0, hc0⟩ := HMT3.out.obj
     have hlt1 := HMT3.out.lt
     have hb1U : b3 < V2.heap.size := blk_lt' hb3V
     have hb1n : w.heap.size ≤ b3 := by have := HE.out; omega
     refine ⟨((KeepsOthers.drew _).from _).trans (KeepsFrom.put (b := b3) (o := o1) hb1U), (KT.below (below_drew (Below.refl _ _)) HK2.out.2.size).trans (KT.put _ b3 o0 o1 hb1n ho0 hc0), ?_, ?_⟩
     ·rw [slotsV_snoc, HXE.out, HRA.out, HRC.out]
      exact HM1.out _ (World.putObj_heap_same hlt1)
     ·have hkd := HK2.out.on (below_drew (Below.refl _ _)) hBV.size
      exact ⟨hkd.1.put o1 rfl, below_put hkd.2 hb1n o1⟩
    case done2 =>
     rintro Df2 ys W3 hDf2 hys ⟨hM3, hL3⟩ hKD3
     have HSL : Aside0 (∀ k, ∃ A c, valM (slotsV ys) k = .slice A (slotsP D.rows k).length c ∧ (slotsP D.rows k).length ≤ c ∧ Kd.F k23 w (fun j => j < w.heap.size) A (slotsP D.rows k).length (slotsP D.rows k)) := ⟨fun k => by have h_ := slotsV_val ys k; rw [hys, slotsG_all] at h_; exact h_⟩
     have HM3 := Aside0.mk hM3
     have HL3 := Aside0.mk hL3
     have HKD3 := Aside0.mk hKD3
     have HDF2 := Aside0.mk hDf2
     have HU3 := Aside0.mk (HU2.out.two hL3.1 (T := fun j => j = b1 ∨ j = b2 ∨ j = b3) (fun j h => by rcases h with h | h; exact .inl h; exact .inr (.inl h)) (fun j h => .inr (.inr h)))
     have d1 : W3.cell? ⟨w.heap.size, 1, none⟩ = some (.slice A1 D.placed.length c1) := Mem.cell_of (HU3.out.cells hd (by show ¬ (w.heap.size = b1 ∨ w.heap.size = b2 ∨ w.heap.size = b3); have := HE.out; omega)) 1
     have hb4W := HU3.out.cells hb4 (by show ¬ (b4 = b1 ∨ b4 = b2 ∨ b4 = b3); have := HE.out; omega)
     have hqW := HU3.out.cells hq (by show ¬ (p3 = b1 ∨ p3 = b2 ∨ p3 = b3); have := HE.out; omega)
     have hpW := HU3.out.cells hp (by show ¬ (pb = b1 ∨ pb = b2 ∨ pb = b3); have := HE.out; omega)
     have HBW3 := Aside0.mk hL3.2
     have HUW3 : Aside0 (U.heap.size ≤ W3.heap.size) := ⟨HU3.out.size⟩
     clear hM3 hL3 hKD3 hDf2 hys
     obtain ⟨Wb, hWb⟩ : ∃ Wb, W3.heap.size = Wb := ⟨_, rfl⟩
     have HWB0 := Aside0.mk hWb
     go_wp2_with (fail)
     go_loopw [69] (fun v wr => ∃ i : Nat, v = .int .i64 (i : Int) ∧ Aside0 (i ≤ D.placed.length) ∧ Aside0 (∃ f, MapA dIn wr b4 f ∧ RZ k23 23 wr Wb f (fun q => inP (D.placed.take i) q.1 q.2)) ∧ Aside0 (LK (fun j => j = b4) w.heap.size w W3 wr)) (fun v _ => D.placed.length - (intOf v).toNat)
     case atStart => exact ⟨0, rfl, ⟨Nat.zero_le _⟩, ⟨[], MapA.new dIn hb4W, RZ.nil _ _ _ _⟩, ⟨KeptT.refl _ _, HBW3.out⟩⟩
     case round =>
      obtain ⟨i, rfl, HIL3, HI3, HK3⟩ := hrel
      clear d1
      by_cases hlt : i < D.placed.length
      ·have p0 : (0 : Int) ≤ (i : Int) := Int.natCast_nonneg i
       have p1 : (i : Int) < (D.placed.length : Int) := Int.ofNat_lt.2 hlt
       have e1 : ((i : Int) < (D.placed.length : Int)) = True := eq_true p1
       have HC := Kd.F_now (rowF_low HF1.out (fun j hj => (HK3.out.2.block j hj)))
       obtain ⟨ad, rfl, x0, x1, x2, x3, x4, x5⟩ := at_T97 HC (i : Int) p0 p1
       rw [Int.toNat_natCast] at x0 x1 x2 x3 x4 x5
       have HTK := Aside0.mk (fun p q => inP_take D.placed p q hlt)
       obtain ⟨x, hx⟩ : ∃ x, rd_T97 D.placed (i : Int) = x := ⟨_, rfl⟩
       rw [hx] at x0 x1 x2 x3 x4 x5 HTK
       obtain ⟨pp, hpp⟩ : ∃ pp, ad.add (i * 6) = pp := ⟨_, rfl⟩
       rw [hpp] at x0 x1 x2 x3 x4 x5
       have hkn : (i : Int).toNat = i := Int.toNat_natCast i
       obtain ⟨f, hMf, hRf⟩ := HI3.out
       have hw1 : wrap64 ((i : Int) + 1) = ((i + 1 : Nat) : Int) := wrap_up (by have := HD.out.placed; omega)
       have HLT := Aside0.mk hlt
       have HMf := Aside0.mk hMf
       have HRf := Aside0.mk hRf
       clear HC hlt hx hMf hRf
       go_wp2_with (fail)
       have hbl : Below wr.heap.size wr ((wr.alloc (.cells #[.int .i64 x.f0.f0, .int .i64 x.f0.f1, .int .i64 x.f1.f0, .int .i64 x.f1.f1, .int .i64 x.f2.f0, .int .i64 x.f2.f1] 97)).alloc (.cells #[.int .i64 x.f1.f0, .int .i64 x.f1.f1, .int .i64 x.f2.f0, .int .i64 x.f2.f1] 115)) := below_alloc (below_alloc (Below.refl _ _) _) _
       have hX : ((wr.alloc (.cells #[.int .i64 x.f0.f0, .int .i64 x.f0.f1, .int .i64 x.f1.f0, .int .i64 x.f1.f1, .int .i64 x.f2.f0, .int .i64 x.f2.f1] 97)).alloc (.cells #[.int .i64 x.f1.f0, .int .i64 x.f1.f1, .int .i64 x.f2.f0, .int .i64 x.f2.f1] 115)).heap[wr.heap.size]? = some (.cells #[.int .i64 x.f0.f0, .int .i64 x.f0.f1, .int .i64 x.f1.f0, .int .i64 x.f1.f1, .int .i64 x.f2.f0, .int .i64 x.f2.f1] 97 (0, 0)) := Mem.alloc_old (Mem.alloc_new _ _) _
       have hY : ((wr.alloc (.cells #[.int .i64 x.f0.f0, .int .i64 x.f0.f1, .int .i64 x.f1.f0, .int .i64 x.f1.f1, .int .i64 x.f2.f0, .int .i64 x.f2.f1] 97)).alloc (.cells #[.int .i64 x.f1.f0, .int .i64 x.f1.f1, .int .i64 x.f2.f0, .int .i64 x.f2.f1] 115)).heap[wr.heap.size + 1]? = some (.cells #[.int .i64 x.f1.f0, .int .i64 x.f1.f1, .int .i64 x.f2.f0, .int .i64 x.f2.f1] 115 (0, 0)) := Mem.alloc_new_at _ _ _ (by rw [Mem.alloc_size])
       have HKV := Aside0.mk ((HK3.out.on hbl HBW3.out.size).on (below_drew (Below.refl _ _)) HBW3.out.size)
       have hM2 : MapA dIn ((wr.alloc (.cells #[.int .i64 x.f0.f0, .int .i64 x.f0.f1, .int .i64 x.f1.f0, .int .i64 x.f1.f1, .int .i64 x.f2.f0, .int .i64 x.f2.f1] 97)).alloc (.cells #[.int .i64 x.f1.f0, .int .i64 x.f1.f1, .int .i64 x.f2.f0, .int .i64 x.f2.f1] 115)).drew b4 f := HMf.out.step (hbl.block _ HMf.out.lt)
       have hR2 : RZ k23 23 ((wr.alloc (.cells #[.int .i64 x.f0.f0, .int .i64 x.f0.f1, .int .i64 x.f1.f0, .int .i64 x.f1.f1, .int .i64 x.f2.f0, .int .i64 x.f2.f1] 97)).alloc (.cells #[.int .i64 x.f1.f0, .int .i64 x.f1.f1, .int .i64 x.f2.f0, .int .i64 x.f2.f1] 115)).drew Wb f (fun q => inP (D.placed.take i) q.1 q.2) := (HRf.out.below hbl).below (below_drew (Below.refl _ _))
       have HBX : Aside0 (U.heap.size ≤ wr.heap.size) := ⟨Nat.le_trans HUW3.out HK3.out.1.size⟩
       have hX2 : ((wr.alloc (.cells #[.int .i64 x.f0.f0, .int .i64 x.f0.f1, .int .i64 x.f1.f0, .int .i64 x.f1.f1, .int .i64 x.f2.f0, .int .i64 x.f2.f1] 97)).alloc (.cells #[.int .i64 x.f1.f0, .int .i64 x.f1.f1, .int .i64 x.f2.f0, .int .i64 x.f2.f1] 115)).drew.heap[wr.heap.size]? = some (.cells #[.int .i64 x.f0.f0, .int .i64 x.f0.f1, .int .i64 x.f1.f0, .int .i64 x.f1.f1, .int .i64 x.f2.f0, .int .i64 x.f2.f1] 97 (0, 0)) := hX
       have hY2 : ((wr.alloc (.cells #[.int .i64 x.f0.f0, .int .i64 x.f0.f1, .int .i64 x.f1.f0, .int .i64 x.f1.f1, .int .i64 x.f2.f0, .int .i64 x.f2.f1] 97)).alloc (.cells #[.int .i64 x.f1.f0, .int .i64 x.f1.f1, .int .i64 x.f2.f0, .int .i64 x.f2.f1] 115)).drew.heap[wr.heap.size + 1]? = some (.cells #[.int .i64 x.f1.f0, .int .i64 x.f1.f1, .int .i64 x.f2.f0, .int .i64 x.f2.f1] 115 (0, 0)) := hY
       have HWV : Aside0 (Wb ≤ ((wr.alloc (.cells #[.int .i64 x.f0.f0, .int .i64 x.f0.f1, .int .i64 x.f1.f0, .int .i64 x.f1.f1, .int .i64 x.f2.f0, .int .i64 x.f2.f1] 97)).alloc (.cells #[.int .i64 x.f1.f0, .int .i64 x.f1.f1, .int .i64 x.f2.f0, .int .i64 x.f2.f1] 115)).drew.heap.size) := ⟨by rw [← HWB0.out]; exact HKV.out.1.size⟩
       generalize wr.heap.size = Bx at *
       generalize hV0 : ((wr.alloc (.cells #[.int .i64 x.f0.f0, .int .i64 x.f0.f1, .int .i64 x.f1.f0, .int .i64 x.f1.f1, .int .i64 x.f2.f0, .int .i64 x.f2.f1] 97)).alloc (.cells #[.int .i64 x.f1.f0, .int .i64 x.f1.f1, .int .i64 x.f2.f0, .int .i64 x.f2.f1] 115)) = V0 at *
       obtain ⟨V, hV⟩ : ∃ V, V0.drew = V := ⟨_, rfl⟩
       rw [hV] at HKV hM2 hR2 hX2 hY2 HWV
       obtain ⟨s_, o1, hent, hc1, _, hst⟩ := hM2.entry (x.f1, x.f2)
       obtain ⟨o0, ho0, hc0⟩ := hM2.obj
       have HENT := Aside0.mk hent
       have HST := Aside0.mk hst
       have HM2 := Aside0.mk hM2
       have HRO := Aside0.mk (hR2.put ho0 hc0 o1)
       have HO1 : Aside0 ((V.putObj b4 o1).heap[b4]? = some o1 ∧ o1.isCells = false) := ⟨World.putObj_heap_same hM2.lt, hc1⟩
       have HWB : Aside0 (Wb ≤ (V.putObj b4 o1).heap.size) := ⟨by simpa using HWV.out⟩
       have HLN : Aside0 (((inP (D.placed.take i) x.f1 x.f2).length + 1) * 16 ≤ 140737488355328) := ⟨ins_room _ _ _ _ HD.out.placed⟩
       have HS0 : Aside0 ((fun w' => w'.heap[p3]? = some (.cells #[.pointer (some ⟨pb, 0, none⟩)] 75 (0, 0)) ∧ w'.heap[pb]? = some (.cells #[.map (some b1), .map (some b2), .map (some b3), .map (some b4), .map (some b5), .int .i64 0] 83 (0, 0)) ∧ w'.heap[Bx]? = some (.cells #[.int .i64 x.f0.f0, .int .i64 x.f0.f1, .int .i64 x.f1.f0, .int .i64 x.f1.f1, .int .i64 x.f2.f0, .int .i64 x.f2.f1] 97 (0, 0)) ∧ w'.heap[Bx + 1]? = some (.cells #[.int .i64 x.f1.f0, .int .i64 x.f1.f1, .int .i64 x.f2.f0, .int .i64 x.f2.f1] 115 (0, 0))) V) := ⟨⟨HKV.out.1.cells hqW (by show ¬ (p3 = b4); have := HE.out; omega), HKV.out.1.cells hpW (by show ¬ (pb = b4); have := HE.out; omega), hX2, hY2⟩⟩
       have hS0 : (fun w' => w'.heap[p3]? = some (.cells #[.pointer (some ⟨pb, 0, none⟩)] 75 (0, 0)) ∧ w'.heap[pb]? = some (.cells #[.map (some b1), .map (some b2), .map (some b3), .map (some b4), .map (some b5), .int .i64 0] 83 (0, 0)) ∧ w'.heap[Bx]? = some (.cells #[.int .i64 x.f0.f0, .int .i64 x.f0.f1, .int .i64 x.f1.f0, .int .i64 x.f1.f1, .int .i64 x.f2.f0, .int .i64 x.f2.f1] 97 (0, 0)) ∧ w'.heap[Bx + 1]? = some (.cells #[.int .i64 x.f1.f0, .int .i64 x.f1.f1, .int .i64 x.f2.f0, .int .i64 x.f2.f1] 115 (0, 0))) V0.drew := by rw [hV]; exact HS0.out
       clear hbl hX hY hM2 hR2 hX2 hY2 hent hst hc1 ho0 hc0 x0 x1 x2 x3 x4 x5 hV0 HWV
       refine region_calm ?_
       refine startS (n := 13) (S := (fun w' => w'.heap[p3]? = some (.cells #[.pointer (some ⟨pb, 0, none⟩)] 75 (0, 0)) ∧ w'.heap[pb]? = some (.cells #[.map (some b1), .map (some b2), .map (some b3), .map (some b4), .map (some b5), .int .i64 0] 83 (0, 0)) ∧ w'.heap[Bx]? = some (.cells #[.int .i64 x.f0.f0, .int .i64 x.f0.f1, .int .i64 x.f1.f0, .int .i64 x.f1.f1, .int .i64 x.f2.f0, .int .i64 x.f2.f1] 97 (0, 0)) ∧ w'.heap[Bx + 1]? = some (.cells #[.int .i64 x.f1.f0, .int .i64 x.f1.f1, .int .i64 x.f2.f0, .int .i64 x.f2.f1] 115 (0, 0)))) (ds := [12]) (hS0) (fun hHeld => ?_)
       refine with_tabW vo.tab17 vo.bits17 (fun HT_ HW_ => ?_)
       rw [hV] at hHeld ⊢
       refine pureQ (i := 5) (N := (some 84)) HT_ ?_
       refine takeQ (i := 0) (N := (some 78)) (v := ?_) HT_ HW_ hHeld ?_ ?_
       rotate_left
       ·rintro w' ⟨s0, s1, s2, s3⟩; have f0 := Mem.cell_of s0 0; have f1 := Mem.cell_of s1 3; have g0 := Mem.cell_of s2 0; have g1 := Mem.cell_of s2 1; have k0 := Mem.cell_of s3 0; have k1 := Mem.cell_of s3 1; have k2 := Mem.cell_of s3 2; have k3 := Mem.cell_of s3 3
        go_simp
        with_reducible rfl
       refine normS (N := (some 78)) ?_
       refine pureQ (i := 1) (N := (some 79)) HT_ ?_
       refine pureQ (i := 2) (N := (some 80)) HT_ ?_
       refine takeQ (i := 3) (N := (some 81)) (v := ?_) HT_ HW_ hHeld ?_ ?_
       rotate_left
       ·rintro w' ⟨s0, s1, s2, s3⟩; have f0 := Mem.cell_of s0 0; have f1 := Mem.cell_of s1 3; have g0 := Mem.cell_of s2 0; have g1 := Mem.cell_of s2 1; have k0 := Mem.cell_of s3 0; have k1 := Mem.cell_of s3 1; have k2 := Mem.cell_of s3 2; have k3 := Mem.cell_of s3 3
        go_simp
        with_reducible rfl
       refine normS (N := (some 81)) ?_
       refine takeQ (i := 4) (N := (some 82)) (v := ?_) HT_ HW_ hHeld ?_ ?_
       rotate_left
       ·rintro w' ⟨s0, s1, s2, s3⟩; have f0 := Mem.cell_of s0 0; have f1 := Mem.cell_of s1 3; have g0 := Mem.cell_of s2 0; have g1 := Mem.cell_of s2 1; have k0 := Mem.cell_of s3 0; have k1 := Mem.cell_of s3 1; have k2 := Mem.cell_of s3 2; have k3 := Mem.cell_of s3 3
        go_simp
        with_reducible rfl
       refine normS (N := (some 82)) ?_
       refine takeQ (i := 6) (N := (some 85)) (v := ?_) HT_ HW_ hHeld ?_ ?_
       rotate_left
       ·rintro w' ⟨s0, s1, s2, s3⟩; have f0 := Mem.cell_of s0 0; have f1 := Mem.cell_of s1 3; have g0 := Mem.cell_of s2 0; have g1 := Mem.cell_of s2 1; have k0 := Mem.cell_of s3 0; have k1 := Mem.cell_of s3 1; have k2 := Mem.cell_of s3 2; have k3 := Mem.cell_of s3 3
        go_simp
        with_reducible rfl
       refine normS (N := (some 85)) ?_
       refine oneS (i := 7) (N := (some 86)) HT_ (fun K hK => ?_)
       refine value_ (w1 := ?_) (v := ?_) (by rfl) rfl ?_ ?_
       rotate_left 2
       ·go_simp
        constructor
        ·rfl
        ·rfl
       refine hK.out _ _ (⟨Mem.alloc_old hHeld.1 _, Mem.alloc_old hHeld.2.1 _, Mem.alloc_old hHeld.2.2.1 _, Mem.alloc_old hHeld.2.2.2 _⟩) (fun hHeld => ?_)
       clear hK K
       refine normS (N := (some 86)) ?_
       refine oneS (i := 8) (N := (some 87)) HT_ (fun K hK => ?_)
       refine value_ (w1 := _) (v := _) (by rfl) rfl (Gm.exec_entry (d := dIn) (k := (x.f1, x.f2)) rfl rfl rfl (HENT.out _ (alloc_far HM2.out.lt _))) ?_
       rw [putObj_alloc _ HM2.out.lt]
       refine hK.out _ _ (⟨Mem.alloc_old ((World.putObj_heap_other (by have h1_ := HE.out; have h2_ := HBX.out; omega)).trans HS0.out.1) _, Mem.alloc_old ((World.putObj_heap_other (by have h1_ := HE.out; have h2_ := HBX.out; omega)).trans HS0.out.2.1) _, Mem.alloc_old ((World.putObj_heap_other (by have h1_ := HE.out; have h2_ := HBX.out; omega)).trans HS0.out.2.2.1) _, Mem.alloc_old ((World.putObj_heap_other (by have h1_ := HE.out; have h2_ := HBX.out; omega)).trans HS0.out.2.2.2) _⟩) (fun hHeld => ?_)
       clear hK K
       refine normS (N := (some 87)) ?_
       refine pureQ (i := 9) (N := (some 83)) HT_ ?_
       refine pureQ (i := 11) (N := (some 89)) HT_ ?_
       refine oneS (i := 10) (N := (some 88)) HT_ (fun K hK => ?_)
       refine Kd.R_append_step k23 (w0 := V.putObj b4 o1) Wb (by rfl) (.tmp 83) (.tmp 86) 48 23 (.agg #[(.int .i64 0), (.int .i64 0)]) 16 rfl Try.underlying48 info23 rfl (by decide) (by omega) (valM f (x.f1, x.f2)) (inP (D.placed.take i) x.f1 x.f2) x.f0 [.int .i64 x.f0.f0, .int .i64 x.f0.f1] (fun _ => True) (fun _ => False) rfl (by first | rfl | (simp only [World.putObj_size]; rfl)) ?hp (fun _ hk => hk.elim) (fun _ _ => trivial) ?hO (Below.refl _ _) ?hb ?hl ?_
       case hp => exact k23_mkM _ _ _ x.f0
       case hO => exact HRO.out.row _
       case hb => exact HWB.out
       case hl => exact HLN.out
       intro v6 w6 ho6 hb6 hg6 hat6
       have HO6 := Aside0.mk ho6
       have HG6 := Aside0.mk hg6
       have HA6 := Aside0.mk hat6
       obtain ⟨o2, hst2, hc2, hm2⟩ := HST.out v6 w6 ((hg6.block _ (by simpa using HM2.out.lt) (own_ne_map (HRO.out.row _) HO1.out.1 HO1.out.2)).trans HO1.out.1)
       have HST2 := Aside0.mk hst2
       have HM6 := Aside0.mk hm2
       have hS6 : (fun w' => w'.heap[p3]? = some (.cells #[.pointer (some ⟨pb, 0, none⟩)] 75 (0, 0)) ∧ w'.heap[pb]? = some (.cells #[.map (some b1), .map (some b2), .map (some b3), .map (some b4), .map (some b5), .int .i64 0] 83 (0, 0)) ∧ w'.heap[Bx]? = some (.cells #[.int .i64 x.f0.f0, .int .i64 x.f0.f1, .int .i64 x.f1.f0, .int .i64 x.f1.f1, .int .i64 x.f2.f0, .int .i64 x.f2.f1] 97 (0, 0)) ∧ w'.heap[Bx + 1]? = some (.cells #[.int .i64 x.f1.f0, .int .i64 x.f1.f1, .int .i64 x.f2.f0, .int .i64 x.f2.f1] 115 (0, 0))) w6 := ⟨(hg6.block _ (by simpa using blk_lt' HS0.out.1) (Kd.R_ne (HRO.out.row _) ((World.putObj_heap_other (by have h1_ := HE.out; have h2_ := HBX.out; omega)).trans HS0.out.1) (by decide))).trans ((World.putObj_heap_other (by have h1_ := HE.out; have h2_ := HBX.out; omega)).trans HS0.out.1), (hg6.block _ (by simpa using blk_lt' HS0.out.2.1) (Kd.R_ne (HRO.out.row _) ((World.putObj_heap_other (by have h1_ := HE.out; have h2_ := HBX.out; omega)).trans HS0.out.2.1) (by decide))).trans ((World.putObj_heap_other (by have h1_ := HE.out; have h2_ := HBX.out; omega)).trans HS0.out.2.1), (hg6.block _ (by simpa using blk_lt' HS0.out.2.2.1) (Kd.R_ne (HRO.out.row _) ((World.putObj_heap_other (by have h1_ := HE.out; have h2_ := HBX.out; omega)).trans HS0.out.2.2.1) (by decide))).trans ((World.putObj_heap_other (by have h1_ := HE.out; have h2_ := HBX.out; omega)).trans HS0.out.2.2.1), (hg6.block _ (by simpa using blk_lt' HS0.out.2.2.2) (Kd.R_ne (HRO.out.row _) ((World.putObj_heap_other (by have h1_ := HE.out; have h2_ := HBX.out; omega)).trans HS0.out.2.2.2) (by decide))).trans ((World.putObj_heap_other (by have h1_ := HE.out; have h2_ := HBX.out; omega)).trans HS0.out.2.2.2)⟩
       clear ho6 hg6 hb6 hat6 hst2 hm2
       refine hK.out _ _ (hS6) (fun hHeld => ?_)
       clear hK K
       refine normS (N := (some 88)) ?_
       refine lastS (i := 12) (N := none) HT_ (fun K hK => ?_)
       refine skip_ (w1 := _) (by rfl) rfl (Gm.exec_store (d := dIn) rfl rfl rfl rfl HST2.out) ?_
       refine hK.out _ _ ?_
       clear hK K
       refine done_ (done_of HT_.out (by kernel_rfl)) ?_
       refine ⟨rfl, ?_⟩
       clear hHeld hS6 hS0
       have HL6 : Aside0 (LK (fun j => j = b4) w.heap.size w W3 (w6.putObj b4 o2)) := ⟨((HKV.out.put o1 rfl (by have := HE.out; omega)).grown HG6.out (fun j hj => by rw [HWB0.out]; exact (own_below (HRO.out.row (x.f1, x.f2)) j hj).1) HBW3.out.size).put o2 rfl (by have := HE.out; omega)⟩
       have HM7 : Aside0 (MapA dIn (w6.putObj b4 o2) b4 (kput f (x.f1, x.f2) v6)) := ⟨HM6.out _ (World.putObj_heap_same (Nat.lt_of_lt_of_le (blk_lt' HO1.out.1) HG6.out.size))⟩
       have HR7 : Aside0 (RZ k23 23 (w6.putObj b4 o2) Wb (kput f (x.f1, x.f2) v6) (fun q => inP (D.placed.take (i + 1)) q.1 q.2)) := ⟨((HRO.out.grow rfl HO6.out HG6.out HA6.out).put ((HG6.out.block _ (blk_lt' HO1.out.1) (own_ne_map (HRO.out.row _) HO1.out.1 HO1.out.2)).trans HO1.out.1) HO1.out.2 o2).g_eq (fun q => by rw [HTK.out q.1 q.2]; by_cases hk : q = (x.f1, x.f2) <;> by_cases hk2 : sameK x.f1 q.1 = true ∧ sameK x.f2 q.2 = true <;> first | (rw [if_pos hk, if_pos hk2, hk]) | (rw [if_neg hk, if_neg hk2]) | exact absurd (Prod.ext (sameK_iff.1 hk2.1).symm (sameK_iff.1 hk2.2).symm) hk | exact absurd (by rw [hk]; exact ⟨sameK_iff.2 rfl, sameK_iff.2 rfl⟩) hk2)⟩
       generalize w6.putObj b4 o2 = w7 at *
       go_wp2_with (fail)
       go_roundw
       case rel => exact ⟨i + 1, congrArg (Value.int .i64) hw1, HLT, ⟨_, HM7.out, HR7.out⟩, HL6⟩
       case measure => exact dec_lt HLT.out hw1
      ·obtain rfl : i = D.placed.length := by have := HIL3.out; omega
       rename World => W4
       have q0 : W4.cell? ⟨p3, 0, none⟩ = some (.pointer (some ⟨pb, 0, none⟩)) := Mem.cell_of (HK3.out.1.cells hqW (by show ¬ (p3 = b4); have := HE.out; omega)) 0
       have e1 : ((D.placed.length : Int) < (D.placed.length : Int)) = False := eq_false (Int.lt_irrefl _)
       have hord : w.heap.size < Df ∧ b5 < Df ∧ pb < Df ∧ Df < Df2 := by have h1 := HE.out; have h2 := HDF.out; have h3 := blk_lt' HKD2.out; have h4 := HDF2.out; omega
       have HORD := Aside0.mk hord
       have hD2W : W4.heap[Df2]? = some (.deferred (some [])) := HK3.out.1.cells HKD3.out (by show ¬ (Df2 = b4); have h1 := HE.out; have h2 := HORD.out; omega)
       have hD1V : W3.heap[Df]? = some (.deferred (some [])) := HL3.out.1.cells HKD2.out (by show ¬ (Df = b3); have h1 := HE.out; have h2 := HORD.out; omega)
       have hD1W : W4.heap[Df]? = some (.deferred (some [])) := HK3.out.1.cells hD1V (by show ¬ (Df = b4); have h1 := HE.out; have h2 := HORD.out; omega)
       have HD2W := Aside0.mk hD2W
       have HD1W := Aside0.mk hD1W
       clear hD2W hD1V hD1W hord
       go_wp2_with (fail)
       have he4 : (W4.putObj Df2 (.deferred none)).heap[Df]? = _ := (World.putObj_heap_other (by have h2 := HORD.out; omega)).trans HD1W.out
       refine ⟨by simp, .inl ⟨_, _, rfl, run_takeDeferred HD2W.out, by simp, .inl ⟨_, _, rfl, run_takeDeferred he4, ?_⟩⟩⟩
       have hkk : KeptT (fun j => j = b4 ∨ j = Df2 ∨ j = Df) W3 ((W4.putObj Df2 (.deferred none)).putObj Df (.deferred none)) := ((HK3.out.1.two (KeptT.refl (fun _ => False) W4) (fun j h => .inl h) (fun j h => h.elim)).put _ (.inr (.inl rfl))).put _ (.inr (.inr rfl))
       have hrs4 := HI3.out
       obtain ⟨f4, hm4, hr4⟩ := hrs4
       have hr4' := (hr4.put HD2W.out rfl (.deferred none)).put he4 rfl (.deferred none)
       have hm4' : MapA dIn ((W4.putObj Df2 (.deferred none)).putObj Df (.deferred none)) b4 f4 := hm4.step ((World.putObj_heap_other (by have h1 := HE.out; have h2 := HORD.out; omega)).trans (World.putObj_heap_other (by have h1 := HE.out; have h2 := HORD.out; omega)))
       have hbel : Below w.heap.size w ((W4.putObj Df2 (.deferred none)).putObj Df (.deferred none)) := below_put (below_put HK3.out.2 (by have h2 := HORD.out; omega) _) (by have h2 := HORD.out; omega) _
       generalize (W4.putObj Df2 (.deferred none)).putObj Df (.deferred none) = W5 at *
       have hk2 : KeptT (fun j => j = b3 ∨ j = b4 ∨ j = Df2 ∨ j = Df) W2 W5 := by
        refine KeptT.two (T1 := fun j => j = b3) (W := W3) ?_ hkk (fun j h => .inl h) (fun j h => .inr h)
        exact ⟨Nat.le_trans HVS2.out HL3.out.1.size, fun j hj hn => (HL3.out.1.block j (Nat.lt_of_lt_of_le hj HVS2.out) hn).trans (HVB2.out j hj)⟩
       have hk1 : KeptT (fun j => j = b2 ∨ j = b3 ∨ j = b4 ∨ j = Df2 ∨ j = Df) W W5 := HK.out.1.two hk2 (fun j h => .inl h) (fun j h => .inr h)
       have hp5 := hkk.cells hpW (by have h1 := HE.out; have h2 := HORD.out; omega)
       have hb55 := hkk.cells (HU3.out.cells hb5 (by show ¬ (b5 = b1 ∨ b5 = b2 ∨ b5 = b3); have := HE.out; omega)) (by have h1 := HE.out; have h2 := HORD.out; omega)
       have hn5 : w.heap.size ≤ W5.heap.size := hbel.size
       have hpl := blk_lt' hp5
       obtain ⟨f2, hm2, hr2⟩ := HI.out
       have hm2' : MapA dReg W5 b2 f2 := hm2.step (hk2.block b2 hm2.lt (by have h1 := HE.out; have h2 := HORD.out; omega))
       have hr2' : RZ k111 111 W5 _ f2 _ := hr2.kept hk2 (fun j hj hlt => by
        rcases hj with h | h | h | h
        ·rw [h] at hlt ⊢; exact ⟨_, (HVB2.out _ hlt).symm.trans hb3V, rfl⟩
        ·rw [h] at hlt ⊢; exact ⟨_, (HVB2.out _ hlt).symm.trans hb4V, rfl⟩
        ·exact absurd hlt (by have h1 := HDF2.out; have h2 := HVS2.out; omega)
        ·rw [h]; exact ⟨_, HK.out.1.cells HKD.out (by show ¬ (Df = b2); have h1 := HE.out; have h2 := HORD.out; omega), rfl⟩)
       refine ⟨_, results_tmp rfl _ _ _, pb, b5, b1, b2, b3, b4, rfl, ⟨⟨_, HMT.out.step (hk1.block b1 HMT.out.lt (by have h1 := HE.out; have h2 := HORD.out; omega)), fun k => tagsF_look D.made k⟩, ⟨f2, hm2', fun k => ?_⟩, ⟨_, HM3.out.step (hkk.block b3 HM3.out.lt (by have h1 := HE.out; have h2 := HORD.out; omega)), fun k => ?_⟩, ⟨f4, hm4', fun q => ?_⟩, by have h1 := HE.out; omega, by have h1 := HE.out; omega⟩, hp5, MapA.new dSeen hb55, by have h1 := HE.out; omega, by have h1 := HE.out; omega, by have h1 := HE.out; omega, hbel⟩
       ·have h_ := hr2'.row k
        rw [List.take_length] at h_
        exact R_foot rfl h_ (ok := fun j => j < W5.heap.size ∧ j ≠ pb ∧ j ≠ b5) (fun j c hj hc => ⟨blk_lt' hc, fun e_ => (by rw [e_, hp5] at hc; cases hc), fun e_ => (by rw [e_, hb55] at hc; cases hc)⟩)
       ·obtain ⟨A, c, h1, h2, h3⟩ := HSL.out k
        exact ⟨A, c, h1, h2, Kd.F_mono (rowF_low h3 (fun j hj => hbel.block j hj)) (fun j hj => by have h4 := HE.out; omega)⟩
       ·have h_ := hr4'.row q
        rw [List.take_length] at h_
        exact R_foot rfl h_ (ok := fun j => j < W5.heap.size ∧ j ≠ pb ∧ j ≠ b5) (fun j c hj hc => ⟨blk_lt' hc, fun e_ => (by rw [e_, hp5] at hc; cases hc), fun e_ => (by rw [e_, hb55] at hc; cases hc)⟩)
end Go.Proofs.Ytnkbgimihikhoaa.PVt
namespace Go.Proofs.Ytnkbgimihikhoaa.PVt
open Go.RowKit Go.Proofs.YtnkbgimihikhoaaW.PrintWords Go.Proofs.YtnkbgimihikhoaaW.PrintLast Go.Proofs.YtnkbgimihikhoaaW.PrintMore
open Go.Proofs.Ytnkbgimihikhoaa.Gm
set_option linter.unusedVariables false
set_option linter.unusedSimpArgs false
/-- A register taken in: is the first text still to come, the text, the attributes. -/
def regStep (st : Bool × ByteArray × List S99) (r : S111) : Bool × ByteArray × List S99 :=
  if r.f1.toList = ([] : List UInt8) then (if st.1 = true then (false, (if r.f4 = true then st.2.1 else r.f3), st.2.2) else st) else (if r.f4 = true then st else (st.1, st.2.1, st.2.2 ++ [⟨r.f1, r.f3⟩]))
def regFold (l : List S111) : Bool × ByteArray × List S99 := l.foldl regStep (true, ⟨#[]⟩, [])
theorem regFold_snoc (l : List S111) (r : S111) : regFold (l ++ [r]) = regStep (regFold l) r := by simp [regFold]
theorem regFold_attrs (k : S23) : ∀ (l : List S111) (b : Bool) (t : ByteArray) (a : List S99), ((l.filter fun r => sameK r.f0 k).foldl regStep (b, t, a)).2.2 = a ++ attrsP l k
  | [], b, t, a => by simp [attrsP]
  | r :: l, b, t, a => by
    rw [List.filter_cons, attrsP]
    by_cases h : sameK r.f0 k = true
    · rw [if_pos h, if_pos h, List.foldl_cons]
      unfold regStep
      by_cases hn : r.f1.toList = ([] : List UInt8)
      · rw [if_pos hn, if_pos hn]
        by_cases hb : b = true
        · rw [if_pos hb]; exact regFold_attrs k l _ _ _
        · rw [if_neg hb]; exact regFold_attrs k l _ _ _
      · rw [if_neg hn, if_neg hn]
        by_cases hg : r.f4 = true
        · rw [if_pos hg, if_pos hg]; exact regFold_attrs k l _ _ _
        · rw [if_neg hg, if_neg hg]
          have := regFold_attrs k l b t (a ++ [(⟨r.f1, r.f3⟩ : S99)])
          rw [List.append_assoc] at this
          exact this
    · rw [if_neg h, if_neg h]; exact regFold_attrs k l _ _ _
theorem regFold_done (k : S23) : ∀ (l : List S111) (t : ByteArray) (a : List S99), ((l.filter fun r => sameK r.f0 k).foldl regStep (false, t, a)).2.1 = t
  | [], t, a => rfl
  | r :: l, t, a => by
    rw [List.filter_cons]
    by_cases h : sameK r.f0 k = true
    · rw [if_pos h, List.foldl_cons]
      unfold regStep
      by_cases hn : r.f1.toList = ([] : List UInt8)
      · rw [if_pos hn, if_neg (by simp)]; exact regFold_done k l _ _
      · rw [if_neg hn]
        by_cases hg : r.f4 = true
        · rw [if_pos hg]; exact regFold_done k l _ _
        · rw [if_neg hg]; exact regFold_done k l _ _
    · rw [if_neg h]; exact regFold_done k l _ _
theorem regFold_text (k : S23) : ∀ (l : List S111) (a : List S99), ((l.filter fun r => sameK r.f0 k).foldl regStep (true, ⟨#[]⟩, a)).2.1 = textP l k
  | [], a => rfl
  | r :: l, a => by
    rw [List.filter_cons, textP]
    by_cases h : sameK r.f0 k = true
    · rw [if_pos h, if_pos h, List.foldl_cons]
      unfold regStep
      by_cases hn : r.f1.toList = ([] : List UInt8)
      · rw [if_pos hn, if_pos hn, if_pos rfl]; exact regFold_done k l _ _
      · rw [if_neg hn, if_neg hn]
        by_cases hg : r.f4 = true
        · rw [if_pos hg]; exact regFold_text k l _
        · rw [if_neg hg]; exact regFold_text k l _
    · rw [if_neg h, if_neg h]; exact regFold_text k l _
theorem regFold_is (l : List S111) (k : S23) : (regFold (regsP l k)).2 = (textP l k, attrsP l k) := by
  have h1 := regFold_text k l []
  have h2 := regFold_attrs k l true ⟨#[]⟩ []
  rw [List.nil_append] at h2
  unfold regFold regsP
  exact Prod.ext h1 h2
theorem regFold_len (l : List S111) : (regFold l).2.2.length ≤ l.length := by
  have h : ∀ (l : List S111) (st : Bool × ByteArray × List S99), (l.foldl regStep st).2.2.length ≤ st.2.2.length + l.length := by
    intro l
    induction l with
    | nil => intro st; simp
    | cons r t ih =>
      intro st
      rw [List.foldl_cons]
      refine Nat.le_trans (ih _) ?_
      unfold regStep
      split
      · split
        · simp
        · simp
      · split
        · simp
        · simp; omega
  simpa [regFold] using h l (true, ⟨#[]⟩, [])
theorem attrs_room {l : List S99} (h : l.length ≤ 600) : (l.length + 1) * 32 ≤ 140737488355328 := by omega
theorem take_snoc_rd111 (l : List S111) {i : Nat} (hi : i < l.length) : l.take (i + 1) = l.take i ++ [rd_T111 l (i : Int)] := by
  unfold rd_T111
  rw [Int.toNat_natCast, List.take_add_one, List.getD_eq_getElem?_getD, List.getElem?_eq_getElem hi]
  rfl
theorem take_snoc_rd23 (l : List S23) {i : Nat} (hi : i < l.length) : l.take (i + 1) = l.take i ++ [rd_T23 l (i : Int)] := by
  unfold rd_T23
  rw [Int.toNat_natCast, List.take_add_one, List.getD_eq_getElem?_getD, List.getElem?_eq_getElem hi]
  rfl
theorem kidsF_append (D : DocP) (nd : S23 → ByteArray → List S23 → S27 × List S23) : ∀ (l m : List S23) (s : List S23), kidsF D nd (l ++ m) s = ((kidsF D nd l s).1 ++ (kidsF D nd m (kidsF D nd l s).2).1, (kidsF D nd m (kidsF D nd l s).2).2)
  | [], m, s => rfl
  | k :: t, m, s => by
    rw [List.cons_append, kidsF, kidsF]
    cases tagP D.made k with
    | none => exact kidsF_append D nd t m s
    | some tag =>
      dsimp only
      split
      · exact kidsF_append D nd t m s
      · rw [kidsF_append D nd t m]
        rfl
theorem insP_append (P : List S97) (p : S23) : ∀ (l m : List S23), insP P p (l ++ m) = insP P p l ++ insP P p m
  | [], m => rfl
  | s :: t, m => by rw [List.cons_append, insP, insP, insP_append P p t m, List.append_assoc]
theorem insP_one (P : List S97) (p s : S23) : insP P p [s] = inP P p s := by simp [insP]
theorem hasP_snoc (l : List S23) (a k : S23) : hasP (l ++ [a]) k = (hasP l k || sameK a k) := by unfold hasP; simp
/-- Who has come, as the projector counts. -/
def SeenI (W : World) (m : Nat) (fs : List (S23 × Value)) (seen : List S23) : Prop := MapA dSeen W m fs ∧ ∀ j, (kget fs j).getD (.int .i64 0) = .int .i64 (if hasP seen j = true then 1 else 0)
theorem SeenI.put {W : World} {m : Nat} {fs : List (S23 × Value)} {seen : List S23} {k : S23} (h : SeenI W m fs seen) {W' : World} (hm : MapA dSeen W' m (kput fs k (.int .i64 1))) : SeenI W' m (kput fs k (.int .i64 1)) (seen ++ [k]) := by
  refine ⟨hm, fun j => ?_⟩
  rw [look_ins, hasP_snoc]
  by_cases hj : j = k
  · rw [if_pos hj, if_pos (by rw [hj, sameK_iff.2 rfl, Bool.or_true])]
    rfl
  · rw [if_neg hj, h.2 j, show sameK k j = false from Bool.eq_false_iff.2 (fun e => hj (sameK_iff.1 e).symm), Bool.or_false]
theorem SeenI.step {W W' : World} {m : Nat} {fs : List (S23 × Value)} {seen : List S23} (h : SeenI W m fs seen) (hb : W'.heap[m]? = W.heap[m]?) : SeenI W' m fs seen := ⟨h.1.step hb, h.2⟩
/-- Kids one behind another, as they lie while a node is made. -/
structure KI (nd : S23 → ByteArray → List S23 → S27 × List S23) (D : DocP) (V : World) (n0 p m b7 a1 a2 a3 a4 : Nat) (k : S23) (tag tx : ByteArray) (v4 : Value) (seen0 pre : List S23) (W : World) : Prop where
  ex : ∃ A5 c5, W.heap[b7]? = some (.cells #[.int .i64 k.f0, .int .i64 k.f1, .string tag, .string tx, v4, .slice A5 (kidsF D nd pre seen0).1.length c5] 27 (0, 0)) ∧ Kd.N k27 27 W V.heap.size (fun j => V.heap.size ≤ j) (.slice A5 (kidsF D nd pre seen0).1.length c5) (kidsF D nd pre seen0).1
  sn : ∃ fs', SeenI W m fs' (kidsF D nd pre seen0).2
  pb : W.heap[p]? = some (.cells #[.map (some a1), .map (some a2), .map (some a3), .map (some a4), .map (some m), .int .i64 (((kidsF D nd pre seen0).2.length : Nat) : Int)] 83 (0, 0))
  lk : LK (fun i => i = p ∨ i = m ∨ i = b7) n0 V V W
theorem KI.below {nd : S23 → ByteArray → List S23 → S27 × List S23} {D : DocP} {V : World} {n0 p m b7 a1 a2 a3 a4 : Nat} {k : S23} {tag tx : ByteArray} {v4 : Value} {seen0 pre : List S23} {W W' : World} (h : KI nd D V n0 p m b7 a1 a2 a3 a4 k tag tx v4 seen0 pre W) (hb : Below W.heap.size W W') (hn : n0 ≤ V.heap.size) : KI nd D V n0 p m b7 a1 a2 a3 a4 k tag tx v4 seen0 pre W' := by
  obtain ⟨A5, c5, h1, h2⟩ := h.ex
  obtain ⟨fs', h3⟩ := h.sn
  exact ⟨⟨A5, c5, (hb.block _ (blk_lt' h1)).trans h1, Kd.N_below h2 hb⟩, ⟨fs', h3.step (hb.block _ h3.1.lt)⟩, (hb.block _ (blk_lt' h.pb)).trans h.pb, h.lk.on hb hn⟩
theorem KI.same {nd : S23 → ByteArray → List S23 → S27 × List S23} {D : DocP} {V : World} {n0 p m b7 a1 a2 a3 a4 : Nat} {k : S23} {tag tx : ByteArray} {v4 : Value} {seen0 pre pre' : List S23} {W : World} (h : KI nd D V n0 p m b7 a1 a2 a3 a4 k tag tx v4 seen0 pre W) (he : kidsF D nd pre' seen0 = kidsF D nd pre seen0) : KI nd D V n0 p m b7 a1 a2 a3 a4 k tag tx v4 seen0 pre' W := by
  obtain ⟨h1, h2, h3, h4⟩ := h
  exact ⟨by rw [he]; exact h1, by rw [he]; exact h2, by rw [he]; exact h3, h4⟩
theorem kidsF_skip {D : DocP} {nd : S23 → ByteArray → List S23 → S27 × List S23} {pre : List S23} {s : List S23} {k : S23} (h : tagP D.made k = none ∨ hasP (kidsF D nd pre s).2 k = true ∨ 8192 < (kidsF D nd pre s).2.length) : kidsF D nd (pre ++ [k]) s = kidsF D nd pre s := by
  rw [kidsF_append]
  have : kidsF D nd [k] (kidsF D nd pre s).2 = ([], (kidsF D nd pre s).2) := by
    rw [kidsF]
    rcases h with h | h
    · rw [h]; rfl
    · cases ht : tagP D.made k with
      | none => rfl
      | some t => dsimp only; rw [if_pos h]; rfl
  rw [this, List.append_nil]
theorem kidsF_more {D : DocP} {nd : S23 → ByteArray → List S23 → S27 × List S23} {pre : List S23} {s : List S23} {k : S23} {t : ByteArray} (h : tagP D.made k = some t) (h1 : hasP (kidsF D nd pre s).2 k = false) (h2 : (kidsF D nd pre s).2.length ≤ 8192) : kidsF D nd (pre ++ [k]) s = ((kidsF D nd pre s).1 ++ [(nd k t (kidsF D nd pre s).2).1], (nd k t (kidsF D nd pre s).2).2) := by
  rw [kidsF_append]
  have : kidsF D nd [k] (kidsF D nd pre s).2 = ([(nd k t (kidsF D nd pre s).2).1], (nd k t (kidsF D nd pre s).2).2) := by
    rw [kidsF, h]
    dsimp only
    rw [if_neg (by rw [h1]; rintro (h | h); cases h; omega)]
    rfl
  rw [this]
theorem LK.call {T T2 : Nat → Prop} {n0 : Nat} {Wb U W W' : World} (h : LK T n0 Wb U W) (hk : KeptT T2 W W') (hb : Below n0 W W') (hT : ∀ j, T2 j → T j) : LK T n0 Wb U W' := ⟨h.1.two hk (fun _ h => h) hT, h.2.trans hb⟩
theorem pre_len {P : List S97} {k : S23} {SL NL : List S23} {sI j : Nat} {s : S23} (h1 : P.length ≤ 600) (h2 : SL.length ≤ 600) (h3 : NL.length ≤ 600) : (insP P k (SL.take sI) ++ NL.take j).length ≤ 360600 := by
  have e1 := insP_le P k (SL.take sI)
  have e2 : (SL.take sI).length ≤ 600 := by rw [List.length_take]; omega
  have e3 : (SL.take sI).length * P.length ≤ 600 * 600 := Nat.mul_le_mul e2 h1
  rw [List.length_append, List.length_take]
  omega
theorem kids_room2 {n : Nat} (h : n ≤ 360600) : (n + 1) * 96 ≤ 140737488355328 := by omega
end Go.Proofs.Ytnkbgimihikhoaa.PVt
namespace Go.Proofs.Ytnkbgimihikhoaa.PVt
open Go.RowKit Go.Shelf Go.Proofs.YtnkbgimihikhoaaW.PrintWords Go.Proofs.YtnkbgimihikhoaaW.PrintLast Go.Proofs.YtnkbgimihikhoaaW.PrintMore Go.Proofs.Ytnkbgimihikhoaa.Gm Go.Proofs.Ytnkbgimihikhoaa
attribute [local go_sem] Oper.semAt_some
set_option linter.unusedVariables false
set_option linter.unusedSimpArgs false
def vn.T2 : Bool × List (List Nat × List Nat) := (true, [([], []), ([0], [0]), ([1], [1]), ([2], [2]), ([], []), ([3, 4], [3, 4]), ([5], [5]), ([3, 4, 0, 1, 2, 3, 4], [3, 4]), ([7], [7]), ([3, 8, 6, 7, 0, 1, 2, 3, 4, 5, 6, 7, 8], [3, 6, 8])])
def vn.B2 : List Nat := [0, 1, 3, 7, 0, 31, 63, 31, 159, 511]
theorem vn.tab2 : rtab .any (opsOf Try.f50 2) = vn.T2 := by kernel_rfl
theorem vn.bits2 : waitsOk vn.T2.2 vn.B2 = true := by kernel_rfl
def vn.T5 : Bool × List (List Nat × List Nat) := (true, [([], []), ([0], [0]), ([1], [1]), ([2], [2]), ([], []), ([3, 4], [3, 4]), ([5], [5]), ([], [])])
def vn.B5 : List Nat := [0, 1, 3, 7, 0, 31, 63, 0]
theorem vn.tab5 : rtab .any (opsOf Try.f50 5) = vn.T5 := by kernel_rfl
theorem vn.bits5 : waitsOk vn.T5.2 vn.B5 = true := by kernel_rfl
def vn.T15 : Bool × List (List Nat × List Nat) := (true, [([], []), ([0], [0]), ([1], [1]), ([2], [2]), ([], []), ([3, 4], [3, 4]), ([5], [5]), ([], [])])
def vn.B15 : List Nat := [0, 1, 3, 7, 0, 31, 63, 0]
theorem vn.tab15 : rtab .any (opsOf Try.f50 15) = vn.T15 := by kernel_rfl
theorem vn.bits15 : waitsOk vn.T15.2 vn.B15 = true := by kernel_rfl
def vn.T18 : Bool × List (List Nat × List Nat) := (true, [([], []), ([0], [0]), ([1], [1]), ([2], [2]), ([], []), ([], []), ([4, 5], [4, 5]), ([3, 6], [3, 6]), ([7], [7]), ([], [])])
def vn.B18 : List Nat := [0, 1, 3, 7, 0, 0, 48, 127, 255, 0]
theorem vn.tab18 : rtab .any (opsOf Try.f50 18) = vn.T18 := by kernel_rfl
theorem vn.bits18 : waitsOk vn.T18.2 vn.B18 = true := by kernel_rfl
def vn.T21 : Bool × List (List Nat × List Nat) := (true, [([], []), ([0], [0]), ([1], [1]), ([2], [2]), ([], []), ([3, 4], [3, 4]), ([5], [5]), ([6], [6]), ([6], [6]), ([7, 0, 1, 2, 3, 4, 5, 6, 7], [7]), ([8, 9, 0, 1, 2, 3, 4, 5, 6, 7, 8, 9], [8])])
def vn.B21 : List Nat := [0, 1, 3, 7, 0, 31, 63, 127, 127, 255, 1023]
theorem vn.tab21 : rtab .any (opsOf Try.f50 21) = vn.T21 := by kernel_rfl
theorem vn.bits21 : waitsOk vn.T21.2 vn.B21 = true := by kernel_rfl
def vn.T22 : Bool × List (List Nat × List Nat) := (true, [([], []), ([0], [0]), ([1], [1]), ([2, 1], [1, 2]), ([3, 1], [1, 3]), ([4, 1], [1, 4]), ([1], [1]), ([5, 6, 1], [1, 5, 6]), ([7, 1], [1, 7]), ([1, 8], [1, 8]), ([9, 1], [9]), ([10], [10]), ([11, 10], [10, 11]), ([12, 10], [10, 12]), ([13, 10], [10, 13]), ([14, 10], [10, 14]), ([10, 15], [10, 15])])
def vn.B22 : List Nat := [0, 1, 3, 7, 15, 31, 3, 127, 255, 511, 1023, 2047, 4095, 8191, 16383, 32767, 65535]
theorem vn.tab22 : rtab .any (opsOf Try.f50 22) = vn.T22 := by kernel_rfl
theorem vn.bits22 : waitsOk vn.T22.2 vn.B22 = true := by kernel_rfl
def vn.T23 : Bool × List (List Nat × List Nat) := (true, [([], []), ([0], [0]), ([], []), ([], []), ([], []), ([2, 3, 4], [2, 3, 4]), ([5], [5]), ([1, 6, 5], [1, 6]), ([0, 1, 2, 3, 4, 5, 6, 7], []), ([8, 7, 7, 0, 1, 2, 3, 4, 5, 6, 7], [7, 8])])
def vn.B23 : List Nat := [0, 1, 0, 0, 0, 28, 60, 127, 255, 511]
theorem vn.tab23 : rtab .any (opsOf Try.f50 23) = vn.T23 := by kernel_rfl
theorem vn.bits23 : waitsOk vn.T23.2 vn.B23 = true := by kernel_rfl
set_option maxHeartbeats 16000000 in
set_option maxRecDepth 100000 in
theorem node_calls50 (D : DocP) (hD : Small D) {w1 : World} {n0 n1 p m a1 a2 a3 a4 : Nat} (hS : ProjS w1 n1 D p m a1 a2 a3 a4) (hn1 : n1 ≤ w1.heap.size) (hp1 : p < n1) (hm1 : m < n1) (hpm : p ≠ m) (hp0 : n0 ≤ p) (hm0 : n0 ≤ m) :
  ∀ (q : Nat) (k : S23) (tag : ByteArray) (seen : List S23) (W : World) (fs : List (S23 × Value)), seen.length ≤ 8192 → 8193 ≤ seen.length + q → (∀ i, i < n1 → i ≠ p → i ≠ m → W.heap[i]? = w1.heap[i]?) → n1 ≤ W.heap.size →
   W.heap[p]? = some (.cells #[.map (some a1), .map (some a2), .map (some a3), .map (some a4), .map (some m), .int .i64 ((seen.length : Nat) : Int)] 83 (0, 0)) → SeenI W m fs seen → hasP seen k = false →
   Calls Try.prog 50 #[.pointer (some ⟨p, 0, none⟩), .agg #[.int .i64 k.f0, .int .i64 k.f1], .string tag] W fun e W' => ∃ A4 c4 A5 c5, e = .returned (.agg #[.int .i64 k.f0, .int .i64 k.f1, .string tag, .string (textP D.regs k), .slice A4 (attrsP D.regs k).length c4, .slice A5 (nodeT D (q) k tag seen).1.f4.length c5]) ∧ Kd.FK k27 W' (fun j => W.heap.size ≤ j ∧ j < W'.heap.size) (nodeT D (q) k tag seen).1 [.int .i64 k.f0, .int .i64 k.f1, .string tag, .string (textP D.regs k), .slice A4 (attrsP D.regs k).length c4, .slice A5 (nodeT D (q) k tag seen).1.f4.length c5] ∧ W'.heap[p]? = some (.cells #[.map (some a1), .map (some a2), .map (some a3), .map (some a4), .map (some m), .int .i64 (((nodeT D (q) k tag seen).2.length : Nat) : Int)] 83 (0, 0)) ∧ (∃ fs', SeenI W' m fs' (nodeT D (q) k tag seen).2) ∧ KeptT (fun i => i = p ∨ i = m) W W' ∧ Below n0 W W' := by
 have HD := Aside0.mk hD
 have HS := Aside0.mk hS
 have HC1 : Aside0 (n1 ≤ w1.heap.size ∧ p < n1 ∧ m < n1 ∧ p ≠ m ∧ n0 ≤ p ∧ n0 ≤ m) := ⟨hn1, hp1, hm1, hpm, hp0, hm0⟩
 clear hD hS hn1 hp1 hm1 hpm hp0 hm0
 intro q
 induction q with
 | zero => intro k tag seen W fs h1 h2; omega
 | succ q ih =>
  intro k tag seen W fs h1 h2 hlow hnW hPB hSE hNH
  have HIH := Aside0.mk ih
  have HN1 : Aside0 (seen.length ≤ 8192 ∧ 8193 ≤ seen.length + (q + 1)) := ⟨h1, h2⟩
  have HLOW := Aside0.mk hlow
  have HNW := Aside0.mk hnW
  have HNH := Aside0.mk hNH
  have hB1 : Below W.heap.size W (((W.alloc (.cells #[.int .i64 k.f0, .int .i64 k.f1] 23)).alloc (.cells #[.int .i64 0, .int .i64 0, .string ⟨#[]⟩, .string ⟨#[]⟩, .slice none 0 0, .slice none 0 0] 27)).alloc (.cells #[.int .i64 k.f0, .int .i64 k.f1, .string tag, .string ⟨#[]⟩, .slice none 0 0, .slice none 0 0] 27)) := below_alloc (below_alloc (below_alloc (Below.refl _ _) _) _) _
  have h4 : (((W.alloc (.cells #[.int .i64 k.f0, .int .i64 k.f1] 23)).alloc (.cells #[.int .i64 0, .int .i64 0, .string ⟨#[]⟩, .string ⟨#[]⟩, .slice none 0 0, .slice none 0 0] 27)).alloc (.cells #[.int .i64 k.f0, .int .i64 k.f1, .string tag, .string ⟨#[]⟩, .slice none 0 0, .slice none 0 0] 27)).heap[W.heap.size]? = some (.cells #[.int .i64 k.f0, .int .i64 k.f1] 23 (0, 0)) := Mem.alloc_old (Mem.alloc_old (Mem.alloc_new _ _) _) _
  have h6 : (((W.alloc (.cells #[.int .i64 k.f0, .int .i64 k.f1] 23)).alloc (.cells #[.int .i64 0, .int .i64 0, .string ⟨#[]⟩, .string ⟨#[]⟩, .slice none 0 0, .slice none 0 0] 27)).alloc (.cells #[.int .i64 k.f0, .int .i64 k.f1, .string tag, .string ⟨#[]⟩, .slice none 0 0, .slice none 0 0] 27)).heap[W.heap.size + 1]? = some (.cells #[.int .i64 0, .int .i64 0, .string ⟨#[]⟩, .string ⟨#[]⟩, .slice none 0 0, .slice none 0 0] 27 (0, 0)) := Mem.alloc_old (Mem.alloc_new_at _ _ _ (by rw [Mem.alloc_size])) _
  have h7 : (((W.alloc (.cells #[.int .i64 k.f0, .int .i64 k.f1] 23)).alloc (.cells #[.int .i64 0, .int .i64 0, .string ⟨#[]⟩, .string ⟨#[]⟩, .slice none 0 0, .slice none 0 0] 27)).alloc (.cells #[.int .i64 k.f0, .int .i64 k.f1, .string tag, .string ⟨#[]⟩, .slice none 0 0, .slice none 0 0] 27)).heap[W.heap.size + 1 + 1]? = some (.cells #[.int .i64 k.f0, .int .i64 k.f1, .string tag, .string ⟨#[]⟩, .slice none 0 0, .slice none 0 0] 27 (0, 0)) := Mem.alloc_new_at _ _ _ (by rw [Mem.alloc_size, Mem.alloc_size])
  have hsz : (((W.alloc (.cells #[.int .i64 k.f0, .int .i64 k.f1] 23)).alloc (.cells #[.int .i64 0, .int .i64 0, .string ⟨#[]⟩, .string ⟨#[]⟩, .slice none 0 0, .slice none 0 0] 27)).alloc (.cells #[.int .i64 k.f0, .int .i64 k.f1, .string tag, .string ⟨#[]⟩, .slice none 0 0, .slice none 0 0] 27)).heap.size = W.heap.size + 3 := by rw [Mem.alloc_size, Mem.alloc_size, Mem.alloc_size]
  have hpW1 := (hB1.block p (blk_lt' hPB)).trans hPB
  have hSE1 := hSE.step (W' := (((W.alloc (.cells #[.int .i64 k.f0, .int .i64 k.f1] 23)).alloc (.cells #[.int .i64 0, .int .i64 0, .string ⟨#[]⟩, .string ⟨#[]⟩, .slice none 0 0, .slice none 0 0] 27)).alloc (.cells #[.int .i64 k.f0, .int .i64 k.f1, .string tag, .string ⟨#[]⟩, .slice none 0 0, .slice none 0 0] 27))) (hB1.block m hSE.1.lt)
  clear ih h1 h2 hlow hnW hNH
  go_enter Try.func50, Try.ntmps50
  go_upto_region 2 with (fail)
  have HPB := Aside0.mk hPB
  have HB1 := Aside0.mk hB1
  clear hPB hSE hB1
  have HBSZ : Aside0 ((((W.alloc (.cells #[.int .i64 k.f0, .int .i64 k.f1] 23)).alloc (.cells #[.int .i64 0, .int .i64 0, .string ⟨#[]⟩, .string ⟨#[]⟩, .slice none 0 0, .slice none 0 0] 27)).alloc (.cells #[.int .i64 k.f0, .int .i64 k.f1, .string tag, .string ⟨#[]⟩, .slice none 0 0, .slice none 0 0] 27)).heap.size = W.heap.size + 3) := ⟨hsz⟩
  obtain ⟨V0, hV0⟩ : ∃ V0, (((W.alloc (.cells #[.int .i64 k.f0, .int .i64 k.f1] 23)).alloc (.cells #[.int .i64 0, .int .i64 0, .string ⟨#[]⟩, .string ⟨#[]⟩, .slice none 0 0, .slice none 0 0] 27)).alloc (.cells #[.int .i64 k.f0, .int .i64 k.f1, .string tag, .string ⟨#[]⟩, .slice none 0 0, .slice none 0 0] 27)) = V0 := ⟨_, rfl⟩
  rw [hV0] at h4 h6 h7 hpW1 hSE1 HB1 HBSZ ⊢
  obtain ⟨b4, hb4⟩ : ∃ z, W.heap.size = z := ⟨_, rfl⟩
  rw [hb4] at h4 h6 h7 HBSZ ⊢
  obtain ⟨b6, hb6⟩ : ∃ z, b4 + 1 = z := ⟨_, rfl⟩
  rw [hb6] at h6 h7 ⊢
  obtain ⟨b7, hb7⟩ : ∃ z, b6 + 1 = z := ⟨_, rfl⟩
  rw [hb7] at h7 ⊢
  have HE : Aside0 (W.heap.size = b4 ∧ b4 + 1 = b6 ∧ b6 + 1 = b7 ∧ V0.heap.size = b4 + 3 ∧ n1 ≤ b4) := ⟨hb4, hb6, hb7, HBSZ.out, by have := HNW.out; omega⟩
  have HV7 := Aside0.mk h7
  have HV4 := Aside0.mk h4
  have HV6 := Aside0.mk h6
  have HVP := Aside0.mk hpW1
  have HVS := Aside0.mk hSE1
  clear hsz hV0 hb4 hb6 hb7 h4 h6 h7 hpW1 hSE1 HBSZ
  have hz0 : (kget fs k).getD (.int .i64 0) = .int .i64 0 := by rw [HVS.out.2 k, HNH.out]; rfl
  have HZ0 := Aside0.mk hz0
  obtain ⟨s_, o1, hent, hc1, hmid, hst⟩ := (HVS.out.1.step (W' := V0.drew) rfl).entry k
  have HENT := Aside0.mk hent
  have HMID := Aside0.mk hmid
  have HST := Aside0.mk hst
  have HC1_ := Aside0.mk hc1
  clear hent hmid hst hz0 hc1
  have hS0 : (fun w' => w'.heap[p]? = some (.cells #[.map (some a1), .map (some a2), .map (some a3), .map (some a4), .map (some m), .int .i64 ((seen.length : Nat) : Int)] 83 (0, 0)) ∧ w'.heap[b4]? = some (.cells #[.int .i64 k.f0, .int .i64 k.f1] 23 (0, 0)) ∧ ∃ f, MapA dSeen w' m f ∧ (kget f k).getD (.int .i64 0) = .int .i64 0) V0.drew := ⟨HVP.out, HV4.out, fs, HVS.out.1.step rfl, HZ0.out⟩
  refine region_calm ?_
  refine startS (n := 10) (S := (fun w' => w'.heap[p]? = some (.cells #[.map (some a1), .map (some a2), .map (some a3), .map (some a4), .map (some m), .int .i64 ((seen.length : Nat) : Int)] 83 (0, 0)) ∧ w'.heap[b4]? = some (.cells #[.int .i64 k.f0, .int .i64 k.f1] 23 (0, 0)) ∧ ∃ f, MapA dSeen w' m f ∧ (kget f k).getD (.int .i64 0) = .int .i64 0)) (ds := [9]) (hS0) (fun hHeld => ?_)
  refine with_tabW vn.tab2 vn.bits2 (fun HT_ HW_ => ?_)
  have hml := HVS.out.1.lt
  refine pureQ (i := 0) (N := (some 20)) HT_ ?_
  refine pureQ (i := 1) (N := (some 21)) HT_ ?_
  refine pureQ (i := 2) (N := (some 22)) HT_ ?_
  refine takeQ (i := 3) (N := (some 23)) (v := ?_) HT_ HW_ hHeld ?_ ?_
  rotate_left
  ·rintro w' ⟨s0, s1, s2⟩; have f0 := Mem.cell_of s0 4; have g0 := Mem.cell_of s1 0; have g1 := Mem.cell_of s1 1
   go_simp
   with_reducible rfl
  refine normS (N := (some 23)) ?_
  refine takeQ (i := 4) (N := (some 24)) (v := ?_) HT_ HW_ hHeld ?_ ?_
  rotate_left
  ·rintro w' ⟨s0, s1, s2⟩; have f0 := Mem.cell_of s0 4; have g0 := Mem.cell_of s1 0; have g1 := Mem.cell_of s1 1
   go_simp
   with_reducible rfl
  refine normS (N := (some 24)) ?_
  refine takeQ (i := 5) (N := (some 25)) (v := ?_) HT_ HW_ hHeld ?_ ?_
  rotate_left
  ·rintro w' ⟨s0, s1, f, hf, hz⟩
   refine Eq.trans (Gm.exec_look (d := dSeen) (k := k) rfl rfl rfl hf) ?_
   show Result.ok (Next.value ((kget f k).getD (.int .i64 0))) _ = _
   rw [hz]
  refine normS (N := (some 25)) ?_
  refine pureQ (i := 6) (N := (some 26)) HT_ ?_
  refine oneS (i := 7) (N := (some 27)) HT_ (fun K hK => ?_)
  refine value_ (w1 := _) (v := _) (by rfl) rfl (Gm.exec_entry (d := dSeen) (k := k) rfl rfl rfl (HENT.out _ rfl)) ?_
  have hS7 : (fun w' => w'.heap[p]? = some (.cells #[.map (some a1), .map (some a2), .map (some a3), .map (some a4), .map (some m), .int .i64 ((seen.length : Nat) : Int)] 83 (0, 0)) ∧ w'.heap[b4]? = some (.cells #[.int .i64 k.f0, .int .i64 k.f1] 23 (0, 0)) ∧ ∃ f, MapA dSeen w' m f ∧ (kget f k).getD (.int .i64 0) = .int .i64 0) (V0.drew.putObj m o1) := ⟨(World.putObj_heap_other (by have h1_ := HC1.out; have h2_ := HE.out; omega)).trans hHeld.1, (World.putObj_heap_other (by have h1_ := HC1.out; have h2_ := HE.out; omega)).trans hHeld.2.1, _, HMID.out _ (World.putObj_heap_same hml), by rw [look_ins, if_pos rfl]; exact HZ0.out⟩
  refine hK.out _ _ (hS7) (fun hHeld => ?_)
  clear hK K
  refine normS (N := (some 27)) ?_
  refine pureQ (i := 8) (N := (some 28)) HT_ ?_
  refine lastS (i := 9) (N := none) HT_ (fun K hK => ?_)
  obtain ⟨o2, hst2, hc2, hm2⟩ := HST.out (.int .i64 (wrap64 1)) (V0.drew.putObj m o1) (World.putObj_heap_same hml)
  rw [show wrap64 1 = 1 from wrap_up (n := 0) (by decide)] at hm2
  have HM2 := Aside0.mk hm2
  clear hm2 hc2
  refine skip_ (w1 := _) (by rfl) rfl (Gm.exec_store (d := dSeen) rfl rfl rfl rfl hst2) ?_
  refine hK.out _ _ ?_
  clear hK K
  refine done_ (done_of HT_.out (by kernel_rfl)) ?_
  refine ⟨rfl, ?_⟩
  clear hHeld hS7 hS0
  have hmx : ((V0.drew.putObj m o1).putObj m o2).heap[m]? = some o2 := World.putObj_heap_same (by simpa using hml)
  have HS1 : Aside0 (SeenI ((V0.drew.putObj m o1).putObj m o2) m (kput fs k (.int .i64 1)) (seen ++ [k])) := ⟨HVS.out.put (HM2.out _ hmx)⟩
  have hoth : ∀ j, j ≠ m → ((V0.drew.putObj m o1).putObj m o2).heap[j]? = V0.heap[j]? := fun j hj => (World.putObj_heap_other hj).trans (World.putObj_heap_other hj)
  have HVP1 := Aside0.mk ((hoth p (by have h1_ := HC1.out; have h2_ := HE.out; omega)).trans HVP.out)
  have HL1 : Aside0 (LK (fun i => i = p ∨ i = m ∨ i = b7) n0 V0 V0 ((V0.drew.putObj m o1).putObj m o2)) := ⟨⟨by simp, fun i hi hn => hoth i (fun e_ => hn (.inr (.inl e_)))⟩, below_put (below_put (below_drew (Below.refl _ _)) HC1.out.2.2.2.2.2 _) HC1.out.2.2.2.2.2 _⟩
  have HV71 := Aside0.mk ((hoth b7 (by have h1_ := HC1.out; have h2_ := HE.out; omega)).trans HV7.out)
  generalize (V0.drew.putObj m o1).putObj m o2 = V1 at *
  clear hmx hoth hml hst2
  have c5 : V1.cell? ⟨p, 5, none⟩ = some (.int .i64 (seen.length : Int)) := Mem.cell_of HVP1.out 5
  have f5 := Mem.free_of HVP1.out 5
  have hwl : wrap64 ((seen.length : Int) + 1) = ((seen.length + 1 : Nat) : Int) := wrap_up (by have := HN1.out; omega)
  go_wp2_with (fail)
  have HVP2 : Aside0 ((V1.setCell ⟨p, 5, none⟩ (.int .i64 ((seen.length : Int) + 1))).heap[p]? = some (.cells #[.map (some a1), .map (some a2), .map (some a3), .map (some a4), .map (some m), .int .i64 ((seen.length + 1 : Nat) : Int)] 83 (0, 0))) := ⟨Mem.set_heap HVP1.out 5 _⟩
  have hoth : ∀ j, j ≠ p → (V1.setCell ⟨p, 5, none⟩ (.int .i64 ((seen.length : Int) + 1))).heap[j]? = V1.heap[j]? := fun j hj => Mem.set_other _ _ _ _ hj
  have HS2 := Aside0.mk (HS1.out.step (hoth m (by have h1_ := HC1.out; have h2_ := HE.out; omega)))
  have HL2 := Aside0.mk (HL1.out.set (o := 5) (b := p) (.int .i64 ((seen.length : Int) + 1)) (.inl rfl) HC1.out.2.2.2.2.1)
  have HV72 := Aside0.mk ((hoth b7 (by have h1_ := HC1.out; have h2_ := HE.out; omega)).trans HV71.out)
  generalize V1.setCell ⟨p, 5, none⟩ (.int .i64 ((seen.length : Int) + 1)) = V2 at *
  clear c5 f5 hwl hoth HL1 HVP1 HS1 HV71
  have HV42 := Aside0.mk (HL2.out.1.cells HV4.out (by have h1_ := HC1.out; have h2_ := HE.out; omega))
  have HST1 : Aside0 (∀ i, i < n1 → i ≠ p → i ≠ m → V2.heap[i]? = w1.heap[i]?) := ⟨fun i hi h1_ h2_ => (HL2.out.1.block i (by have h3_ := HE.out; omega) (by have h3_ := HE.out; omega)).trans ((HB1.out.block i (by have h3_ := HE.out; omega)).trans (HLOW.out i hi h1_ h2_))⟩
  obtain ⟨fr, hfr, hvr⟩ := HS.out.regs
  obtain ⟨Ar, cr, hvr1, hvr2, hFr⟩ := hvr k
  have HFR := Aside0.mk (Kd.F_step hFr (fun i hi _ => HST1.out i hi.1 hi.2.1 hi.2.2))
  have hfr2 : MapA dReg V2.drew a2 fr := hfr.step (HST1.out a2 HS.out.lt.2.1 HS.out.ne.1.2.1 HS.out.ne.2.2.1)
  have HVR := Aside0.mk hvr1
  clear hfr hvr hvr1 hvr2 hFr
  have hS0 : (fun w' => w'.heap[p]? = some (.cells #[.map (some a1), .map (some a2), .map (some a3), .map (some a4), .map (some m), .int .i64 ((seen.length + 1 : Nat) : Int)] 83 (0, 0)) ∧ w'.heap[b4]? = some (.cells #[.int .i64 k.f0, .int .i64 k.f1] 23 (0, 0)) ∧ MapA dReg w' a2 fr) V2.drew := ⟨HVP2.out, HV42.out, hfr2⟩
  refine region_calm ?_
  refine startS (n := 8) (S := (fun w' => w'.heap[p]? = some (.cells #[.map (some a1), .map (some a2), .map (some a3), .map (some a4), .map (some m), .int .i64 ((seen.length + 1 : Nat) : Int)] 83 (0, 0)) ∧ w'.heap[b4]? = some (.cells #[.int .i64 k.f0, .int .i64 k.f1] 23 (0, 0)) ∧ MapA dReg w' a2 fr)) (ds := []) (hS0) (fun hHeld => ?_)
  refine with_tabW vn.tab5 vn.bits5 (fun HT_ HW_ => ?_)
  refine pureQ (i := 0) (N := (some 36)) HT_ ?_
  refine pureQ (i := 1) (N := (some 37)) HT_ ?_
  refine pureQ (i := 2) (N := (some 38)) HT_ ?_
  refine pureQ (i := 7) (N := (some 43)) HT_ ?_
  refine takeQ (i := 3) (N := (some 39)) (v := ?_) HT_ HW_ hHeld ?_ ?_
  rotate_left
  ·rintro w' ⟨s0, s1, s2⟩; have f0 := Mem.cell_of s0 1; have g0 := Mem.cell_of s1 0; have g1 := Mem.cell_of s1 1
   go_simp
   with_reducible rfl
  refine normS (N := (some 39)) ?_
  refine takeQ (i := 4) (N := (some 40)) (v := ?_) HT_ HW_ hHeld ?_ ?_
  rotate_left
  ·rintro w' ⟨s0, s1, s2⟩; have f0 := Mem.cell_of s0 1; have g0 := Mem.cell_of s1 0; have g1 := Mem.cell_of s1 1
   go_simp
   with_reducible rfl
  refine normS (N := (some 40)) ?_
  refine takeQ (i := 5) (N := (some 41)) (v := ?_) HT_ HW_ hHeld ?_ ?_
  rotate_left
  ·rintro w' ⟨s0, s1, s2⟩
   refine Eq.trans (Gm.exec_look (d := dReg) (k := k) rfl rfl rfl s2) ?_
   show Result.ok (Next.value (valM _ k)) _ = _
   rw [HVR.out]
  refine normS (N := (some 41)) ?_
  refine pureQ (i := 6) (N := (some 42)) HT_ ?_
  refine done_ (done_of HT_.out (by kernel_rfl)) ?_
  refine ⟨rfl, ?_⟩
  clear hHeld hS0 hfr2
  have HL3 : Aside0 (LK (fun i => i = p ∨ i = m ∨ i = b7) n0 V0 V0 V2.drew) := ⟨HL2.out.on (below_drew (Below.refl _ _)) (by have h1_ := HC1.out; have h2_ := HE.out; omega)⟩
  have HVP3 : Aside0 (V2.drew.heap[p]? = some (.cells #[.map (some a1), .map (some a2), .map (some a3), .map (some a4), .map (some m), .int .i64 ((seen.length + 1 : Nat) : Int)] 83 (0, 0))) := ⟨HVP2.out⟩
  have HS3 : Aside0 (SeenI V2.drew m (kput fs k (.int .i64 1)) (seen ++ [k])) := ⟨HS2.out.step rfl⟩
  have HV73 : Aside0 (V2.drew.heap[b7]? = some (.cells #[.int .i64 k.f0, .int .i64 k.f1, .string tag, .string ⟨#[]⟩, .slice none 0 0, .slice none 0 0] 27 (0, 0))) := ⟨HV72.out⟩
  have HV43 : Aside0 (V2.drew.heap[b4]? = some (.cells #[.int .i64 k.f0, .int .i64 k.f1] 23 (0, 0))) := ⟨HV42.out⟩
  have HST3 : Aside0 (∀ i, i < n1 → i ≠ p → i ≠ m → V2.drew.heap[i]? = w1.heap[i]?) := ⟨HST1.out⟩
  have HFR3 : Aside0 (Kd.F k111 V2.drew (fun j => j < n1 ∧ j ≠ p ∧ j ≠ m) Ar (regsP D.regs k).length (regsP D.regs k)) := ⟨Kd.F_step HFR.out (fun i _ _ => rfl)⟩
  generalize V2.drew = V3 at *
  clear HVP2 HS2 HL2 HV72 HV42 HST1 HFR
  obtain ⟨L, hL⟩ : ∃ L, regsP D.regs k = L := ⟨_, rfl⟩
  have HLEQ := Aside0.mk hL
  have HLLEN : Aside0 (L.length ≤ 600) := ⟨by rw [← hL]; exact Nat.le_trans (regsP_le _ _) HD.out.regs⟩
  rw [hL] at HFR3 HVR ⊢
  clear hL
  go_wp2_with (fail)
  go_loopw [43, 8] (fun iv bv wr => ∃ i : Nat, iv = .int .i64 (i : Int) ∧ bv = .bool (regFold (L.take i)).1 ∧ Aside0 (i ≤ L.length) ∧ Aside0 (∃ v4, wr.heap[b7]? = some (.cells #[.int .i64 k.f0, .int .i64 k.f1, .string tag, .string (regFold (L.take i)).2.1, v4, .slice none 0 0] 27 (0, 0)) ∧ Kd.R k99 99 wr V3.heap.size (fun _ => True) v4 (regFold (L.take i)).2.2) ∧ Aside0 (LK (fun j => j = b7) n0 V3 V3 wr)) (fun iv _ _ => L.length - (intOf iv).toNat)
  case atStart => exact ⟨0, rfl, rfl, ⟨Nat.zero_le _⟩, ⟨_, HV73.out, Kd.R_nil _ _ _ _ _⟩, ⟨KeptT.refl _ _, Below.refl _ _⟩⟩
  case round =>
   obtain ⟨i, rfl, rfl, HIL, HI, HK⟩ := hrel
   by_cases hlt : i < L.length
   ·have p0 : (0 : Int) ≤ (i : Int) := Int.natCast_nonneg i
    have p1 : (i : Int) < (L.length : Int) := Int.ofNat_lt.2 hlt
    have e1 : ((i : Int) < (L.length : Int)) = True := eq_true p1
    have HC := Kd.F_now (Kd.F_step HFR3.out (fun j hj hl => HK.out.1.block j hl (by have h1_ := HE.out; omega)))
    obtain ⟨ad, rfl, x0, x1, x2, x3, x4, x5, x6⟩ := at_T111 HC (i : Int) p0 p1
    rw [Int.toNat_natCast] at x0 x1 x2 x3 x4 x5 x6
    have HTK := Aside0.mk (congrArg regFold (take_snoc_rd111 L hlt))
    obtain ⟨x, hx⟩ : ∃ x, rd_T111 L (i : Int) = x := ⟨_, rfl⟩
    rw [hx] at x0 x1 x2 x3 x4 x5 x6 HTK
    rw [regFold_snoc] at HTK
    obtain ⟨pp, hpp⟩ : ∃ pp, ad.add (i * 7) = pp := ⟨_, rfl⟩
    rw [hpp] at x0 x1 x2 x3 x4 x5 x6
    have hkn : (i : Int).toNat = i := Int.toNat_natCast i
    have hw1 : wrap64 ((i : Int) + 1) = ((i + 1 : Nat) : Int) := wrap_up (by have := HLLEN.out; omega)
    have HLT := Aside0.mk hlt
    obtain ⟨v4, hb7, hR4⟩ := HI.out
    have HB7 := Aside0.mk hb7
    have HR4 := Aside0.mk hR4
    have HSTL : Aside0 ((regFold (L.take i)).2.2.length ≤ 600) := ⟨by have h1_ := regFold_len (L.take i); have h2_ := HLLEN.out; rw [List.length_take] at h1_; omega⟩
    obtain ⟨st, hst⟩ : ∃ st, regFold (L.take i) = st := ⟨_, rfl⟩
    rw [hst] at HB7 HR4 HTK HSTL ⊢
    obtain ⟨bf, tx, at_⟩ := st
    have d7 : wr.cell? ⟨b7, 4, none⟩ = some v4 := Mem.cell_of HB7.out 4
    have fz3 := Mem.free_of HB7.out 3
    have fz4 := Mem.free_of HB7.out 4
    have hb7n : b7 ≠ wr.heap.size := by have := blk_lt' hb7; omega
    clear HC hlt hx hst hb7 hR4
    have hbl : Below wr.heap.size wr (wr.alloc (.cells #[.int .i64 x.f0.f0, .int .i64 x.f0.f1, .string x.f1, .int .i64 x.f2.f0, .int .i64 x.f2.f1, .string x.f3, .bool x.f4] 111)) := below_alloc (Below.refl _ _) _
    have hB7U := (hbl.block b7 (blk_lt' HB7.out)).trans HB7.out
    have c3 : (wr.alloc (.cells #[.int .i64 x.f0.f0, .int .i64 x.f0.f1, .string x.f1, .int .i64 x.f2.f0, .int .i64 x.f2.f1, .string x.f3, .bool x.f4] 111)).cell? ⟨b7, 3, none⟩ = some (.string tx) := Mem.cell_of hB7U 3
    have c4 : (wr.alloc (.cells #[.int .i64 x.f0.f0, .int .i64 x.f0.f1, .string x.f1, .int .i64 x.f2.f0, .int .i64 x.f2.f1, .string x.f3, .bool x.f4] 111)).cell? ⟨b7, 4, none⟩ = some v4 := Mem.cell_of hB7U 4
    have fz3 := Mem.free_of hB7U 3
    have fz4 := Mem.free_of hB7U 4
    have HB7U := Aside0.mk hB7U
    have HR4U := Aside0.mk (Kd.R_below HR4.out hbl)
    have HKU := Aside0.mk (HK.out.on hbl (by have h1_ := HC1.out; have h2_ := HE.out; have h3_ := HL3.out.1.size; omega))
    have HUS : Aside0 ((wr.alloc (.cells #[.int .i64 x.f0.f0, .int .i64 x.f0.f1, .string x.f1, .int .i64 x.f2.f0, .int .i64 x.f2.f1, .string x.f3, .bool x.f4] 111)).heap.size = wr.heap.size + 1 ∧ V3.heap.size ≤ wr.heap.size) := ⟨Mem.alloc_size _ _, HK.out.1.size⟩
    clear hbl hB7U
    by_cases hn : x.f1.toList = ([] : List UInt8)
    ·have e2 : (x.f1.toList = []) = True := eq_true hn
     have e3 : x.f1.toList.isEmpty = true := by rw [hn]; rfl
     have HN := Aside0.mk hn
     clear hn
     cases bf with
     | true =>
      cases hg : x.f4 with
      | true =>
       have HT : Aside0 (regFold (L.take (i + 1)) = (false, tx, at_)) := ⟨by rw [HTK.out]; unfold regStep; rw [if_pos HN.out, if_pos rfl, if_pos hg]⟩
       rw [hg] at x6 HB7U HR4U HKU HUS c3 c4 fz3 fz4
       clear hg
       go_wp2_with (fail)
       go_roundw
       case rel => exact ⟨i + 1, congrArg (Value.int .i64) hw1, by rw [HT.out], HLT, ⟨v4, by rw [HT.out]; exact HB7U.out, by rw [HT.out]; exact HR4U.out⟩, HKU⟩
       case measure => exact dec_lt HLT.out hw1
      | false =>
       have HT : Aside0 (regFold (L.take (i + 1)) = (false, x.f3, at_)) := ⟨by rw [HTK.out]; unfold regStep; rw [if_pos HN.out, if_pos rfl, if_neg (by rw [hg]; simp)]⟩
       rw [hg] at x6 HB7U HR4U HKU HUS c3 c4 fz3 fz4
       clear hg
       go_wp2_with (fail)
       go_roundw
       case rel => exact ⟨i + 1, congrArg (Value.int .i64) hw1, by rw [HT.out], HLT, ⟨v4, by rw [HT.out]; exact Mem.set_heap HB7U.out 3 _, by rw [HT.out]; exact Kd.R_set HR4U.out HB7U.out (by decide) 3 _⟩, ⟨HKU.out.set _ rfl (by have h1_ := HC1.out; have h2_ := HE.out; omega)⟩⟩
       case measure => exact dec_lt HLT.out hw1
     | false =>
      have HT : Aside0 (regFold (L.take (i + 1)) = (false, tx, at_)) := ⟨by rw [HTK.out]; unfold regStep; rw [if_pos HN.out, if_neg (by simp)]⟩
      go_wp2_with (fail)
      go_roundw
      case rel => exact ⟨i + 1, congrArg (Value.int .i64) hw1, by rw [HT.out], HLT, ⟨v4, by rw [HT.out]; exact HB7U.out, by rw [HT.out]; exact HR4U.out⟩, HKU⟩
      case measure => exact dec_lt HLT.out hw1
    ·have e2 : (x.f1.toList = []) = False := eq_false hn
     have e3 : x.f1.toList.isEmpty = false := by rw [List.isEmpty_eq_false_iff]; exact hn
     have HN := Aside0.mk hn
     clear hn
     cases hg : x.f4 with
     | true =>
      have HT : Aside0 (regFold (L.take (i + 1)) = (bf, tx, at_)) := ⟨by rw [HTK.out]; unfold regStep; rw [if_neg HN.out, if_pos hg]⟩
      rw [hg] at x6 HB7U HR4U HKU HUS c3 c4 fz3 fz4
      clear hg
      go_wp2_with (fail)
      go_roundw
      case rel => exact ⟨i + 1, congrArg (Value.int .i64) hw1, by rw [HT.out], HLT, ⟨v4, by rw [HT.out]; exact HB7U.out, by rw [HT.out]; exact HR4U.out⟩, HKU⟩
      case measure => exact dec_lt HLT.out hw1
     | false =>
      have HT : Aside0 (regFold (L.take (i + 1)) = (bf, tx, at_ ++ [⟨x.f1, x.f3⟩])) := ⟨by rw [HTK.out]; unfold regStep; rw [if_neg HN.out, if_neg (by rw [hg]; simp)]⟩
      rw [hg] at x6 HB7U HR4U HKU HUS c3 c4 fz3 fz4
      clear hg
      go_wp2_with (first | ((with_reducible refine gate_builtin (b := .append) (xs := #[.tmp 70, .tmp 76]) rfl ?_); at_builtin; go_loud (refine Kd.R_append k99 (w0 := (wr.alloc (.cells #[.int .i64 x.f0.f0, .int .i64 x.f0.f1, .string x.f1, .int .i64 x.f2.f0, .int .i64 x.f2.f1, .string x.f3, .bool false] 111))) V3.heap.size rfl (.tmp 70) (.tmp 76) 24 99 (.agg #[(.string ⟨#[]⟩), (.string ⟨#[]⟩)]) 32 rfl Try.underlying24 info99 rfl (by decide) (by omega) v4 at_ ⟨x.f1, x.f3⟩ [.string x.f1, .string x.f3] (fun _ => True) (fun _ => False) rfl (by rw [Mem.alloc_size]; rfl) ?aP (fun _ hk => hk.elim) (fun _ _ => trivial) ?aO (Below.refl _ _) ?aS ?aL ?_); (case aP => exact k99_mkM _ _ _ _); (case aO => exact HR4U.out); (case aS => have := HUS.out; omega); (case aL => exact attrs_room HSTL.out); intro v6 w6 ho6 hb6 hg6 hat6; obtain ⟨A6, c6, rfl⟩ := Kd.R_slice ho6; have HO6 := Aside0.mk ho6; have HG6 := Aside0.mk hg6; have hb76 := (hg6.block _ (blk_lt' HB7U.out) (Kd.R_ne HR4U.out HB7U.out (by decide))).trans HB7U.out; have c46 : w6.cell? ⟨b7, 4, none⟩ = some v4 := Mem.cell_of hb76 4; have f46 := Mem.free_of hb76 4; have HB76 := Aside0.mk hb76; clear ho6 hb6 hg6 hat6 hb76))
      go_roundw
      case rel => exact ⟨i + 1, congrArg (Value.int .i64) hw1, by rw [HT.out], HLT, ⟨_, by rw [HT.out]; exact Mem.set_heap HB76.out 4 _, by rw [HT.out]; have h_ := Kd.R_set HO6.out HB76.out (by decide) 4 (Value.slice A6 (at_.length + 1) c6); rw [List.length_append, List.length_singleton] at h_; exact h_⟩, ⟨(HKU.out.grown HG6.out (fun j hj => by have h1_ := own_below HR4U.out j hj; omega) (by have h1_ := HC1.out; have h2_ := HE.out; have h3_ := HL3.out.1.size; omega)).set _ rfl (by have h1_ := HC1.out; have h2_ := HE.out; omega)⟩⟩
      case measure => exact dec_lt HLT.out hw1
   ·obtain rfl : i = L.length := by have := HIL.out; omega
    rename World => V4
    obtain ⟨v4, hb7, hR4⟩ := HI.out
    rw [List.take_length] at hb7 hR4 ⊢
    have hfold := regFold_is D.regs k
    rw [HLEQ.out] at hfold
    rw [hfold] at hb7 hR4
    have hR4' : Kd.R k99 99 V4 V3.heap.size (fun _ => True) v4 (attrsP D.regs k) := hR4
    have hb7' : V4.heap[b7]? = some (.cells #[.int .i64 k.f0, .int .i64 k.f1, .string tag, .string (textP D.regs k), v4, .slice none 0 0] 27 (0, 0)) := hb7
    obtain ⟨A4, c4, rfl⟩ := Kd.R_slice hR4'
    obtain ⟨f0_, hf0⟩ : ∃ z, (regFold L).1 = z := ⟨_, rfl⟩
    rw [hf0]
    have HB74 := Aside0.mk hb7'
    have HR44 := Aside0.mk hR4'
    have NB7 : ∀ j, j ≠ b7 → j < V3.heap.size → V4.heap[j]? = V3.heap[j]? := fun j h1_ h2_ => HK.out.1.block j h2_ h1_
    have hVP4 := (NB7 p (by have h1_ := HC1.out; have h2_ := HE.out; omega) (blk_lt' HVP3.out)).trans HVP3.out
    have hV44 := (NB7 b4 (by have h1_ := HC1.out; have h2_ := HE.out; omega) (blk_lt' HV43.out)).trans HV43.out
    have HS4 := Aside0.mk (HS3.out.step (NB7 m (by have h1_ := HC1.out; have h2_ := HE.out; omega) HS3.out.1.lt))
    have HLV := Aside0.mk (show LK (fun i => i = p ∨ i = m ∨ i = b7) n0 V0 V0 V4 from ⟨HL3.out.1.two HK.out.1 (fun _ h => h) (fun j h => .inr (.inr h)), HL3.out.2.trans HK.out.2⟩)
    have HSZ4 : Aside0 (V3.heap.size ≤ V4.heap.size ∧ V0.heap.size ≤ V4.heap.size) := ⟨HK.out.1.size, HLV.out.1.size⟩
    have HST4 : Aside0 (∀ i, i < n1 → i ≠ p → i ≠ m → V4.heap[i]? = w1.heap[i]?) := ⟨fun i hi h1_ h2_ => (NB7 i (by have h1_ := HC1.out; have h2_ := HE.out; omega) (by have h1_ := HL3.out.1.size; have h2_ := HE.out; omega)).trans (HST3.out i hi h1_ h2_)⟩
    have HV64 := Aside0.mk (HLV.out.1.cells HV6.out (by have h1_ := HC1.out; have h2_ := HE.out; omega))
    have e1 : ((L.length : Int) < (L.length : Int)) = False := eq_false (Int.lt_irrefl _)
    go_wp2_with (fail)
    clear e1
    obtain ⟨fl, hfl, hvl⟩ := HS.out.slots
    obtain ⟨Al, cl, hvl1, hvl2, hFl⟩ := hvl k
    have HFL := Aside0.mk (Kd.F_step (W1 := V4.drew) hFl (fun i hi _ => HST4.out i hi.1 hi.2.1 hi.2.2))
    have hfl2 : MapA dSlot V4.drew a3 fl := hfl.step (HST4.out a3 HS.out.lt.2.2.1 HS.out.ne.1.2.2.1 HS.out.ne.2.2.2.1)
    have HVL := Aside0.mk hvl1
    have hS0 : (fun w' => w'.heap[p]? = some (.cells #[.map (some a1), .map (some a2), .map (some a3), .map (some a4), .map (some m), .int .i64 ((seen.length + 1 : Nat) : Int)] 83 (0, 0)) ∧ w'.heap[b4]? = some (.cells #[.int .i64 k.f0, .int .i64 k.f1] 23 (0, 0)) ∧ MapA dSlot w' a3 fl) V4.drew := ⟨hVP4, hV44, hfl2⟩
    have HVP5 : Aside0 (V4.drew.heap[p]? = some (.cells #[.map (some a1), .map (some a2), .map (some a3), .map (some a4), .map (some m), .int .i64 ((seen.length + 1 : Nat) : Int)] 83 (0, 0))) := ⟨hVP4⟩
    have HV45 : Aside0 (V4.drew.heap[b4]? = some (.cells #[.int .i64 k.f0, .int .i64 k.f1] 23 (0, 0))) := ⟨hV44⟩
    clear hfl hvl hvl1 hvl2 hFl hfl2 hb7 hb7' hR4 hR4' hfold NB7 hVP4 hV44 hf0
    refine region_calm ?_
    refine startS (n := 8) (S := (fun w' => w'.heap[p]? = some (.cells #[.map (some a1), .map (some a2), .map (some a3), .map (some a4), .map (some m), .int .i64 ((seen.length + 1 : Nat) : Int)] 83 (0, 0)) ∧ w'.heap[b4]? = some (.cells #[.int .i64 k.f0, .int .i64 k.f1] 23 (0, 0)) ∧ MapA dSlot w' a3 fl)) (ds := []) (hS0) (fun hHeld => ?_)
    refine with_tabW vn.tab15 vn.bits15 (fun HT_ HW_ => ?_)
    refine pureQ (i := 0) (N := (some 80)) HT_ ?_
    refine pureQ (i := 1) (N := (some 81)) HT_ ?_
    refine pureQ (i := 2) (N := (some 82)) HT_ ?_
    refine pureQ (i := 7) (N := (some 87)) HT_ ?_
    refine takeQ (i := 3) (N := (some 83)) (v := ?_) HT_ HW_ hHeld ?_ ?_
    rotate_left
    ·rintro w' ⟨s0, s1, s2⟩; have f0 := Mem.cell_of s0 2; have g0 := Mem.cell_of s1 0; have g1 := Mem.cell_of s1 1
     go_simp
     with_reducible rfl
    refine normS (N := (some 83)) ?_
    refine takeQ (i := 4) (N := (some 84)) (v := ?_) HT_ HW_ hHeld ?_ ?_
    rotate_left
    ·rintro w' ⟨s0, s1, s2⟩; have f0 := Mem.cell_of s0 2; have g0 := Mem.cell_of s1 0; have g1 := Mem.cell_of s1 1
     go_simp
     with_reducible rfl
    refine normS (N := (some 84)) ?_
    refine takeQ (i := 5) (N := (some 85)) (v := ?_) HT_ HW_ hHeld ?_ ?_
    rotate_left
    ·rintro w' ⟨s0, s1, s2⟩
     refine Eq.trans (Gm.exec_look (d := dSlot) (k := k) rfl rfl rfl s2) ?_
     show Result.ok (Next.value (valM _ k)) _ = _
     rw [HVL.out]
    refine normS (N := (some 85)) ?_
    refine pureQ (i := 6) (N := (some 86)) HT_ ?_
    refine done_ (done_of HT_.out (by kernel_rfl)) ?_
    refine ⟨rfl, ?_⟩
    clear hHeld hS0
    have HLV5 := Aside0.mk (HLV.out.on (below_drew (Below.refl _ _)) (by have h1_ := HC1.out; have h2_ := HE.out; omega))
    have HB75 : Aside0 (V4.drew.heap[b7]? = some (.cells #[.int .i64 k.f0, .int .i64 k.f1, .string tag, .string (textP D.regs k), .slice A4 (attrsP D.regs k).length c4, .slice none 0 0] 27 (0, 0))) := ⟨HB74.out⟩
    have HR45 := Aside0.mk (Kd.R_below HR44.out (below_drew (Below.refl _ _)))
    have HS5 : Aside0 (SeenI V4.drew m (kput fs k (.int .i64 1)) (seen ++ [k])) := ⟨HS4.out.step rfl⟩
    have HSZ5 : Aside0 (V3.heap.size ≤ V4.drew.heap.size ∧ V0.heap.size ≤ V4.drew.heap.size) := ⟨HSZ4.out⟩
    have HST5 : Aside0 (∀ i, i < n1 → i ≠ p → i ≠ m → V4.drew.heap[i]? = w1.heap[i]?) := ⟨HST4.out⟩
    have HV65 : Aside0 (V4.drew.heap[b6]? = some (.cells #[.int .i64 0, .int .i64 0, .string ⟨#[]⟩, .string ⟨#[]⟩, .slice none 0 0, .slice none 0 0] 27 (0, 0))) := ⟨HV64.out⟩
    generalize V4.drew = V5 at *
    have HL3S := Aside0.mk HL3.out.1.size
    clear HK HI HIL HLV HB74 HR44 HS4 HSZ4 HST4 HV64 HVP3 HV43 HS3 HV73 HFR3 HVR HL3
    obtain ⟨SL, hSL⟩ : ∃ SL, slotsP D.rows k = SL := ⟨_, rfl⟩
    have HSLE := Aside0.mk hSL
    have HSLL : Aside0 (SL.length ≤ 600) := ⟨by rw [← hSL]; exact slotsP_le _ _ HD.out.slots⟩
    rw [hSL] at HFL HVL ⊢
    clear hSL
    go_wp2_with (fail)
    go_loopw [87] (fun iv wr => ∃ i : Nat, iv = .int .i64 (i : Int) ∧ Aside0 (i ≤ SL.length) ∧ Aside0 (KI (nodeT D q) D V5 n0 p m b7 a1 a2 a3 a4 k tag (textP D.regs k) (.slice A4 (attrsP D.regs k).length c4) (seen ++ [k]) (insP D.placed k (SL.take i)) wr)) (fun iv _ => SL.length - (intOf iv).toNat)
    case atStart => exact ⟨0, rfl, ⟨Nat.zero_le _⟩, ⟨⟨none, 0, HB75.out, Kd.N_nil _ _ _ _ _⟩, ⟨_, HS5.out⟩, by rw [List.take_zero]; simpa [insP, kidsF] using HVP5.out, KeptT.refl _ _, Below.refl _ _⟩⟩
    case round =>
     obtain ⟨i, rfl, HIL, HKI⟩ := hrel
     by_cases hlt : i < SL.length
     ·have p0 : (0 : Int) ≤ (i : Int) := Int.natCast_nonneg i
      have p1 : (i : Int) < (SL.length : Int) := Int.ofNat_lt.2 hlt
      have e1 : ((i : Int) < (SL.length : Int)) = True := eq_true p1
      have HC := Kd.F_now (Kd.F_step HFL.out (fun j hj hl => HKI.out.lk.1.block j hl (by have h1_ := HE.out; omega)))
      obtain ⟨ad, rfl, x0, x1⟩ := at_T23 HC (i : Int) p0 p1
      rw [Int.toNat_natCast] at x0 x1
      have HTKS := Aside0.mk (take_snoc_rd23 SL hlt)
      obtain ⟨sl, hsl⟩ : ∃ z, rd_T23 SL (i : Int) = z := ⟨_, rfl⟩
      rw [hsl] at x0 x1 HTKS
      obtain ⟨pp, hpp⟩ : ∃ pp, ad.add (i * 2) = pp := ⟨_, rfl⟩
      rw [hpp] at x0 x1
      have hkn : (i : Int).toNat = i := Int.toNat_natCast i
      have hw1 : wrap64 ((i : Int) + 1) = ((i + 1 : Nat) : Int) := wrap_up (by have := HSLL.out; omega)
      have HLTS := Aside0.mk hlt
      clear HC hlt hsl
      go_wp2_with (fail)
      have hbl : Below wr.heap.size wr (wr.alloc (.cells #[.int .i64 sl.f0, .int .i64 sl.f1] 23)) := below_alloc (Below.refl _ _) _
      have hKU := HKI.out.below hbl (by have h1_ := HC1.out; have h2_ := HE.out; have h3_ := HLV5.out.1.size; omega)
      have hBa : (wr.alloc (.cells #[.int .i64 sl.f0, .int .i64 sl.f1] 23)).heap[wr.heap.size]? = some (.cells #[.int .i64 sl.f0, .int .i64 sl.f1] 23 (0, 0)) := Mem.alloc_new _ _
      obtain ⟨Ba, hBae⟩ : ∃ z, wr.heap.size = z := ⟨_, rfl⟩
      rw [hBae] at hBa ⊢
      generalize (wr.alloc (.cells #[.int .i64 sl.f0, .int .i64 sl.f1] 23)) = V6 at *
      have hV46 := hKU.lk.1.cells HV45.out (by have h1_ := HC1.out; have h2_ := HE.out; omega)
      obtain ⟨fi, hfi, hvi⟩ := HS.out.ins
      obtain ⟨Ai, ci, hvi1, hvi2, hFi⟩ := hvi (k, sl)
      have hst6 : ∀ j, j < n1 → j ≠ p → j ≠ m → V6.drew.heap[j]? = w1.heap[j]? := fun j hj h1_ h2_ => (hKU.lk.1.block j (by have h1_ := HLV5.out.1.size; have h2_ := HE.out; omega) (by have h2_ := HE.out; omega)).trans (HST5.out j hj h1_ h2_)
      have HFI := Aside0.mk (Kd.F_step (W1 := V6.drew) hFi (fun j hj _ => hst6 j hj.1 hj.2.1 hj.2.2))
      have hfi2 : MapA dIn V6.drew a4 fi := hfi.step (hst6 a4 HS.out.lt.2.2.2 HS.out.ne.1.2.2.2 HS.out.ne.2.2.2.2)
      have HVI := Aside0.mk hvi1
      have hS0 : (fun w' => w'.heap[p]? = some (.cells #[.map (some a1), .map (some a2), .map (some a3), .map (some a4), .map (some m), .int .i64 (((kidsF D (nodeT D q) (insP D.placed k (SL.take i)) (seen ++ [k])).2.length : Nat) : Int)] 83 (0, 0)) ∧ w'.heap[b4]? = some (.cells #[.int .i64 k.f0, .int .i64 k.f1] 23 (0, 0)) ∧ w'.heap[Ba]? = some (.cells #[.int .i64 sl.f0, .int .i64 sl.f1] 23 (0, 0)) ∧ MapA dIn w' a4 fi) V6.drew := ⟨hKU.pb, hV46, hBa, hfi2⟩
      have HKU := Aside0.mk (hKU.below (below_drew (Below.refl _ _)) (by have h1_ := HC1.out; have h2_ := HE.out; have h3_ := HLV5.out.1.size; omega))
      have HB4D : Aside0 (V6.drew.heap[b4]? = some (.cells #[.int .i64 k.f0, .int .i64 k.f1] 23 (0, 0))) := ⟨hV46⟩
      clear hfi hvi hvi1 hvi2 hFi hfi2 hbl hKU hBa hV46 hst6 x0 x1
      refine region_calm ?_
      refine startS (n := 10) (S := (fun w' => w'.heap[p]? = some (.cells #[.map (some a1), .map (some a2), .map (some a3), .map (some a4), .map (some m), .int .i64 (((kidsF D (nodeT D q) (insP D.placed k (SL.take i)) (seen ++ [k])).2.length : Nat) : Int)] 83 (0, 0)) ∧ w'.heap[b4]? = some (.cells #[.int .i64 k.f0, .int .i64 k.f1] 23 (0, 0)) ∧ w'.heap[Ba]? = some (.cells #[.int .i64 sl.f0, .int .i64 sl.f1] 23 (0, 0)) ∧ MapA dIn w' a4 fi)) (ds := []) (hS0) (fun hHeld => ?_)
      refine with_tabW vn.tab18 vn.bits18 (fun HT_ HW_ => ?_)
      refine pureQ (i := 0) (N := (some 91)) HT_ ?_
      refine pureQ (i := 1) (N := (some 92)) HT_ ?_
      refine pureQ (i := 2) (N := (some 93)) HT_ ?_
      refine pureQ (i := 9) (N := (some 100)) HT_ ?_
      refine takeQ (i := 3) (N := (some 94)) (v := ?_) HT_ HW_ hHeld ?_ ?_
      rotate_left
      ·rintro w' ⟨s0, s1, s2, s3⟩; have f0 := Mem.cell_of s0 3; have g0 := Mem.cell_of s1 0; have g1 := Mem.cell_of s1 1; have h0 := Mem.cell_of s2 0; have h1 := Mem.cell_of s2 1
       go_simp
       with_reducible rfl
      refine normS (N := (some 94)) ?_
      refine takeQ (i := 4) (N := (some 95)) (v := ?_) HT_ HW_ hHeld ?_ ?_
      rotate_left
      ·rintro w' ⟨s0, s1, s2, s3⟩; have f0 := Mem.cell_of s0 3; have g0 := Mem.cell_of s1 0; have g1 := Mem.cell_of s1 1; have h0 := Mem.cell_of s2 0; have h1 := Mem.cell_of s2 1
       go_simp
       with_reducible rfl
      refine normS (N := (some 95)) ?_
      refine takeQ (i := 5) (N := (some 96)) (v := ?_) HT_ HW_ hHeld ?_ ?_
      rotate_left
      ·rintro w' ⟨s0, s1, s2, s3⟩; have f0 := Mem.cell_of s0 3; have g0 := Mem.cell_of s1 0; have g1 := Mem.cell_of s1 1; have h0 := Mem.cell_of s2 0; have h1 := Mem.cell_of s2 1
       go_simp
       with_reducible rfl
      refine normS (N := (some 96)) ?_
      refine pureQ (i := 6) (N := (some 97)) HT_ ?_
      refine takeQ (i := 7) (N := (some 98)) (v := ?_) HT_ HW_ hHeld ?_ ?_
      rotate_left
      ·rintro w' ⟨s0, s1, s2, s3⟩
       refine Eq.trans (Gm.exec_look (d := dIn) (k := (k, sl)) rfl rfl rfl s3) ?_
       show Result.ok (Next.value (valM _ (k, sl))) _ = _
       rw [HVI.out]
      refine normS (N := (some 98)) ?_
      refine pureQ (i := 8) (N := (some 99)) HT_ ?_
      refine done_ (done_of HT_.out (by kernel_rfl)) ?_
      refine ⟨rfl, ?_⟩
      clear hHeld hS0
      generalize V6.drew = V7 at *
      obtain ⟨NL, hNL⟩ : ∃ z, inP D.placed k sl = z := ⟨_, rfl⟩
      have HNLE := Aside0.mk hNL
      have HNLL : Aside0 (NL.length ≤ 600) := ⟨by rw [← hNL]; exact Nat.le_trans (inP_le _ _ _) HD.out.placed⟩
      have HFI2 : Aside0 (Kd.F k23 V7 (fun j => j < n1 ∧ j ≠ p ∧ j ≠ m) Ai NL.length NL) := ⟨by have h_ := HFI.out; rw [hNL] at h_; exact h_⟩
      rw [show (inP D.placed (k, sl).1 (k, sl).2).length = NL.length from by rw [← hNL]] at *
      clear hNL
      go_wp2_with (fail)
      go_loopw [100] (fun jv wr2 => ∃ j : Nat, jv = .int .i64 (j : Int) ∧ Aside0 (j ≤ NL.length) ∧ Aside0 (KI (nodeT D q) D V5 n0 p m b7 a1 a2 a3 a4 k tag (textP D.regs k) (.slice A4 (attrsP D.regs k).length c4) (seen ++ [k]) (insP D.placed k (SL.take i) ++ NL.take j) wr2) ∧ Aside0 (V7.heap.size ≤ wr2.heap.size)) (fun jv _ => NL.length - (intOf jv).toNat)
      case atStart => exact ⟨0, rfl, ⟨Nat.zero_le _⟩, ⟨by rw [List.take_zero, List.append_nil]; exact HKU.out⟩, ⟨Nat.le_refl _⟩⟩
      case round =>
       rename World => wr2
       obtain ⟨j, rfl, HJL, HKJ, HSJ⟩ := hrel
       by_cases hlt : j < NL.length
       ·have p0 : (0 : Int) ≤ (j : Int) := Int.natCast_nonneg j
        have p1 : (j : Int) < (NL.length : Int) := Int.ofNat_lt.2 hlt
        have e1 : ((j : Int) < (NL.length : Int)) = True := eq_true p1
        have HC := Kd.F_now (Kd.F_step HFI2.out (fun z hz hl => (HKJ.out.lk.1.block z (by have h1_ := HLV5.out.1.size; have h2_ := HE.out; omega) (by have h1_ := HE.out; omega)).trans (HKU.out.lk.1.block z (by have h1_ := HLV5.out.1.size; have h2_ := HE.out; omega) (by have h1_ := HE.out; omega)).symm))
        obtain ⟨ad2, rfl, y0, y1⟩ := at_T23 HC (j : Int) p0 p1
        rw [Int.toNat_natCast] at y0 y1
        have HTKN := Aside0.mk (take_snoc_rd23 NL hlt)
        obtain ⟨kk, hkk⟩ : ∃ z, rd_T23 NL (j : Int) = z := ⟨_, rfl⟩
        rw [hkk] at y0 y1 HTKN
        obtain ⟨pp2, hpp2⟩ : ∃ pp, ad2.add (j * 2) = pp := ⟨_, rfl⟩
        rw [hpp2] at y0 y1
        have hkn2 : (j : Int).toNat = j := Int.toNat_natCast j
        have hw2 : wrap64 ((j : Int) + 1) = ((j + 1 : Nat) : Int) := wrap_up (by have := HNLL.out; omega)
        have HLTN := Aside0.mk hlt
        have HPL : Aside0 ((insP D.placed k (SL.take i) ++ NL.take j).length ≤ 360600) := ⟨pre_len (s := k) HD.out.placed HSLL.out HNLL.out⟩
        obtain ⟨pre, hpre⟩ : ∃ z, insP D.placed k (SL.take i) ++ NL.take j = z := ⟨_, rfl⟩
        have HPRE : Aside0 (insP D.placed k (SL.take i) ++ NL.take (j + 1) = pre ++ [kk]) := ⟨by rw [HTKN.out, ← List.append_assoc, hpre]⟩
        have hKJ := HKJ.out
        rw [hpre] at hKJ HPL
        have HKJ2 := Aside0.mk hKJ
        clear HC hlt hkk hpre hKJ
        go_wp2_with (fail)
        have hbl : Below wr2.heap.size wr2 (wr2.alloc (.cells #[.int .i64 kk.f0, .int .i64 kk.f1] 23)) := below_alloc (Below.refl _ _) _
        have hKU := HKJ2.out.below hbl (by have h1_ := HC1.out; have h2_ := HE.out; have h3_ := HLV5.out.1.size; omega)
        have hBk : (wr2.alloc (.cells #[.int .i64 kk.f0, .int .i64 kk.f1] 23)).heap[wr2.heap.size]? = some (.cells #[.int .i64 kk.f0, .int .i64 kk.f1] 23 (0, 0)) := Mem.alloc_new _ _
        have hBkl : V5.heap.size ≤ wr2.heap.size := HKJ2.out.lk.1.size
        have hUs := hbl.size
        obtain ⟨Bk, hBke⟩ : ∃ z, wr2.heap.size = z := ⟨_, rfl⟩
        rw [hBke] at hBk hBkl hUs ⊢
        generalize (wr2.alloc (.cells #[.int .i64 kk.f0, .int .i64 kk.f1] 23)) = V8 at *
        have HBKL := Aside0.mk hBkl
        have HBKS : Aside0 (Bk < V8.heap.size) := ⟨blk_lt' hBk⟩
        obtain ⟨ft, hft, hvt⟩ := HS.out.tags
        have hst8 : ∀ z, z < n1 → z ≠ p → z ≠ m → V8.drew.heap[z]? = w1.heap[z]? := fun z hz h1_ h2_ => (hKU.lk.1.block z (by have h1_ := HLV5.out.1.size; have h2_ := HE.out; omega) (by have h2_ := HE.out; omega)).trans (HST5.out z hz h1_ h2_)
        have HST8 := Aside0.mk hst8
        have hft2 : MapA dTag V8.drew a1 ft := hft.step (hst8 a1 HS.out.lt.1 HS.out.ne.1.1 HS.out.ne.2.1)
        have HVT : Aside0 ((kget ft kk).getD (.string ⟨#[]⟩) = .string ((tagP D.made kk).getD ⟨#[]⟩) ∧ (kget ft kk).isSome = (tagP D.made kk).isSome) := ⟨by rw [hvt kk]; cases tagP D.made kk <;> exact ⟨rfl, rfl⟩⟩
        have hS0 : (fun w' => w'.heap[p]? = some (.cells #[.map (some a1), .map (some a2), .map (some a3), .map (some a4), .map (some m), .int .i64 (((kidsF D (nodeT D q) pre (seen ++ [k])).2.length : Nat) : Int)] 83 (0, 0)) ∧ w'.heap[Bk]? = some (.cells #[.int .i64 kk.f0, .int .i64 kk.f1] 23 (0, 0)) ∧ MapA dTag w' a1 ft) V8.drew := ⟨hKU.pb, hBk, hft2⟩
        have HKY := Aside0.mk (hKU.below (below_drew (Below.refl _ _)) (by have h1_ := HC1.out; have h2_ := HE.out; have h3_ := HLV5.out.1.size; omega))
        have HBK : Aside0 (V8.drew.heap[Bk]? = some (.cells #[.int .i64 kk.f0, .int .i64 kk.f1] 23 (0, 0))) := ⟨hBk⟩
        have HSY : Aside0 (V7.heap.size ≤ V8.drew.heap.size) := ⟨by have h1_ := HSJ.out; rw [hBke] at h1_; exact Nat.le_trans h1_ hUs⟩
        clear hft hvt hft2 hbl hKU hBk hBkl hUs hst8 y0 y1
        refine region_calm ?_
        refine startS (n := 11) (S := (fun w' => w'.heap[p]? = some (.cells #[.map (some a1), .map (some a2), .map (some a3), .map (some a4), .map (some m), .int .i64 (((kidsF D (nodeT D q) pre (seen ++ [k])).2.length : Nat) : Int)] 83 (0, 0)) ∧ w'.heap[Bk]? = some (.cells #[.int .i64 kk.f0, .int .i64 kk.f1] 23 (0, 0)) ∧ MapA dTag w' a1 ft)) (ds := []) (hS0) (fun hHeld => ?_)
        refine with_tabW vn.tab21 vn.bits21 (fun HT_ HW_ => ?_)
        refine pureQ (i := 0) (N := (some 105)) HT_ ?_
        refine pureQ (i := 1) (N := (some 106)) HT_ ?_
        refine pureQ (i := 2) (N := (some 107)) HT_ ?_
        refine takeQ (i := 3) (N := (some 108)) (v := ?_) HT_ HW_ hHeld ?_ ?_
        rotate_left
        ·rintro w' ⟨s0, s1, s2⟩; have f0 := Mem.cell_of s0 0; have g0 := Mem.cell_of s1 0; have g1 := Mem.cell_of s1 1
         go_simp
         with_reducible rfl
        refine normS (N := (some 108)) ?_
        refine takeQ (i := 4) (N := (some 109)) (v := ?_) HT_ HW_ hHeld ?_ ?_
        rotate_left
        ·rintro w' ⟨s0, s1, s2⟩; have f0 := Mem.cell_of s0 0; have g0 := Mem.cell_of s1 0; have g1 := Mem.cell_of s1 1
         go_simp
         with_reducible rfl
        refine normS (N := (some 109)) ?_
        refine takeQ (i := 5) (N := (some 110)) (v := ?_) HT_ HW_ hHeld ?_ ?_
        rotate_left
        ·rintro w' ⟨s0, s1, s2⟩
         refine Eq.trans (Gm.exec_look2 (d := dTag) (k := kk) rfl rfl rfl s2) ?_
         show Result.ok (Next.value (Value.tuple #[(kget ft kk).getD (.string ⟨#[]⟩), .bool (kget ft kk).isSome])) _ = _
         rw [HVT.out.1, HVT.out.2]
        refine normS (N := (some 110)) ?_
        refine pureQ (i := 6) (N := (some 104)) HT_ ?_
        refine pureQ (i := 7) (N := (some 111)) HT_ ?_
        refine pureQ (i := 8) (N := (some 112)) HT_ ?_
        refine pureQ (i := 9) (N := (some 15)) HT_ ?_
        refine pureQ (i := 10) (N := (some 16)) HT_ ?_
        refine done_ (done_of HT_.out (by kernel_rfl)) ?_
        refine ⟨rfl, ?_⟩
        clear hHeld hS0
        have HBKS2 : Aside0 (Bk < V8.drew.heap.size) := ⟨HBKS.out⟩
        generalize V8.drew = V9 at *
        cases htag : tagP D.made kk with
        | none =>
         have HTAG := Aside0.mk htag
         simp only [Option.getD_none, Option.isSome_none]
         clear htag
         go_upto_region 22 with (fail)
         refine region_calm ?_
         refine startS (n := 17) (S := (fun _ => True)) (ds := []) (trivial) (fun hHeld => ?_)
         refine with_tabW vn.tab22 vn.bits22 (fun HT_ HW_ => ?_)
         refine pureQ (i := 0) (N := (some 113)) HT_ ?_
         refine pureQ (i := 1) (N := (some 114)) HT_ ?_
         refine pureU (i := 2) (N := (some 115)) HT_ ?_
         refine pureU (i := 3) (N := (some 116)) HT_ ?_
         refine pureU (i := 4) (N := (some 117)) HT_ ?_
         refine pureU (i := 5) (N := (some 118)) HT_ ?_
         refine pureU (i := 6) (N := (some 119)) HT_ ?_
         refine pureU (i := 7) (N := (some 120)) HT_ ?_
         refine pureU (i := 8) (N := (some 121)) HT_ ?_
         refine pureQ (i := 9) (N := (some 122)) HT_ ?_
         refine pureQ (i := 10) (N := (some 123)) HT_ ?_
         refine pureU (i := 11) (N := (some 124)) HT_ ?_
         refine pureU (i := 12) (N := (some 125)) HT_ ?_
         refine pureU (i := 13) (N := (some 126)) HT_ ?_
         refine pureU (i := 14) (N := (some 127)) HT_ ?_
         refine pureU (i := 15) (N := (some 128)) HT_ ?_
         refine pureQ (i := 16) (N := (some 129)) HT_ ?_
         refine done_ (done_of HT_.out (by kernel_rfl)) ?_
         refine ⟨rfl, ?_⟩
         clear hHeld
         have HK9 := Aside0.mk (HKY.out.below (below_drew (Below.refl _ _)) (by have h1_ := HC1.out; have h2_ := HE.out; have h3_ := HLV5.out.1.size; omega))
         have HS9 : Aside0 (V7.heap.size ≤ V9.drew.heap.size) := ⟨HSY.out⟩
         generalize V9.drew = V10 at *
         go_wp2_with (fail)
         go_roundw
         case rel => exact ⟨j + 1, congrArg (Value.int .i64) hw2, HLTN, ⟨by rw [HPRE.out]; exact HK9.out.same (kidsF_skip (.inl HTAG.out))⟩, HS9⟩
         case measure => exact dec_lt HLTN.out hw2
        | some tg =>
         have HTAG := Aside0.mk htag
         simp only [Option.getD_some, Option.isSome_some]
         clear htag
         go_upto_region 22 with (fail)
         obtain ⟨fs', hSE⟩ := HKY.out.sn
         have HSE := Aside0.mk hSE
         cases hh : hasP (kidsF D (nodeT D q) pre (seen ++ [k])).2 kk with
         | true =>
          have HH := Aside0.mk hh
          have HZ2 : Aside0 ((kget fs' kk).getD (.int .i64 0) = .int .i64 1) := ⟨by rw [hSE.2 kk, hh]; rfl⟩
          have hS0 : (fun w' => w'.heap[p]? = some (.cells #[.map (some a1), .map (some a2), .map (some a3), .map (some a4), .map (some m), .int .i64 (((kidsF D (nodeT D q) pre (seen ++ [k])).2.length : Nat) : Int)] 83 (0, 0)) ∧ w'.heap[Bk]? = some (.cells #[.int .i64 kk.f0, .int .i64 kk.f1] 23 (0, 0)) ∧ MapA dSeen w' m fs') V9.drew := ⟨HKY.out.pb, HBK.out, hSE.1.step rfl⟩
          clear hSE hh
          refine region_calm ?_
          refine startS (n := 17) (S := (fun w' => w'.heap[p]? = some (.cells #[.map (some a1), .map (some a2), .map (some a3), .map (some a4), .map (some m), .int .i64 (((kidsF D (nodeT D q) pre (seen ++ [k])).2.length : Nat) : Int)] 83 (0, 0)) ∧ w'.heap[Bk]? = some (.cells #[.int .i64 kk.f0, .int .i64 kk.f1] 23 (0, 0)) ∧ MapA dSeen w' m fs')) (ds := []) (hS0) (fun hHeld => ?_)
          refine with_tabW vn.tab22 vn.bits22 (fun HT_ HW_ => ?_)
          refine pureQ (i := 0) (N := (some 113)) HT_ ?_
          refine pureQ (i := 1) (N := (some 114)) HT_ ?_
          refine pureQ (i := 2) (N := (some 115)) HT_ ?_
          refine pureQ (i := 3) (N := (some 116)) HT_ ?_
          refine pureQ (i := 4) (N := (some 117)) HT_ ?_
          refine takeQ (i := 5) (N := (some 118)) (v := ?_) HT_ HW_ hHeld ?_ ?_
          rotate_left
          ·rintro w' ⟨s0, s1, s2⟩; have f0 := Mem.cell_of s0 4; have f5 := Mem.cell_of s0 5; have g0 := Mem.cell_of s1 0; have g1 := Mem.cell_of s1 1
           go_simp
           with_reducible rfl
          refine normS (N := (some 118)) ?_
          refine takeQ (i := 6) (N := (some 119)) (v := ?_) HT_ HW_ hHeld ?_ ?_
          rotate_left
          ·rintro w' ⟨s0, s1, s2⟩; have f0 := Mem.cell_of s0 4; have f5 := Mem.cell_of s0 5; have g0 := Mem.cell_of s1 0; have g1 := Mem.cell_of s1 1
           go_simp
           with_reducible rfl
          refine normS (N := (some 119)) ?_
          refine takeQ (i := 7) (N := (some 120)) (v := ?_) HT_ HW_ hHeld ?_ ?_
          rotate_left
          ·rintro w' ⟨s0, s1, s2⟩
           refine Eq.trans (Gm.exec_look (d := dSeen) (k := kk) rfl rfl rfl s2) ?_
           show Result.ok (Next.value ((kget fs' kk).getD (.int .i64 0))) _ = _
           rw [HZ2.out]
          refine normS (N := (some 120)) ?_
          refine pureQ (i := 8) (N := (some 121)) HT_ ?_
          refine pureQ (i := 9) (N := (some 122)) HT_ ?_
          refine pureQ (i := 10) (N := (some 123)) HT_ ?_
          refine pureU (i := 11) (N := (some 124)) HT_ ?_
          refine pureU (i := 12) (N := (some 125)) HT_ ?_
          refine pureU (i := 13) (N := (some 126)) HT_ ?_
          refine pureU (i := 14) (N := (some 127)) HT_ ?_
          refine pureU (i := 15) (N := (some 128)) HT_ ?_
          refine pureQ (i := 16) (N := (some 129)) HT_ ?_
          refine done_ (done_of HT_.out (by kernel_rfl)) ?_
          refine ⟨rfl, ?_⟩
          clear hHeld hS0
          have HK9 := Aside0.mk (HKY.out.below (below_drew (Below.refl _ _)) (by have h1_ := HC1.out; have h2_ := HE.out; have h3_ := HLV5.out.1.size; omega))
          have HS9 : Aside0 (V7.heap.size ≤ V9.drew.heap.size) := ⟨HSY.out⟩
          generalize V9.drew = V10 at *
          go_wp2_with (fail)
          go_roundw
          case rel => exact ⟨j + 1, congrArg (Value.int .i64) hw2, HLTN, ⟨by rw [HPRE.out]; exact HK9.out.same (kidsF_skip (.inr (.inl HH.out)))⟩, HS9⟩
          case measure => exact dec_lt HLTN.out hw2
         | false =>
          have HH := Aside0.mk hh
          have HZ2 : Aside0 ((kget fs' kk).getD (.int .i64 0) = .int .i64 0) := ⟨by rw [hSE.2 kk, hh]; rfl⟩
          have hS0 : (fun w' => w'.heap[p]? = some (.cells #[.map (some a1), .map (some a2), .map (some a3), .map (some a4), .map (some m), .int .i64 (((kidsF D (nodeT D q) pre (seen ++ [k])).2.length : Nat) : Int)] 83 (0, 0)) ∧ w'.heap[Bk]? = some (.cells #[.int .i64 kk.f0, .int .i64 kk.f1] 23 (0, 0)) ∧ MapA dSeen w' m fs') V9.drew := ⟨HKY.out.pb, HBK.out, hSE.1.step rfl⟩
          clear hSE hh
          by_cases hm8 : (kidsF D (nodeT D q) pre (seen ++ [k])).2.length ≤ 8192
          ·have HM8 := Aside0.mk hm8
           have e4 : ((((kidsF D (nodeT D q) pre (seen ++ [k])).2.length : Nat) : Int) ≤ 8192) = True := eq_true (by omega)
           have e4b : ((kidsF D (nodeT D q) pre (seen ++ [k])).2.length ≤ 8192) = True := eq_true hm8
           clear hm8
           refine region_calm ?_
           refine startS (n := 17) (S := (fun w' => w'.heap[p]? = some (.cells #[.map (some a1), .map (some a2), .map (some a3), .map (some a4), .map (some m), .int .i64 (((kidsF D (nodeT D q) pre (seen ++ [k])).2.length : Nat) : Int)] 83 (0, 0)) ∧ w'.heap[Bk]? = some (.cells #[.int .i64 kk.f0, .int .i64 kk.f1] 23 (0, 0)) ∧ MapA dSeen w' m fs')) (ds := []) (hS0) (fun hHeld => ?_)
           refine with_tabW vn.tab22 vn.bits22 (fun HT_ HW_ => ?_)
           refine pureQ (i := 0) (N := (some 113)) HT_ ?_
           refine pureQ (i := 1) (N := (some 114)) HT_ ?_
           refine pureQ (i := 2) (N := (some 115)) HT_ ?_
           refine pureQ (i := 3) (N := (some 116)) HT_ ?_
           refine pureQ (i := 4) (N := (some 117)) HT_ ?_
           refine takeQ (i := 5) (N := (some 118)) (v := ?_) HT_ HW_ hHeld ?_ ?_
           rotate_left
           ·rintro w' ⟨s0, s1, s2⟩; have f0 := Mem.cell_of s0 4; have f5 := Mem.cell_of s0 5; have g0 := Mem.cell_of s1 0; have g1 := Mem.cell_of s1 1
            go_simp
            with_reducible rfl
           refine normS (N := (some 118)) ?_
           refine takeQ (i := 6) (N := (some 119)) (v := ?_) HT_ HW_ hHeld ?_ ?_
           rotate_left
           ·rintro w' ⟨s0, s1, s2⟩; have f0 := Mem.cell_of s0 4; have f5 := Mem.cell_of s0 5; have g0 := Mem.cell_of s1 0; have g1 := Mem.cell_of s1 1
            go_simp
            with_reducible rfl
           refine normS (N := (some 119)) ?_
           refine takeQ (i := 7) (N := (some 120)) (v := ?_) HT_ HW_ hHeld ?_ ?_
           rotate_left
           ·rintro w' ⟨s0, s1, s2⟩
            refine Eq.trans (Gm.exec_look (d := dSeen) (k := kk) rfl rfl rfl s2) ?_
            show Result.ok (Next.value ((kget fs' kk).getD (.int .i64 0))) _ = _
            rw [HZ2.out]
           refine normS (N := (some 120)) ?_
           refine pureQ (i := 8) (N := (some 121)) HT_ ?_
           refine pureQ (i := 9) (N := (some 122)) HT_ ?_
           refine pureQ (i := 10) (N := (some 123)) HT_ ?_
           refine pureQ (i := 11) (N := (some 124)) HT_ ?_
           refine pureQ (i := 12) (N := (some 125)) HT_ ?_
           refine pureQ (i := 13) (N := (some 126)) HT_ ?_
           refine takeQ (i := 14) (N := (some 127)) (v := ?_) HT_ HW_ hHeld ?_ ?_
           rotate_left
           ·rintro w' ⟨s0, s1, s2⟩; have f0 := Mem.cell_of s0 4; have f5 := Mem.cell_of s0 5; have g0 := Mem.cell_of s1 0; have g1 := Mem.cell_of s1 1
            go_simp
            with_reducible rfl
           refine normS (N := (some 127)) ?_
           refine pureQ (i := 15) (N := (some 128)) HT_ ?_
           refine pureQ (i := 16) (N := (some 129)) HT_ ?_
           refine done_ (done_of HT_.out (by kernel_rfl)) ?_
           refine ⟨rfl, ?_⟩
           clear hHeld hS0
           have HK9 := Aside0.mk (HKY.out.below (below_drew (Below.refl _ _)) (by have h1_ := HC1.out; have h2_ := HE.out; have h3_ := HLV5.out.1.size; omega))
           have HS9 : Aside0 (V7.heap.size ≤ V9.drew.heap.size) := ⟨HSY.out⟩
           have HBK9 : Aside0 (V9.drew.heap[Bk]? = some (.cells #[.int .i64 kk.f0, .int .i64 kk.f1] 23 (0, 0))) := ⟨HBK.out⟩
           have HSE9 : Aside0 (SeenI V9.drew.drew m fs' (kidsF D (nodeT D q) pre (seen ++ [k])).2) := ⟨HSE.out.step rfl⟩
           have HSZ9 : Aside0 (V5.heap.size ≤ V9.drew.heap.size ∧ Bk < V9.drew.heap.size) := ⟨HK9.out.lk.1.size, HBKS2.out⟩
           have HST9 : Aside0 (∀ z, z < n1 → z ≠ p → z ≠ m → V9.drew.drew.heap[z]? = w1.heap[z]?) := ⟨fun z hz h1_ h2_ => (HK9.out.lk.1.block z (by have h1_ := HLV5.out.1.size; have h2_ := HE.out; omega) (by have h2_ := HE.out; omega)).trans (HST5.out z hz h1_ h2_)⟩
           generalize V9.drew = V10 at *
           have HGR : Aside0 (seen.length + 1 ≤ (kidsF D (nodeT D q) pre (seen ++ [k])).2.length) := ⟨by have h_ := kidsF_grows (D := D) (nd := nodeT D q) (fun k t s => nodeT_le D q k t s) pre (seen ++ [k]); rw [List.length_append, List.length_singleton] at h_; exact h_⟩
           have HLE : Aside0 ((kidsF D (nodeT D q) pre (seen ++ [k])).1.length ≤ 360600) := ⟨Nat.le_trans (kidsF_le D (nodeT D q) pre (seen ++ [k])) HPL.out⟩
           have HKF := Aside0.mk (kidsF_more (nd := nodeT D q) (s := seen ++ [k]) HTAG.out HH.out HM8.out)
           obtain ⟨A5, c5, hb7k, hN5⟩ := HK9.out.ex
           have HN5 := Aside0.mk hN5
           have HBL5 := Aside0.mk (blk_lt' hb7k)
           have hS0 : (fun w' => w'.heap[b7]? = some (.cells #[.int .i64 k.f0, .int .i64 k.f1, .string tag, .string (textP D.regs k), .slice A4 (attrsP D.regs k).length c4, .slice A5 (kidsF D (nodeT D q) pre (seen ++ [k])).1.length c5] 27 (0, 0)) ∧ w'.heap[Bk]? = some (.cells #[.int .i64 kk.f0, .int .i64 kk.f1] 23 (0, 0))) V10.drew := ⟨hb7k, HBK9.out⟩
           clear hb7k hN5
           go_upto_region 23 with (fail)
           refine region_calm ?_
           refine startS (n := 10) (S := (fun w' => w'.heap[b7]? = some (.cells #[.int .i64 k.f0, .int .i64 k.f1, .string tag, .string (textP D.regs k), .slice A4 (attrsP D.regs k).length c4, .slice A5 (kidsF D (nodeT D q) pre (seen ++ [k])).1.length c5] 27 (0, 0)) ∧ w'.heap[Bk]? = some (.cells #[.int .i64 kk.f0, .int .i64 kk.f1] 23 (0, 0)))) (ds := [9]) (hS0) (fun hHeld => ?_)
           refine with_tabW vn.tab23 vn.bits23 (fun HT_ HW_ => ?_)
           refine pureQ (i := 0) (N := (some 130)) HT_ ?_
           refine pureQ (i := 2) (N := (some 132)) HT_ ?_
           refine pureQ (i := 4) (N := (some 134)) HT_ ?_
           refine takeQ (i := 1) (N := (some 131)) (v := ?_) HT_ HW_ hHeld ?_ ?_
           rotate_left
           ·rintro w' ⟨s0, s1⟩; have f0 := Mem.cell_of s0 5; have g0 := Mem.cell_of s1 0; have g1 := Mem.cell_of s1 1
            go_simp
            with_reducible rfl
           refine normS (N := (some 131)) ?_
           refine takeQ (i := 3) (N := (some 133)) (v := ?_) HT_ HW_ hHeld ?_ ?_
           rotate_left
           ·rintro w' ⟨s0, s1⟩; have f0 := Mem.cell_of s0 5; have g0 := Mem.cell_of s1 0; have g1 := Mem.cell_of s1 1
            go_simp
            with_reducible rfl
           refine normS (N := (some 133)) ?_
           refine oneS (i := 5) (N := (some 135)) HT_ (fun K hK => ?_)
           refine goes_ Try.func50 (by kernel_rfl) rfl #[.pointer (some ⟨p, 0, none⟩), .agg #[.int .i64 kk.f0, .int .i64 kk.f1], .string tg] (by rfl) rfl rfl (by (try simp only [List.map_toArray, List.map_cons, List.map_nil]); first | done | rfl) ?_
           refine (HIH.out kk tg (kidsF D (nodeT D q) pre (seen ++ [k])).2 V10.drew fs' HM8.out (by have h1_ := HN1.out; have h2_ := HGR.out; omega) HST9.out (show n1 ≤ V10.heap.size by have h1_ := HSZ9.out; have h2_ := HE.out; have h3_ := HLV5.out.1.size; omega) HK9.out.pb HSE9.out HH.out).mono ?_
           generalize hnr : nodeT D q kk tg (kidsF D (nodeT D q) pre (seen ++ [k])).2 = nr at *
           rintro e w6 ⟨B4', d4', B5', d5', rfl, hfk, hp6, ⟨fs6, hs6⟩, hk6, hb6_⟩
           refine ⟨_, rfl, ?_⟩
           have hS6 : (fun w' => w'.heap[b7]? = some (.cells #[.int .i64 k.f0, .int .i64 k.f1, .string tag, .string (textP D.regs k), .slice A4 (attrsP D.regs k).length c4, .slice A5 (kidsF D (nodeT D q) pre (seen ++ [k])).1.length c5] 27 (0, 0)) ∧ w'.heap[Bk]? = some (.cells #[.int .i64 kk.f0, .int .i64 kk.f1] 23 (0, 0))) w6 := ⟨(hk6.block b7 HBL5.out (by have h1_ := HE.out; have h2_ := HC1.out; have h3_ := HLV5.out.1.size; omega)).trans hHeld.1, (hk6.block Bk HSZ9.out.2 (by have h1_ := HBKL.out; have h2_ := HE.out; have h3_ := HLV5.out.1.size; have h4_ := HC1.out; omega)).trans hHeld.2⟩
           have HFK6 := Aside0.mk hfk
           have HP6 := Aside0.mk hp6
           have HSE6 := Aside0.mk hs6
           have HKK6 := Aside0.mk hk6
           have HB6_ := Aside0.mk hb6_
           have HNW6 := Aside0.mk (Kd.N_step HN5.out (w1 := w6) (fun z hz hl => (hk6.block z hl (by have h1_ := HE.out; have h2_ := HC1.out; have h3_ := HLV5.out.1.size; omega))))
           have HSS6 := Aside0.mk hS6
           clear hfk hp6 hs6 hk6 hb6_ hnr
           refine hK.out _ _ (hS6) (fun hHeld => ?_)
           clear hK K
           refine normS (N := (some 135)) ?_
           refine oneS (i := 6) (N := (some 136)) HT_ (fun K hK => ?_)
           refine value_ (w1 := ?_) (v := ?_) (by rfl) rfl ?_ ?_
           rotate_left 2
           ·go_simp
            constructor
            ·rfl
            ·rfl
           refine hK.out _ _ (⟨Mem.alloc_old hHeld.1 _, Mem.alloc_old hHeld.2 _⟩) (fun hHeld => ?_)
           clear hK K
           refine normS (N := (some 136)) ?_
           refine oneS (i := 7) (N := (some 137)) HT_ (fun K hK => ?_)
           refine Kd.N_append_step k27 (w0 := w6) V5.heap.size (by rfl) (.tmp 131) (.tmp 136) 25 27 (.agg #[(.int .i64 0), (.int .i64 0), (.string ⟨#[]⟩), (.string ⟨#[]⟩), (.slice none 0 0), (.slice none 0 0)]) 96 rfl Try.underlying25 info27 rfl (by decide) (by omega) (.slice A5 (kidsF D (nodeT D q) pre (seen ++ [k])).1.length c5) (kidsF D (nodeT D q) pre (seen ++ [k])).1 nr.1 [.int .i64 kk.f0, .int .i64 kk.f1, .string tg, .string (textP D.regs kk), .slice B4' (attrsP D.regs kk).length d4', .slice B5' nr.1.f4.length d5'] (fun j => V5.heap.size ≤ j) (fun j => V10.drew.heap.size ≤ j ∧ j < w6.heap.size) rfl rfl ?hp ?hokp ?hfresh ?hO (Below.refl _ _) ?hb ?hl ?_
           case hp => exact HFK6.out
           case hokp => exact fun j hj => ⟨Nat.le_trans HSZ9.out.1 hj.1, fun e_ => by have h1_ := Kd.N_lt HN5.out j e_.symm; have h2_ : V10.heap.size ≤ j := hj.1; omega⟩
           case hfresh => exact fun j hj => Nat.le_trans HSZ9.out.1 (Nat.le_trans (show V10.heap.size ≤ w6.heap.size from HKK6.out.size) hj)
           case hO => exact HNW6.out
           case hb => exact Nat.le_trans HSZ9.out.1 (show V10.heap.size ≤ w6.heap.size from HKK6.out.size)
           case hl => exact kids_room2 HLE.out
           intro v8 w8 hv8 hb8 hg8 hat8
           obtain ⟨A8, c8, rfl⟩ := Kd.N_slice hv8
           have HV8 := Aside0.mk hv8
           have HG8 := Aside0.mk hg8
           have hb78 := (hg8.block b7 (blk_lt' HSS6.out.1) (fun e_ => by have h1_ := Kd.N_base HNW6.out b7 e_.symm; have h2_ := HE.out; have h3_ := HLV5.out.1.size; omega)).trans HSS6.out.1
           have HB78 := Aside0.mk hb78
           have cz : w8.cell? ⟨b7, 5, none⟩ = some (.slice A5 (kidsF D (nodeT D q) pre (seen ++ [k])).1.length c5) := Mem.cell_of hb78 5
           have fz := Mem.free_of hb78 5
           have hS8 : (fun w' => w'.heap[b7]? = some (.cells #[.int .i64 k.f0, .int .i64 k.f1, .string tag, .string (textP D.regs k), .slice A4 (attrsP D.regs k).length c4, .slice A5 (kidsF D (nodeT D q) pre (seen ++ [k])).1.length c5] 27 (0, 0)) ∧ w'.heap[Bk]? = some (.cells #[.int .i64 kk.f0, .int .i64 kk.f1] 23 (0, 0))) w8 := ⟨hb78, (hg8.block Bk (blk_lt' HSS6.out.2) (Kd.N_ne HNW6.out HSS6.out.2 (by decide))).trans HSS6.out.2⟩
           clear hv8 hb8 hg8 hat8
           refine hK.out _ _ (hS8) (fun hHeld => ?_)
           clear hK K
           refine normS (N := (some 137)) ?_
           refine pureQ (i := 8) (N := (some 138)) HT_ ?_
           refine lastS (i := 9) (N := none) HT_ (fun K hK => ?_)
           refine skip_ (w1 := w8.setCell ⟨b7, 5, none⟩ (.slice A8 ((kidsF D (nodeT D q) pre (seen ++ [k])).1 ++ [nr.1]).length c8)) (by rfl) rfl ?_ ?_
           ·go_simp
           refine hK.out _ _ ?_
           clear hK K
           refine done_ (done_of HT_.out (by kernel_rfl)) ?_
           refine ⟨rfl, ?_⟩
           clear hHeld hS0
           have HKI2 : Aside0 (KI (nodeT D q) D V5 n0 p m b7 a1 a2 a3 a4 k tag (textP D.regs k) (.slice A4 (attrsP D.regs k).length c4) (seen ++ [k]) (pre ++ [kk]) (w8.setCell ⟨b7, 5, none⟩ (.slice A8 ((kidsF D (nodeT D q) pre (seen ++ [k])).1 ++ [nr.1]).length c8))) := ⟨⟨⟨A8, c8, by rw [HKF.out]; exact Mem.set_heap HB78.out 5 _, by rw [HKF.out]; exact Kd.N_far HV8.out (fun j hj => by show j ≠ b7; have h1_ := HE.out; have h2_ := HLV5.out.1.size; omega) _⟩, ⟨fs6, by rw [HKF.out]; exact HSE6.out.step ((Mem.set_other _ _ _ _ (by show m ≠ b7; have h1_ := HC1.out; have h2_ := HE.out; omega)).trans (HG8.out.block m HSE6.out.1.lt (fun e_ => by have h1_ := Kd.N_base HNW6.out m e_.symm; have h2_ := HC1.out; have h3_ := HE.out; have h4_ := HLV5.out.1.size; omega)))⟩, by rw [HKF.out]; exact (Mem.set_other _ _ _ _ (by show p ≠ b7; have h1_ := HC1.out; have h2_ := HE.out; omega)).trans ((HG8.out.block p (blk_lt' HP6.out) (fun e_ => by have h1_ := Kd.N_base HNW6.out p e_.symm; have h2_ := HC1.out; have h3_ := HE.out; have h4_ := HLV5.out.1.size; omega)).trans HP6.out), ((((HK9.out.lk.on (below_drew (Below.refl _ _)) (by have h1_ := HC1.out; have h2_ := HE.out; have h3_ := HLV5.out.1.size; omega)).call HKK6.out HB6_.out (fun z h => by rcases h with h | h; exact .inl h; exact .inr (.inl h))).grown HG8.out (fun z hz => Kd.N_base HNW6.out z hz) (by have h1_ := HC1.out; have h2_ := HE.out; have h3_ := HLV5.out.1.size; omega)).set _ (.inr (.inr rfl)) (by have h1_ := HC1.out; have h2_ := HE.out; omega))⟩⟩
           have HS10 : Aside0 (V7.heap.size ≤ (w8.setCell ⟨b7, 5, none⟩ (.slice A8 ((kidsF D (nodeT D q) pre (seen ++ [k])).1 ++ [nr.1]).length c8)).heap.size) := ⟨by rw [Mem.set_size]; exact Nat.le_trans HS9.out (Nat.le_trans (show V10.heap.size ≤ w6.heap.size from HKK6.out.size) HG8.out.size)⟩
           generalize w8.setCell ⟨b7, 5, none⟩ (.slice A8 ((kidsF D (nodeT D q) pre (seen ++ [k])).1 ++ [nr.1]).length c8) = w9 at *
           go_wp2_with (fail)
           go_roundw
           case rel => exact ⟨j + 1, congrArg (Value.int .i64) hw2, HLTN, ⟨by rw [HPRE.out]; exact HKI2.out⟩, HS10⟩
           case measure => exact dec_lt HLTN.out hw2
          ·have HM8 := Aside0.mk hm8
           have e4 : ((((kidsF D (nodeT D q) pre (seen ++ [k])).2.length : Nat) : Int) ≤ 8192) = False := eq_false (by omega)
           have e4b : ((kidsF D (nodeT D q) pre (seen ++ [k])).2.length ≤ 8192) = False := eq_false hm8
           clear hm8
           refine region_calm ?_
           refine startS (n := 17) (S := (fun w' => w'.heap[p]? = some (.cells #[.map (some a1), .map (some a2), .map (some a3), .map (some a4), .map (some m), .int .i64 (((kidsF D (nodeT D q) pre (seen ++ [k])).2.length : Nat) : Int)] 83 (0, 0)) ∧ w'.heap[Bk]? = some (.cells #[.int .i64 kk.f0, .int .i64 kk.f1] 23 (0, 0)) ∧ MapA dSeen w' m fs')) (ds := []) (hS0) (fun hHeld => ?_)
           refine with_tabW vn.tab22 vn.bits22 (fun HT_ HW_ => ?_)
           refine pureQ (i := 0) (N := (some 113)) HT_ ?_
           refine pureQ (i := 1) (N := (some 114)) HT_ ?_
           refine pureQ (i := 2) (N := (some 115)) HT_ ?_
           refine pureQ (i := 3) (N := (some 116)) HT_ ?_
           refine pureQ (i := 4) (N := (some 117)) HT_ ?_
           refine takeQ (i := 5) (N := (some 118)) (v := ?_) HT_ HW_ hHeld ?_ ?_
           rotate_left
           ·rintro w' ⟨s0, s1, s2⟩; have f0 := Mem.cell_of s0 4; have f5 := Mem.cell_of s0 5; have g0 := Mem.cell_of s1 0; have g1 := Mem.cell_of s1 1
            go_simp
            with_reducible rfl
           refine normS (N := (some 118)) ?_
           refine takeQ (i := 6) (N := (some 119)) (v := ?_) HT_ HW_ hHeld ?_ ?_
           rotate_left
           ·rintro w' ⟨s0, s1, s2⟩; have f0 := Mem.cell_of s0 4; have f5 := Mem.cell_of s0 5; have g0 := Mem.cell_of s1 0; have g1 := Mem.cell_of s1 1
            go_simp
            with_reducible rfl
           refine normS (N := (some 119)) ?_
           refine takeQ (i := 7) (N := (some 120)) (v := ?_) HT_ HW_ hHeld ?_ ?_
           rotate_left
           ·rintro w' ⟨s0, s1, s2⟩
            refine Eq.trans (Gm.exec_look (d := dSeen) (k := kk) rfl rfl rfl s2) ?_
            show Result.ok (Next.value ((kget fs' kk).getD (.int .i64 0))) _ = _
            rw [HZ2.out]
           refine normS (N := (some 120)) ?_
           refine pureQ (i := 8) (N := (some 121)) HT_ ?_
           refine pureQ (i := 9) (N := (some 122)) HT_ ?_
           refine pureQ (i := 10) (N := (some 123)) HT_ ?_
           refine pureQ (i := 11) (N := (some 124)) HT_ ?_
           refine pureQ (i := 12) (N := (some 125)) HT_ ?_
           refine pureQ (i := 13) (N := (some 126)) HT_ ?_
           refine takeQ (i := 14) (N := (some 127)) (v := ?_) HT_ HW_ hHeld ?_ ?_
           rotate_left
           ·rintro w' ⟨s0, s1, s2⟩; have f0 := Mem.cell_of s0 4; have f5 := Mem.cell_of s0 5; have g0 := Mem.cell_of s1 0; have g1 := Mem.cell_of s1 1
            go_simp
            with_reducible rfl
           refine normS (N := (some 127)) ?_
           refine pureQ (i := 15) (N := (some 128)) HT_ ?_
           refine pureQ (i := 16) (N := (some 129)) HT_ ?_
           refine done_ (done_of HT_.out (by kernel_rfl)) ?_
           refine ⟨rfl, ?_⟩
           clear hHeld hS0
           have HK9 := Aside0.mk (HKY.out.below (below_drew (Below.refl _ _)) (by have h1_ := HC1.out; have h2_ := HE.out; have h3_ := HLV5.out.1.size; omega))
           have HS9 : Aside0 (V7.heap.size ≤ V9.drew.heap.size) := ⟨HSY.out⟩
           generalize V9.drew = V10 at *
           go_wp2_with (fail)
           go_roundw
           case rel => exact ⟨j + 1, congrArg (Value.int .i64) hw2, HLTN, ⟨by rw [HPRE.out]; exact HK9.out.same (kidsF_skip (.inr (.inr (Nat.lt_of_not_le HM8.out))))⟩, HS9⟩
           case measure => exact dec_lt HLTN.out hw2
       ·obtain rfl : j = NL.length := by have := HJL.out; omega
        have e2 : ((NL.length : Int) < (NL.length : Int)) = False := eq_false (Int.lt_irrefl _)
        go_wp2_with (fail)
        go_roundw
        case rel => exact ⟨i + 1, congrArg (Value.int .i64) hw1, HLTS, ⟨by have h_ := HKJ.out; rw [List.take_length, ← HNLE.out] at h_; rw [HTKS.out, insP_append, insP_one]; exact h_⟩⟩
        case measure => exact dec_lt HLTS.out hw1
     ·obtain rfl : i = SL.length := by have := HIL.out; omega
      rename World => V12
      have hKI := HKI.out
      rw [List.take_length] at hKI
      have hkl : kidsL D k = insP D.placed k SL := by unfold kidsL; rw [HSLE.out]
      rw [← hkl] at hKI
      have HKI3 := Aside0.mk hKI
      obtain ⟨A5, c5, hb7, hN5⟩ := hKI.ex
      have hb6 := hKI.lk.1.cells HV65.out (by have h1_ := HC1.out; have h2_ := HE.out; omega)
      have HB6 := Aside0.mk hb6
      have HN5 := Aside0.mk hN5
      have z0 : V12.cell? ⟨b7, 0, none⟩ = some (.int .i64 k.f0) := Mem.cell_of hb7 0
      have z1 : V12.cell? ⟨b7, 1, none⟩ = some (.int .i64 k.f1) := Mem.cell_of hb7 1
      have z2 : V12.cell? ⟨b7, 2, none⟩ = some (.string tag) := Mem.cell_of hb7 2
      have z3 : V12.cell? ⟨b7, 3, none⟩ = some (.string (textP D.regs k)) := Mem.cell_of hb7 3
      have z4 : V12.cell? ⟨b7, 4, none⟩ = some (.slice A4 (attrsP D.regs k).length c4) := Mem.cell_of hb7 4
      have z5 : V12.cell? ⟨b7, 5, none⟩ = some (.slice A5 (kidsF D (nodeT D q) (kidsL D k) (seen ++ [k])).1.length c5) := Mem.cell_of hb7 5
      have y0 : V12.cell? ⟨b6, 0, none⟩ = some (.int .i64 0) := Mem.cell_of hb6 0
      have y1 : V12.cell? ⟨b6, 1, none⟩ = some (.int .i64 0) := Mem.cell_of hb6 1
      have y2 : V12.cell? ⟨b6, 2, none⟩ = some (.string ⟨#[]⟩) := Mem.cell_of hb6 2
      have y3 : V12.cell? ⟨b6, 3, none⟩ = some (.string ⟨#[]⟩) := Mem.cell_of hb6 3
      have y4 : V12.cell? ⟨b6, 4, none⟩ = some (.slice none 0 0) := Mem.cell_of hb6 4
      have y5 : V12.cell? ⟨b6, 5, none⟩ = some (.slice none 0 0) := Mem.cell_of hb6 5
      have g0 := Mem.free_of hb6 0
      have g1 := Mem.free_of hb6 1
      have g2 := Mem.free_of hb6 2
      have g3 := Mem.free_of hb6 3
      have g4 := Mem.free_of hb6 4
      have g5 := Mem.free_of hb6 5
      have e1 : ((SL.length : Int) < (SL.length : Int)) = False := eq_false (Int.lt_irrefl _)
      clear hb7 hN5 hb6 hKI hkl
      go_wp2_with (fail)
      have hnt : nodeT D (q + 1) k tag seen = (⟨k, tag, textP D.regs k, attrsP D.regs k, (kidsF D (nodeT D q) (kidsL D k) (seen ++ [k])).1⟩, (kidsF D (nodeT D q) (kidsL D k) (seen ++ [k])).2) := rfl
      rw [hnt]
      have hfar : ∀ z, z ≠ b6 → (((((((V12.setCell ⟨b6, 0, none⟩ (.int .i64 k.f0)).setCell ⟨b6, 1, none⟩ (.int .i64 k.f1)).setCell ⟨b6, 2, none⟩ (.string tag)).setCell ⟨b6, 3, none⟩ (.string (textP D.regs k))).setCell ⟨b6, 4, none⟩ (.slice A4 (attrsP D.regs k).length c4)).setCell ⟨b6, 5, none⟩ (.slice A5 (kidsF D (nodeT D q) (kidsL D k) (seen ++ [k])).1.length c5))).heap[z]? = V12.heap[z]? := fun z hz => set6_far V12 hz _ _ _ _ _ _
      have h6 := set6 HB6.out (.int .i64 k.f0) (.int .i64 k.f1) (.string tag) (.string (textP D.regs k)) (.slice A4 (attrsP D.regs k).length c4) (.slice A5 (kidsF D (nodeT D q) (kidsL D k) (seen ++ [k])).1.length c5)
      have hbel := set6_below (n := n0) HKI3.out.lk.2 (b := b6) (by have h1_ := HC1.out; have h2_ := HE.out; omega) (.int .i64 k.f0) (.int .i64 k.f1) (.string tag) (.string (textP D.regs k)) (.slice A4 (attrsP D.regs k).length c4) (.slice A5 (kidsF D (nodeT D q) (kidsL D k) (seen ++ [k])).1.length c5)
      have hszz : (((((((V12.setCell ⟨b6, 0, none⟩ (.int .i64 k.f0)).setCell ⟨b6, 1, none⟩ (.int .i64 k.f1)).setCell ⟨b6, 2, none⟩ (.string tag)).setCell ⟨b6, 3, none⟩ (.string (textP D.regs k))).setCell ⟨b6, 4, none⟩ (.slice A4 (attrsP D.regs k).length c4)).setCell ⟨b6, 5, none⟩ (.slice A5 (kidsF D (nodeT D q) (kidsL D k) (seen ++ [k])).1.length c5))).heap.size = V12.heap.size := by simp only [Mem.set_size]
      generalize ((((((V12.setCell ⟨b6, 0, none⟩ (.int .i64 k.f0)).setCell ⟨b6, 1, none⟩ (.int .i64 k.f1)).setCell ⟨b6, 2, none⟩ (.string tag)).setCell ⟨b6, 3, none⟩ (.string (textP D.regs k))).setCell ⟨b6, 4, none⟩ (.slice A4 (attrsP D.regs k).length c4)).setCell ⟨b6, 5, none⟩ (.slice A5 (kidsF D (nodeT D q) (kidsL D k) (seen ++ [k])).1.length c5)) = V13 at *
      have hord : n1 ≤ V0.heap.size ∧ V0.heap.size ≤ V3.heap.size ∧ V3.heap.size ≤ V5.heap.size ∧ V5.heap.size ≤ V12.heap.size := ⟨by have h1_ := HE.out; omega, HL3S.out, HSZ5.out.1, HKI3.out.lk.1.size⟩
      -- the attributes
      have hown4 : ∀ z, (Value.slice A4 (attrsP D.regs k).length c4).ownBlock = some z → V3.heap.size ≤ z ∧ z < V5.heap.size := fun z hz => own_below HR45.out z hz
      have hR13 : Kd.R k99 99 V13 V3.heap.size (fun _ => True) (.slice A4 (attrsP D.regs k).length c4) (attrsP D.regs k) := Kd.R_mono (Kd.R_step (Kd.R_tight rfl HR45.out) (fun z hz hl => by
       have h1_ := hown4 z hz.symm
       have h2_ := HE.out
       have h3_ := HC1.out
       exact (hfar z (by omega)).trans (HKI3.out.lk.1.block z hl (by omega)))) (fun _ _ => trivial)
      obtain ⟨A4', c4', he4, hl4, hF4⟩ := R_foot rfl hR13 (ok := fun z => W.heap.size ≤ z ∧ z < V13.heap.size) (fun z c hz hc => ⟨by have h1_ := hown4 z hz; have h2_ := HE.out; omega, blk_lt' hc⟩)
      cases he4
      -- the kids
      have hN13 : Kd.N k27 27 V13 V5.heap.size (fun z => V5.heap.size ≤ z ∧ z < V12.heap.size) (.slice A5 (kidsF D (nodeT D q) (kidsL D k) (seen ++ [k])).1.length c5) (kidsF D (nodeT D q) (kidsL D k) (seen ++ [k])).1 := Kd.N_step (Kd.N_bound HN5.out) (fun z hz hl => hfar z (by have h1_ := HE.out; have h2_ := hz.1; omega))
      have hF5 := Kd.F_mono (Kd.N_F hN13) (ok' := fun z => W.heap.size ≤ z ∧ z < V13.heap.size) (fun z hz => by have h1_ := HE.out; have h2_ := hz.1; have h3_ := hz.2; omega)
      refine bodyPost_ret (results_cell_row rfl _ _ b6 27 #[.int .i64 k.f0, .int .i64 k.f1, .string tag, .string (textP D.regs k), .slice A4 (attrsP D.regs k).length c4, .slice A5 (kidsF D (nodeT D q) (kidsL D k) (seen ++ [k])).1.length c5] (0, 0) _ rfl h6 Try.underlying27 rfl (by kernel_rfl)) rfl ⟨A4, c4, A5, c5, rfl, k27_mkF V13 _ ⟨k, tag, textP D.regs k, attrsP D.regs k, (kidsF D (nodeT D q) (kidsL D k) (seen ++ [k])).1⟩ hl4 hF4 (Kd.N_reads' hN13).2.1 hF5, (hfar p (by have h1_ := HC1.out; have h2_ := HE.out; omega)).trans HKI3.out.pb, ?_, ⟨?_, ?_⟩, ?_⟩
      ·obtain ⟨fs', h1_⟩ := HKI3.out.sn
       exact ⟨fs', h1_.step (hfar m (by have h1_ := HC1.out; have h2_ := HE.out; omega))⟩
      ·have h1_ := HE.out; omega
      ·intro z hz hn
       have h1_ := HE.out
       have hn1 : z ≠ p := fun e_ => hn (.inl e_)
       have hn2 : z ≠ m := fun e_ => hn (.inr e_)
       exact (hfar z (by omega)).trans ((HKI3.out.lk.1.block z (by omega) (by omega)).trans ((HLV5.out.1.block z (by omega) (by omega)).trans (HB1.out.block z (by omega))))
      ·exact ((HB1.out.mono (by have h1_ := HC1.out; have h2_ := HE.out; omega)).trans HLV5.out.2).trans hbel
end Go.Proofs.Ytnkbgimihikhoaa.PVt
namespace Go.Proofs.Ytnkbgimihikhoaa.PVt
open Go.RowKit Go.Proofs.YtnkbgimihikhoaaW.PrintWords Go.Proofs.YtnkbgimihikhoaaW.PrintLast Go.Proofs.YtnkbgimihikhoaaW.PrintMore
set_option linter.unusedVariables false
set_option linter.unusedSimpArgs false
set_option maxHeartbeats 4000000 in
theorem count_calls (w : World) (x : S27) (A4 : Option Addr) (c4 : Nat) (A5 : Option Addr) (c5 : Nat) (hd : szT x ≤ 1099511627776)
    (hT : TK w w.heap.size x [.int .i64 x.f0.f0, .int .i64 x.f0.f1, .string x.f1, .string x.f2, .slice A4 x.f3.length c4, .slice A5 x.f4.length c5]) :
    Calls Try.prog 32 #[.agg #[.int .i64 x.f0.f0, .int .i64 x.f0.f1, .string x.f1, .string x.f2, .slice A4 x.f3.length c4, .slice A5 x.f4.length c5]] w fun e w' => e = .returned (.int .i64 ((szT x : Nat) : Int)) ∧ Below w.heap.size w w' := by
  have hb := below_alloc (Below.refl w.heap.size w) (.cells #[.int .i64 x.f0.f0, .int .i64 x.f0.f1, .string x.f1, .string x.f2, .slice A4 x.f3.length c4, .slice A5 x.f4.length c5] 27)
  have HK := Aside0.mk (keys_calls (w.alloc (.cells #[.int .i64 x.f0.f0, .int .i64 x.f0.f1, .string x.f1, .string x.f2, .slice A4 x.f3.length c4, .slice A5 x.f4.length c5] 27)) x A4 c4 A5 c5 hd (Kd.FK_mono (hT.low (fun i hi => hb.block i hi)) (fun i hi => Nat.lt_of_lt_of_le hi hb.size)))
  have HB := Aside0.mk hb
  have HL : Aside0 ((keysP (flatD 0 x)).length = szT x) := ⟨by unfold keysP; rw [List.length_map, flatD_length]⟩
  clear hT hb
  go_enter Try.func32, Try.ntmps32
  go_wp2_with (fail)
  refine HK.out.mono ?_
  rintro e w' ⟨v, rfl, hR, hB⟩
  obtain ⟨A, c, rfl⟩ := Kd.R_slice hR
  rw [HL.out]
  have HB2 := Aside0.mk hB
  clear hR hB HK
  go_wp2
  go_ret
  exact ⟨rfl, HB.out.trans (HB2.out.mono HB.out.size)⟩
def rootS : ByteArray := { data := #[114, 111, 111, 116] }
def rootT : S27 := ⟨⟨0, 0⟩, rootS, ⟨#[]⟩, [], []⟩
theorem TK_bare (w : World) (x : S27) (h3 : x.f3 = []) (h4 : x.f4 = []) : TK w w.heap.size x [.int .i64 x.f0.f0, .int .i64 x.f0.f1, .string x.f1, .string x.f2, .slice none 0 0, .slice none 0 0] := by
  obtain ⟨a, b, c, d, e⟩ := x
  cases h3
  cases h4
  exact TK.of (k27_mk w _ (Nat.le_refl _) (Kd.C_nil _ _) (Nat.le_refl _) (Kd.C_nil _ _))
theorem check_root : checkP rootT = 0 := by decide
theorem check_zero : checkP z27 = 8 := by decide
theorem max_root : maxD (flatD 0 rootT) = 1 := by decide
set_option maxHeartbeats 8000000 in
set_option maxRecDepth 100000 in
theorem awake_calls (w : World) : Calls Try.prog 15 #[] w fun e w' => e = .returned (.bool true) ∧ Below w.heap.size w w' := by
  have HO := Aside0.mk (tree_empty w)
  go_enter Try.func15, Try.ntmps15
  go_wp2_with (fail)
  refine HO.out.mono ?_
  rintro e w1 ⟨rfl, hb1⟩
  have HB1 : Aside0 (Below w.heap.size w (w1.alloc (.cells #[.int .i64 0, .int .i64 0, .string { data := #[114, 111, 111, 116] }, .string ⟨#[]⟩, .slice none 0 0, .slice none 0 0] 27))) := ⟨hb1.alloc hb1.size _⟩
  have h1 : (w1.alloc (.cells #[.int .i64 0, .int .i64 0, .string { data := #[114, 111, 111, 116] }, .string ⟨#[]⟩, .slice none 0 0, .slice none 0 0] 27)).heap[w1.heap.size]? = some (.cells #[.int .i64 0, .int .i64 0, .string { data := #[114, 111, 111, 116] }, .string ⟨#[]⟩, .slice none 0 0, .slice none 0 0] 27 (0, 0)) := Mem.alloc_new _ _
  clear hb1 HO
  go_upto_region 2 with (fail)
  generalize w1.alloc (.cells #[.int .i64 0, .int .i64 0, .string { data := #[114, 111, 111, 116] }, .string ⟨#[]⟩, .slice none 0 0, .slice none 0 0] 27) = u1 at *
  have HX1 := Aside0.mk h1
  have y0 : u1.cell? ⟨w1.heap.size, 0, none⟩ = some (.int .i64 0) := Mem.cell_of h1 0
  have y1 : u1.cell? ⟨w1.heap.size, 1, none⟩ = some (.int .i64 0) := Mem.cell_of h1 1
  have y2 : u1.cell? ⟨w1.heap.size, 2, none⟩ = some (.string { data := #[114, 111, 111, 116] }) := Mem.cell_of h1 2
  have y3 : u1.cell? ⟨w1.heap.size, 3, none⟩ = some (.string ⟨#[]⟩) := Mem.cell_of h1 3
  have y4 : u1.cell? ⟨w1.heap.size, 4, none⟩ = some (.slice none 0 0) := Mem.cell_of h1 4
  have y5 : u1.cell? ⟨w1.heap.size, 5, none⟩ = some (.slice none 0 0) := Mem.cell_of h1 5
  clear h1
  have HC := Aside0.mk (check_calls u1 rootT none 0 none 0 (by decide) (TK_bare u1 rootT rfl rfl))
  rw [check_root] at HC
  have e1 : (({ data := #[114, 111, 111, 116] } : ByteArray).toList == ({ data := #[114, 111, 111, 116] } : ByteArray).toList) = true := beq_self_eq_true _
  go_wp2_with (fail)
  refine HC.out.mono ?_
  rintro e w2 ⟨rfl, hb2⟩
  have HX2 : Aside0 (w2.heap[w1.heap.size]? = some (.cells #[.int .i64 0, .int .i64 0, .string { data := #[114, 111, 111, 116] }, .string ⟨#[]⟩, .slice none 0 0, .slice none 0 0] 27 (0, 0))) := ⟨(hb2.block _ (blk_lt' HX1.out)).trans HX1.out⟩
  have HB2 : Aside0 (Below w.heap.size w w2) := ⟨HB1.out.trans (hb2.mono HB1.out.size)⟩
  clear hb2 HC y0 y1 y2 y3 y4 y5
  have y0 : w2.cell? ⟨w1.heap.size, 0, none⟩ = some (.int .i64 0) := Mem.cell_of HX2.out 0
  have y1 : w2.cell? ⟨w1.heap.size, 1, none⟩ = some (.int .i64 0) := Mem.cell_of HX2.out 1
  have y2 : w2.cell? ⟨w1.heap.size, 2, none⟩ = some (.string { data := #[114, 111, 111, 116] }) := Mem.cell_of HX2.out 2
  have y3 : w2.cell? ⟨w1.heap.size, 3, none⟩ = some (.string ⟨#[]⟩) := Mem.cell_of HX2.out 3
  have y4 : w2.cell? ⟨w1.heap.size, 4, none⟩ = some (.slice none 0 0) := Mem.cell_of HX2.out 4
  have y5 : w2.cell? ⟨w1.heap.size, 5, none⟩ = some (.slice none 0 0) := Mem.cell_of HX2.out 5
  have HC := Aside0.mk (count_calls w2 rootT none 0 none 0 (by decide) (TK_bare w2 rootT rfl rfl))
  rw [show szT rootT = 1 from by decide] at HC
  go_wp2_with (fail)
  refine HC.out.mono ?_
  rintro e w3 ⟨rfl, hb3⟩
  have HX3 : Aside0 (w3.heap[w1.heap.size]? = some (.cells #[.int .i64 0, .int .i64 0, .string { data := #[114, 111, 111, 116] }, .string ⟨#[]⟩, .slice none 0 0, .slice none 0 0] 27 (0, 0))) := ⟨(hb3.block _ (blk_lt' HX2.out)).trans HX2.out⟩
  have HB3 : Aside0 (Below w.heap.size w w3) := ⟨HB2.out.trans (hb3.mono HB2.out.size)⟩
  clear hb3 HC y0 y1 y2 y3 y4 y5
  have y0 : w3.cell? ⟨w1.heap.size, 0, none⟩ = some (.int .i64 0) := Mem.cell_of HX3.out 0
  have y1 : w3.cell? ⟨w1.heap.size, 1, none⟩ = some (.int .i64 0) := Mem.cell_of HX3.out 1
  have y2 : w3.cell? ⟨w1.heap.size, 2, none⟩ = some (.string { data := #[114, 111, 111, 116] }) := Mem.cell_of HX3.out 2
  have y3 : w3.cell? ⟨w1.heap.size, 3, none⟩ = some (.string ⟨#[]⟩) := Mem.cell_of HX3.out 3
  have y4 : w3.cell? ⟨w1.heap.size, 4, none⟩ = some (.slice none 0 0) := Mem.cell_of HX3.out 4
  have y5 : w3.cell? ⟨w1.heap.size, 5, none⟩ = some (.slice none 0 0) := Mem.cell_of HX3.out 5
  have HC := Aside0.mk (depth_calls w3 rootT none 0 none 0 (by decide) (TK_bare w3 rootT rfl rfl))
  rw [max_root] at HC
  go_wp2_with (fail)
  refine HC.out.mono ?_
  rintro e w4 ⟨rfl, hb4⟩
  have HX4 : Aside0 (w4.heap[w1.heap.size]? = some (.cells #[.int .i64 0, .int .i64 0, .string { data := #[114, 111, 111, 116] }, .string ⟨#[]⟩, .slice none 0 0, .slice none 0 0] 27 (0, 0))) := ⟨(hb4.block _ (blk_lt' HX3.out)).trans HX3.out⟩
  have HB4 : Aside0 (Below w.heap.size w w4) := ⟨HB3.out.trans (hb4.mono HB3.out.size)⟩
  clear hb4 HC y0 y1 y2 y3 y4 y5
  have y0 : w4.cell? ⟨w1.heap.size, 0, none⟩ = some (.int .i64 0) := Mem.cell_of HX4.out 0
  have y1 : w4.cell? ⟨w1.heap.size, 1, none⟩ = some (.int .i64 0) := Mem.cell_of HX4.out 1
  have y2 : w4.cell? ⟨w1.heap.size, 2, none⟩ = some (.string { data := #[114, 111, 111, 116] }) := Mem.cell_of HX4.out 2
  have y3 : w4.cell? ⟨w1.heap.size, 3, none⟩ = some (.string ⟨#[]⟩) := Mem.cell_of HX4.out 3
  have y4 : w4.cell? ⟨w1.heap.size, 4, none⟩ = some (.slice none 0 0) := Mem.cell_of HX4.out 4
  have y5 : w4.cell? ⟨w1.heap.size, 5, none⟩ = some (.slice none 0 0) := Mem.cell_of HX4.out 5
  have HC := Aside0.mk (check_calls w4 z27 none 0 none 0 (by decide) (TK_bare w4 z27 rfl rfl))
  rw [check_zero] at HC
  go_wp2_with (fail)
  refine HC.out.mono ?_
  rintro e w5 ⟨rfl, hb5⟩
  have HB5 := Aside0.mk hb5
  clear hb5
  go_wp2
  go_ret
  exact ⟨rfl, HB4.out.trans (HB5.out.mono HB4.out.size)⟩
end Go.Proofs.Ytnkbgimihikhoaa.PVt
namespace Go.Proofs.Ytnkbgimihikhoaa.PVt
open Go.RowKit Go.Proofs.YtnkbgimihikhoaaW.PrintWords Go.Proofs.YtnkbgimihikhoaaW.PrintLast Go.Proofs.YtnkbgimihikhoaaW.PrintMore
set_option linter.unusedVariables false
set_option linter.unusedSimpArgs false
def eqA (a b : S99) : Bool := a.f0.toList == b.f0.toList && (a.f1.toList == b.f1.toList)
def eqAs : List S99 → List S99 → Bool
  | [], [] => true
  | a :: l, b :: m => eqA a b && eqAs l m
  | _, _ => false
mutual
def eqT : S27 → S27 → Bool
  | ⟨k, t, u, a, l⟩, ⟨k', t', u', a', l'⟩ => sameK k k' && (t.toList == t'.toList && (u.toList == u'.toList && (eqAs a a' && eqTs l l')))
def eqTs : List S27 → List S27 → Bool
  | [], [] => true
  | x :: l, y :: m => eqT x y && eqTs l m
  | _, _ => false
end
theorem eqT_eq (x y : S27) : eqT x y = (sameK x.f0 y.f0 && (x.f1.toList == y.f1.toList && (x.f2.toList == y.f2.toList && (eqAs x.f3 y.f3 && eqTs x.f4 y.f4)))) := by cases x; cases y; simp [eqT]
theorem sameK_self (k : S23) : sameK k k = true := sameK_iff.2 rfl
theorem eqA_self (a : S99) : eqA a a = true := by simp [eqA]
theorem eqAs_self : ∀ l : List S99, eqAs l l = true
  | [] => rfl
  | a :: l => by simp [eqAs, eqA_self, eqAs_self l]
mutual
theorem eqT_self : ∀ x : S27, eqT x x = true
  | ⟨k, t, u, a, l⟩ => by simp [eqT, sameK_self, eqAs_self, eqTs_self l]
theorem eqTs_self : ∀ l : List S27, eqTs l l = true
  | [] => by simp [eqTs]
  | x :: l => by simp [eqTs, eqT_self x, eqTs_self l]
end
theorem eqAs_len : ∀ (l m : List S99), l.length ≠ m.length → eqAs l m = false
  | [], [], h => absurd rfl h
  | [], b :: m, _ => rfl
  | a :: l, [], _ => rfl
  | a :: l, b :: m, h => by rw [eqAs, eqAs_len l m (fun e => h (by simp [e])), Bool.and_false]
theorem eqTs_len : ∀ (l m : List S27), l.length ≠ m.length → eqTs l m = false
  | [], [], h => absurd rfl h
  | [], b :: m, _ => by simp [eqTs]
  | a :: l, [], _ => by simp [eqTs]
  | a :: l, b :: m, h => by rw [eqTs, eqTs_len l m (fun e => h (by simp [e])), Bool.and_false]
theorem drop99 (l : List S99) {k : Nat} (h : k < l.length) : l.drop k = l.getD k z99 :: l.drop (k + 1) := by
  rw [List.drop_eq_getElem_cons h, List.getD_eq_getElem?_getD, List.getElem?_eq_getElem h]; rfl
theorem drop27 (l : List S27) {k : Nat} (h : k < l.length) : l.drop k = l.getD k z27 :: l.drop (k + 1) := by
  rw [List.drop_eq_getElem_cons h, List.getD_eq_getElem?_getD, List.getElem?_eq_getElem h]; rfl
theorem eqTs_drop {l m : List S27} {k : Nat} (h : k < l.length) (hm : k < m.length) : eqTs (l.drop k) (m.drop k) = (eqT (l.getD k z27) (m.getD k z27) && eqTs (l.drop (k + 1)) (m.drop (k + 1))) := by
  rw [drop27 l h, drop27 m hm, eqTs]
theorem eqAs_drop {l m : List S99} {k : Nat} (h : k < l.length) (hm : k < m.length) : eqAs (l.drop k) (m.drop k) = (eqA (l.getD k z99) (m.getD k z99) && eqAs (l.drop (k + 1)) (m.drop (k + 1))) := by
  rw [drop99 l h, drop99 m hm, eqAs]
theorem wrap_in {k n : Nat} (h : k < n) (hn : n ≤ 9223372036854775807) : wrap64 ((k : Int) + 1) = ((k + 1 : Nat) : Int) := by unfold wrap64; omega
/-- A node that is read, with all beneath it. -/
def RK (w : World) (x : S27) (A4 : Option Addr) (c4 : Nat) (A5 : Option Addr) (c5 : Nat) : Prop := x.f3.length ≤ c4 ∧ Kd.C k99 w A4 x.f3.length x.f3 ∧ x.f4.length ≤ c5 ∧ Kd.C k27 w A5 x.f4.length x.f4
theorem RK.below {w w' : World} {x : S27} {A4 : Option Addr} {c4 : Nat} {A5 : Option Addr} {c5 : Nat} (h : RK w x A4 c4 A5 c5) (hb : Below w.heap.size w w') : RK w' x A4 c4 A5 c5 := ⟨h.1, Kd.C_below h.2.1 hb, h.2.2.1, Kd.C_below h.2.2.2 hb⟩
attribute [local go_sem high] eqA23
end Go.Proofs.Ytnkbgimihikhoaa.PVt
namespace Go.Proofs.Ytnkbgimihikhoaa.PVt
open Go.RowKit Go.Proofs.YtnkbgimihikhoaaW.PrintWords Go.Proofs.YtnkbgimihikhoaaW.PrintLast Go.Proofs.YtnkbgimihikhoaaW.PrintMore
set_option linter.unusedVariables false
def fitA (a : S99) : Prop := a.f0.size ≤ reachBytes ∧ a.f1.size ≤ reachBytes
mutual
/-- No text, no list in a tree is longer than the reach. -/
def fitT : S27 → Prop
  | ⟨_, t, u, a, l⟩ => t.size ≤ reachBytes ∧ u.size ≤ reachBytes ∧ (a.length * 32 ≤ reachBytes ∧ ∀ p ∈ a, fitA p) ∧ (l.length * 96 ≤ reachBytes ∧ fitTs l)
def fitTs : List S27 → Prop
  | [] => True
  | x :: l => fitT x ∧ fitTs l
end
theorem fitTs_all : ∀ l : List S27, (∀ x ∈ l, fitT x) → fitTs l
  | [], _ => by simp [fitTs]
  | x :: l, h => by rw [fitTs]; exact ⟨h x (List.mem_cons_self ..), fitTs_all l (fun y hy => h y (List.mem_cons_of_mem _ hy))⟩
theorem fitTs_get : ∀ {l : List S27} {k : Nat}, fitTs l → k < l.length → fitT (l.getD k z27)
  | [], k, _, h => absurd h (Nat.not_lt_zero _)
  | x :: l, 0, h, _ => by rw [fitTs] at h; exact h.1
  | x :: l, k + 1, h, hk => by rw [fitTs] at h; exact fitTs_get (l := l) (k := k) h.2 (Nat.lt_of_succ_lt_succ hk)
theorem fitT_eq (x : S27) : fitT x ↔ (x.f1.size ≤ reachBytes ∧ x.f2.size ≤ reachBytes ∧ (x.f3.length * 32 ≤ reachBytes ∧ ∀ p ∈ x.f3, fitA p) ∧ (x.f4.length * 96 ≤ reachBytes ∧ fitTs x.f4)) := by cases x; simp [fitT]
end Go.Proofs.Ytnkbgimihikhoaa.PVt
namespace Go.Proofs.Ytnkbgimihikhoaa.PVt
open Go.RowKit Go.Proofs.YtnkbgimihikhoaaW.PrintWords Go.Proofs.YtnkbgimihikhoaaW.PrintLast Go.Proofs.YtnkbgimihikhoaaW.PrintMore
set_option linter.unusedVariables false
theorem reach_eq : reachBytes = 140737488351232 := by decide
mutual
/-- So many rounds are enough. -/
def wtT : S27 → Nat
  | ⟨_, _, _, a, l⟩ => a.length + wtTs l + 4
def wtTs : List S27 → Nat
  | [] => 0
  | x :: l => wtT x + wtTs l
end
theorem wtT_eq (x : S27) : wtT x = x.f3.length + wtTs x.f4 + 4 := by cases x; simp [wtT]
theorem wtTs_drop (l : List S27) {k : Nat} (h : k < l.length) : wtTs (l.drop k) = wtT (l.getD k z27) + wtTs (l.drop (k + 1)) := by rw [drop27 l h, wtTs]
theorem eqTs_nil : eqTs [] [] = true := by simp [eqTs]
attribute [local irreducible] wtT wtTs szT szTs eqT eqTs fitT fitTs
theorem rd27 (l : List S27) (i : Nat) : rd_T27 l (i : Int) = l.getD i z27 := by unfold rd_T27; rw [Int.toNat_natCast]
theorem rattrs_l (l m : List S99) (hl : l.length ≤ 9223372036854775807) (he : l.length = m.length) : ∀ (n i k : Nat), i + n = l.length → n + 1 ≤ k → topiaryref15_SameAttrs.l0 k l m (i : Int) = some (eqAs (l.drop i) (m.drop i))
  | 0, i, 0, h, hk => by omega
  | 0, i, k + 1, h, hk => by
    simp only [topiaryref15_SameAttrs.l0]
    rw [if_neg (by omega), List.drop_eq_nil_of_le (show l.length ≤ i by omega), List.drop_eq_nil_of_le (show m.length ≤ i by omega)]
    rfl
  | n + 1, i, 0, h, hk => by omega
  | n + 1, i, k + 1, h, hk => by
    have go := rattrs_l l m hl he n (i + 1) k (by omega) (by omega)
    have hw := wrap_in (k := i) (n := l.length) (by omega) hl
    simp only [topiaryref15_SameAttrs.l0]
    rw [if_pos (by omega), if_pos (by omega), if_pos (by omega), hw, go, rd99, rd99, show eqAs (l.drop i) (m.drop i) = _ from eqAs_drop (k := i) (by omega) (by omega)]
    unfold eqA
    cases (l.getD i z99).f0.toList == (m.getD i z99).f0.toList <;> cases (l.getD i z99).f1.toList == (m.getD i z99).f1.toList <;> rfl
theorem rattrs_f (l m : List S99) (hl : l.length ≤ 9223372036854775807) (k : Nat) (hk : l.length + 1 ≤ k) : topiaryref15_SameAttrs.f k l m = some (eqAs l m) := by
  unfold topiaryref15_SameAttrs.f
  by_cases h : l.length = m.length
  · rw [if_pos (by omega)]
    have := rattrs_l l m hl h l.length 0 k (by omega) hk
    rw [show ((0 : Nat) : Int) = 0 from rfl] at this
    rw [this, List.drop_zero, List.drop_zero]
  · rw [if_neg (by omega), eqAs_len l m h]
def sameR (k : Nat) (x y : S27) : Option Bool := topiaryref15_Same.f k x.f0.f0 x.f0.f1 x.f1 x.f2 x.f3 x.f4 y.f0.f0 y.f0.f1 y.f1 y.f2 y.f3 y.f4
def sameL (k : Nat) (i : Int) (x y : S27) : Option Bool := topiaryref15_Same.l0 k i x.f0.f0 x.f0.f1 x.f1 x.f2 x.f3 x.f4 y.f0.f0 y.f0.f1 y.f1 y.f2 y.f3 y.f4
theorem rsame_l (q : Nat) (ih : ∀ (x y : S27) (k : Nat), szT x ≤ q → fitT x → wtT x ≤ k → sameR k x y = some (eqT x y)) (x y : S27) (hq : szTs x.f4 ≤ q) (hf : fitTs x.f4) (hl : x.f4.length ≤ 9223372036854775807) (he : x.f4.length = y.f4.length) :
    ∀ (n i k : Nat), i + n = x.f4.length → wtTs (x.f4.drop i) + 1 ≤ k → sameL k (i : Int) x y = some (eqTs (x.f4.drop i) (y.f4.drop i))
  | 0, i, 0, h, hk => by omega
  | 0, i, k + 1, h, hk => by
    simp only [sameL, topiaryref15_Same.l0]
    rw [if_neg (by omega), List.drop_eq_nil_of_le (show x.f4.length ≤ i by omega), List.drop_eq_nil_of_le (show y.f4.length ≤ i by omega), eqTs_nil]
  | n + 1, i, 0, h, hk => by omega
  | n + 1, i, k + 1, h, hk => by
    rw [wtTs_drop x.f4 (k := i) (by omega)] at hk
    have hw4 := wtT_eq (x.f4.getD i z27)
    have go := rsame_l q ih x y hq hf hl he n (i + 1) k (by omega) (by omega)
    have hw := wrap_in (k := i) (n := x.f4.length) (by omega) hl
    have hkid := ih (x.f4.getD i z27) (y.f4.getD i z27) k (Nat.le_trans (szT_kid x.f4 (by omega)) hq) (fitTs_get hf (by omega)) (by omega)
    unfold sameL at go ⊢
    unfold sameR at hkid
    have c1 : (i : Int) < (x.f4.length : Int) := by omega
    have c2 : (0 : Int) ≤ (i : Int) := Int.natCast_nonneg i
    have c3 : (i : Int) < (y.f4.length : Int) := by omega
    have d1 : i < x.f4.length := by omega
    have d2 : i < y.f4.length := by omega
    clear hk hw4 h
    simp only [topiaryref15_Same.l0]
    rw [if_pos c1, if_pos c2, if_pos c3, rd27, rd27, hkid, Option.bind_some, hw, go, eqTs_drop d1 d2]
    cases eqT (x.f4.getD i z27) (y.f4.getD i z27) <;> rfl
theorem rsame_f : ∀ (q : Nat) (x y : S27) (k : Nat), szT x ≤ q → fitT x → wtT x ≤ k → sameR k x y = some (eqT x y)
  | 0, x, y, k, h, _, _ => by have := szT_pos x; omega
  | q + 1, x, y, k, h, hf, hk => by
    have hsz := szT_eq x
    have hwt := wtT_eq x
    obtain ⟨f1, f2, ⟨f3, _⟩, f4, f5⟩ := (fitT_eq x).1 hf
    rw [reach_eq] at f3 f4
    obtain ⟨k, rfl⟩ : ∃ j, k = j + 2 := ⟨k - 2, by omega⟩
    have hA := rattrs_f x.f3 y.f3 (by omega) (k + 1) (by omega)
    have hj : ∀ (i : Nat), 0 < i → wtTs x.f4 + 1 ≤ i → x.f4.length = y.f4.length → topiaryref15_Same.l0 i 0 x.f0.f0 x.f0.f1 x.f1 x.f2 x.f3 x.f4 y.f0.f0 y.f0.f1 y.f1 y.f2 y.f3 y.f4 = some (eqTs x.f4 y.f4) := fun i _ hi he => by
      have := rsame_l q (fun x y k h1 h2 h3 => rsame_f q x y k h1 h2 h3) x y (by omega) f5 (by omega) he x.f4.length 0 i (by omega) (by rw [List.drop_zero]; exact hi)
      unfold sameL at this
      rw [show ((0 : Nat) : Int) = 0 from rfl, List.drop_zero, List.drop_zero] at this
      exact this
    unfold sameR
    simp only [topiaryref15_Same.f, topiaryref15_Same.j0]
    rw [eqT_eq, hA]
    unfold sameK
    cases h0 : x.f0.f0 == y.f0.f0 with
    | false => simp
    | true =>
      cases h1 : x.f0.f1 == y.f0.f1 with
      | false => simp
      | true =>
        by_cases h2 : x.f1.toList = y.f1.toList
        · rw [if_neg (by simp), if_pos h2, show (x.f1.toList == y.f1.toList) = true from beq_iff_eq.2 h2]
          by_cases h3 : x.f2.toList = y.f2.toList
          · rw [if_pos h3, show (x.f2.toList == y.f2.toList) = true from beq_iff_eq.2 h3, Option.bind_some]
            cases eqAs x.f3 y.f3 with
            | false => simp
            | true =>
              by_cases h4 : x.f4.length = y.f4.length
              · rw [if_pos rfl, show ((x.f4.length : Int) != (y.f4.length : Int)) = false from by rw [bne, beq_iff_eq.2 (show (x.f4.length : Int) = y.f4.length by omega)]; rfl, if_neg (by simp), hj k (by omega) (by omega) h4]
                simp
              · rw [if_pos rfl, show ((x.f4.length : Int) != (y.f4.length : Int)) = true from by rw [bne, beq_eq_false_iff_ne.2 (show (x.f4.length : Int) ≠ y.f4.length by omega)]; rfl, if_pos rfl, eqTs_len _ _ h4]
                simp
          · rw [if_neg h3, show (x.f2.toList == y.f2.toList) = false from beq_eq_false_iff_ne.2 h3]
            simp
        · rw [if_neg (by simp), if_neg h2, show (x.f1.toList == y.f1.toList) = false from beq_eq_false_iff_ne.2 h2]
          simp
theorem rsame_calls (w : World) (x y : S27) (A4 : Option Addr) (c4 : Nat) (A5 : Option Addr) (c5 : Nat) (B4 : Option Addr) (e4 : Nat) (B5 : Option Addr) (e5 : Nat) (hx : RK w x A4 c4 A5 c5) (hy : RK w y B4 e4 B5 e5) (hf : fitT x) :
    Calls Try.prog 14 #[.agg #[.int .i64 x.f0.f0, .int .i64 x.f0.f1, .string x.f1, .string x.f2, .slice A4 x.f3.length c4, .slice A5 x.f4.length c5], .agg #[.int .i64 y.f0.f0, .int .i64 y.f0.f1, .string y.f1, .string y.f2, .slice B4 y.f3.length e4, .slice B5 y.f4.length e5]] w fun e w' => e = .returned (.bool (eqT x y)) ∧ Below w.heap.size w w' :=
  topiaryref15_Same.calls (wtT x) _ _ _ _ A4 c4 x.f3 A5 c5 x.f4 _ _ _ _ B4 e4 y.f3 B5 e5 y.f4 _ w hx.2.1 hx.1 hx.2.2.2 hx.2.2.1 hy.2.1 hy.1 hy.2.2.2 hy.2.2.1 (rsame_f (szT x) x y (wtT x) (Nat.le_refl _) hf (Nat.le_refl _))
end Go.Proofs.Ytnkbgimihikhoaa.PVt
namespace Go.Proofs.Ytnkbgimihikhoaa.PVt
open Go.RowKit Go.Proofs.YtnkbgimihikhoaaW.PrintWords Go.Proofs.YtnkbgimihikhoaaW.PrintLast Go.Proofs.YtnkbgimihikhoaaW.PrintMore
set_option linter.unusedVariables false
set_option linter.unusedSimpArgs false
def vsm.T1 : Bool × List (List Nat × List Nat) := (true, [([], []), ([], []), ([0, 1], [0, 1]), ([], []), ([], []), ([3, 4, 2], [3, 4]), ([2, 5], [2, 5]), ([6, 5], [6]), ([7], [7]), ([7], [7]), ([9, 7, 7], [7, 9]), ([8, 10, 10, 7], [7, 8, 10]), ([7, 11], [7, 11]), ([12, 11], [12]), ([13, 13], [13]), ([13, 14], [13, 14]), ([15, 14, 0, 1, 2, 3, 4, 5, 6, 7, 8, 9, 10, 11, 12, 13, 14, 15], [15])])
def vsm.B1 : List Nat := [0, 0, 3, 0, 0, 31, 63, 127, 255, 255, 767, 2047, 4095, 8191, 16383, 32767, 65535]
theorem wrap_at {n : Nat} (h : n < 4611686018427387904) : wrap64 ((n : Int) + 1) = ((n + 1 : Nat) : Int) := by unfold wrap64; omega
theorem getD_at {α : Type} (pre : List α) (m : α) (suf : List α) (z : α) : (pre ++ m :: suf).getD (pre.length : Int).toNat z = m := by simp
theorem lt_at {α : Type} (pre : List α) (m : α) (suf : List α) : (pre.length : Int) < ((pre ++ m :: suf).length : Int) := by simp only [List.length_append, List.length_cons]; omega
theorem nlt_at {α : Type} (pre : List α) : ¬ (pre.length : Int) < ((pre ++ []).length : Int) := by simp
theorem pos_at {α : Type} (pre : List α) : (0 : Int) ≤ (pre.length : Int) := Int.natCast_nonneg _
theorem sameK_eq (x : S23) (a b : Int) : (x.f0 == a && (x.f1 == b)) = sameK x ⟨a, b⟩ := rfl
theorem toList_none : (⟨#[]⟩ : ByteArray).toList = ([] : List UInt8) := by kernel_rfl
theorem Tag_l0 (b : List S97) (c : List S74) (d : List S111) (k0 k1 : Int) : ∀ (suf pre : List S52) (k : Nat), (pre ++ suf).length < 1000000 → suf.length < k →
    topiaryref14_Tag.l0 k (pre.length : Int) (pre ++ suf) b c d k0 k1 = some (match tagP suf ⟨k0, k1⟩ with | some t => (t, true) | none => (⟨#[]⟩, false))
  | [], pre, k + 1, _, _ => by
    unfold topiaryref14_Tag.l0
    rw [if_neg (nlt_at pre)]
    rfl
  | m :: suf, pre, k + 1, h, hk => by
    unfold topiaryref14_Tag.l0
    rw [if_pos (lt_at pre m suf), if_pos (pos_at pre), show rd_T52 (pre ++ m :: suf) (pre.length : Int) = m from getD_at pre m suf _]
    have hl : pre.length < 1000000 := by rw [List.length_append] at h; omega
    have ih := Tag_l0 b c d k0 k1 suf (pre ++ [m]) k (by rw [List.append_assoc]; exact h) (by rw [List.length_cons] at hk; omega)
    rw [List.append_assoc, List.length_append, List.length_singleton] at ih
    rw [wrap_at (by omega), tagP]
    rw [sameK_eq m.f0 k0 k1]
    by_cases hm : sameK m.f0 ⟨k0, k1⟩ = true
    · rw [if_pos hm, if_pos hm]
    · rw [if_neg hm, if_neg hm]; exact ih
theorem Tag_is {D : DocP} (hD : Small D) (k : S23) {f : Nat} (hf : 700 < f) : topiaryref14_Tag.f f D.made D.placed D.rows D.regs k.f0 k.f1 = some (match tagP D.made k with | some t => (t, true) | none => (⟨#[]⟩, false)) :=
  Tag_l0 D.placed D.rows D.regs k.f0 k.f1 D.made [] f (by have := hD.made; simp; omega) (by have := hD.made; omega)
theorem Has_l0 (k0 k1 : Int) : ∀ (suf pre : List S23) (k : Nat), (pre ++ suf).length < 1000000 → suf.length < k →
    topiaryref01_Has.l0 k (pre ++ suf) (pre.length : Int) k0 k1 = some (hasP suf ⟨k0, k1⟩)
  | [], pre, k + 1, _, _ => by
    unfold topiaryref01_Has.l0
    rw [if_neg (nlt_at pre)]
    rfl
  | m :: suf, pre, k + 1, h, hk => by
    unfold topiaryref01_Has.l0
    rw [if_pos (lt_at pre m suf), if_pos (pos_at pre), show rd_T23 (pre ++ m :: suf) (pre.length : Int) = m from getD_at pre m suf _]
    have hl : pre.length < 1000000 := by rw [List.length_append] at h; omega
    have ih := Has_l0 k0 k1 suf (pre ++ [m]) k (by rw [List.append_assoc]; exact h) (by rw [List.length_cons] at hk; omega)
    rw [List.append_assoc, List.length_append, List.length_singleton] at ih
    rw [wrap_at (by omega)]
    rw [sameK_eq m k0 k1]
    by_cases hm : sameK m ⟨k0, k1⟩ = true
    · rw [if_pos hm]; unfold hasP; rw [List.any_cons, hm]; rfl
    · rw [if_neg hm]; unfold hasP; rw [List.any_cons, Bool.eq_false_iff.2 hm, Bool.false_or]; exact ih
theorem Has_is (l : List S23) (k : S23) {f : Nat} (hl : l.length < 1000000) (hf : l.length < f) : topiaryref01_Has.f f l k.f0 k.f1 = some (hasP l k) := Has_l0 k.f0 k.f1 l [] f (by simpa using hl) hf
theorem Get_l0 (k0 k1 : Int) : ∀ (suf pre : List S111) (k : Nat), (pre ++ suf).length < 1000000 → suf.length < k →
    ∃ r, topiaryref13_Get.l0 k (pre ++ suf) (⟨#[]⟩ : ByteArray) (pre.length : Int) k0 k1 = some r ∧ (if r.2.2.2.2.2.2.1 = true then (⟨#[]⟩ : ByteArray) else r.2.2.2.2.2.1) = textP suf ⟨k0, k1⟩
  | [], pre, k + 1, _, _ => by
    unfold topiaryref13_Get.l0
    rw [if_neg (nlt_at pre)]
    exact ⟨_, rfl, rfl⟩
  | m :: suf, pre, k + 1, h, hk => by
    unfold topiaryref13_Get.l0
    rw [if_pos (lt_at pre m suf), if_pos (pos_at pre), show rd_T111 (pre ++ m :: suf) (pre.length : Int) = m from getD_at pre m suf _]
    have hl : pre.length < 1000000 := by rw [List.length_append] at h; omega
    have ih := Get_l0 k0 k1 suf (pre ++ [m]) k (by rw [List.append_assoc]; exact h) (by rw [List.length_cons] at hk; omega)
    rw [List.append_assoc, List.length_append, List.length_singleton] at ih
    rw [wrap_at (by omega), textP]
    rw [sameK_eq m.f0 k0 k1]
    by_cases hm : sameK m.f0 ⟨k0, k1⟩ = true
    · rw [if_pos hm, if_pos hm]
      by_cases hn : m.f1.toList = ([] : List UInt8)
      · rw [if_pos hn]
        refine ⟨_, if_pos (hn.trans toList_none.symm), ?_⟩
        rfl
      · rw [if_neg hn, if_neg (show ¬ m.f1.toList = (⟨#[]⟩ : ByteArray).toList from fun e => hn (e.trans toList_none))]; exact ih
    · rw [if_neg hm, if_neg hm]; exact ih
theorem text_is {D : DocP} (hD : Small D) (k : S23) {f : Nat} (hf : 700 < f) : topiaryref15_text.f f D.made D.placed D.rows D.regs k.f0 k.f1 = some (textP D.regs k) := by
  obtain ⟨r, h1, h2⟩ := Get_l0 k.f0 k.f1 D.regs [] f (by have := hD.regs; simp; omega) (by have := hD.regs; omega)
  unfold topiaryref15_text.f
  rw [show topiaryref13_Get.f f D.regs k.f0 k.f1 (⟨#[]⟩ : ByteArray) = some r from h1, Option.bind_some]
  rw [← h2]
  split <;> rfl
theorem Attrs_l0 (k0 k1 : Int) : ∀ (suf pre : List S111) (acc : List S99) (k : Nat), (pre ++ suf).length < 1000000 → acc.length ≤ pre.length → suf.length < k →
    topiaryref13_Attrs.l0 k (pre ++ suf) acc (pre.length : Int) k0 k1 = some (acc ++ attrsP suf ⟨k0, k1⟩)
  | [], pre, acc, k + 1, _, _, _ => by
    unfold topiaryref13_Attrs.l0
    rw [if_neg (nlt_at pre), attrsP, List.append_nil]
  | m :: suf, pre, acc, k + 1, h, ha, hk => by
    unfold topiaryref13_Attrs.l0
    rw [if_pos (lt_at pre m suf), if_pos (pos_at pre), show rd_T111 (pre ++ m :: suf) (pre.length : Int) = m from getD_at pre m suf _]
    have hl : pre.length < 1000000 := by rw [List.length_append] at h; omega
    have ih := fun acc ha => Attrs_l0 k0 k1 suf (pre ++ [m]) acc k (by rw [List.append_assoc]; exact h) ha (by rw [List.length_cons] at hk; omega)
    simp only [List.append_assoc, List.length_append, List.length_singleton, List.singleton_append] at ih
    rw [wrap_at (by omega), attrsP]
    rw [sameK_eq m.f0 k0 k1]
    by_cases hm : sameK m.f0 ⟨k0, k1⟩ = true
    · rw [if_pos hm, if_pos hm]
      by_cases hn : m.f1.toList = ([] : List UInt8)
      · rw [if_pos hn, if_pos hn]; exact ih acc (by omega)
      · rw [if_neg hn, if_neg hn]
        by_cases hg : m.f4 = true
        · rw [if_pos hg, if_pos hg]; exact ih acc (by omega)
        · rw [if_neg hg, if_neg hg, if_pos (by omega), ih (acc ++ [(⟨m.f1, m.f3⟩ : S99)]) (by simp; omega)]
          simp
    · rw [if_neg hm, if_neg hm]; exact ih acc (by omega)
theorem Attrs_is {D : DocP} (hD : Small D) (k : S23) {f : Nat} (hf : 700 < f) : topiaryref13_Attrs.f f D.regs k.f0 k.f1 = some (attrsP D.regs k) :=
  Attrs_l0 k.f0 k.f1 D.regs [] [] f (by have := hD.regs; simp; omega) (by simp) (by have := hD.regs; omega)
section
variable {made : List S52} {placed : List S97} {rows : List S74} {regs : List S111} {p : S23}
theorem rd23_at (pre : List S23) (m : S23) (suf : List S23) : rd_T23 (pre ++ m :: suf) (pre.length : Int) = m := getD_at pre m suf _
theorem rd97_at (pre : List S97) (m : S97) (suf : List S97) : rd_T97 (pre ++ m :: suf) (pre.length : Int) = m := getD_at pre m suf _
theorem rd74_at (pre : List S74) (m : S74) (suf : List S74) : rd_T74 (pre ++ m :: suf) (pre.length : Int) = m := getD_at pre m suf _
theorem Kids_l2 {r : S74} {s : S23} {x6 x7 : Int} (h6 : 0 ≤ x6) (h6' : x6 < (rows.length : Int)) (hr : rd_T74 rows x6 = r) (h7 : 0 ≤ x7) (h7' : x7 < (r.f1.length : Int)) (hs : rd_T23 r.f1 x7 = s) : ∀ (suf pre : List S97) (acc : List S23) (k : Nat), placed = pre ++ suf → placed.length < 1000000 → acc.length + suf.length < 8796093022208 →
    topiaryref14_Kids.l2 (k + suf.length + 1) acc x6 x7 (pre.length : Int) made placed rows regs p.f0 p.f1 = topiaryref14_Kids.l1 k (acc ++ inP suf p s) x6 (wrap64 (x7 + 1)) made placed rows regs p.f0 p.f1
  | [], pre, acc, k, hp, hl, ha => by
    have hn : ¬ (pre.length : Int) < (placed.length : Int) := by rw [hp]; exact nlt_at pre
    unfold topiaryref14_Kids.l2
    rw [if_neg hn, inP, List.append_nil]
    rfl
  | x :: suf, pre, acc, k, hp, hl, ha => by
    rw [show k + (x :: suf).length + 1 = (k + suf.length + 1) + 1 from by simp only [List.length_cons]; omega]
    unfold topiaryref14_Kids.l2
    have hl' : pre.length < 1000000 := by rw [hp, List.length_append] at hl; omega
    have hlt : (pre.length : Int) < (placed.length : Int) := by rw [hp]; exact lt_at pre x suf
    have hrd : rd_T97 placed (pre.length : Int) = x := by rw [hp]; exact rd97_at pre x suf
    have ih := fun acc ha => Kids_l2 h6 h6' hr h7 h7' hs suf (pre ++ [x]) acc k (by rw [List.append_assoc]; exact hp) hl ha
    rw [List.length_cons] at ha
    simp only [List.length_append, List.length_singleton] at ih
    rw [if_pos hlt, if_pos (pos_at pre), hrd, wrap_at (by omega), if_pos h6, if_pos h6', if_pos h7, hr, if_pos h7', hs, inP, sameK_eq x.f1 p.f0 p.f1, sameK_eq x.f2 s.f0 s.f1]
    by_cases h1 : sameK x.f1 p = true
    · rw [if_pos h1, if_pos h1]
      by_cases h2 : sameK x.f2 s = true
      · rw [if_pos h2, if_pos h2, if_pos (by omega)]
        refine (ih (acc ++ [x.f0]) (by simp; omega)).trans ?_
        rw [List.append_assoc]
        rfl
      · rw [if_neg h2, if_neg h2]; exact ih acc (by omega)
    · rw [if_neg h1, if_neg h1]; exact ih acc (by omega)
set_option maxRecDepth 100000 in
theorem Kids_l1 {r : S74} {x6 : Int} (h6 : 0 ≤ x6) (h6' : x6 < (rows.length : Int)) (hr : rd_T74 rows x6 = r) (hpl : placed.length ≤ 600) (hsl : r.f1.length ≤ 600) : ∀ (suf pre : List S23) (acc : List S23) (k : Nat), r.f1 = pre ++ suf → acc.length + suf.length * 600 < 1000000 → suf.length * 602 < k →
    topiaryref14_Kids.l1 k acc x6 (pre.length : Int) made placed rows regs p.f0 p.f1 = some (acc ++ insP placed p suf) := by
  intro suf
  induction suf with
  | nil =>
    intro pre acc k hp ha hk
    obtain ⟨k, rfl⟩ : ∃ j, k = j + 1 := ⟨k - 1, by omega⟩
    unfold topiaryref14_Kids.l1
    rw [if_pos h6, if_pos h6', hr, hp, if_neg (nlt_at pre), insP, List.append_nil]
  | cons s suf ihs =>
    intro pre acc k hp ha hk
    obtain ⟨k, rfl⟩ : ∃ j, k = j + 1 := ⟨k - 1, by omega⟩
    unfold topiaryref14_Kids.l1
    rw [List.length_cons, Nat.succ_mul] at ha hk
    have hl' : pre.length ≤ 600 := by rw [hp, List.length_append] at hsl; omega
    have hlt : (pre.length : Int) < (r.f1.length : Int) := by rw [hp]; exact lt_at pre s suf
    rw [if_pos h6, if_pos h6', hr, if_pos hlt]
    obtain ⟨k2, rfl⟩ : ∃ k2, k = k2 + placed.length + 1 := ⟨k - placed.length - 1, by omega⟩
    have h2 := Kids_l2 (placed := placed) (p := p) (made := made) (regs := regs) (s := s) h6 h6' hr (pos_at pre) hlt (by rw [hp]; exact rd23_at pre s suf) placed [] acc k2 rfl (by omega) (by omega)
    have hle := inP_le placed p s
    refine h2.trans ?_
    rw [wrap_at (by omega), insP, ← List.append_assoc]
    have ih := ihs (pre ++ [s]) (acc ++ inP placed p s) k2 (by rw [List.append_assoc]; exact hp) (by simp only [List.length_append]; omega) (by omega)
    rw [List.length_append, List.length_singleton] at ih
    exact ih
theorem Kids_l0 (hpl : placed.length ≤ 600) (hr : rows.length ≤ 600) (hsl : ∀ r ∈ rows, r.f1.length ≤ 600) : ∀ (suf pre : List S74) (k : Nat), rows = pre ++ suf → suf.length + 361201 < k →
    topiaryref14_Kids.l0 k [] (pre.length : Int) made placed rows regs p.f0 p.f1 = some (insP placed p (slotsP suf p)) := by
  intro suf
  induction suf with
  | nil =>
    intro pre k hp hk
    obtain ⟨k, rfl⟩ : ∃ j, k = j + 1 := ⟨k - 1, by omega⟩
    have hn : ¬ (pre.length : Int) < (rows.length : Int) := by rw [hp]; exact nlt_at pre
    unfold topiaryref14_Kids.l0
    rw [if_neg hn]
    rfl
  | cons r suf ihs =>
    intro pre k hp hk
    obtain ⟨k, rfl⟩ : ∃ j, k = j + 1 := ⟨k - 1, by omega⟩
    unfold topiaryref14_Kids.l0
    have hl' : pre.length ≤ 600 := by rw [hp, List.length_append] at hr; omega
    have hlt : (pre.length : Int) < (rows.length : Int) := by rw [hp]; exact lt_at pre r suf
    have hrd : rd_T74 rows (pre.length : Int) = r := by rw [hp]; exact rd74_at pre r suf
    rw [List.length_cons] at hk
    rw [if_pos hlt, if_pos (pos_at pre), hrd, wrap_at (by omega)]
    have hb : ((!(r.f0.f0 == p.f0) || (!(r.f0.f1 == p.f1)))) = !sameK r.f0 p := by unfold sameK; cases r.f0.f0 == p.f0 <;> cases r.f0.f1 == p.f1 <;> rfl
    rw [hb, slotsP]
    by_cases h : sameK r.f0 p = true
    · rw [if_pos h, h, if_neg (by simp)]
      have hsl' := hsl r (by rw [hp]; simp)
      have hm : r.f1.length * 600 ≤ 600 * 600 := Nat.mul_le_mul_right _ hsl'
      have hm2 : r.f1.length * 602 ≤ 600 * 602 := Nat.mul_le_mul_right _ hsl'
      exact Kids_l1 (p := p) (made := made) (regs := regs) (pos_at pre) hlt hrd hpl hsl' r.f1 [] [] k rfl (by simp; omega) (by omega)
    · rw [if_neg h, Bool.eq_false_iff.2 h, if_pos (by rfl)]
      have ih := ihs (pre ++ [r]) k (by rw [List.append_assoc]; exact hp) (by omega)
      rw [List.length_append, List.length_singleton] at ih
      exact ih
end
theorem Kids_is {D : DocP} (hD : Small D) (k : S23) {f : Nat} (hf : 361900 < f) : topiaryref14_Kids.f f D.made D.placed D.rows D.regs k.f0 k.f1 = some (kidsL D k) :=
  Kids_l0 hD.placed hD.rows hD.slots D.rows [] f rfl (by have := hD.rows; omega)
theorem kidsF_max {D : DocP} {nd : S23 → ByteArray → List S23 → S27 × List S23} (h : ∀ k t s, s.length ≤ 8192 → (nd k t s).2.length ≤ 8193) : ∀ l s, s.length ≤ 8193 → (kidsF D nd l s).2.length ≤ 8193
  | [], s, hs => hs
  | k :: t, s, hs => by
    rw [kidsF]
    cases tagP D.made k with
    | none => exact kidsF_max h t s hs
    | some tag =>
      dsimp only
      split
      · exact kidsF_max h t s hs
      · rename_i hn
        exact kidsF_max h t _ (h k tag s (by omega))
theorem nodeT_max (D : DocP) : ∀ q k t s, s.length ≤ 8192 → (nodeT D q k t s).2.length ≤ 8193
  | 0, k, t, s, hs => by simp [nodeT]; omega
  | q + 1, k, t, s, hs => by
    rw [nodeT]
    exact kidsF_max (nodeT_max D q) _ _ (by simp; omega)
def tupT (r : S27 × List S23) : Int × Int × ByteArray × ByteArray × List S99 × List S27 × List S23 := (r.1.f0.f0, r.1.f0.f1, r.1.f1, r.1.f2, r.1.f3, r.1.f4, r.2)
set_option maxRecDepth 100000 in
theorem below_l0 {D : DocP} (hD : Small D) (q C : Nat) (hC : 800000 ≤ C)
    (ihq : ∀ k t s f, s.length ≤ 8192 → 8193 ≤ s.length + q → C < f → topiaryref15_below.f f D.made D.placed D.rows D.regs k.f0 k.f1 t s = some (tupT (nodeT D q k t s)))
    (a b : Int) (c d : ByteArray) (e : List S99) : ∀ (suf pre : List S23) (seen : List S23) (acc : List S27) (f : Nat), pre.length + suf.length ≤ 360000 → acc.length ≤ pre.length → seen.length ≤ 8193 → 8193 ≤ seen.length + q → C + suf.length < f →
    topiaryref15_below.l0 f seen (pre ++ suf) (pre.length : Int) D.made D.placed D.rows D.regs a b c d e acc = some (a, b, c, d, e, acc ++ (kidsF D (nodeT D q) suf seen).1, (kidsF D (nodeT D q) suf seen).2) := by
  intro suf
  induction suf with
  | nil =>
    intro pre seen acc f hl ha hs hq hf
    obtain ⟨f, rfl⟩ : ∃ j, f = j + 1 := ⟨f - 1, by omega⟩
    unfold topiaryref15_below.l0
    rw [if_neg (nlt_at pre), kidsF, List.append_nil]
  | cons k suf ihs =>
    intro pre seen acc f hl ha hs hq hf
    obtain ⟨f, rfl⟩ : ∃ j, f = j + 1 := ⟨f - 1, by omega⟩
    rw [List.length_cons] at hl hf
    unfold topiaryref15_below.l0
    have ih := fun seen acc => ihs (pre ++ [k]) seen acc f (by simp only [List.length_append, List.length_singleton]; omega)
    simp only [List.append_assoc, List.length_append, List.length_singleton, List.singleton_append] at ih
    rw [if_pos (lt_at pre k suf), if_pos (pos_at pre), rd23_at, wrap_at (by omega), Tag_is hD k (by omega), Option.bind_some, kidsF]
    cases htag : tagP D.made k with
    | none =>
      dsimp only
      rw [if_neg (by simp)]
      exact ih seen acc (by omega) hs hq (by omega)
    | some tag =>
      dsimp only
      rw [if_pos rfl, Has_is seen k (by omega) (by omega), Option.bind_some]
      by_cases h1 : hasP seen k = true
      · rw [if_pos h1, if_pos (.inl h1)]
        exact ih seen acc (by omega) hs hq (by omega)
      · rw [if_neg h1]
        by_cases h2 : 8192 < seen.length
        · rw [if_pos (by omega), if_pos (.inr h2)]
          exact ih seen acc (by omega) hs hq (by omega)
        · rw [if_neg (by omega), if_neg (by rintro (h | h); exact h1 h; exact h2 h), ihq k tag seen f (by omega) hq (by omega), Option.bind_some]
          have h3 := nodeT_max D q k tag seen (by omega)
          have h4 := nodeT_le D q k tag seen
          unfold tupT
          dsimp only
          rw [if_pos (by omega)]
          have := ih (nodeT D q k tag seen).2 (acc ++ [(nodeT D q k tag seen).1]) (by simp; omega) h3 (by omega) (by omega)
          rw [List.append_assoc] at this
          refine Eq.trans ?_ this
          cases (nodeT D q k tag seen).1
          rfl
set_option maxRecDepth 100000 in
theorem below_is {D : DocP} (hD : Small D) : ∀ (q : Nat) (k : S23) (t : ByteArray) (s : List S23) (f : Nat), s.length ≤ 8192 → 8193 ≤ s.length + q → (q + 1) * 800000 < f →
    topiaryref15_below.f f D.made D.placed D.rows D.regs k.f0 k.f1 t s = some (tupT (nodeT D q k t s)) := by
  intro q
  induction q with
  | zero => intro k t s f h1 h2 _; omega
  | succ q ihq =>
    intro k t s f h1 h2 hf
    obtain ⟨f, rfl⟩ : ∃ j, f = j + 1 := ⟨f - 1, by omega⟩
    rw [Nat.succ_mul] at hf
    have hq1 : 800000 ≤ (q + 1) * 800000 := by rw [Nat.succ_mul]; omega
    unfold topiaryref15_below.f
    rw [text_is hD k (by omega), Option.bind_some, Attrs_is hD k (by omega), Option.bind_some, if_pos (by omega), Kids_is hD k (by omega), Option.bind_some]
    have hk := kidsL_le hD k
    refine (below_l0 hD q ((q + 1) * 800000) hq1 ihq k.f0 k.f1 t (textP D.regs k) (attrsP D.regs k) (kidsL D k) [] (s ++ [k]) [] f (by simpa using hk) (Nat.le_refl _) (by simp; omega) (by simp; omega) (by omega)).trans ?_
    rfl
theorem rOf_is {D : DocP} (hD : Small D) {f : Nat} (hf : 6555600000 < f) : topiaryref15_Of.f f D.made D.placed D.rows D.regs = some ((ofT D).1.f0.f0, (ofT D).1.f0.f1, (ofT D).1.f1, (ofT D).1.f2, (ofT D).1.f3, (ofT D).1.f4, (ofT D).2) := by
  unfold topiaryref15_Of.f
  have h := below_is hD 8193 z23 rootTag [] f (Nat.zero_le _) (Nat.le_add_left _ _) (by omega)
  rw [show topiaryref15_below.f f D.made D.placed D.rows D.regs 0 0 (⟨#[114, 111, 111, 116]⟩ : ByteArray) [] = some (tupT (nodeT D 8193 z23 rootTag [])) from h, Option.bind_some]
  unfold ofT tupT
  dsimp only
  by_cases hc : 8192 < (nodeT D 8193 z23 rootTag []).2.length
  · rw [if_pos hc, if_pos (by omega)]
    rfl
  · rw [if_neg hc, if_neg (by omega)]
end Go.Proofs.Ytnkbgimihikhoaa.PVt
