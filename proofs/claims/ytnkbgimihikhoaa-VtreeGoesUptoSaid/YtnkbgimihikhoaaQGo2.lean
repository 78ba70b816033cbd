/- What the statement's row needs of this session's texts, joined by program: part 3. -/
import Derived.RangeFuncNested
import Derived.RangeFuncBound
import Derived.RangeFuncCalls
import Derived.RangeFuncLeaves
import Derived.RangeFuncBox
import Derived.Shelf.Abstract
import Derived.Shelf.RegionOpen
import Derived.WalkKit
import Derived.OwnWalkIn
import Derived.TacticsInMore
import Derived.LoopNIn
import Derived.LoopIn
import Derived.ControlIn
import Derived.Deep.QuietTactic
import Derived.BigQuiet
import Derived.Deep.DeepCutAuto
import Derived.Deep.CutBlock
import Derived.Test.YtnkbgimihikhoaaRows
import Derived.Test.YtnkbgimihikhoaaWWords
import Derived.ChangeArms
import Derived.Below
import Derived.DataElems
import Derived.SizedLaws
import Derived.IntWalk
import Derived.Laws.Cover1
import Derived.Laws.ResultCell
import Derived.Laws.Rows
import Derived.Test.YtnkbgimihikhoaaWTab
import Derived.OrdersIn
import Derived.Test.YtnkbgimihikhoaaQGo1
namespace Go.Proofs.Ytnkbgimihikhoaa.PVt
open Go.RowKit Go.Shelf Go.Proofs.YtnkbgimihikhoaaW.PrintWords Go.Proofs.YtnkbgimihikhoaaW.PrintLast Go.Proofs.YtnkbgimihikhoaaW.PrintMore
attribute [local go_sem] Oper.semAt_some
set_option linter.unusedVariables false
set_option linter.unusedSimpArgs false
theorem back69 (w : World) : Calls Try.prog 69 #[.slice none 0 0] w fun e w' => e = .returned (.func (.func 83) #[] #[.pointer (some ⟨w.heap.size, 0, none⟩)]) ∧ w' = w.alloc (.cells #[.slice none 0 0] 34) := by
  go_enter Try.func69, Try.ntmps69
  go_wp2
  go_ret
  exact ⟨rfl, rfl⟩
theorem back70 (w : World) : Calls Try.prog 70 #[.slice none 0 0] w fun e w' => e = .returned (.func (.func 84) #[] #[.pointer (some ⟨w.heap.size, 0, none⟩)]) ∧ w' = w.alloc (.cells #[.slice none 0 0] 36) := by
  go_enter Try.func70, Try.ntmps70
  go_wp2
  go_ret
  exact ⟨rfl, rfl⟩
def encE (x : Empty) : Array Value := x.elim
set_option maxHeartbeats 8000000 in
set_option maxRecDepth 100000 in
theorem stops83 {w : World} {bx : Nat} (hbx : w.heap[bx]? = some (.cells #[.slice none 0 0] 34 (0, 0))) :
    SeqStopsK Fence.wide 2 Try.prog 83 #[.pointer (some ⟨bx, 0, none⟩)] encE (fun W W' => W.heap.size ≤ W'.heap.size) (fun _ => True) (fun _ => False) 0 w := fun l J Jx W hW hJ hJx hY h0 => by
  have hbl := (Array.getElem?_eq_some_iff.1 hbx).1
  have c0 : W.cell? ⟨bx, 0, none⟩ = some (.slice none 0 0) := Mem.cell_of ((hW.block bx hbl).trans hbx) 0
  clear hbl hbx hY
  refine callsIn_of_wp Try.func83 rfl trivial ?_ rfl
  simp only [Try.ntmps83, List.append_toArray, List.size_toArray, List.length_cons, List.length_nil, Nat.reduceAdd, Nat.reduceSub, Array.replicate_succ, Array.replicate_zero, List.push_toArray, List.append_toArray, List.nil_append, List.cons_append]
  gi_wp2_with (fail)
  gi_loopw [3] (fun v wr => v = .int .i64 (-1) ∧ wr = W) (fun _ _ => 0)
  case atStart => exact ⟨rfl, rfl⟩
  case round =>
    obtain ⟨rfl, rfl⟩ := hrel
    gi_wp2_with (fail)
    go_end0
    exact ⟨⟨_, rfl⟩, .inl ⟨[], trivial, h0⟩⟩
set_option maxHeartbeats 8000000 in
set_option maxRecDepth 100000 in
theorem stops84 {w : World} {bx : Nat} (hbx : w.heap[bx]? = some (.cells #[.slice none 0 0] 36 (0, 0))) :
    SeqStopsK Fence.wide 2 Try.prog 84 #[.pointer (some ⟨bx, 0, none⟩)] encE (fun W W' => W.heap.size ≤ W'.heap.size) (fun _ => True) (fun _ => False) 0 w := fun l J Jx W hW hJ hJx hY h0 => by
  have hbl := (Array.getElem?_eq_some_iff.1 hbx).1
  have c0 : W.cell? ⟨bx, 0, none⟩ = some (.slice none 0 0) := Mem.cell_of ((hW.block bx hbl).trans hbx) 0
  clear hbl hbx hY
  refine callsIn_of_wp Try.func84 rfl trivial ?_ rfl
  simp only [Try.ntmps84, List.append_toArray, List.size_toArray, List.length_cons, List.length_nil, Nat.reduceAdd, Nat.reduceSub, Array.replicate_succ, Array.replicate_zero, List.push_toArray, List.append_toArray, List.nil_append, List.cons_append]
  gi_wp2_with (fail)
  gi_loopw [3] (fun v wr => v = .int .i64 (-1) ∧ wr = W) (fun _ _ => 0)
  case atStart => exact ⟨rfl, rfl⟩
  case round =>
    obtain ⟨rfl, rfl⟩ := hrel
    gi_wp2_with (fail)
    go_end0
    exact ⟨⟨_, rfl⟩, .inl ⟨[], trivial, h0⟩⟩
theorem look_empty {W : World} {b t e : Nat} {z : Value} (hu : Try.prog.underlying t = some (.map 23 e)) (hz : (zeroValue e).run Try.prog W = .ok z W) (h : W.heap[b]? = some (.map #[] 0)) (k : S23) : (Instr.lookup t (.map (some b)) (keyV k) false).run Try.prog W = .ok z W := by
  have e2 := get_run h
  have hf : (Instr.findKey 23 (keyV k) []).run Try.prog W = .ok none W := find_run W k []
  have hc := fun em => check_key em W k
  have hur : (underlying t).run Try.prog W = .ok (TypeDesc.map 23 e) W := by simp [underlying, hu, Sem.run]
  unfold Instr.lookup
  simp only [Sem.run_bind, hur, Result.andThen_ok, e2, Sem.run_pure, hc, hf, hz]
  rfl
/-- A projector of nothing. -/
structure Proj0 (W : World) (p m : Nat) (v : Nat) (a1 a2 a3 a4 : Nat) : Prop where
  box : W.heap[p]? = some (.cells #[.map (some a1), .map (some a2), .map (some a3), .map (some a4), .map (some m), .int .i64 (v : Int)] 83 (0, 0))
  h2 : W.heap[a2]? = some (.map #[] 0)
  h3 : W.heap[a3]? = some (.map #[] 0)
  ne2 : a2 ≠ m
  ne3 : a3 ≠ m
set_option maxHeartbeats 8000000 in
set_option maxRecDepth 100000 in
theorem of_empty (w : World) : Calls Try.prog 49 #[.agg #[.slice none 0 0, .slice none 0 0, .slice none 0 0, .slice none 0 0]] w fun e w' => ∃ p m a1 a2 a3 a4, e = .returned (.pointer (some ⟨p, 0, none⟩)) ∧ Proj0 w' p m 0 a1 a2 a3 a4 ∧ w'.heap[m]? = some (.map #[] 0) ∧ w.heap.size ≤ p ∧ w.heap.size ≤ m ∧ Below w.heap.size w w' := by
  refine (callsIn_wide (n := 3)).1 ?_
  refine callsIn_of_wp_marks Try.func49 rfl trivial ?_ rfl
  simp only [Try.ntmps49, List.size_toArray, List.length_cons, List.length_nil, Nat.reduceAdd, Nat.reduceSub, Array.replicate_succ, Array.replicate_zero, List.push_toArray, List.append_toArray, List.nil_append, List.cons_append]
  refine wpIn_wide.2 ?_
  have hmm := @run_makeMap Try.prog
  go_wp2_with (fail)
  clear hmm
  refine (back69 _).mono ?_
  rintro e w1 ⟨rfl, rfl⟩
  go_wp2_with (fail)
  have hBU : Below w.heap.size w (((((((((w.alloc (.cells #[.slice none 0 0, .slice none 0 0, .slice none 0 0, .slice none 0 0] 39)).alloc (.map #[] 0)).alloc (.map #[] 0)).alloc (.map #[] 0)).alloc (.map #[] 0)).alloc (.map #[] 0)).alloc (.cells #[.map (some (w.heap.size + 1)), .map (some (w.heap.size + 1 + 1)), .map (some (w.heap.size + 1 + 1 + 1)), .map (some (w.heap.size + 1 + 1 + 1 + 1)), .map (some (w.heap.size + 1 + 1 + 1 + 1 + 1)), .int .i64 0] 83)).alloc (.cells #[.pointer (some ⟨w.heap.size + 1 + 1 + 1 + 1 + 1 + 1, 0, none⟩)] 75)).alloc (.cells #[.slice none 0 0] 34)) := below_alloc (below_alloc (below_alloc (below_alloc (below_alloc (below_alloc (below_alloc (below_alloc (below_alloc (Below.refl _ _) _) _) _) _) _) _) _) _) _
  have hUS : (((((((((w.alloc (.cells #[.slice none 0 0, .slice none 0 0, .slice none 0 0, .slice none 0 0] 39)).alloc (.map #[] 0)).alloc (.map #[] 0)).alloc (.map #[] 0)).alloc (.map #[] 0)).alloc (.map #[] 0)).alloc (.cells #[.map (some (w.heap.size + 1)), .map (some (w.heap.size + 1 + 1)), .map (some (w.heap.size + 1 + 1 + 1)), .map (some (w.heap.size + 1 + 1 + 1 + 1)), .map (some (w.heap.size + 1 + 1 + 1 + 1 + 1)), .int .i64 0] 83)).alloc (.cells #[.pointer (some ⟨w.heap.size + 1 + 1 + 1 + 1 + 1 + 1, 0, none⟩)] 75)).alloc (.cells #[.slice none 0 0] 34)).heap.size = w.heap.size + 9 := by rw [Mem.alloc_size, Mem.alloc_size, Mem.alloc_size, Mem.alloc_size, Mem.alloc_size, Mem.alloc_size, Mem.alloc_size, Mem.alloc_size, Mem.alloc_size]
  have hd : (((((((((w.alloc (.cells #[.slice none 0 0, .slice none 0 0, .slice none 0 0, .slice none 0 0] 39)).alloc (.map #[] 0)).alloc (.map #[] 0)).alloc (.map #[] 0)).alloc (.map #[] 0)).alloc (.map #[] 0)).alloc (.cells #[.map (some (w.heap.size + 1)), .map (some (w.heap.size + 1 + 1)), .map (some (w.heap.size + 1 + 1 + 1)), .map (some (w.heap.size + 1 + 1 + 1 + 1)), .map (some (w.heap.size + 1 + 1 + 1 + 1 + 1)), .int .i64 0] 83)).alloc (.cells #[.pointer (some ⟨w.heap.size + 1 + 1 + 1 + 1 + 1 + 1, 0, none⟩)] 75)).alloc (.cells #[.slice none 0 0] 34)).heap[w.heap.size]? = some (.cells #[.slice none 0 0, .slice none 0 0, .slice none 0 0, .slice none 0 0] 39 (0, 0)) := Mem.alloc_old (Mem.alloc_old (Mem.alloc_old (Mem.alloc_old (Mem.alloc_old (Mem.alloc_old (Mem.alloc_old (Mem.alloc_old (Mem.alloc_new _ _) _) _) _) _) _) _) _) _
  have ha2 : (((((((((w.alloc (.cells #[.slice none 0 0, .slice none 0 0, .slice none 0 0, .slice none 0 0] 39)).alloc (.map #[] 0)).alloc (.map #[] 0)).alloc (.map #[] 0)).alloc (.map #[] 0)).alloc (.map #[] 0)).alloc (.cells #[.map (some (w.heap.size + 1)), .map (some (w.heap.size + 1 + 1)), .map (some (w.heap.size + 1 + 1 + 1)), .map (some (w.heap.size + 1 + 1 + 1 + 1)), .map (some (w.heap.size + 1 + 1 + 1 + 1 + 1)), .int .i64 0] 83)).alloc (.cells #[.pointer (some ⟨w.heap.size + 1 + 1 + 1 + 1 + 1 + 1, 0, none⟩)] 75)).alloc (.cells #[.slice none 0 0] 34)).heap[w.heap.size + 1 + 1]? = some (.map #[] 0) := Mem.alloc_old (Mem.alloc_old (Mem.alloc_old (Mem.alloc_old (Mem.alloc_old (Mem.alloc_old (Mem.alloc_new_at _ _ _ (by rw [Mem.alloc_size, Mem.alloc_size])) _) _) _) _) _) _
  have ha3 : (((((((((w.alloc (.cells #[.slice none 0 0, .slice none 0 0, .slice none 0 0, .slice none 0 0] 39)).alloc (.map #[] 0)).alloc (.map #[] 0)).alloc (.map #[] 0)).alloc (.map #[] 0)).alloc (.map #[] 0)).alloc (.cells #[.map (some (w.heap.size + 1)), .map (some (w.heap.size + 1 + 1)), .map (some (w.heap.size + 1 + 1 + 1)), .map (some (w.heap.size + 1 + 1 + 1 + 1)), .map (some (w.heap.size + 1 + 1 + 1 + 1 + 1)), .int .i64 0] 83)).alloc (.cells #[.pointer (some ⟨w.heap.size + 1 + 1 + 1 + 1 + 1 + 1, 0, none⟩)] 75)).alloc (.cells #[.slice none 0 0] 34)).heap[w.heap.size + 1 + 1 + 1]? = some (.map #[] 0) := Mem.alloc_old (Mem.alloc_old (Mem.alloc_old (Mem.alloc_old (Mem.alloc_old (Mem.alloc_new_at _ _ _ (by rw [Mem.alloc_size, Mem.alloc_size, Mem.alloc_size])) _) _) _) _) _
  have hm : (((((((((w.alloc (.cells #[.slice none 0 0, .slice none 0 0, .slice none 0 0, .slice none 0 0] 39)).alloc (.map #[] 0)).alloc (.map #[] 0)).alloc (.map #[] 0)).alloc (.map #[] 0)).alloc (.map #[] 0)).alloc (.cells #[.map (some (w.heap.size + 1)), .map (some (w.heap.size + 1 + 1)), .map (some (w.heap.size + 1 + 1 + 1)), .map (some (w.heap.size + 1 + 1 + 1 + 1)), .map (some (w.heap.size + 1 + 1 + 1 + 1 + 1)), .int .i64 0] 83)).alloc (.cells #[.pointer (some ⟨w.heap.size + 1 + 1 + 1 + 1 + 1 + 1, 0, none⟩)] 75)).alloc (.cells #[.slice none 0 0] 34)).heap[w.heap.size + 1 + 1 + 1 + 1 + 1]? = some (.map #[] 0) := Mem.alloc_old (Mem.alloc_old (Mem.alloc_old (Mem.alloc_new_at _ _ _ (by rw [Mem.alloc_size, Mem.alloc_size, Mem.alloc_size, Mem.alloc_size, Mem.alloc_size])) _) _) _
  have hp : (((((((((w.alloc (.cells #[.slice none 0 0, .slice none 0 0, .slice none 0 0, .slice none 0 0] 39)).alloc (.map #[] 0)).alloc (.map #[] 0)).alloc (.map #[] 0)).alloc (.map #[] 0)).alloc (.map #[] 0)).alloc (.cells #[.map (some (w.heap.size + 1)), .map (some (w.heap.size + 1 + 1)), .map (some (w.heap.size + 1 + 1 + 1)), .map (some (w.heap.size + 1 + 1 + 1 + 1)), .map (some (w.heap.size + 1 + 1 + 1 + 1 + 1)), .int .i64 0] 83)).alloc (.cells #[.pointer (some ⟨w.heap.size + 1 + 1 + 1 + 1 + 1 + 1, 0, none⟩)] 75)).alloc (.cells #[.slice none 0 0] 34)).heap[w.heap.size + 1 + 1 + 1 + 1 + 1 + 1]? = some (.cells #[.map (some (w.heap.size + 1)), .map (some (w.heap.size + 1 + 1)), .map (some (w.heap.size + 1 + 1 + 1)), .map (some (w.heap.size + 1 + 1 + 1 + 1)), .map (some (w.heap.size + 1 + 1 + 1 + 1 + 1)), .int .i64 0] 83 (0, 0)) := Mem.alloc_old (Mem.alloc_old (Mem.alloc_new_at _ _ _ (by rw [Mem.alloc_size, Mem.alloc_size, Mem.alloc_size, Mem.alloc_size, Mem.alloc_size, Mem.alloc_size])) _) _
  have hq : (((((((((w.alloc (.cells #[.slice none 0 0, .slice none 0 0, .slice none 0 0, .slice none 0 0] 39)).alloc (.map #[] 0)).alloc (.map #[] 0)).alloc (.map #[] 0)).alloc (.map #[] 0)).alloc (.map #[] 0)).alloc (.cells #[.map (some (w.heap.size + 1)), .map (some (w.heap.size + 1 + 1)), .map (some (w.heap.size + 1 + 1 + 1)), .map (some (w.heap.size + 1 + 1 + 1 + 1)), .map (some (w.heap.size + 1 + 1 + 1 + 1 + 1)), .int .i64 0] 83)).alloc (.cells #[.pointer (some ⟨w.heap.size + 1 + 1 + 1 + 1 + 1 + 1, 0, none⟩)] 75)).alloc (.cells #[.slice none 0 0] 34)).heap[w.heap.size + 1 + 1 + 1 + 1 + 1 + 1 + 1]? = some (.cells #[.pointer (some ⟨w.heap.size + 1 + 1 + 1 + 1 + 1 + 1, 0, none⟩)] 75 (0, 0)) := Mem.alloc_old (Mem.alloc_new_at _ _ _ (by rw [Mem.alloc_size, Mem.alloc_size, Mem.alloc_size, Mem.alloc_size, Mem.alloc_size, Mem.alloc_size, Mem.alloc_size])) _
  have hbx : (((((((((w.alloc (.cells #[.slice none 0 0, .slice none 0 0, .slice none 0 0, .slice none 0 0] 39)).alloc (.map #[] 0)).alloc (.map #[] 0)).alloc (.map #[] 0)).alloc (.map #[] 0)).alloc (.map #[] 0)).alloc (.cells #[.map (some (w.heap.size + 1)), .map (some (w.heap.size + 1 + 1)), .map (some (w.heap.size + 1 + 1 + 1)), .map (some (w.heap.size + 1 + 1 + 1 + 1)), .map (some (w.heap.size + 1 + 1 + 1 + 1 + 1)), .int .i64 0] 83)).alloc (.cells #[.pointer (some ⟨w.heap.size + 1 + 1 + 1 + 1 + 1 + 1, 0, none⟩)] 75)).alloc (.cells #[.slice none 0 0] 34)).heap[w.heap.size + 1 + 1 + 1 + 1 + 1 + 1 + 1 + 1]? = some (.cells #[.slice none 0 0] 34 (0, 0)) := Mem.alloc_new_at _ _ _ (by rw [Mem.alloc_size, Mem.alloc_size, Mem.alloc_size, Mem.alloc_size, Mem.alloc_size, Mem.alloc_size, Mem.alloc_size, Mem.alloc_size])
  generalize (((((((((w.alloc (.cells #[.slice none 0 0, .slice none 0 0, .slice none 0 0, .slice none 0 0] 39)).alloc (.map #[] 0)).alloc (.map #[] 0)).alloc (.map #[] 0)).alloc (.map #[] 0)).alloc (.map #[] 0)).alloc (.cells #[.map (some (w.heap.size + 1)), .map (some (w.heap.size + 1 + 1)), .map (some (w.heap.size + 1 + 1 + 1)), .map (some (w.heap.size + 1 + 1 + 1 + 1)), .map (some (w.heap.size + 1 + 1 + 1 + 1 + 1)), .int .i64 0] 83)).alloc (.cells #[.pointer (some ⟨w.heap.size + 1 + 1 + 1 + 1 + 1 + 1, 0, none⟩)] 75)).alloc (.cells #[.slice none 0 0] 34)) = U at *
  refine (wpIn_wide (n := 3)).1 ?_
  refine wpIn_rangeFunc_ownH (F := Fence.wide) (n := 3) rfl (by decide) (gf := 83) (lb := #[.pointer (some ⟨w.heap.size + 1 + 1 + 1 + 1 + 1 + 1 + 1 + 1, 0, none⟩)]) rfl trivial (enters_of Try.func83 (by kernel_rfl) rfl)
    (stops83 hbx) (fun h k => Nat.le_trans h k) (fun W l o o' hl h1 h2 _ => by simp) (Below.refl _ _) (fun x => x.elim)
    (fun (pre : List Empty) W => LK (fun _ => False) w.heap.size w U W) (fun _ _ _ => False) (LK_own (Nat.le_refl _) hBU.size) (fun _ _ _ _ _ hs _ _ => hs) ⟨KeptT.refl _ _, hBU⟩
    (fun x a' W => True) (fun x a' _ X Y row hs hg hr => trivial) ?assign ?body ?done ?stop
  case assign => rintro l pre x; exact x.elim
  case body => rintro l pre x; exact x.elim
  case stop => rintro D c pre W _ _ h _; exact h.elim
  case done =>
    rintro D ys W1 hD _ hL hKD
    have HL := Aside0.mk hL
    have HKD := Aside0.mk hKD
    have d1 : W1.cell? ⟨w.heap.size, 1, none⟩ = some (.slice none 0 0) := Mem.cell_of (hL.1.cells hd id) 1
    have d2 : W1.cell? ⟨w.heap.size, 2, none⟩ = some (.slice none 0 0) := Mem.cell_of (hL.1.cells hd id) 2
    have d3 : W1.cell? ⟨w.heap.size, 3, none⟩ = some (.slice none 0 0) := Mem.cell_of (hL.1.cells hd id) 3
    have HU : Aside0 (U.heap.size ≤ W1.heap.size) := ⟨hL.1.size⟩
    clear hL hKD
    go_wp2_with (fail)
    go_loopw [36] (fun v wr => v = .int .i64 0 ∧ wr = W1) (fun _ _ => 0)
    case atStart => exact ⟨rfl, rfl⟩
    case round =>
      obtain ⟨rfl, rfl⟩ := hrel
      rename World => W1
      go_wp2_with (fail)
      refine (back70 _).mono ?_
      rintro e w1 ⟨rfl, rfl⟩
      go_wp2_with (fail)
      have hbx2 : (W1.alloc (.cells #[.slice none 0 0] 36)).heap[W1.heap.size]? = some (.cells #[.slice none 0 0] 36 (0, 0)) := Mem.alloc_new _ _
      have hL2 : LK (fun _ => False) w.heap.size w U (W1.alloc (.cells #[.slice none 0 0] 36)) := HL.out.on (below_alloc (Below.refl _ _) _) hBU.size
      have HD2 : Aside0 ((W1.alloc (.cells #[.slice none 0 0] 36)).heap[D]? = some (.deferred (some []))) := ⟨Mem.alloc_old HKD.out _⟩
      generalize W1.alloc (.cells #[.slice none 0 0] 36) = V at *
      have hBV := hL2.2
      refine (wpIn_wide (n := 3)).1 ?_
      refine wpIn_rangeFunc_ownH (F := Fence.wide) (n := 3) rfl (by decide) (gf := 84) (lb := #[.pointer (some ⟨W1.heap.size, 0, none⟩)]) rfl trivial (enters_of Try.func84 (by kernel_rfl) rfl)
        (stops84 hbx2) (fun h k => Nat.le_trans h k) (fun W l o o' hl h1 h2 _ => by simp) (Below.refl _ _) (fun x => x.elim)
        (fun (pre : List Empty) W => LK (fun _ => False) w.heap.size w V W) (fun _ _ _ => False) (LK_own (Nat.le_refl _) hBV.size) (fun _ _ _ _ _ hs _ _ => hs) ⟨KeptT.refl _ _, hBV⟩
        (fun x a' W => True) (fun x a' _ X Y row hs hg hr => trivial) ?assign2 ?body2 ?done2 ?stop2
      case assign2 => rintro l pre x; exact x.elim
      case body2 => rintro l pre x; exact x.elim
      case stop2 => rintro D c pre W _ _ h _; exact h.elim
      case done2 =>
        rintro D2 ys W2 hD2 _ hL3 hKD2
        have hK : KeptT (fun _ => False) U W2 := ⟨Nat.le_trans hL2.1.size hL3.1.size, fun i hi hn => (hL3.1.block i (Nat.lt_of_lt_of_le hi hL2.1.size) hn).trans (hL2.1.block i hi hn)⟩
        have HK := Aside0.mk hK
        have HB := Aside0.mk hL3.2
        have HKD2 := Aside0.mk hKD2
        have HKD1 := Aside0.mk (hL3.1.cells HD2.out id)
        have d1' : W2.cell? ⟨w.heap.size, 1, none⟩ = some (.slice none 0 0) := Mem.cell_of (hK.cells hd id) 1
        have q0 : W2.cell? ⟨w.heap.size + 1 + 1 + 1 + 1 + 1 + 1 + 1, 0, none⟩ = some (.pointer (some ⟨w.heap.size + 1 + 1 + 1 + 1 + 1 + 1, 0, none⟩)) := Mem.cell_of (hK.cells hq id) 0
        clear hK hL3 hKD2 d1 d2 d3
        go_wp2_with (fail)
        go_loopw [69] (fun v wr => v = .int .i64 0 ∧ wr = W2) (fun _ _ => 0)
        case atStart => exact ⟨rfl, rfl⟩
        case round =>
          obtain ⟨rfl, rfl⟩ := hrel
          rename World => W2
          go_wp2_with (fail)
          have hlt : D < D2 := Nat.lt_of_lt_of_le (blk_lt' HD2.out) hD2
          have he4 : (W2.putObj D2 (.deferred none)).heap[D]? = _ := (World.putObj_heap_other (by omega)).trans HKD1.out
          refine ⟨by simp, .inl ⟨_, _, rfl, run_takeDeferred HKD2.out, by simp, .inl ⟨_, _, rfl, run_takeDeferred he4, ?_⟩⟩⟩
          have he : ∀ k o, k < w.heap.size + 9 → U.heap[k]? = some o → ((W2.putObj D2 (.deferred none)).putObj D (.deferred none)).heap[k]? = some o := fun k o hk ho => (World.putObj_heap_other (by omega)).trans ((World.putObj_heap_other (by omega)).trans (HK.out.cells ho id))
          refine ⟨_, results_tmp rfl _ _ _, w.heap.size + 1 + 1 + 1 + 1 + 1 + 1, w.heap.size + 1 + 1 + 1 + 1 + 1, w.heap.size + 1, w.heap.size + 1 + 1, w.heap.size + 1 + 1 + 1, w.heap.size + 1 + 1 + 1 + 1, rfl, ⟨he _ _ (by omega) hp, he _ _ (by omega) ha2, he _ _ (by omega) ha3, by omega, by omega⟩, he _ _ (by omega) hm, by omega, by omega, ?_⟩
          exact (HB.out.trans (belowK_b (w := V) hBV.size _ D2 _ _ hD2 HKD2.out rfl rfl)).trans (belowK_b (w := U) hBU.size _ D _ _ hD he4 rfl rfl)
theorem below_put' {n b : Nat} {w W : World} (h : Below n w W) (hb : n ≤ b) (o : Obj) : Below n w (W.putObj b o) := ⟨h.os, h.tape, h.output, Nat.le_trans h.size (by simp), fun i hi => (World.putObj_heap_other (by omega)).trans (h.block i hi)⟩
theorem set6 {P : World} {b t : Nat} {u0 u1 u2 u3 u4 u5 : Value} (h : P.heap[b]? = some (.cells #[u0, u1, u2, u3, u4, u5] t (0, 0))) (v0 v1 v2 v3 v4 v5 : Value) :
    ((((((P.setCell ⟨b, 0, none⟩ v0).setCell ⟨b, 1, none⟩ v1).setCell ⟨b, 2, none⟩ v2).setCell ⟨b, 3, none⟩ v3).setCell ⟨b, 4, none⟩ v4).setCell ⟨b, 5, none⟩ v5).heap[b]? = some (.cells #[v0, v1, v2, v3, v4, v5] t (0, 0)) :=
  Mem.set_heap (Mem.set_heap (Mem.set_heap (Mem.set_heap (Mem.set_heap (Mem.set_heap h 0 v0) 1 v1) 2 v2) 3 v3) 4 v4) 5 v5
theorem set6_far (P : World) {b k : Nat} (h : k ≠ b) (v0 v1 v2 v3 v4 v5 : Value) :
    ((((((P.setCell ⟨b, 0, none⟩ v0).setCell ⟨b, 1, none⟩ v1).setCell ⟨b, 2, none⟩ v2).setCell ⟨b, 3, none⟩ v3).setCell ⟨b, 4, none⟩ v4).setCell ⟨b, 5, none⟩ v5).heap[k]? = P.heap[k]? :=
  (Mem.set_other _ _ _ _ h).trans ((Mem.set_other _ _ _ _ h).trans ((Mem.set_other _ _ _ _ h).trans ((Mem.set_other _ _ _ _ h).trans ((Mem.set_other _ _ _ _ h).trans (Mem.set_other _ _ _ _ h)))))
theorem set6_below {P w : World} {b n : Nat} (h : Below n w P) (hn : n ≤ b) (v0 v1 v2 v3 v4 v5 : Value) :
    Below n w ((((((P.setCell ⟨b, 0, none⟩ v0).setCell ⟨b, 1, none⟩ v1).setCell ⟨b, 2, none⟩ v2).setCell ⟨b, 3, none⟩ v3).setCell ⟨b, 4, none⟩ v4).setCell ⟨b, 5, none⟩ v5) :=
  (((((h.setCell (p := ⟨b, 0, none⟩) hn _).setCell (p := ⟨b, 1, none⟩) hn _).setCell (p := ⟨b, 2, none⟩) hn _).setCell (p := ⟨b, 3, none⟩) hn _).setCell (p := ⟨b, 4, none⟩) hn _).setCell (p := ⟨b, 5, none⟩) hn _
theorem below_after {n m : Nat} {w w1 w2 : World} (h : Below m w w1) (k : Below n w1 w2) (hn : n ≤ m) : Below n w w2 := (h.mono hn).trans k
theorem wrap_one' : IntKind.i64.wrap 1 = 1 := by decide
def z0 : S23 := ⟨0, 0⟩
set_option maxHeartbeats 8000000 in
set_option maxRecDepth 100000 in
theorem node_empty (w : World) (p m a1 a2 a3 a4 n0 : Nat) (h : Proj0 w p m 0 a1 a2 a3 a4) (hm : w.heap[m]? = some (.map #[] 0)) (hp : n0 ≤ p) (hm0 : n0 ≤ m) (hn : n0 ≤ w.heap.size) :
    Calls Try.prog 50 #[.pointer (some ⟨p, 0, none⟩), .agg #[.int .i64 0, .int .i64 0], .string { data := #[114, 111, 111, 116] }] w fun e w' => e = .returned (.agg #[.int .i64 0, .int .i64 0, .string { data := #[114, 111, 111, 116] }, .string ⟨#[]⟩, .slice none 0 0, .slice none 0 0]) ∧ w'.heap[p]? = some (.cells #[.map (some a1), .map (some a2), .map (some a3), .map (some a4), .map (some m), .int .i64 1] 83 (0, 0)) ∧ Below n0 w w' := by
  have hpl := blk_lt' h.box
  have hml := blk_lt' hm
  have hB1 : Below w.heap.size w (((w.alloc (.cells #[.int .i64 0, .int .i64 0] 23)).alloc (.cells #[.int .i64 0, .int .i64 0, .string ⟨#[]⟩, .string ⟨#[]⟩, .slice none 0 0, .slice none 0 0] 27)).alloc (.cells #[.int .i64 0, .int .i64 0, .string { data := #[114, 111, 111, 116] }, .string ⟨#[]⟩, .slice none 0 0, .slice none 0 0] 27)) := below_alloc (below_alloc (below_alloc (Below.refl _ _) _) _) _
  have hp1 := (hB1.block p hpl).trans h.box
  have hm1 : MapS (((w.alloc (.cells #[.int .i64 0, .int .i64 0] 23)).alloc (.cells #[.int .i64 0, .int .i64 0, .string ⟨#[]⟩, .string ⟨#[]⟩, .slice none 0 0, .slice none 0 0] 27)).alloc (.cells #[.int .i64 0, .int .i64 0, .string { data := #[114, 111, 111, 116] }, .string ⟨#[]⟩, .slice none 0 0, .slice none 0 0] 27)) m [] := (hB1.block m hml).trans hm
  have h21 := (hB1.block a2 (blk_lt' h.h2)).trans h.h2
  have h31 := (hB1.block a3 (blk_lt' h.h3)).trans h.h3
  have h4 : (((w.alloc (.cells #[.int .i64 0, .int .i64 0] 23)).alloc (.cells #[.int .i64 0, .int .i64 0, .string ⟨#[]⟩, .string ⟨#[]⟩, .slice none 0 0, .slice none 0 0] 27)).alloc (.cells #[.int .i64 0, .int .i64 0, .string { data := #[114, 111, 111, 116] }, .string ⟨#[]⟩, .slice none 0 0, .slice none 0 0] 27)).heap[w.heap.size]? = some (.cells #[.int .i64 0, .int .i64 0] 23 (0, 0)) := Mem.alloc_old (Mem.alloc_old (Mem.alloc_new _ _) _) _
  have h6 : (((w.alloc (.cells #[.int .i64 0, .int .i64 0] 23)).alloc (.cells #[.int .i64 0, .int .i64 0, .string ⟨#[]⟩, .string ⟨#[]⟩, .slice none 0 0, .slice none 0 0] 27)).alloc (.cells #[.int .i64 0, .int .i64 0, .string { data := #[114, 111, 111, 116] }, .string ⟨#[]⟩, .slice none 0 0, .slice none 0 0] 27)).heap[w.heap.size + 1]? = some (.cells #[.int .i64 0, .int .i64 0, .string ⟨#[]⟩, .string ⟨#[]⟩, .slice none 0 0, .slice none 0 0] 27 (0, 0)) := Mem.alloc_old (Mem.alloc_new_at _ _ _ (by rw [Mem.alloc_size])) _
  have h7 : (((w.alloc (.cells #[.int .i64 0, .int .i64 0] 23)).alloc (.cells #[.int .i64 0, .int .i64 0, .string ⟨#[]⟩, .string ⟨#[]⟩, .slice none 0 0, .slice none 0 0] 27)).alloc (.cells #[.int .i64 0, .int .i64 0, .string { data := #[114, 111, 111, 116] }, .string ⟨#[]⟩, .slice none 0 0, .slice none 0 0] 27)).heap[w.heap.size + 1 + 1]? = some (.cells #[.int .i64 0, .int .i64 0, .string { data := #[114, 111, 111, 116] }, .string ⟨#[]⟩, .slice none 0 0, .slice none 0 0] 27 (0, 0)) := Mem.alloc_new_at _ _ _ (by rw [Mem.alloc_size, Mem.alloc_size])
  have hne2 := h.ne2
  have hne3 := h.ne3
  clear h hm
  have HB1 := Aside0.mk hB1
  clear hB1
  go_enter Try.func50, Try.ntmps50
  go_upto_region 2 with (fail)
  generalize (((w.alloc (.cells #[.int .i64 0, .int .i64 0] 23)).alloc (.cells #[.int .i64 0, .int .i64 0, .string ⟨#[]⟩, .string ⟨#[]⟩, .slice none 0 0, .slice none 0 0] 27)).alloc (.cells #[.int .i64 0, .int .i64 0, .string { data := #[114, 111, 111, 116] }, .string ⟨#[]⟩, .slice none 0 0, .slice none 0 0] 27)) = W1 at *
  have hpm : p ≠ m := by rintro rfl; have h_ := hm1; unfold MapS at h_; rw [hp1] at h_; cases h_
  have hMd : MapS W1.drew m [] := hm1
  have r1 : Sem.run Try.prog (Instr.lookup 70 (.map (some m)) (.agg #[.int .i64 0, .int .i64 0]) false) W1.drew = .ok (.int .i64 0) W1.drew := look_run hMd z0
  have r2 : Sem.run Try.prog (Instr.mapEntry 70 (.map (some m)) (.agg #[.int .i64 0, .int .i64 0])) W1.drew = .ok (.tuple #[.int .i64 0, .int .i64 0]) (W1.drew.putObj m (.map (ents 0 [(z0, 0)]).toArray 1)) := entry_run hMd z0 rfl
  have hM1 : MapS (W1.drew.putObj m (.map (ents 0 [(z0, 0)]).toArray 1)) m [(z0, 0)] := World.putObj_heap_same (blk_lt' hMd)
  have hM2 : MapS ((W1.drew.putObj m (.map (ents 0 [(z0, 0)]).toArray 1)).putObj m (.map (ents 0 [(z0, 1)]).toArray 1)) m [(z0, 1)] := World.putObj_heap_same (blk_lt' hM1)
  have r3 : Sem.run Try.prog (Instr.lookup 70 (.map (some m)) (.agg #[.int .i64 0, .int .i64 0]) false) (W1.drew.putObj m (.map (ents 0 [(z0, 0)]).toArray 1)) = .ok (.int .i64 0) (W1.drew.putObj m (.map (ents 0 [(z0, 0)]).toArray 1)) := look_run hM1 z0
  have r4 : Sem.run Try.prog (Instr.entryStore 70 (.map (some m)) (.int .i64 0) (.int .i64 1)) (W1.drew.putObj m (.map (ents 0 [(z0, 0)]).toArray 1)) = .ok () ((W1.drew.putObj m (.map (ents 0 [(z0, 0)]).toArray 1)).putObj m (.map (ents 0 [(z0, 1)]).toArray 1)) := store_run (l := []) z0 1 hM1
  have hw1 := wrap_one'
  have ho : ∀ k o, k ≠ m → W1.heap[k]? = some o → ((W1.drew.putObj m (.map (ents 0 [(z0, 0)]).toArray 1)).putObj m (.map (ents 0 [(z0, 1)]).toArray 1)).heap[k]? = some o := fun k o hk h_ => (World.putObj_heap_other hk).trans ((World.putObj_heap_other hk).trans h_)
  have HPB : Aside0 (Below n0 W1 ((W1.drew.putObj m (.map (ents 0 [(z0, 0)]).toArray 1)).putObj m (.map (ents 0 [(z0, 1)]).toArray 1))) := ⟨below_put' (below_put' (below_drew (Below.refl _ _)) hm0 _) hm0 _⟩
  have c4 : W1.cell? ⟨p, 4, none⟩ = some (.map (some m)) := Mem.cell_of hp1 4
  have k0 : W1.cell? ⟨w.heap.size, 0, none⟩ = some (.int .i64 0) := Mem.cell_of h4 0
  have k1 : W1.cell? ⟨w.heap.size, 1, none⟩ = some (.int .i64 0) := Mem.cell_of h4 1
  have HP2 := Aside0.mk (ho _ _ hpm hp1)
  have HA2 := Aside0.mk (ho _ _ hne2 h21)
  have HA3 := Aside0.mk (ho _ _ hne3 h31)
  have HK4 := Aside0.mk (ho _ _ (by omega) h4)
  have HK6 := Aside0.mk (ho _ _ (by omega) h6)
  have HK7 := Aside0.mk (ho _ _ (by omega) h7)
  clear hM1 hM2 hMd ho hp1 hm1 h21 h31 h4 h6 h7
  generalize hq1 : (W1.drew.putObj m (.map (ents 0 [(z0, 0)]).toArray 1)) = P1 at *
  generalize hq2 : P1.putObj m (.map (ents 0 [(z0, 1)]).toArray 1) = P2 at *
  clear hq1 hq2
  go_cut [20] from 142 (fun v wr => Aside0 (wr = P2))
  case first =>
    go_region
    all_goals
      go_wp2_with (fail)
      go_meet
      case rel => exact ⟨rfl⟩
  case rest =>
    obtain rfl := hcut.out
    clear r1 r2 r3 r4 c4 k0 k1
    have c5 : wc.cell? ⟨p, 5, none⟩ = some (.int .i64 0) := Mem.cell_of HP2.out 5
    have f5 := Mem.free_of HP2.out 5
    go_upto_region 5 with (fail)
    have ho : ∀ k o, k ≠ p → wc.heap[k]? = some o → (wc.setCell ⟨p, 5, none⟩ (.int .i64 1)).heap[k]? = some o := fun k o hk h_ => (Mem.set_other _ _ _ _ hk).trans h_
    have HP3 : Aside0 ((wc.setCell ⟨p, 5, none⟩ (.int .i64 1)).heap[p]? = some (.cells #[.map (some a1), .map (some a2), .map (some a3), .map (some a4), .map (some m), .int .i64 1] 83 (0, 0))) := ⟨Mem.set_heap HP2.out 5 _⟩
    have HB3 : Aside0 (Below n0 W1 (wc.setCell ⟨p, 5, none⟩ (.int .i64 1))) := ⟨HPB.out.setCell (p := ⟨p, 5, none⟩) hp _⟩
    have hK4 := ho _ _ (by omega) HK4.out
    have hK6 := ho _ _ (by omega) HK6.out
    have hK7 := ho _ _ (by omega) HK7.out
    have hA2 := ho _ _ (by rintro rfl; have h_ := HA2.out; rw [HP2.out] at h_; cases h_) HA2.out
    have hA3 := ho _ _ (by rintro rfl; have h_ := HA3.out; rw [HP2.out] at h_; cases h_) HA3.out
    clear c5 f5 ho HP2 HA2 HA3 HK4 HK6 HK7 HPB
    generalize wc.setCell ⟨p, 5, none⟩ (.int .i64 1) = P3 at *
    have c1 : P3.cell? ⟨p, 1, none⟩ = some (.map (some a2)) := Mem.cell_of HP3.out 1
    have c2 : P3.cell? ⟨p, 2, none⟩ = some (.map (some a3)) := Mem.cell_of HP3.out 2
    have k0 : P3.cell? ⟨w.heap.size, 0, none⟩ = some (.int .i64 0) := Mem.cell_of hK4 0
    have k1 : P3.cell? ⟨w.heap.size, 1, none⟩ = some (.int .i64 0) := Mem.cell_of hK4 1
    have r5 : Sem.run Try.prog (Instr.lookup 79 (.map (some a2)) (.agg #[.int .i64 0, .int .i64 0]) false) P3.drew = .ok (.slice none 0 0) P3.drew := look_empty (W := P3.drew) (z := .slice none 0 0) Try.underlying79 (by have hu := Try.underlying37; go_simp) hA2 z0
    have r6 : Sem.run Try.prog (Instr.lookup 80 (.map (some a3)) (.agg #[.int .i64 0, .int .i64 0]) false) P3.drew.drew = .ok (.slice none 0 0) P3.drew.drew := look_empty (W := P3.drew.drew) (z := .slice none 0 0) Try.underlying80 (by have hu := Try.underlying48; go_simp) hA3 z0
    go_region
    all_goals
      go_wp2_with (fail)
      go_loopw [43] (fun v wr => v = .int .i64 0 ∧ wr = P3.drew) (fun _ _ => 0)
      case atStart => exact ⟨rfl, rfl⟩
      case round =>
        obtain ⟨rfl, rfl⟩ := hrel
        go_wp2_with (fail)
        go_region
        all_goals
          go_wp2_with (fail)
          go_loopw [87] (fun v wr => v = .int .i64 0 ∧ wr = P3.drew.drew) (fun _ _ => 0)
          case atStart => exact ⟨rfl, rfl⟩
          case round =>
            obtain ⟨rfl, rfl⟩ := hrel
            have hK6' : P3.drew.drew.heap[w.heap.size + 1]? = _ := hK6
            have hK7' : P3.drew.drew.heap[w.heap.size + 1 + 1]? = _ := hK7
            have HP5 : Aside0 (P3.drew.drew.heap[p]? = _) := HP3
            have HB5 : Aside0 (Below n0 W1 P3.drew.drew) := ⟨below_drew (below_drew HB3.out)⟩
            generalize P3.drew.drew = P5 at hK6' hK7' HP5 HB5 ⊢
            have y0 : P5.cell? ⟨w.heap.size + 1 + 1, 0, none⟩ = some (.int .i64 0) := Mem.cell_of hK7' 0
            have y1 : P5.cell? ⟨w.heap.size + 1 + 1, 1, none⟩ = some (.int .i64 0) := Mem.cell_of hK7' 1
            have y2 : P5.cell? ⟨w.heap.size + 1 + 1, 2, none⟩ = some (.string { data := #[114, 111, 111, 116] }) := Mem.cell_of hK7' 2
            have y3 : P5.cell? ⟨w.heap.size + 1 + 1, 3, none⟩ = some (.string ⟨#[]⟩) := Mem.cell_of hK7' 3
            have y4 : P5.cell? ⟨w.heap.size + 1 + 1, 4, none⟩ = some (.slice none 0 0) := Mem.cell_of hK7' 4
            have y5 : P5.cell? ⟨w.heap.size + 1 + 1, 5, none⟩ = some (.slice none 0 0) := Mem.cell_of hK7' 5
            have HK6 := Aside0.mk hK6'
            have g0 : P5.cell? ⟨w.heap.size + 1, 0, none⟩ = some (.int .i64 0) := Mem.cell_of hK6' 0
            have g1 : P5.cell? ⟨w.heap.size + 1, 1, none⟩ = some (.int .i64 0) := Mem.cell_of hK6' 1
            have g2 : P5.cell? ⟨w.heap.size + 1, 2, none⟩ = some (.string ⟨#[]⟩) := Mem.cell_of hK6' 2
            have g3 : P5.cell? ⟨w.heap.size + 1, 3, none⟩ = some (.string ⟨#[]⟩) := Mem.cell_of hK6' 3
            have g4 : P5.cell? ⟨w.heap.size + 1, 4, none⟩ = some (.slice none 0 0) := Mem.cell_of hK6' 4
            have g5 : P5.cell? ⟨w.heap.size + 1, 5, none⟩ = some (.slice none 0 0) := Mem.cell_of hK6' 5
            have fr0 := Mem.free_of hK6' 0
            have fr1 := Mem.free_of hK6' 1
            have fr2 := Mem.free_of hK6' 2
            have fr3 := Mem.free_of hK6' 3
            have fr4 := Mem.free_of hK6' 4
            have fr5 := Mem.free_of hK6' 5
            clear hK6' hK7' hK6 hK7 hK4 hA2 hA3 r5 r6 c1 c2 k0 k1
            go_wp2_with (fail)
            have hpl2 : p < w.heap.size := hpl
            refine bodyPost_ret (results_cell_row rfl _ _ (w.heap.size + 1) 27 #[.int .i64 0, .int .i64 0, .string { data := #[114, 111, 111, 116] }, .string ⟨#[]⟩, .slice none 0 0, .slice none 0 0] (0, 0) _ rfl (set6 HK6.out _ _ _ _ _ _) Try.underlying27 rfl (by kernel_rfl)) rfl ⟨rfl, (set6_far _ (by omega) _ _ _ _ _ _).trans HP5.out, ?_⟩
            exact set6_below (below_after HB1.out HB5.out hn) (by omega) _ _ _ _ _ _
set_option maxHeartbeats 8000000 in
set_option maxRecDepth 100000 in
theorem tree_empty (w : World) : Calls Try.prog 18 #[.agg #[.slice none 0 0, .slice none 0 0, .slice none 0 0, .slice none 0 0]] w fun e w' => e = .returned (.tuple #[.agg #[.int .i64 0, .int .i64 0, .string { data := #[114, 111, 111, 116] }, .string ⟨#[]⟩, .slice none 0 0, .slice none 0 0], .int .i64 0]) ∧ Below w.heap.size w w' := by
  go_enter Try.func18, Try.ntmps18
  go_wp2_with (fail)
  refine (of_empty _).mono ?_
  rintro e w1 ⟨p, m, a1, a2, a3, a4, rfl, hP, hm, hp, hmm, hb⟩
  have HB := Aside0.mk hb
  have hlo : w.heap.size + 2 ≤ p := by have h_ := hp; rw [Mem.alloc_size, Mem.alloc_size] at h_; exact h_
  have hlm : w.heap.size + 2 ≤ m := by have h_ := hmm; rw [Mem.alloc_size, Mem.alloc_size] at h_; exact h_
  have HB2 : Aside0 (Below (w.heap.size + 2) ((w.alloc (.cells #[.slice none 0 0, .slice none 0 0, .slice none 0 0, .slice none 0 0] 39)).alloc (.cells #[.int .i64 0, .int .i64 0, .string ⟨#[]⟩, .string ⟨#[]⟩, .slice none 0 0, .slice none 0 0] 27)) w1) := ⟨by have h_ := hb; rw [Mem.alloc_size, Mem.alloc_size] at h_; exact h_⟩
  have HN := Aside0.mk (node_empty w1 p m a1 a2 a3 a4 (w.heap.size + 2) hP hm hlo hlm (by have h_ := hb.size; rw [Mem.alloc_size, Mem.alloc_size] at h_; exact h_))
  clear hP hm hp hmm hb
  go_wp2_with (fail)
  refine HN.out.mono ?_
  rintro e w2 ⟨rfl, hp2, hb2⟩
  have hb12 := HB2.out.trans hb2
  have hr0 : w2.heap[w.heap.size + 1]? = some (.cells #[.int .i64 0, .int .i64 0, .string ⟨#[]⟩, .string ⟨#[]⟩, .slice none 0 0, .slice none 0 0] 27 (0, 0)) := (hb12.block _ (by omega)).trans (Mem.alloc_new_at _ _ _ (by rw [Mem.alloc_size]))
  have HBW : Aside0 (Below w.heap.size w w2) := ⟨(below_alloc (below_alloc (Below.refl _ _) _) _).trans (hb12.mono (by omega))⟩
  have HS : Aside0 (w.heap.size + 2 ≤ w2.heap.size) := ⟨by have h_ := hb12.size; rw [Mem.alloc_size, Mem.alloc_size] at h_; exact h_⟩
  have c5 : (w2.alloc (.cells #[.int .i64 0, .int .i64 0, .string { data := #[114, 111, 111, 116] }, .string ⟨#[]⟩, .slice none 0 0, .slice none 0 0] 27)).cell? ⟨p, 5, none⟩ = some (.int .i64 1) := Mem.cell_alloc (Mem.cell_of hp2 5) _
  clear hp2 hb2 hb12 HN HB
  go_upto_region 5 with (fail)
  have hr := Mem.alloc_old hr0 (.cells #[.int .i64 0, .int .i64 0, .string { data := #[114, 111, 111, 116] }, .string ⟨#[]⟩, .slice none 0 0, .slice none 0 0] 27)
  have h5 : (w2.alloc (.cells #[.int .i64 0, .int .i64 0, .string { data := #[114, 111, 111, 116] }, .string ⟨#[]⟩, .slice none 0 0, .slice none 0 0] 27)).heap[w2.heap.size]? = _ := Mem.alloc_new _ _
  have HB5 : Aside0 (Below w.heap.size w (w2.alloc (.cells #[.int .i64 0, .int .i64 0, .string { data := #[114, 111, 111, 116] }, .string ⟨#[]⟩, .slice none 0 0, .slice none 0 0] 27))) := ⟨HBW.out.alloc HBW.out.size _⟩
  generalize w2.alloc (.cells #[.int .i64 0, .int .i64 0, .string { data := #[114, 111, 111, 116] }, .string ⟨#[]⟩, .slice none 0 0, .slice none 0 0] 27) = P5 at *
  have y0 : P5.cell? ⟨w2.heap.size, 0, none⟩ = some (.int .i64 0) := Mem.cell_of h5 0
  have y1 : P5.cell? ⟨w2.heap.size, 1, none⟩ = some (.int .i64 0) := Mem.cell_of h5 1
  have y2 : P5.cell? ⟨w2.heap.size, 2, none⟩ = some (.string { data := #[114, 111, 111, 116] }) := Mem.cell_of h5 2
  have y3 : P5.cell? ⟨w2.heap.size, 3, none⟩ = some (.string ⟨#[]⟩) := Mem.cell_of h5 3
  have y4 : P5.cell? ⟨w2.heap.size, 4, none⟩ = some (.slice none 0 0) := Mem.cell_of h5 4
  have y5 : P5.cell? ⟨w2.heap.size, 5, none⟩ = some (.slice none 0 0) := Mem.cell_of h5 5
  have HK6 := Aside0.mk hr
  have g0 : P5.cell? ⟨w.heap.size + 1, 0, none⟩ = some (.int .i64 0) := Mem.cell_of hr 0
  have g1 : P5.cell? ⟨w.heap.size + 1, 1, none⟩ = some (.int .i64 0) := Mem.cell_of hr 1
  have g2 : P5.cell? ⟨w.heap.size + 1, 2, none⟩ = some (.string ⟨#[]⟩) := Mem.cell_of hr 2
  have g3 : P5.cell? ⟨w.heap.size + 1, 3, none⟩ = some (.string ⟨#[]⟩) := Mem.cell_of hr 3
  have g4 : P5.cell? ⟨w.heap.size + 1, 4, none⟩ = some (.slice none 0 0) := Mem.cell_of hr 4
  have g5 : P5.cell? ⟨w.heap.size + 1, 5, none⟩ = some (.slice none 0 0) := Mem.cell_of hr 5
  have fr0 := Mem.free_of hr 0
  have fr1 := Mem.free_of hr 1
  have fr2 := Mem.free_of hr 2
  have fr3 := Mem.free_of hr 3
  have fr4 := Mem.free_of hr 4
  have fr5 := Mem.free_of hr 5
  clear hr hr0 h5
  go_wp2_with (fail)
  refine bodyPost_ret (results_ct rfl _ _ (w.heap.size + 1) 27 #[.int .i64 0, .int .i64 0, .string { data := #[114, 111, 111, 116] }, .string ⟨#[]⟩, .slice none 0 0, .slice none 0 0] (0, 0) _ rfl (set6 HK6.out _ _ _ _ _ _) Try.underlying27 rfl (by kernel_rfl)) rfl ⟨rfl, ?_⟩
  exact set6_below HB5.out (by omega) _ _ _ _ _ _
end Go.Proofs.Ytnkbgimihikhoaa.PVt
namespace Go.Proofs.Ytnkbgimihikhoaa.PVt
open Go.RowKit Go.Proofs.YtnkbgimihikhoaaW.PrintWords Go.Proofs.YtnkbgimihikhoaaW.PrintLast Go.Proofs.YtnkbgimihikhoaaW.PrintMore
set_option linter.unusedVariables false
set_option linter.unusedSimpArgs false
set_option maxHeartbeats 4000000 in
theorem count_calls (w : World) (x : S27) (A4 : Option Addr) (c4 : Nat) (A5 : Option Addr) (c5 : Nat) (hd : szT x ≤ 1099511627776)
    (hT : TK w w.heap.size x [.int .i64 x.f0.f0, .int .i64 x.f0.f1, .string x.f1, .string x.f2, .slice A4 x.f3.length c4, .slice A5 x.f4.length c5]) :
    Calls Try.prog 32 #[.agg #[.int .i64 x.f0.f0, .int .i64 x.f0.f1, .string x.f1, .string x.f2, .slice A4 x.f3.length c4, .slice A5 x.f4.length c5]] w fun e w' => e = .returned (.int .i64 ((szT x : Nat) : Int)) ∧ Below w.heap.size w w' := by
  have hb := below_alloc (Below.refl w.heap.size w) (.cells #[.int .i64 x.f0.f0, .int .i64 x.f0.f1, .string x.f1, .string x.f2, .slice A4 x.f3.length c4, .slice A5 x.f4.length c5] 27)
  have HK := Aside0.mk (keys_calls (w.alloc (.cells #[.int .i64 x.f0.f0, .int .i64 x.f0.f1, .string x.f1, .string x.f2, .slice A4 x.f3.length c4, .slice A5 x.f4.length c5] 27)) x A4 c4 A5 c5 hd (Kd.FK_mono (hT.low (fun i hi => hb.block i hi)) (fun i hi => Nat.lt_of_lt_of_le hi hb.size)))
  have HB := Aside0.mk hb
  have HL : Aside0 ((keysP (flatD 0 x)).length = szT x) := ⟨by unfold keysP; rw [List.length_map, flatD_length]⟩
  clear hT hb
  go_enter Try.func32, Try.ntmps32
  go_wp2_with (fail)
  refine HK.out.mono ?_
  rintro e w' ⟨v, rfl, hR, hB⟩
  obtain ⟨A, c, rfl⟩ := Kd.R_slice hR
  rw [HL.out]
  have HB2 := Aside0.mk hB
  clear hR hB HK
  go_wp2
  go_ret
  exact ⟨rfl, HB.out.trans (HB2.out.mono HB.out.size)⟩
def rootS : ByteArray := { data := #[114, 111, 111, 116] }
def rootT : S27 := ⟨⟨0, 0⟩, rootS, ⟨#[]⟩, [], []⟩
theorem TK_bare (w : World) (x : S27) (h3 : x.f3 = []) (h4 : x.f4 = []) : TK w w.heap.size x [.int .i64 x.f0.f0, .int .i64 x.f0.f1, .string x.f1, .string x.f2, .slice none 0 0, .slice none 0 0] := by
  obtain ⟨a, b, c, d, e⟩ := x
  cases h3
  cases h4
  exact TK.of (k27_mk w _ (Nat.le_refl _) (Kd.C_nil _ _) (Nat.le_refl _) (Kd.C_nil _ _))
theorem check_root : checkP rootT = 0 := by decide
theorem check_zero : checkP z27 = 8 := by decide
theorem max_root : maxD (flatD 0 rootT) = 1 := by decide
set_option maxHeartbeats 8000000 in
set_option maxRecDepth 100000 in
theorem awake_calls (w : World) : Calls Try.prog 15 #[] w fun e w' => e = .returned (.bool true) ∧ Below w.heap.size w w' := by
  have HO := Aside0.mk (tree_empty w)
  go_enter Try.func15, Try.ntmps15
  go_wp2_with (fail)
  refine HO.out.mono ?_
  rintro e w1 ⟨rfl, hb1⟩
  have HB1 : Aside0 (Below w.heap.size w (w1.alloc (.cells #[.int .i64 0, .int .i64 0, .string { data := #[114, 111, 111, 116] }, .string ⟨#[]⟩, .slice none 0 0, .slice none 0 0] 27))) := ⟨hb1.alloc hb1.size _⟩
  have h1 : (w1.alloc (.cells #[.int .i64 0, .int .i64 0, .string { data := #[114, 111, 111, 116] }, .string ⟨#[]⟩, .slice none 0 0, .slice none 0 0] 27)).heap[w1.heap.size]? = some (.cells #[.int .i64 0, .int .i64 0, .string { data := #[114, 111, 111, 116] }, .string ⟨#[]⟩, .slice none 0 0, .slice none 0 0] 27 (0, 0)) := Mem.alloc_new _ _
  clear hb1 HO
  go_upto_region 2 with (fail)
  generalize w1.alloc (.cells #[.int .i64 0, .int .i64 0, .string { data := #[114, 111, 111, 116] }, .string ⟨#[]⟩, .slice none 0 0, .slice none 0 0] 27) = u1 at *
  have HX1 := Aside0.mk h1
  have y0 : u1.cell? ⟨w1.heap.size, 0, none⟩ = some (.int .i64 0) := Mem.cell_of h1 0
  have y1 : u1.cell? ⟨w1.heap.size, 1, none⟩ = some (.int .i64 0) := Mem.cell_of h1 1
  have y2 : u1.cell? ⟨w1.heap.size, 2, none⟩ = some (.string { data := #[114, 111, 111, 116] }) := Mem.cell_of h1 2
  have y3 : u1.cell? ⟨w1.heap.size, 3, none⟩ = some (.string ⟨#[]⟩) := Mem.cell_of h1 3
  have y4 : u1.cell? ⟨w1.heap.size, 4, none⟩ = some (.slice none 0 0) := Mem.cell_of h1 4
  have y5 : u1.cell? ⟨w1.heap.size, 5, none⟩ = some (.slice none 0 0) := Mem.cell_of h1 5
  clear h1
  have HC := Aside0.mk (check_calls u1 rootT none 0 none 0 (by decide) (TK_bare u1 rootT rfl rfl))
  rw [check_root] at HC
  have e1 : (({ data := #[114, 111, 111, 116] } : ByteArray).toList == ({ data := #[114, 111, 111, 116] } : ByteArray).toList) = true := beq_self_eq_true _
  go_wp2_with (fail)
  refine HC.out.mono ?_
  rintro e w2 ⟨rfl, hb2⟩
  have HX2 : Aside0 (w2.heap[w1.heap.size]? = some (.cells #[.int .i64 0, .int .i64 0, .string { data := #[114, 111, 111, 116] }, .string ⟨#[]⟩, .slice none 0 0, .slice none 0 0] 27 (0, 0))) := ⟨(hb2.block _ (blk_lt' HX1.out)).trans HX1.out⟩
  have HB2 : Aside0 (Below w.heap.size w w2) := ⟨HB1.out.trans (hb2.mono HB1.out.size)⟩
  clear hb2 HC y0 y1 y2 y3 y4 y5
  have y0 : w2.cell? ⟨w1.heap.size, 0, none⟩ = some (.int .i64 0) := Mem.cell_of HX2.out 0
  have y1 : w2.cell? ⟨w1.heap.size, 1, none⟩ = some (.int .i64 0) := Mem.cell_of HX2.out 1
  have y2 : w2.cell? ⟨w1.heap.size, 2, none⟩ = some (.string { data := #[114, 111, 111, 116] }) := Mem.cell_of HX2.out 2
  have y3 : w2.cell? ⟨w1.heap.size, 3, none⟩ = some (.string ⟨#[]⟩) := Mem.cell_of HX2.out 3
  have y4 : w2.cell? ⟨w1.heap.size, 4, none⟩ = some (.slice none 0 0) := Mem.cell_of HX2.out 4
  have y5 : w2.cell? ⟨w1.heap.size, 5, none⟩ = some (.slice none 0 0) := Mem.cell_of HX2.out 5
  have HC := Aside0.mk (count_calls w2 rootT none 0 none 0 (by decide) (TK_bare w2 rootT rfl rfl))
  rw [show szT rootT = 1 from by decide] at HC
  go_wp2_with (fail)
  refine HC.out.mono ?_
  rintro e w3 ⟨rfl, hb3⟩
  have HX3 : Aside0 (w3.heap[w1.heap.size]? = some (.cells #[.int .i64 0, .int .i64 0, .string { data := #[114, 111, 111, 116] }, .string ⟨#[]⟩, .slice none 0 0, .slice none 0 0] 27 (0, 0))) := ⟨(hb3.block _ (blk_lt' HX2.out)).trans HX2.out⟩
  have HB3 : Aside0 (Below w.heap.size w w3) := ⟨HB2.out.trans (hb3.mono HB2.out.size)⟩
  clear hb3 HC y0 y1 y2 y3 y4 y5
  have y0 : w3.cell? ⟨w1.heap.size, 0, none⟩ = some (.int .i64 0) := Mem.cell_of HX3.out 0
  have y1 : w3.cell? ⟨w1.heap.size, 1, none⟩ = some (.int .i64 0) := Mem.cell_of HX3.out 1
  have y2 : w3.cell? ⟨w1.heap.size, 2, none⟩ = some (.string { data := #[114, 111, 111, 116] }) := Mem.cell_of HX3.out 2
  have y3 : w3.cell? ⟨w1.heap.size, 3, none⟩ = some (.string ⟨#[]⟩) := Mem.cell_of HX3.out 3
  have y4 : w3.cell? ⟨w1.heap.size, 4, none⟩ = some (.slice none 0 0) := Mem.cell_of HX3.out 4
  have y5 : w3.cell? ⟨w1.heap.size, 5, none⟩ = some (.slice none 0 0) := Mem.cell_of HX3.out 5
  have HC := Aside0.mk (depth_calls w3 rootT none 0 none 0 (by decide) (TK_bare w3 rootT rfl rfl))
  rw [max_root] at HC
  go_wp2_with (fail)
  refine HC.out.mono ?_
  rintro e w4 ⟨rfl, hb4⟩
  have HX4 : Aside0 (w4.heap[w1.heap.size]? = some (.cells #[.int .i64 0, .int .i64 0, .string { data := #[114, 111, 111, 116] }, .string ⟨#[]⟩, .slice none 0 0, .slice none 0 0] 27 (0, 0))) := ⟨(hb4.block _ (blk_lt' HX3.out)).trans HX3.out⟩
  have HB4 : Aside0 (Below w.heap.size w w4) := ⟨HB3.out.trans (hb4.mono HB3.out.size)⟩
  clear hb4 HC y0 y1 y2 y3 y4 y5
  have y0 : w4.cell? ⟨w1.heap.size, 0, none⟩ = some (.int .i64 0) := Mem.cell_of HX4.out 0
  have y1 : w4.cell? ⟨w1.heap.size, 1, none⟩ = some (.int .i64 0) := Mem.cell_of HX4.out 1
  have y2 : w4.cell? ⟨w1.heap.size, 2, none⟩ = some (.string { data := #[114, 111, 111, 116] }) := Mem.cell_of HX4.out 2
  have y3 : w4.cell? ⟨w1.heap.size, 3, none⟩ = some (.string ⟨#[]⟩) := Mem.cell_of HX4.out 3
  have y4 : w4.cell? ⟨w1.heap.size, 4, none⟩ = some (.slice none 0 0) := Mem.cell_of HX4.out 4
  have y5 : w4.cell? ⟨w1.heap.size, 5, none⟩ = some (.slice none 0 0) := Mem.cell_of HX4.out 5
  have HC := Aside0.mk (check_calls w4 z27 none 0 none 0 (by decide) (TK_bare w4 z27 rfl rfl))
  rw [check_zero] at HC
  go_wp2_with (fail)
  refine HC.out.mono ?_
  rintro e w5 ⟨rfl, hb5⟩
  have HB5 := Aside0.mk hb5
  clear hb5
  go_wp2
  go_ret
  exact ⟨rfl, HB4.out.trans (HB5.out.mono HB4.out.size)⟩
end Go.Proofs.Ytnkbgimihikhoaa.PVt
namespace Go.Proofs.Ytnkbgimihikhoaa.PVt
open Go.RowKit Go.Proofs.YtnkbgimihikhoaaW.PrintWords Go.Proofs.YtnkbgimihikhoaaW.PrintLast Go.Proofs.YtnkbgimihikhoaaW.PrintMore
set_option linter.unusedVariables false
set_option linter.unusedSimpArgs false
def eqA (a b : S99) : Bool := a.f0.toList == b.f0.toList && (a.f1.toList == b.f1.toList)
def eqAs : List S99 → List S99 → Bool
  | [], [] => true
  | a :: l, b :: m => eqA a b && eqAs l m
  | _, _ => false
mutual
def eqT : S27 → S27 → Bool
  | ⟨k, t, u, a, l⟩, ⟨k', t', u', a', l'⟩ => sameK k k' && (t.toList == t'.toList && (u.toList == u'.toList && (eqAs a a' && eqTs l l')))
def eqTs : List S27 → List S27 → Bool
  | [], [] => true
  | x :: l, y :: m => eqT x y && eqTs l m
  | _, _ => false
end
theorem eqT_eq (x y : S27) : eqT x y = (sameK x.f0 y.f0 && (x.f1.toList == y.f1.toList && (x.f2.toList == y.f2.toList && (eqAs x.f3 y.f3 && eqTs x.f4 y.f4)))) := by cases x; cases y; simp [eqT]
theorem sameK_self (k : S23) : sameK k k = true := sameK_iff.2 rfl
theorem eqA_self (a : S99) : eqA a a = true := by simp [eqA]
theorem eqAs_self : ∀ l : List S99, eqAs l l = true
  | [] => rfl
  | a :: l => by simp [eqAs, eqA_self, eqAs_self l]
mutual
theorem eqT_self : ∀ x : S27, eqT x x = true
  | ⟨k, t, u, a, l⟩ => by simp [eqT, sameK_self, eqAs_self, eqTs_self l]
theorem eqTs_self : ∀ l : List S27, eqTs l l = true
  | [] => by simp [eqTs]
  | x :: l => by simp [eqTs, eqT_self x, eqTs_self l]
end
theorem eqAs_len : ∀ (l m : List S99), l.length ≠ m.length → eqAs l m = false
  | [], [], h => absurd rfl h
  | [], b :: m, _ => rfl
  | a :: l, [], _ => rfl
  | a :: l, b :: m, h => by rw [eqAs, eqAs_len l m (fun e => h (by simp [e])), Bool.and_false]
theorem eqTs_len : ∀ (l m : List S27), l.length ≠ m.length → eqTs l m = false
  | [], [], h => absurd rfl h
  | [], b :: m, _ => by simp [eqTs]
  | a :: l, [], _ => by simp [eqTs]
  | a :: l, b :: m, h => by rw [eqTs, eqTs_len l m (fun e => h (by simp [e])), Bool.and_false]
theorem drop99 (l : List S99) {k : Nat} (h : k < l.length) : l.drop k = l.getD k z99 :: l.drop (k + 1) := by
  rw [List.drop_eq_getElem_cons h, List.getD_eq_getElem?_getD, List.getElem?_eq_getElem h]; rfl
theorem drop27 (l : List S27) {k : Nat} (h : k < l.length) : l.drop k = l.getD k z27 :: l.drop (k + 1) := by
  rw [List.drop_eq_getElem_cons h, List.getD_eq_getElem?_getD, List.getElem?_eq_getElem h]; rfl
theorem eqTs_drop {l m : List S27} {k : Nat} (h : k < l.length) (hm : k < m.length) : eqTs (l.drop k) (m.drop k) = (eqT (l.getD k z27) (m.getD k z27) && eqTs (l.drop (k + 1)) (m.drop (k + 1))) := by
  rw [drop27 l h, drop27 m hm, eqTs]
theorem eqAs_drop {l m : List S99} {k : Nat} (h : k < l.length) (hm : k < m.length) : eqAs (l.drop k) (m.drop k) = (eqA (l.getD k z99) (m.getD k z99) && eqAs (l.drop (k + 1)) (m.drop (k + 1))) := by
  rw [drop99 l h, drop99 m hm, eqAs]
theorem wrap_in {k n : Nat} (h : k < n) (hn : n ≤ 9223372036854775807) : wrap64 ((k : Int) + 1) = ((k + 1 : Nat) : Int) := by unfold wrap64; omega
/-- A node that is read, with all beneath it. -/
def RK (w : World) (x : S27) (A4 : Option Addr) (c4 : Nat) (A5 : Option Addr) (c5 : Nat) : Prop := x.f3.length ≤ c4 ∧ Kd.C k99 w A4 x.f3.length x.f3 ∧ x.f4.length ≤ c5 ∧ Kd.C k27 w A5 x.f4.length x.f4
theorem RK.below {w w' : World} {x : S27} {A4 : Option Addr} {c4 : Nat} {A5 : Option Addr} {c5 : Nat} (h : RK w x A4 c4 A5 c5) (hb : Below w.heap.size w w') : RK w' x A4 c4 A5 c5 := ⟨h.1, Kd.C_below h.2.1 hb, h.2.2.1, Kd.C_below h.2.2.2 hb⟩
theorem kid_read {w : World} {n : Nat} {A : Option Addr} {xs : List S27} (h : Kd.C k27 w A n xs) (k : Nat) (hk : k < n) :
    ∃ ad A4 c4 A5 c5, A = some ad ∧ cells27 w (ad.add (k * 6)) (xs.getD k z27) A4 c4 A5 c5 ∧ RK w (xs.getD k z27) A4 c4 A5 c5 := by
  obtain ⟨ad, A4, c4, A5, c5, e, h0, h1, h2, h3, h4, h5, l4, g4, l5, g5⟩ := at_T27 h (k : Int) (Int.natCast_nonneg _) (Int.ofNat_lt.2 hk)
  rw [Int.toNat_natCast] at h0 h1 h2 h3 h4 h5
  have e : rd_T27 xs (k : Int) = xs.getD k z27 := by unfold rd_T27; rw [Int.toNat_natCast]
  rw [e] at h0 h1 h2 h3 h4 h5 l4 g4 l5 g5
  exact ⟨ad, A4, c4, A5, c5, by assumption, ⟨h0, h1, h2, h3, h4, h5⟩, l4, g4, l5, g5⟩
attribute [local go_sem high] eqA23
end Go.Proofs.Ytnkbgimihikhoaa.PVt
namespace Go.Proofs.Ytnkbgimihikhoaa.Rdt
open Go.RowKit Go.Proofs.YtnkbgimihikhoaaW.PrintWords
theorem cells_get {w : World} {a : Addr} : ∀ {n : Nat} {cs : List Value}, w.cells? 0 a n = some cs → cs.length = n ∧ ∀ i u, cs[i]? = some u → w.cell? (a.add i) = some u := by
  intro n cs h
  obtain ⟨_, h1, h2⟩ := World.cells?_some h
  refine ⟨h1, fun i u hu => ?_⟩
  have hi := (List.getElem?_eq_some_iff.1 hu).1
  rw [h2 i (by omega)]
  exact hu
theorem all_get {H : Type} {e : TypeId} : ∀ {l : List (DataW H)} {i : Nat} {d : DataW H}, l[i]? = some d → ∀ n ∈ d.weights Try.prog e, n ∈ DataW.weightsAll Try.prog e l
  | [], _, _, h, _, _ => by cases h
  | d :: l, 0, _, h, n, hn => by
    obtain rfl := Option.some.inj h
    rw [DataW.weightsAll]
    exact List.mem_append_left _ hn
  | d :: l, i + 1, _, h, n, hn => by
    rw [DataW.weightsAll]
    exact List.mem_append_right _ (all_get (l := l) (i := i) h n hn)
/-- Cells of type t that can be read as data are a value of kind d; where its rows are no longer than the reach, it is as ok says. -/
def Reads (N : Nat) {α : Type} (t : TypeId) (d : Kd α) (ok : α → Prop) : Prop :=
  ∀ {H : Type} (enc : TypeId × Value → H) (w : World) (spare : Nat → Bool) (held : Bool) (fuel : Nat) (cs : List Value) (x : DataW H × List MemPlace), fuel ≤ N →
    DataW.trod enc Try.prog w 0 spare held fuel t cs = some x → ∃ a : α, d.K w a cs ∧ ((∀ n ∈ x.1.weights Try.prog t, n ≤ reachBytes) → ok a)
theorem int {N : Nat} {t : TypeId} {k : IntKind} (ht : Try.prog.underlying t = some (.int k)) : Reads N t (Kd.int k) (fun n => (Lit.int k n).wf = true) := by
  intro H enc w spare held fuel cs x hN h
  obtain ⟨n, rfl, rfl, hw⟩ := DataW.trod_int ht h
  exact ⟨n, rfl, fun _ => hw⟩
theorem bool {N : Nat} {t : TypeId} (ht : Try.prog.underlying t = some .bool) : Reads N t Kd.bool (fun _ => True) := by
  intro H enc w spare held fuel cs x hN h
  obtain ⟨n, rfl, rfl⟩ := DataW.trod_bool ht h
  exact ⟨n, rfl, fun _ => trivial⟩
theorem string {N : Nat} {t : TypeId} (ht : Try.prog.underlying t = some .string) : Reads N t Kd.string (fun s => s.size ≤ reachBytes) := by
  intro H enc w spare held fuel cs x hN h
  obtain ⟨s, rfl, rfl, hw⟩ := DataW.trod_string ht h
  refine ⟨s, rfl, fun hx => ?_⟩
  have := hx s.data.toList.length (by simp [DataW.weights])
  rw [Array.length_toList] at this
  exact this
theorem slice {N : Nat} {α : Type} {t e : TypeId} {d : Kd α} {ok : α → Prop} (ht : Try.prog.underlying t = some (.slice e)) (hc : Try.prog.cellsOf e = d.sz) (R : Reads N e d ok) :
    Reads (N + 1) t (Kd.slice e d) (fun xs => xs.length * Try.prog.bytesOf e ≤ reachBytes ∧ ∀ x ∈ xs, ok x) := by
  intro H enc w spare held fuel cs x hN h
  rcases DataW.trod_slice ht h with ⟨rfl, rfl⟩ | ⟨a, len, cap, elems, rest, n, hfn, rfl, rfl, _, hlc, hm, hel, hg, _, _⟩
  · exact ⟨[], ⟨none, 0, rfl, Nat.le_refl _, rfl, by simp, fun h => by simp at h⟩, fun _ => ⟨by simp, fun x hx => by cases hx⟩⟩
  · have step : ∀ i, i < len → ∃ (v : α) (c : List Value) (y : DataW H × List MemPlace), elems[i]? = some y ∧ c.length = d.sz ∧ d.K w v c ∧ (∀ j u, c[j]? = some u → w.cell? (a.add (i * d.sz + j)) = some u) ∧ ((∀ n ∈ y.1.weights Try.prog e, n ≤ reachBytes) → ok v) := by
      intro i hi
      have h1 := hg i hi
      obtain ⟨y, hy⟩ : ∃ y, elems[i]? = some y := ⟨_, List.getElem?_eq_getElem (by omega)⟩
      rw [hy] at h1
      obtain ⟨c, hc1, hc2⟩ := Option.bind_eq_some_iff.1 h1
      obtain ⟨v, hv1, hv2⟩ := R enc w spare held n c y (by omega) hc2
      obtain ⟨g1, g2⟩ := cells_get hc1
      rw [hc] at g1 g2
      exact ⟨v, c, y, hy, g1, hv1, fun j u hu => by
        have := g2 j u hu
        rwa [Go.Addr.add_add] at this, hv2⟩
    have build : ∀ m, m ≤ len → ∃ xs : List α, xs.length = m ∧ (∀ (i : Nat) v, xs[i]? = some v → ∃ (c : List Value) (y : DataW H × List MemPlace), elems[i]? = some y ∧ c.length = d.sz ∧ d.K w v c ∧ (∀ j u, c[j]? = some u → w.cell? (a.add (i * d.sz + j)) = some u) ∧ ((∀ n ∈ y.1.weights Try.prog e, n ≤ reachBytes) → ok v)) := by
      intro m
      induction m with
      | zero => intro _; exact ⟨[], rfl, fun i v hv => by simp at hv⟩
      | succ m ih =>
        intro hm
        obtain ⟨xs, hx1, hx2⟩ := ih (by omega)
        obtain ⟨v, c, y, hv⟩ := step m (by omega)
        refine ⟨xs ++ [v], by simp [hx1], fun i u hu => ?_⟩
        rcases Nat.lt_or_ge i xs.length with hi | hi
        · rw [List.getElem?_append_left hi] at hu
          exact hx2 i u hu
        · have : i = m := by
            have := (List.getElem?_eq_some_iff.1 hu).1
            rw [List.length_append, List.length_singleton] at this
            omega
          subst this
          have : v = u := by rw [← hx1] at hu; simpa using hu
          subst this
          exact ⟨c, y, hv⟩
    obtain ⟨xs, hx1, hx2⟩ := build len (Nat.le_refl _)
    refine ⟨xs, ⟨some a, cap, by rw [hx1], by omega, ⟨rfl, by unfold maxLen at hm; omega, fun _ => ⟨a, rfl, fun i v hv => ?_⟩⟩⟩, fun hx => ⟨?_, ?_⟩⟩
    · obtain ⟨c, y, _, h2, h3, h4, _⟩ := hx2 i v hv
      exact ⟨c, h2, h3, h4⟩
    · rw [DataW.weights, ht] at hx
      have := hx _ (List.mem_cons_self ..)
      refine Nat.le_trans (Nat.mul_le_mul_right _ ?_) this
      rw [List.length_map, hx1]
      omega
    · intro v hv
      obtain ⟨i, hi⟩ := List.mem_iff_getElem?.1 hv
      obtain ⟨_, y, h1, _, _, _, h6⟩ := hx2 i v hi
      refine h6 (fun n hn => hx n ?_)
      rw [DataW.weights, ht]
      exact List.mem_cons_of_mem _ (List.mem_append_left _ (all_get (i := i) (by rw [List.getElem?_map, h1]; rfl) n hn))
/-- Fields one behind the other, from cell o on. -/
def ReadsAt (N : Nat) {α : Type} (o : Nat) (fs : List Field) (d : Kd α) (ok : α → Prop) : Prop :=
  ∀ {H : Type} (enc : TypeId × Value → H) (w : World) (spare : Nat → Bool) (held : Bool) (n : Nat) (cs : List Value) (xs : List (DataW H × List MemPlace)), n ≤ N → xs.length = fs.length →
    (∀ (i : Nat) (f : Field), fs[i]? = some f → DataW.trod enc Try.prog w 0 spare held n f.type ((cs.drop f.offset).take (Try.prog.cellsOf f.type)) = xs[i]?) →
    ∃ a : α, d.K w a ((cs.drop o).take d.sz) ∧ ((∀ n ∈ DataW.weightsEach Try.prog (fs.map (·.type)) (xs.map (·.1)), n ≤ reachBytes) → ok a)
theorem last {N : Nat} {α : Type} {f : Field} {d : Kd α} {ok : α → Prop} (hc : Try.prog.cellsOf f.type = d.sz) (R : Reads N f.type d ok) : ReadsAt N f.offset [f] d ok := by
  intro H enc w spare held n cs xs hN hl hx
  match xs, hl with
  | [y], _ =>
    have h := hx 0 f rfl
    rw [hc] at h
    obtain ⟨a, h1, h2⟩ := R enc w spare held n _ y hN h
    refine ⟨a, h1, fun hw => h2 (fun m hm => hw m ?_)⟩
    simp only [List.map_cons, List.map_nil, DataW.weightsEach]
    exact List.mem_append_left _ hm
theorem more {N : Nat} {α β : Type} {f : Field} {fs : List Field} {d : Kd α} {e : Kd β} {ok : α → Prop} {ok2 : β → Prop} (hc : Try.prog.cellsOf f.type = d.sz) (R : Reads N f.type d ok) (R2 : ReadsAt N (f.offset + d.sz) fs e ok2) :
    ReadsAt N f.offset (f :: fs) (Kd.pair d e) (fun x => ok x.1 ∧ ok2 x.2) := by
  intro H enc w spare held n cs xs hN hl hx
  match xs, hl with
  | y :: ys, hl =>
    have h := hx 0 f rfl
    rw [hc] at h
    obtain ⟨a, h1, h2⟩ := R enc w spare held n _ y hN h
    obtain ⟨b, g1, g2⟩ := R2 enc w spare held n cs ys hN (by simpa using hl) (fun i f' hf => hx (i + 1) f' hf)
    refine ⟨(a, b), ⟨_, _, ?_, h1, g1⟩, fun hw => ⟨h2 (fun m hm => hw m ?_), g2 (fun m hm => hw m ?_)⟩⟩
    · show (cs.drop f.offset).take (d.sz + e.sz) = _
      rw [List.take_add, List.drop_drop]
    · simp only [List.map_cons, DataW.weightsEach]
      exact List.mem_append_left _ hm
    · simp only [List.map_cons, DataW.weightsEach]
      exact List.mem_append_right _ hm
theorem struct {N : Nat} {α : Type} {t : TypeId} {fs : Array Field} {d : Kd α} {ok : α → Prop} (ht : Try.prog.underlying t = some (.struct fs)) (hc : Try.prog.cellsOf t = d.sz) (R : ReadsAt N 0 fs.toList d ok) : Reads (N + 1) t d ok := by
  intro H enc w spare held fuel cs x hN h
  obtain ⟨xs, n, hfn, rfl, hl, hlen, hx⟩ := DataW.trod_struct ht h
  obtain ⟨a, h1, h2⟩ := R enc w spare held n cs xs (by omega) (by rw [hlen, Array.length_toList]) (fun i f hf => hx i f (by rwa [Array.getElem?_toList] at hf))
  rw [List.drop_zero, List.take_of_length_le (by rw [hl, hc]; exact Nat.le_refl _)] at h1
  refine ⟨a, h1, fun hw => h2 (fun m hm => hw m ?_)⟩
  rw [DataW.weights, ht]
  exact hm
theorem iso {N : Nat} {α β : Type} {t : TypeId} {d : Kd α} {ok : α → Prop} (R : Reads N t d ok) (f : β → α) (g : α → β) (hfg : ∀ a, f (g a) = a) : Reads N t (Kd.iso d f) (fun b => ok (f b)) := by
  intro H enc w spare held fuel cs x hN h
  obtain ⟨a, h1, h2⟩ := R enc w spare held fuel cs x hN h
  refine ⟨g a, ?_, fun hw => ?_⟩
  · show d.K w (f (g a)) cs
    rw [hfg]; exact h1
  · show ok (f (g a))
    rw [hfg]; exact h2 hw
theorem Reads.less {N M : Nat} {α : Type} {t : TypeId} {d : Kd α} {ok : α → Prop} (R : Reads N t d ok) (h : M ≤ N) : Reads M t d ok := fun enc w spare held fuel cs x hM hx => R enc w spare held fuel cs x (Nat.le_trans hM h) hx
theorem Reads.imp {N : Nat} {α : Type} {t : TypeId} {d d' : Kd α} {ok ok' : α → Prop} (R : Reads N t d ok) (hk : ∀ w a cs, d.K w a cs → d'.K w a cs) (h : ∀ a, ok a → ok' a) : Reads N t d' ok' := fun enc w spare held fuel cs x hN hx => by
  obtain ⟨a, h1, h2⟩ := R enc w spare held fuel cs x hN hx
  exact ⟨a, hk _ _ _ h1, fun hw => h a (h2 hw)⟩
/-- A parameter. -/
theorem Reads.param {α : Type} {t : TypeId} {d : Kd α} {ok : α → Prop} (R : ∀ N, Reads N t d ok) {H : Type} {enc : TypeId × Value → H} {w : World} {spare : Nat → Bool} {held : Bool} {v : Value} {x : DataW H} {ps : List MemPlace}
    (h : DataW.Trod enc Try.prog w 0 spare held t v x ps) : ∃ a : α, d.K w a v.cells.toList ∧ ((∀ n ∈ x.weights Try.prog t, n ≤ reachBytes) → ok a) := by
  obtain ⟨fuel, hf⟩ := h
  exact R fuel enc w spare held fuel _ _ (Nat.le_refl _) hf
end Go.Proofs.Ytnkbgimihikhoaa.Rdt
namespace Go.Proofs.Ytnkbgimihikhoaa.PVt
open Go.RowKit Go.Proofs.YtnkbgimihikhoaaW.PrintWords Go.Proofs.YtnkbgimihikhoaaW.PrintLast Go.Proofs.YtnkbgimihikhoaaW.PrintMore
set_option linter.unusedVariables false
def fitA (a : S99) : Prop := a.f0.size ≤ reachBytes ∧ a.f1.size ≤ reachBytes
mutual
/-- No text, no list in a tree is longer than the reach. -/
def fitT : S27 → Prop
  | ⟨_, t, u, a, l⟩ => t.size ≤ reachBytes ∧ u.size ≤ reachBytes ∧ (a.length * 32 ≤ reachBytes ∧ ∀ p ∈ a, fitA p) ∧ (l.length * 96 ≤ reachBytes ∧ fitTs l)
def fitTs : List S27 → Prop
  | [] => True
  | x :: l => fitT x ∧ fitTs l
end
theorem fitTs_get : ∀ {l : List S27} {k : Nat}, fitTs l → k < l.length → fitT (l.getD k z27)
  | [], k, _, h => absurd h (Nat.not_lt_zero _)
  | x :: l, 0, h, _ => by rw [fitTs] at h; exact h.1
  | x :: l, k + 1, h, hk => by rw [fitTs] at h; exact fitTs_get (l := l) (k := k) h.2 (Nat.lt_of_succ_lt_succ hk)
theorem fitT_eq (x : S27) : fitT x ↔ (x.f1.size ≤ reachBytes ∧ x.f2.size ≤ reachBytes ∧ (x.f3.length * 32 ≤ reachBytes ∧ ∀ p ∈ x.f3, fitA p) ∧ (x.f4.length * 96 ≤ reachBytes ∧ fitTs x.f4)) := by cases x; simp [fitT]
theorem fold27 {w : World} {x : S27} {cs : List Value} (h : (F27 k27).K w x cs) : k27.K w x cs := by
  obtain ⟨_, _, rfl, s0, ⟨_, _, rfl, rfl, ⟨_, _, rfl, rfl, ⟨_, _, rfl, ⟨A4, c4, rfl, l4, g4⟩, ⟨A5, c5, rfl, l5, g5⟩⟩⟩⟩⟩ := h
  obtain rfl := k23_open s0
  exact k27_mk w x l4 g4 l5 g5
end Go.Proofs.Ytnkbgimihikhoaa.PVt
namespace Go.Proofs.Ytnkbgimihikhoaa.PVt
open Go.RowKit Go.Proofs.YtnkbgimihikhoaaW.PrintWords Go.Proofs.YtnkbgimihikhoaaW.PrintLast Go.Proofs.YtnkbgimihikhoaaW.PrintMore
set_option linter.unusedVariables false
theorem reach_eq : reachBytes = 140737488351232 := by decide
mutual
/-- So many rounds are enough. -/
def wtT : S27 → Nat
  | ⟨_, _, _, a, l⟩ => a.length + wtTs l + 4
def wtTs : List S27 → Nat
  | [] => 0
  | x :: l => wtT x + wtTs l
end
theorem wtT_eq (x : S27) : wtT x = x.f3.length + wtTs x.f4 + 4 := by cases x; simp [wtT]
theorem wtTs_drop (l : List S27) {k : Nat} (h : k < l.length) : wtTs (l.drop k) = wtT (l.getD k z27) + wtTs (l.drop (k + 1)) := by rw [drop27 l h, wtTs]
theorem eqTs_nil : eqTs [] [] = true := by simp [eqTs]
attribute [local irreducible] wtT wtTs szT szTs eqT eqTs fitT fitTs
theorem rd27 (l : List S27) (i : Nat) : rd_T27 l (i : Int) = l.getD i z27 := by unfold rd_T27; rw [Int.toNat_natCast]
theorem rattrs_l (l m : List S99) (hl : l.length ≤ 9223372036854775807) (he : l.length = m.length) : ∀ (n i k : Nat), i + n = l.length → n + 1 ≤ k → topiaryref15_SameAttrs.l0 k l m (i : Int) = some (eqAs (l.drop i) (m.drop i))
  | 0, i, 0, h, hk => by omega
  | 0, i, k + 1, h, hk => by
    simp only [topiaryref15_SameAttrs.l0]
    rw [if_neg (by omega), List.drop_eq_nil_of_le (show l.length ≤ i by omega), List.drop_eq_nil_of_le (show m.length ≤ i by omega)]
    rfl
  | n + 1, i, 0, h, hk => by omega
  | n + 1, i, k + 1, h, hk => by
    have go := rattrs_l l m hl he n (i + 1) k (by omega) (by omega)
    have hw := wrap_in (k := i) (n := l.length) (by omega) hl
    simp only [topiaryref15_SameAttrs.l0]
    rw [if_pos (by omega), if_pos (by omega), if_pos (by omega), hw, go, rd99, rd99, show eqAs (l.drop i) (m.drop i) = _ from eqAs_drop (k := i) (by omega) (by omega)]
    unfold eqA
    cases (l.getD i z99).f0.toList == (m.getD i z99).f0.toList <;> cases (l.getD i z99).f1.toList == (m.getD i z99).f1.toList <;> rfl
theorem rattrs_f (l m : List S99) (hl : l.length ≤ 9223372036854775807) (k : Nat) (hk : l.length + 1 ≤ k) : topiaryref15_SameAttrs.f k l m = some (eqAs l m) := by
  unfold topiaryref15_SameAttrs.f
  by_cases h : l.length = m.length
  · rw [if_pos (by omega)]
    have := rattrs_l l m hl h l.length 0 k (by omega) hk
    rw [show ((0 : Nat) : Int) = 0 from rfl] at this
    rw [this, List.drop_zero, List.drop_zero]
  · rw [if_neg (by omega), eqAs_len l m h]
def sameR (k : Nat) (x y : S27) : Option Bool := topiaryref15_Same.f k x.f0.f0 x.f0.f1 x.f1 x.f2 x.f3 x.f4 y.f0.f0 y.f0.f1 y.f1 y.f2 y.f3 y.f4
def sameL (k : Nat) (i : Int) (x y : S27) : Option Bool := topiaryref15_Same.l0 k i x.f0.f0 x.f0.f1 x.f1 x.f2 x.f3 x.f4 y.f0.f0 y.f0.f1 y.f1 y.f2 y.f3 y.f4
theorem rsame_l (q : Nat) (ih : ∀ (x y : S27) (k : Nat), szT x ≤ q → fitT x → wtT x ≤ k → sameR k x y = some (eqT x y)) (x y : S27) (hq : szTs x.f4 ≤ q) (hf : fitTs x.f4) (hl : x.f4.length ≤ 9223372036854775807) (he : x.f4.length = y.f4.length) :
    ∀ (n i k : Nat), i + n = x.f4.length → wtTs (x.f4.drop i) + 1 ≤ k → sameL k (i : Int) x y = some (eqTs (x.f4.drop i) (y.f4.drop i))
  | 0, i, 0, h, hk => by omega
  | 0, i, k + 1, h, hk => by
    simp only [sameL, topiaryref15_Same.l0]
    rw [if_neg (by omega), List.drop_eq_nil_of_le (show x.f4.length ≤ i by omega), List.drop_eq_nil_of_le (show y.f4.length ≤ i by omega), eqTs_nil]
  | n + 1, i, 0, h, hk => by omega
  | n + 1, i, k + 1, h, hk => by
    rw [wtTs_drop x.f4 (k := i) (by omega)] at hk
    have hw4 := wtT_eq (x.f4.getD i z27)
    have go := rsame_l q ih x y hq hf hl he n (i + 1) k (by omega) (by omega)
    have hw := wrap_in (k := i) (n := x.f4.length) (by omega) hl
    have hkid := ih (x.f4.getD i z27) (y.f4.getD i z27) k (Nat.le_trans (szT_kid x.f4 (by omega)) hq) (fitTs_get hf (by omega)) (by omega)
    unfold sameL at go ⊢
    unfold sameR at hkid
    have c1 : (i : Int) < (x.f4.length : Int) := by omega
    have c2 : (0 : Int) ≤ (i : Int) := Int.natCast_nonneg i
    have c3 : (i : Int) < (y.f4.length : Int) := by omega
    have d1 : i < x.f4.length := by omega
    have d2 : i < y.f4.length := by omega
    clear hk hw4 h
    simp only [topiaryref15_Same.l0]
    rw [if_pos c1, if_pos c2, if_pos c3, rd27, rd27, hkid, Option.bind_some, hw, go, eqTs_drop d1 d2]
    cases eqT (x.f4.getD i z27) (y.f4.getD i z27) <;> rfl
theorem rsame_f : ∀ (q : Nat) (x y : S27) (k : Nat), szT x ≤ q → fitT x → wtT x ≤ k → sameR k x y = some (eqT x y)
  | 0, x, y, k, h, _, _ => by have := szT_pos x; omega
  | q + 1, x, y, k, h, hf, hk => by
    have hsz := szT_eq x
    have hwt := wtT_eq x
    obtain ⟨f1, f2, ⟨f3, _⟩, f4, f5⟩ := (fitT_eq x).1 hf
    rw [reach_eq] at f3 f4
    obtain ⟨k, rfl⟩ : ∃ j, k = j + 2 := ⟨k - 2, by omega⟩
    have hA := rattrs_f x.f3 y.f3 (by omega) (k + 1) (by omega)
    have hj : ∀ (i : Nat), 0 < i → wtTs x.f4 + 1 ≤ i → x.f4.length = y.f4.length → topiaryref15_Same.l0 i 0 x.f0.f0 x.f0.f1 x.f1 x.f2 x.f3 x.f4 y.f0.f0 y.f0.f1 y.f1 y.f2 y.f3 y.f4 = some (eqTs x.f4 y.f4) := fun i _ hi he => by
      have := rsame_l q (fun x y k h1 h2 h3 => rsame_f q x y k h1 h2 h3) x y (by omega) f5 (by omega) he x.f4.length 0 i (by omega) (by rw [List.drop_zero]; exact hi)
      unfold sameL at this
      rw [show ((0 : Nat) : Int) = 0 from rfl, List.drop_zero, List.drop_zero] at this
      exact this
    unfold sameR
    simp only [topiaryref15_Same.f, topiaryref15_Same.j0]
    rw [eqT_eq, hA]
    unfold sameK
    cases h0 : x.f0.f0 == y.f0.f0 with
    | false => simp
    | true =>
      cases h1 : x.f0.f1 == y.f0.f1 with
      | false => simp
      | true =>
        by_cases h2 : x.f1.toList = y.f1.toList
        · rw [if_neg (by simp), if_pos h2, show (x.f1.toList == y.f1.toList) = true from beq_iff_eq.2 h2]
          by_cases h3 : x.f2.toList = y.f2.toList
          · rw [if_pos h3, show (x.f2.toList == y.f2.toList) = true from beq_iff_eq.2 h3, Option.bind_some]
            cases eqAs x.f3 y.f3 with
            | false => simp
            | true =>
              by_cases h4 : x.f4.length = y.f4.length
              · rw [if_pos rfl, show ((x.f4.length : Int) != (y.f4.length : Int)) = false from by rw [bne, beq_iff_eq.2 (show (x.f4.length : Int) = y.f4.length by omega)]; rfl, if_neg (by simp), hj k (by omega) (by omega) h4]
                simp
              · rw [if_pos rfl, show ((x.f4.length : Int) != (y.f4.length : Int)) = true from by rw [bne, beq_eq_false_iff_ne.2 (show (x.f4.length : Int) ≠ y.f4.length by omega)]; rfl, if_pos rfl, eqTs_len _ _ h4]
                simp
          · rw [if_neg h3, show (x.f2.toList == y.f2.toList) = false from beq_eq_false_iff_ne.2 h3]
            simp
        · rw [if_neg (by simp), if_neg h2, show (x.f1.toList == y.f1.toList) = false from beq_eq_false_iff_ne.2 h2]
          simp
theorem rsame_calls (w : World) (x y : S27) (A4 : Option Addr) (c4 : Nat) (A5 : Option Addr) (c5 : Nat) (B4 : Option Addr) (e4 : Nat) (B5 : Option Addr) (e5 : Nat) (hx : RK w x A4 c4 A5 c5) (hy : RK w y B4 e4 B5 e5) (hf : fitT x) :
    Calls Try.prog 14 #[.agg #[.int .i64 x.f0.f0, .int .i64 x.f0.f1, .string x.f1, .string x.f2, .slice A4 x.f3.length c4, .slice A5 x.f4.length c5], .agg #[.int .i64 y.f0.f0, .int .i64 y.f0.f1, .string y.f1, .string y.f2, .slice B4 y.f3.length e4, .slice B5 y.f4.length e5]] w fun e w' => e = .returned (.bool (eqT x y)) ∧ Below w.heap.size w w' :=
  topiaryref15_Same.calls (wtT x) _ _ _ _ A4 c4 x.f3 A5 c5 x.f4 _ _ _ _ B4 e4 y.f3 B5 e5 y.f4 _ w hx.2.1 hx.1 hx.2.2.2 hx.2.2.1 hy.2.1 hy.1 hy.2.2.2 hy.2.2.1 (rsame_f (szT x) x y (wtT x) (Nat.le_refl _) hf (Nat.le_refl _))
theorem take_small {l : List S27} {i : Nat} (h : i < l.length) (hl : l.length ≤ 1466015503701) : (l.take i).length < 1466015503701 := Nat.lt_of_le_of_lt (List.length_take_le _ _) (Nat.lt_of_lt_of_le h hl)
theorem attr_small {n : Nat} (h : n * 32 ≤ 140737488351232) : n < 4398046511104 := by omega
theorem kid_small {n : Nat} (h : n * 96 ≤ 140737488351232) : n ≤ 1466015503701 := by omega
theorem eta27 (x : S27) : (⟨⟨x.f0.f0, x.f0.f1⟩, x.f1, x.f2, x.f3, x.f4⟩ : S27) = x := by cases x; rfl
def copyR (k : Nat) (x : S27) : Option (Int × Int × ByteArray × ByteArray × (List S99) × (List S27)) := topiaryref15_Copy.f k x.f0.f0 x.f0.f1 x.f1 x.f2 x.f3 x.f4
theorem rcopy_l (q : Nat) (ih : ∀ (x : S27) (k : Nat), szT x ≤ q → fitT x → wtT x ≤ k → copyR k x = some (x.f0.f0, x.f0.f1, x.f1, x.f2, x.f3, x.f4)) (x : S27) (hq : szTs x.f4 ≤ q) (hf : fitTs x.f4) (hl : x.f4.length ≤ 1466015503701) :
    ∀ (n i k : Nat), i + n = x.f4.length → wtTs (x.f4.drop i) + 1 ≤ k → topiaryref15_Copy.l0 k (i : Int) x.f0.f0 x.f0.f1 x.f1 x.f2 x.f3 x.f4 x.f0.f0 x.f0.f1 x.f1 x.f2 x.f3 (x.f4.take i) = some (x.f0.f0, x.f0.f1, x.f1, x.f2, x.f3, x.f4)
  | 0, i, 0, h, hk => by omega
  | 0, i, k + 1, h, hk => by
    simp only [topiaryref15_Copy.l0]
    rw [if_neg (by omega), List.take_of_length_le (by omega)]
  | n + 1, i, 0, h, hk => by omega
  | n + 1, i, k + 1, h, hk => by
    rw [wtTs_drop x.f4 (k := i) (by omega)] at hk
    have hw4 := wtT_eq (x.f4.getD i z27)
    have go := rcopy_l q ih x hq hf hl n (i + 1) k (by omega) (by omega)
    have hw := wrap_in (k := i) (n := x.f4.length) (by omega) (Nat.le_trans hl (by decide))
    have hkid := ih (x.f4.getD i z27) k (Nat.le_trans (szT_kid x.f4 (by omega)) hq) (fitTs_get hf (by omega)) (by omega)
    unfold copyR at hkid
    have c1 : (i : Int) < (x.f4.length : Int) := by omega
    have c2 : (0 : Int) ≤ (i : Int) := Int.natCast_nonneg i
    have d1 : i < x.f4.length := by omega
    have c3 := take_small d1 hl
    clear hk hw4 h
    simp only [topiaryref15_Copy.l0]
    rw [if_pos c1, if_pos c2, rd27, hkid, Option.bind_some, if_pos c3, hw]
    rw [take_snoc27 x.f4 d1] at go
    rw [eta27]
    exact go
theorem rcopy_f : ∀ (q : Nat) (x : S27) (k : Nat), szT x ≤ q → fitT x → wtT x ≤ k → copyR k x = some (x.f0.f0, x.f0.f1, x.f1, x.f2, x.f3, x.f4)
  | 0, x, k, h, _, _ => by have := szT_pos x; omega
  | q + 1, x, k, h, hf, hk => by
    have hsz := szT_eq x
    have hwt := wtT_eq x
    obtain ⟨f1, f2, ⟨f3, _⟩, f4, f5⟩ := (fitT_eq x).1 hf
    rw [reach_eq] at f3 f4
    obtain ⟨k, rfl⟩ : ∃ j, k = j + 1 := ⟨k - 1, by omega⟩
    have := rcopy_l q (fun x k h1 h2 h3 => rcopy_f q x k h1 h2 h3) x (by omega) f5 (kid_small f4) x.f4.length 0 k (Nat.zero_add _) (by rw [List.drop_zero]; omega)
    rw [show ((0 : Nat) : Int) = 0 from rfl, List.take_zero] at this
    unfold copyR
    simp only [topiaryref15_Copy.f]
    rw [Option.bind_some, if_pos (by rw [List.length_nil, Nat.zero_add]; exact attr_small f3), List.nil_append]
    exact this
end Go.Proofs.Ytnkbgimihikhoaa.PVt
namespace Go.Proofs.YtnkbgimihikhoaaW.PrintWords
open Go.RowKit
set_option linter.unusedVariables false
namespace Kd
variable {P : Program} {ops : Array Oper} {rest : List Oper} {o : Oper} {a : Act} {Q : Exit → Act → World → Prop} {α : Type}
theorem R_make0 (d : Kd α) {w0 W : World} (base e : Nat) (hgd : o.guard = none) {N : Tmp} (hd : o.dst = some N) (t : TypeId) (x y : Operand) (ho : o.op = .makeSlice t x y) (m : Int) (hx : a.eval x = .int .i64 0) (hy : a.eval y = .int .i64 m)
    (ht : P.underlying t = some (.slice e)) (z : Value) (bytes : Nat) (hinfo : (P.info? e).map (fun i => (i.zero, i.size, i.bytes)) = some (some z, d.sz, bytes)) (hz : z.cells.size = d.sz) (hb0 : 0 < bytes)
    (z0 : α) {ok : Nat → Prop} (hfresh : ok W.heap.size) (h0 : 0 ≤ m) (hl : m.toNat * bytes ≤ 281474976710656) (HB : Below base w0 W) (hbase : base ≤ W.heap.size)
    (h : ∀ v1 w1, d.R e w1 base ok v1 (List.replicate 0 z0) → Below base w0 w1 → W.grownBy w1 none → (∃ b, v1.ownBlock = some b ∧ W.heap.size ≤ b) → wpList P ops Q rest (a.put o.dst v1) w1) : wpList P ops Q (o :: rest) a W := by
  obtain ⟨m, rfl⟩ := Int.eq_ofNat_of_zero_le h0
  simp only [Int.toNat_natCast] at hl
  obtain ⟨i0, hi, hzz⟩ := Option.map_eq_some_iff.1 hinfo
  simp only [Prod.mk.injEq] at hzz
  obtain ⟨hz0, hz1, hz2⟩ := hzz
  have hm : m ≤ 281474976710656 := Nat.le_trans (Nat.le_mul_of_pos_right _ hb0) hl
  obtain ⟨w1, hr, hown, hg⟩ := run_make_own (P := P) W base t e i0 z d.sz ht hi hz0 hz1 .i64 .i64 m (by rw [hz2, Nat.mul_comm]; exact hl) (by simp only [maxLen]; omega) hbase
  have hrun : (execOp a.eval o).run P W = .ok (.value (.slice (some ⟨W.heap.size, 0, none⟩) 0 m)) w1 := by simp [execOp, ho, hx, hy, hr]
  refine event_run hgd hrun (h _ _ ⟨fun k hk => ?_, [], hown, Reps.none _ _⟩ (HB.grown hg hbase (fun k hk => by cases hk)) hg ⟨W.heap.size, by simp [Value.ownBlock], Nat.le_refl _⟩)
  have : W.heap.size = k := by simpa [Value.ownBlock] using hk
  subst this
  exact hfresh
end Kd
end Go.Proofs.YtnkbgimihikhoaaW.PrintWords
namespace Go.Proofs.Ytnkbgimihikhoaa.PVt
open Go.RowKit Go.Proofs.YtnkbgimihikhoaaW.PrintWords Go.Proofs.YtnkbgimihikhoaaW.PrintLast Go.Proofs.YtnkbgimihikhoaaW.PrintMore
attribute [local go_sem] max2_int min2_int max_two min_two max_three min_three max_four min_four   -- for this text's walks alone
set_option linter.unusedVariables false
set_option linter.unusedSimpArgs false
mutual
def vtree_Copy.l0 : Nat → List (S27) → List (S27) → Int → Int → Int → Int → ByteArray → ByteArray → List (S99) → List (S27) → Option (Int × Int × ByteArray × ByteArray × (List (S99)) × (List (S27)))
  | 0, _, _, _, _, _, _, _, _, _, _ => none
  | k + 1, x3, x16, x17, x18, x149000, x149001, x149002, x149003, x149004, x149005 => if x18 < x17 then (if 0 ≤ x18 then (if x18 < (x16.length : Int) then ((vtree_Copy.f k ((rd_T27 x16 x18).f0.f0) ((rd_T27 x16 x18).f0.f1) ((rd_T27 x16 x18).f1) ((rd_T27 x16 x18).f2) ((rd_T27 x16 x18).f3) ((rd_T27 x16 x18).f4)).bind fun bt161 => (if x3.length < 1466015503701 then (vtree_Copy.l0 k (x3 ++ [(⟨(⟨bt161.1, bt161.2.1⟩ : S23), bt161.2.2.1, bt161.2.2.2.1, bt161.2.2.2.2.1, bt161.2.2.2.2.2⟩ : S27)]) x16 x17 (wrap64 (x18 + 1)) x149000 x149001 x149002 x149003 x149004 x149005) else (none))) else (none)) else (none)) else (some (x149000, x149001, x149002, x149003, x149004, x3))
def vtree_Copy.f : Nat → Int → Int → ByteArray → ByteArray → List (S99) → List (S27) → Option (Int × Int × ByteArray × ByteArray × (List (S99)) × (List (S27)))
  | 0, _, _, _, _, _, _ => none
  | k + 1, a0_0, a0_1, a0_2, a0_3, l0_4, l0_5 => (some (([] : List (S99)) : List (S99))).bind fun y150 => (if y150.length + l0_4.length < 4398046511104 then (if 0 ≤ (l0_5.length : Int) then (if ((l0_5.length : Int) : Int).toNat ≤ 2932031007402 then (vtree_Copy.l0 k (List.replicate 0 z27) l0_5 (l0_5.length : Int) 0 a0_0 a0_1 a0_2 a0_3 (y150 ++ l0_4) l0_5) else (none)) else (none)) else (none))
end
theorem vtree_Copy.mono_l : ∀ k, (∀ y0 y1 y2 y3 y4 y5, LeO (vtree_Copy.f k y0 y1 y2 y3 y4 y5) (vtree_Copy.f (k + 1) y0 y1 y2 y3 y4 y5)) ∧ (∀ y0 y1 y2 y3 y4 y5 y6 y7 y8 y9, LeO (vtree_Copy.l0 k y0 y1 y2 y3 y4 y5 y6 y7 y8 y9) (vtree_Copy.l0 (k + 1) y0 y1 y2 y3 y4 y5 y6 y7 y8 y9))
  | 0 => ⟨fun _ _ _ _ _ _ r h => by simp [vtree_Copy.f] at h, fun _ _ _ _ _ _ _ _ _ _ r h => by simp [vtree_Copy.l0] at h⟩
  | k + 1 => by
    obtain ⟨ih0, ih1⟩ := vtree_Copy.mono_l k
    refine ⟨?_, ?_⟩
    · intro y0 y1 y2 y3 y4 y5
      unfold vtree_Copy.f
      repeat' first
      | (with_reducible exact ih0 _ _ _ _ _ _)
      | (with_reducible exact ih1 _ _ _ _ _ _ _ _ _ _)
      | (with_reducible exact LeO.refl _)
      | (with_reducible exact LeO.none _)
      | (with_reducible refine LeO.ite ?_ ?_)
      | (with_reducible refine LeO.bind ?_ (fun _ => ?_))
      | exact ih0 _ _ _ _ _ _
      | exact ih1 _ _ _ _ _ _ _ _ _ _
      | exact LeO.none _
      | refine LeO.ite ?_ ?_
      | refine LeO.bind ?_ (fun _ => ?_)
    · intro y0 y1 y2 y3 y4 y5 y6 y7 y8 y9
      unfold vtree_Copy.l0
      repeat' first
      | (with_reducible exact ih0 _ _ _ _ _ _)
      | (with_reducible exact ih1 _ _ _ _ _ _ _ _ _ _)
      | (with_reducible exact LeO.refl _)
      | (with_reducible exact LeO.none _)
      | (with_reducible refine LeO.ite ?_ ?_)
      | (with_reducible refine LeO.bind ?_ (fun _ => ?_))
      | exact ih0 _ _ _ _ _ _
      | exact ih1 _ _ _ _ _ _ _ _ _ _
      | exact LeO.none _
      | refine LeO.ite ?_ ?_
      | refine LeO.bind ?_ (fun _ => ?_)
theorem vtree_Copy.mono : ∀ a0 a1 a2 a3 a4 a5 k, LeO (vtree_Copy.f k a0 a1 a2 a3 a4 a5) (vtree_Copy.f (k + 1) a0 a1 a2 a3 a4 a5) := by
  intro a0 a1 a2 a3 a4 a5 k
  obtain ⟨ih0, ih1⟩ := vtree_Copy.mono_l k
  exact ih0 a0 a1 a2 a3 a4 a5
set_option maxHeartbeats 8000000 in
set_option maxRecDepth 100000 in
theorem vtree_Copy.calls (k : Nat) : ∀ (a0_0 : Int) (a0_1 : Int) (a0_2 : ByteArray) (a0_3 : ByteArray) (A0_4 : Option Addr) (c0_4 : Nat) (l0_4 : List (S99)) (A0_5 : Option Addr) (c0_5 : Nat) (l0_5 : List (S27)) (r1 : Int) (r2 : Int) (r3 : ByteArray) (r4 : ByteArray) (r5 : List (S99)) (r6 : List (S27)) (w : World) (hr0_4 : Kd.C k99 w A0_4 l0_4.length l0_4) (hc0_4 : l0_4.length ≤ c0_4) (hr0_5 : Kd.C k27 w A0_5 l0_5.length l0_5) (hc0_5 : l0_5.length ≤ c0_5) (h : vtree_Copy.f k a0_0 a0_1 a0_2 a0_3 l0_4 l0_5 = some (r1, r2, r3, r4, r5, r6)),
    Calls Try.prog 25 #[.agg #[.int .i64 a0_0, .int .i64 a0_1, .string a0_2, .string a0_3, .slice A0_4 l0_4.length c0_4, .slice A0_5 l0_5.length c0_5]] w fun e w' => ∃ v4_ v5_ : Value, e = .returned (.agg #[.int .i64 r1, .int .i64 r2, .string r3, .string r4, v4_, v5_]) ∧ Kd.R k99 99 w' w.heap.size (fun _ => True) v4_ r5 ∧ Kd.R k27 27 w' w.heap.size (fun k_ => some k_ ≠ (v4_ : Value).ownBlock) v5_ r6 ∧ Below w.heap.size w w' := by
  induction k using Nat.strongRecOn with
  | _ k ih =>
  intro a0_0 a0_1 a0_2 a0_3 A0_4 c0_4 l0_4 A0_5 c0_5 l0_5 r1 r2 r3 r4 r5 r6 w hr0_4 hc0_4 hr0_5 hc0_5 h
  cases k with
  | zero => exact absurd h (by simp [vtree_Copy.f])
  | succ k =>
  simp only [vtree_Copy.f] at h
  have hu27 := Try.underlying27
  have HR0_4 := Aside0.mk hr0_4
  have HC0_4 := Aside0.mk hc0_4
  clear hr0_4 hc0_4
  have HR0_5 := Aside0.mk hr0_5
  have HC0_5 := Aside0.mk hc0_5
  clear hr0_5 hc0_5
  have HB := Aside0.mk (Below.refl w.heap.size w)
  have H : ((some (([] : List (S99)) : List (S99))).bind fun y150 => (if y150.length + l0_4.length < 4398046511104 then (if 0 ≤ (l0_5.length : Int) then (if ((l0_5.length : Int) : Int).toNat ≤ 2932031007402 then (vtree_Copy.l0 k (List.replicate 0 z27) l0_5 (l0_5.length : Int) 0 a0_0 a0_1 a0_2 a0_3 (y150 ++ l0_4) l0_5) else (none)) else (none)) else (none))) = some (r1, r2, r3, r4, r5, r6) := h
  clear h
  obtain ⟨y150, hy150⟩ : ∃ y_ : List (S99), y_ = (([] : List (S99))) := ⟨_, rfl⟩
  replace H : (if y150.length + l0_4.length < 4398046511104 then (if 0 ≤ (l0_5.length : Int) then (if ((l0_5.length : Int) : Int).toNat ≤ 2932031007402 then (vtree_Copy.l0 k (List.replicate 0 z27) l0_5 (l0_5.length : Int) 0 a0_0 a0_1 a0_2 a0_3 (y150 ++ l0_4) l0_5) else (none)) else (none)) else (none)) = some (r1, r2, r3, r4, r5, r6) := by first | (rw [hy150]; with_reducible exact H) | (have H2_ := (Option.bind_some _ _).symm.trans H; rw [hy150]; with_reducible exact H2_) | (have H2_ := (Option.bind_some _ _).symm.trans H; with_reducible exact H2_) | with_reducible exact H | (rw [hy150]; exact H) | exact H
  have Ny150 := Aside0.mk hy150
  clear hy150
  by_cases c2 : y150.length + l0_4.length < 4398046511104
  · rw [if_pos c2] at H
    have LMc2 := Aside0.mk c2
    clear c2
    obtain ⟨y153, hy153⟩ : ∃ y_ : List (S99), y_ = (y150 ++ l0_4) := ⟨_, rfl⟩
    replace H : (if 0 ≤ (l0_5.length : Int) then (if ((l0_5.length : Int) : Int).toNat ≤ 2932031007402 then (vtree_Copy.l0 k (List.replicate 0 z27) l0_5 (l0_5.length : Int) 0 a0_0 a0_1 a0_2 a0_3 y153 l0_5) else (none)) else (none)) = some (r1, r2, r3, r4, r5, r6) := by first | (rw [hy153]; with_reducible exact H) | (have H2_ := (Option.bind_some _ _).symm.trans H; rw [hy153]; with_reducible exact H2_) | (have H2_ := (Option.bind_some _ _).symm.trans H; with_reducible exact H2_) | with_reducible exact H | (rw [hy153]; exact H) | exact H
    have Ny153 := Aside0.mk hy153
    clear hy153
    by_cases c3 : 0 ≤ (l0_5.length : Int)
    · rw [if_pos c3] at H
      have c3b0 := eq_true c3
      have c3b1 : decide (0 ≤ (l0_5.length : Int)) = true := decide_eq_true c3
      clear c3
      by_cases c4 : ((l0_5.length : Int) : Int).toNat ≤ 2932031007402
      · rw [if_pos c4] at H
        have c4b0 := eq_true c4
        have c4b1 : decide (((l0_5.length : Int) : Int).toNat ≤ 2932031007402) = true := decide_eq_true c4
        clear c4
        obtain ⟨y156, hy156⟩ : ∃ y_ : List (S27), y_ = (List.replicate 0 z27) := ⟨_, rfl⟩
        replace H : (vtree_Copy.l0 k y156 l0_5 (l0_5.length : Int) 0 a0_0 a0_1 a0_2 a0_3 y153 l0_5) = some (r1, r2, r3, r4, r5, r6) := by first | (rw [hy156]; with_reducible exact H) | (have H2_ := (Option.bind_some _ _).symm.trans H; rw [hy156]; with_reducible exact H2_) | (have H2_ := (Option.bind_some _ _).symm.trans H; with_reducible exact H2_) | with_reducible exact H | (rw [hy156]; exact H) | exact H
        have Ny156 := Aside0.mk hy156
        clear hy156
        have H' := Aside0.mk H
        clear H
        go_enter Try.func25, Try.ntmps25
        go_wp2_with (first | ((with_reducible refine gate_dst (N := 1) rfl ?_); refine box_event ?hg (N := 1) ?hd (cs := #[.int .i64 a0_0, .int .i64 a0_1, .string a0_2, .string a0_3, .slice A0_4 l0_4.length c0_4, .slice A0_5 l0_5.length c0_5]) (t := 27) ?hr ?_; (case hd => rfl); (case hg => rfl); (case hr => first | (go_simp; done) | (go_simp; rfl)); intro gb148 hg w5 hbox hb; have n0_ := Aside0.mk (below_step (by repeat (first | (with_reducible first | exact HB.out | apply below_alloc | apply pw_below_drewN | apply below_drew1) | exact HB.out)) hb); have n1_ := Aside0.mk (hbox); have n2_ := Aside0.mk ((by rw [hg]; exact (below_size (by repeat (first | (with_reducible first | exact HB.out | apply below_alloc | apply pw_below_drewN | apply below_drew1) | exact HB.out))) : w.heap.size ≤ gb148)); have n3_ := Aside0.mk ((by rw [hg]; exact (below_size (by repeat (first | (with_reducible first | exact HB.out | apply below_alloc | apply pw_below_drewN | apply below_drew1) | exact HB.out))) : w.heap.size ≤ gb148)); clear HB; have HB := n0_; have BK148 := n1_; have GW148 := n2_; have GE148 := n3_; clear n0_ n1_ n2_ n3_; clear hb hbox hg) | ((with_reducible refine gate_dst (N := 2) rfl ?_); refine box_event ?hg (N := 2) ?hd (cs := #[.int .i64 0, .int .i64 0, .string (⟨#[]⟩ : ByteArray), .string (⟨#[]⟩ : ByteArray), .slice none 0 0, .slice none 0 0]) (t := 27) ?hr ?_; (case hd => rfl); (case hg => rfl); (case hr => first | (go_simp; done) | (go_simp; rfl)); intro gb149 hg w6 hbox hb; have n0_ := Aside0.mk (blk_below (g := gb148) (o := .cells #[.int .i64 a0_0, .int .i64 a0_1, .string a0_2, .string a0_3, .slice A0_4 l0_4.length c0_4, .slice A0_5 l0_5.length c0_5] 27 (0, 0)) (by (with_reducible repeat (first | refine blk_drewN ?_ _ | refine blk_drew ?_ | refine blk_alloc ?_ _)); exact BK148.out) hb); have n1_ := Aside0.mk (below_step (by repeat (first | (with_reducible first | exact HB.out | apply below_alloc | apply pw_below_drewN | apply below_drew1 | refine below_set ?_ GE148.out) | exact HB.out)) hb); have n2_ := Aside0.mk (hbox); have n3_ := Aside0.mk ((by rw [hg]; exact (below_size (by repeat (first | (with_reducible first | exact HB.out | apply below_alloc | apply pw_below_drewN | apply below_drew1 | refine below_set ?_ GE148.out) | exact HB.out))) : w.heap.size ≤ gb149)); have n4_ := Aside0.mk ((by rw [hg]; exact (below_size (by repeat (first | (with_reducible first | exact HB.out | apply below_alloc | apply pw_below_drewN | apply below_drew1 | refine below_set ?_ GE148.out) | exact HB.out))) : w.heap.size ≤ gb149)); have n5_ := Aside0.mk ((by rw [hg]; exact Nat.ne_of_lt (blk_lt (g := gb148) (o := .cells #[.int .i64 a0_0, .int .i64 a0_1, .string a0_2, .string a0_3, .slice A0_4 l0_4.length c0_4, .slice A0_5 l0_5.length c0_5] 27 (0, 0)) (by (with_reducible repeat (first | refine blk_drewN ?_ _ | refine blk_drew ?_ | refine blk_alloc ?_ _)); exact BK148.out)) : gb148 ≠ gb149)); have n6_ := Aside0.mk ((by rw [hg]; exact Nat.ne_of_gt (blk_lt (g := gb148) (o := .cells #[.int .i64 a0_0, .int .i64 a0_1, .string a0_2, .string a0_3, .slice A0_4 l0_4.length c0_4, .slice A0_5 l0_5.length c0_5] 27 (0, 0)) (by (with_reducible repeat (first | refine blk_drewN ?_ _ | refine blk_drew ?_ | refine blk_alloc ?_ _)); exact BK148.out)) : gb149 ≠ gb148)); clear BK148; clear HB; have BK148 := n0_; have HB := n1_; have BK149 := n2_; have GW149 := n3_; have GE149 := n4_; have NB148_149 := n5_; have NB149_148 := n6_; clear n0_ n1_ n2_ n3_ n4_ n5_ n6_; clear hb hbox hg) | ((with_reducible refine gate_dst (N := 6) rfl ?_); refine Kd.R_lit k99 _ 99 ?hg (N := 6) ?hd (xs := ([] : List (S99))) (inner := []) (ok := fun _ => True) (okp := fun _ => True) ?hr ?hp (fun _ hk => hk) trivial (Below.refl _ _) (Nat.le_refl _) (by simp) ?_; (case hd => rfl); (case hg => rfl); (case hr => first | (go_simp; done) | (go_simp; rfl)); (case hp => exact (Reps.none _ _)); intro v151 w7 ho8 hb hg_ hnew_; clear hg_ hnew_; (first | rw [← Ny150.out] at ho8 | (simp only [Int.reduceToNat] at ho8; rw [← Ny150.out] at ho8)); have n0_ := Aside0.mk (Kd.R_lower ho8 (below_size (by repeat (first | (with_reducible first | exact HB.out | apply below_alloc | apply pw_below_drewN | apply below_drew1 | refine below_set ?_ GE148.out | refine below_set ?_ GE149.out) | exact HB.out)))); have n1_ := Aside0.mk (blk_below (g := gb148) (o := .cells #[.int .i64 a0_0, .int .i64 a0_1, .string a0_2, .string a0_3, .slice A0_4 l0_4.length c0_4, .slice A0_5 l0_5.length c0_5] 27 (0, 0)) (by (with_reducible repeat (first | refine blk_drewN ?_ _ | refine blk_drew ?_ | refine blk_alloc ?_ _)); exact BK148.out) hb); have n2_ := Aside0.mk (blk_below (g := gb149) (o := .cells #[.int .i64 0, .int .i64 0, .string (⟨#[]⟩ : ByteArray), .string (⟨#[]⟩ : ByteArray), .slice none 0 0, .slice none 0 0] 27 (0, 0)) (by (with_reducible repeat (first | refine blk_drewN ?_ _ | refine blk_drew ?_ | refine blk_alloc ?_ _)); exact BK149.out) hb); have n3_ := Aside0.mk (below_step (by repeat (first | (with_reducible first | exact HB.out | apply below_alloc | apply pw_below_drewN | apply below_drew1 | refine below_set ?_ GE148.out | refine below_set ?_ GE149.out) | exact HB.out)) hb); clear BK148; clear BK149; clear HB; have HO152 := n0_; have BK148 := n1_; have BK149 := n2_; have HB := n3_; clear n0_ n1_ n2_ n3_; clear hb ho8; have hnb9 := NB148_149.out; have hnc9 := NB149_148.out; have hcz10_0 : w7.cell? ⟨gb148, 0, none⟩ = some (.int .i64 a0_0) := (blk_cell BK148.out 0).trans rfl; have hcz10_1 : w7.cell? ⟨gb148, 1, none⟩ = some (.int .i64 a0_1) := (blk_cell BK148.out 1).trans rfl; have hcz10_2 : w7.cell? ⟨gb148, 2, none⟩ = some (.string a0_2) := (blk_cell BK148.out 2).trans rfl; have hcz10_3 : w7.cell? ⟨gb148, 3, none⟩ = some (.string a0_3) := (blk_cell BK148.out 3).trans rfl; have hcz10_4 : w7.cell? ⟨gb148, 4, none⟩ = some (.slice A0_4 l0_4.length c0_4) := (blk_cell BK148.out 4).trans rfl; have hcz10_5 : w7.cell? ⟨gb148, 5, none⟩ = some (.slice A0_5 l0_5.length c0_5) := (blk_cell BK148.out 5).trans rfl; have hfz10_0 := blk_frozen BK148.out 0; have hfz10_1 := blk_frozen BK148.out 1; have hfz10_2 := blk_frozen BK148.out 2; have hfz10_3 := blk_frozen BK148.out 3; have hfz10_4 := blk_frozen BK148.out 4; have hfz10_5 := blk_frozen BK148.out 5) | ((with_reducible refine gate_builtin (b := .append) (xs := #[.tmp 6, .tmp 8]) rfl ?_); at_builtin; refine Kd.R_append_rows k99 (w0 := w) w.heap.size rfl (.tmp 6) (.tmp 8) 24 99 (.agg #[(.string ⟨#[]⟩), (.string ⟨#[]⟩)]) 32 rfl Try.underlying24 info99 rfl (by decide) (by omega) v151 y150 l0_4 _ _ _ (fun _ => True) (fun _ => False) rfl rfl ?aO ?aR (fun _ _ h => h) (fun _ h => h.elim) ?aF ?aB ?aS ?aL ?_; (case aR => repeat (first | exact (Kd.C_below HR0_4.out HB.out) | (with_reducible refine Kd.C_alloc ?_ _) | (with_reducible refine Kd.C_drewN ?_ _) | (with_reducible refine Kd.C_drew ?_))); (case aB => exact (by repeat (first | (with_reducible first | exact HB.out | apply below_alloc | apply pw_below_drewN | apply below_drew1 | refine below_set ?_ GE148.out | refine below_set ?_ GE149.out) | exact HB.out))); (case aF => exact (fun _ _ => trivial)); (case aO => exact (by (with_reducible repeat (first | apply Kd.R_alloc | apply Kd.R_drewN | apply Kd.R_drew)); exact HO152.out)); (case aS => exact (below_size (by repeat (first | (with_reducible first | exact HB.out | apply below_alloc | apply pw_below_drewN | apply below_drew1 | refine below_set ?_ GE148.out | refine below_set ?_ GE149.out) | exact HB.out)))); (case aL => have := LMc2.out; omega); intro v154 w11 ho hb hg hat; rw [← Ny153.out] at ho; have n0_ := Aside0.mk (blk_grown (g := gb148) (o := .cells #[.int .i64 a0_0, .int .i64 a0_1, .string a0_2, .string a0_3, .slice A0_4 l0_4.length c0_4, .slice A0_5 l0_5.length c0_5] 27 (0, 0)) (by (with_reducible repeat (first | refine blk_drewN ?_ _ | refine blk_drew ?_ | refine blk_alloc ?_ _)); exact BK148.out) hg (Kd.R_ne HO152.out BK148.out (by decide))); have n1_ := Aside0.mk (blk_grown (g := gb149) (o := .cells #[.int .i64 0, .int .i64 0, .string (⟨#[]⟩ : ByteArray), .string (⟨#[]⟩ : ByteArray), .slice none 0 0, .slice none 0 0] 27 (0, 0)) (by (with_reducible repeat (first | refine blk_drewN ?_ _ | refine blk_drew ?_ | refine blk_alloc ?_ _)); exact BK149.out) hg (Kd.R_ne HO152.out BK149.out (by decide))); have n2_ := Aside0.mk (hb); have n3_ := Aside0.mk (ho); clear BK148; clear BK149; clear HB; clear HO152; have BK148 := n0_; have BK149 := n1_; have HB := n2_; have HO155 := n3_; clear n0_ n1_ n2_ n3_; clear ho hb hg hat; obtain ⟨Ao12, co12, eo12⟩ := Kd.R_slice HO155.out; subst eo12; have hcz13_0 : w11.cell? ⟨gb148, 0, none⟩ = some (.int .i64 a0_0) := (blk_cell BK148.out 0).trans rfl; have hcz13_1 : w11.cell? ⟨gb148, 1, none⟩ = some (.int .i64 a0_1) := (blk_cell BK148.out 1).trans rfl; have hcz13_2 : w11.cell? ⟨gb148, 2, none⟩ = some (.string a0_2) := (blk_cell BK148.out 2).trans rfl; have hcz13_3 : w11.cell? ⟨gb148, 3, none⟩ = some (.string a0_3) := (blk_cell BK148.out 3).trans rfl; have hcz13_4 : w11.cell? ⟨gb148, 4, none⟩ = some (.slice A0_4 l0_4.length c0_4) := (blk_cell BK148.out 4).trans rfl; have hcz13_5 : w11.cell? ⟨gb148, 5, none⟩ = some (.slice A0_5 l0_5.length c0_5) := (blk_cell BK148.out 5).trans rfl; have hfz13_0 := blk_frozen BK148.out 0; have hfz13_1 := blk_frozen BK148.out 1; have hfz13_2 := blk_frozen BK148.out 2; have hfz13_3 := blk_frozen BK148.out 3; have hfz13_4 := blk_frozen BK148.out 4; have hfz13_5 := blk_frozen BK148.out 5) | ((with_reducible refine gate_dst (N := 14) rfl ?_); refine Kd.R_make0 k27 _ 27 rfl (N := 14) rfl 25 _ _ rfl (l0_5.length : Int) rfl rfl Try.underlying25 (.agg #[(.int .i64 0), (.int .i64 0), (.string ⟨#[]⟩), (.string ⟨#[]⟩), (.slice none 0 0), (.slice none 0 0)]) 96 info27 rfl (by decide) z27 (ok := fun _ => True) trivial (of_decide_eq_true (by first | (with_reducible assumption) | assumption)) (Nat.le_trans (Nat.mul_le_mul_right _ (of_decide_eq_true (by first | (with_reducible assumption) | assumption) : ((l0_5.length : Int) : Int).toNat ≤ 2932031007402)) (by omega)) (Below.refl _ _) (Nat.le_refl _) ?_; intro v157 w14 ho15 hb hg_ hnew_; clear hg_ hnew_; (first | rw [← Ny156.out] at ho15 | (simp only [Int.reduceToNat] at ho15; rw [← Ny156.out] at ho15)); have n0_ := Aside0.mk (Kd.R_below (by (with_reducible repeat (first | apply Kd.R_alloc | apply Kd.R_drewN | apply Kd.R_drew)); exact (Kd.R_mono (Kd.R_far (p := ⟨gb148, 4, none⟩) (Kd.R_types HO155.out BK148.out (by decide)) (fun _ hk => hk.2) (.slice Ao12 y153.length co12)) (fun _ h_ => h_.1))) hb); have n1_ := Aside0.mk (Kd.R_lower (Kd.R_newB (Kd.R_newB (Kd.R_new' ho15 (Kd.R_lt (by (with_reducible repeat (first | apply Kd.R_alloc | apply Kd.R_drewN | apply Kd.R_drew)); exact (Kd.R_mono (Kd.R_far (p := ⟨gb148, 4, none⟩) (Kd.R_types HO155.out BK148.out (by decide)) (fun _ hk => hk.2) (.slice Ao12 y153.length co12)) (fun _ h_ => h_.1))))) (g := gb148) (o := .cells #[.int .i64 a0_0, .int .i64 a0_1, .string a0_2, .string a0_3, .slice Ao12 y153.length co12, .slice A0_5 l0_5.length c0_5] 27 (0, 0)) (by (with_reducible repeat (first | refine blk_drewN ?_ _ | refine blk_drew ?_ | refine blk_alloc ?_ _)); refine blk_put (cs := #[.int .i64 a0_0, .int .i64 a0_1, .string a0_2, .string a0_3, .slice A0_4 l0_4.length c0_4, .slice A0_5 l0_5.length c0_5]) ?_ 4 _ rfl; (with_reducible repeat (first | refine blk_drewN ?_ _ | refine blk_drew ?_ | refine blk_alloc ?_ _)); exact BK148.out)) (g := gb149) (o := .cells #[.int .i64 0, .int .i64 0, .string (⟨#[]⟩ : ByteArray), .string (⟨#[]⟩ : ByteArray), .slice none 0 0, .slice none 0 0] 27 (0, 0)) (by (with_reducible repeat (first | refine blk_drewN ?_ _ | refine blk_drew ?_ | refine blk_alloc ?_ _)); refine blk_far ?_ NB149_148.out _; (with_reducible repeat (first | refine blk_drewN ?_ _ | refine blk_drew ?_ | refine blk_alloc ?_ _)); exact BK149.out)) (below_size (by repeat (first | (with_reducible first | exact HB.out | apply below_alloc | apply pw_below_drewN | apply below_drew1 | refine below_set ?_ GE148.out | refine below_set ?_ GE149.out) | exact HB.out)))); have n2_ := Aside0.mk (blk_below (g := gb148) (o := .cells #[.int .i64 a0_0, .int .i64 a0_1, .string a0_2, .string a0_3, .slice Ao12 y153.length co12, .slice A0_5 l0_5.length c0_5] 27 (0, 0)) (by (with_reducible repeat (first | refine blk_drewN ?_ _ | refine blk_drew ?_ | refine blk_alloc ?_ _)); refine blk_put (cs := #[.int .i64 a0_0, .int .i64 a0_1, .string a0_2, .string a0_3, .slice A0_4 l0_4.length c0_4, .slice A0_5 l0_5.length c0_5]) ?_ 4 _ rfl; (with_reducible repeat (first | refine blk_drewN ?_ _ | refine blk_drew ?_ | refine blk_alloc ?_ _)); exact BK148.out) hb); have n3_ := Aside0.mk (blk_below (g := gb149) (o := .cells #[.int .i64 0, .int .i64 0, .string (⟨#[]⟩ : ByteArray), .string (⟨#[]⟩ : ByteArray), .slice none 0 0, .slice none 0 0] 27 (0, 0)) (by (with_reducible repeat (first | refine blk_drewN ?_ _ | refine blk_drew ?_ | refine blk_alloc ?_ _)); refine blk_far ?_ NB149_148.out _; (with_reducible repeat (first | refine blk_drewN ?_ _ | refine blk_drew ?_ | refine blk_alloc ?_ _)); exact BK149.out) hb); have n4_ := Aside0.mk (below_step (by repeat (first | (with_reducible first | exact HB.out | apply below_alloc | apply pw_below_drewN | apply below_drew1 | refine below_set ?_ GE148.out | refine below_set ?_ GE149.out) | exact HB.out)) hb); clear HO155; clear BK148; clear BK149; clear HB; have HO155 := n0_; have HO158 := n1_; have BK148 := n2_; have BK149 := n3_; have HB := n4_; clear n0_ n1_ n2_ n3_ n4_; clear hb ho15; have hcz16_0 : w14.cell? ⟨gb148, 0, none⟩ = some (.int .i64 a0_0) := (blk_cell BK148.out 0).trans rfl; have hcz16_1 : w14.cell? ⟨gb148, 1, none⟩ = some (.int .i64 a0_1) := (blk_cell BK148.out 1).trans rfl; have hcz16_2 : w14.cell? ⟨gb148, 2, none⟩ = some (.string a0_2) := (blk_cell BK148.out 2).trans rfl; have hcz16_3 : w14.cell? ⟨gb148, 3, none⟩ = some (.string a0_3) := (blk_cell BK148.out 3).trans rfl; have hcz16_4 : w14.cell? ⟨gb148, 4, none⟩ = some (.slice Ao12 y153.length co12) := (blk_cell BK148.out 4).trans rfl; have hcz16_5 : w14.cell? ⟨gb148, 5, none⟩ = some (.slice A0_5 l0_5.length c0_5) := (blk_cell BK148.out 5).trans rfl; have hfz16_0 := blk_frozen BK148.out 0; have hfz16_1 := blk_frozen BK148.out 1; have hfz16_2 := blk_frozen BK148.out 2; have hfz16_3 := blk_frozen BK148.out 3; have hfz16_4 := blk_frozen BK148.out 4; have hfz16_5 := blk_frozen BK148.out 5))
        go_loopg [3, 18] k (fun kq v3 v18 w' => ∃ (x3_1 : List (S27)) (x18_1 : Int), v18 = .int .i64 x18_1 ∧ Aside0 (vtree_Copy.l0 kq x3_1 l0_5 (l0_5.length : Int) x18_1 a0_0 a0_1 a0_2 a0_3 y153 l0_5 = some (r1, r2, r3, r4, r5, r6)) ∧ Aside0 (kq ≤ k) ∧ Aside0 (Kd.R k27 27 w' w.heap.size (fun k_ => some k_ ≠ ((.slice Ao12 y153.length co12) : Value).ownBlock ∧ k_ ≠ gb148 ∧ k_ ≠ gb149) v3 x3_1) ∧ Aside0 (Kd.R k99 99 w' w.heap.size (fun _ => True) (.slice Ao12 y153.length co12) y153) ∧ Aside0 (w'.heap[gb148]? = some (.cells #[.int .i64 a0_0, .int .i64 a0_1, .string a0_2, .string a0_3, (.slice Ao12 y153.length co12), (.slice A0_5 l0_5.length c0_5)] 27 (0, 0))) ∧ Aside0 (w'.heap[gb149]? = some (.cells #[.int .i64 0, .int .i64 0, .string (⟨#[]⟩ : ByteArray), .string (⟨#[]⟩ : ByteArray), (.slice none 0 0), (.slice none 0 0)] 27 (0, 0))) ∧ Aside0 (Below w.heap.size w w'))
        case atStart => exact ⟨(y156), (0), (by first | rfl | (simp; done) | (simp [*]; done)), H', ⟨Nat.le_refl _⟩, ⟨by (with_reducible repeat (first | apply Kd.R_alloc | apply Kd.R_drewN | apply Kd.R_drew)); exact Kd.R_mono HO158.out (fun _ hk => ⟨hk.1.1.2, ⟨hk.1.2, hk.2⟩⟩)⟩, ⟨by (with_reducible repeat (first | apply Kd.R_alloc | apply Kd.R_drewN | apply Kd.R_drew)); exact HO155.out⟩, ⟨by (with_reducible repeat (first | refine blk_drewN ?_ _ | refine blk_drew ?_ | refine blk_alloc ?_ _)); exact BK148.out⟩, ⟨by (with_reducible repeat (first | refine blk_drewN ?_ _ | refine blk_drew ?_ | refine blk_alloc ?_ _)); exact BK149.out⟩, ⟨by repeat (first | (with_reducible first | exact HB.out | apply below_alloc | apply pw_below_drewN | apply below_drew1 | refine below_set ?_ GE148.out | refine below_set ?_ GE149.out) | exact HB.out)⟩⟩
        case round =>
          clear H'
          try clear c2
          try clear p2
          try clear c3
          try clear c3b0
          try clear c3b1
          try clear c4
          try clear c4b0
          try clear c4b1
          try clear c9
          try clear hcz10_0
          try clear hcz10_1
          try clear hcz10_2
          try clear hcz10_3
          try clear hcz10_4
          try clear hcz10_5
          try clear hcz13_0
          try clear hcz13_1
          try clear hcz13_2
          try clear hcz13_3
          try clear hcz13_4
          try clear hcz13_5
          try clear hcz16_0
          try clear hcz16_1
          try clear hcz16_2
          try clear hcz16_3
          try clear hcz16_4
          try clear hcz16_5
          try clear hfz10_0
          try clear hfz10_1
          try clear hfz10_2
          try clear hfz10_3
          try clear hfz10_4
          try clear hfz10_5
          try clear hfz13_0
          try clear hfz13_1
          try clear hfz13_2
          try clear hfz13_3
          try clear hfz13_4
          try clear hfz13_5
          try clear hfz16_0
          try clear hfz16_1
          try clear hfz16_2
          try clear hfz16_3
          try clear hfz16_4
          try clear hfz16_5
          obtain ⟨x3_1, x18_1, rfl, HA, HK1, HO_3, HO_149004, BK148, BK149, HB⟩ := hrel
          cases gk with
          | zero => exact absurd HA.out (by simp [vtree_Copy.l0])
          | succ k1 =>
            have H := HA.out
            clear HA
            simp only [vtree_Copy.l0] at H
            by_cases c17 : x18_1 < (l0_5.length : Int)
            · rw [if_pos c17] at H
              have c17b0 : decide (x18_1 < (l0_5.length : Int)) = true := decide_eq_true c17
              clear c17
              by_cases c18 : 0 ≤ x18_1
              · rw [if_pos c18] at H
                have c18b0 : decide (0 ≤ x18_1) = true := decide_eq_true c18
                clear c18
                by_cases c19 : x18_1 < (l0_5.length : Int)
                · rw [if_pos c19] at H
                  have c19b0 : decide (x18_1 < (l0_5.length : Int)) = true := decide_eq_true c19
                  clear c19
                  replace H := Option.bind_eq_some_iff.mp H
                  obtain ⟨⟨t161, t162, t163, t164, t165, t168⟩, A200, H⟩ := H
                  replace H : (if x3_1.length < 1466015503701 then (vtree_Copy.l0 k1 (x3_1 ++ [(⟨(⟨t161, t162⟩ : S23), t163, t164, t165, t168⟩ : S27)]) l0_5 (l0_5.length : Int) (wrap64 (x18_1 + 1)) a0_0 a0_1 a0_2 a0_3 y153 l0_5) else (none)) = some (r1, r2, r3, r4, r5, r6) := H
                  have A20 := Aside0.mk A200
                  clear A200
                  by_cases c21 : x3_1.length < 1466015503701
                  · rw [if_pos c21] at H
                    have LMc21 := Aside0.mk c21
                    clear c21
                    obtain ⟨y171, hy171⟩ : ∃ y_ : List (S27), y_ = (x3_1 ++ [(⟨(⟨t161, t162⟩ : S23), t163, t164, t165, t168⟩ : S27)]) := ⟨_, rfl⟩
                    replace H : (vtree_Copy.l0 k1 y171 l0_5 (l0_5.length : Int) (wrap64 (x18_1 + 1)) a0_0 a0_1 a0_2 a0_3 y153 l0_5) = some (r1, r2, r3, r4, r5, r6) := by first | (rw [hy171]; with_reducible exact H) | (have H2_ := (Option.bind_some _ _).symm.trans H; rw [hy171]; with_reducible exact H2_) | (have H2_ := (Option.bind_some _ _).symm.trans H; with_reducible exact H2_) | with_reducible exact H | (rw [hy171]; exact H) | exact H
                    have Ny171 := Aside0.mk hy171
                    clear hy171
                    have H' := Aside0.mk H
                    clear H
                    have p159 : 0 ≤ (x18_1 : Int) := of_decide_eq_true (by first | (with_reducible assumption) | assumption)
                    have q159 : x18_1 < (l0_5.length : Int) := of_decide_eq_true (by first | (with_reducible assumption) | assumption)
                    obtain ⟨ad159, A159_4, c159_4, A159_5, c159_5, e159, hx159_0, hx159_1, hx159_2, hx159_3, hx159_4, hx159_5, hl159_4, hi159_4, hl159_5, hi159_5⟩ := at_T27 HR0_5.out x18_1 p159 q159
                    cases e159
                    replace hx159_0 := (HB.out.cell (World.block_lt_of_cell? w _ hx159_0)).trans hx159_0
                    replace hx159_1 := (HB.out.cell (World.block_lt_of_cell? w _ hx159_1)).trans hx159_1
                    replace hx159_2 := (HB.out.cell (World.block_lt_of_cell? w _ hx159_2)).trans hx159_2
                    replace hx159_3 := (HB.out.cell (World.block_lt_of_cell? w _ hx159_3)).trans hx159_3
                    replace hx159_4 := (HB.out.cell (World.block_lt_of_cell? w _ hx159_4)).trans hx159_4
                    replace hx159_5 := (HB.out.cell (World.block_lt_of_cell? w _ hx159_5)).trans hx159_5
                    have HR159_4 := Aside0.mk hi159_4
                    have HC159_4 := Aside0.mk hl159_4
                    clear hi159_4 hl159_4
                    have HR159_5 := Aside0.mk hi159_5
                    have HC159_5 := Aside0.mk hl159_5
                    clear hi159_5 hl159_5
                    replace p159 := eq_true p159
                    replace q159 := eq_true q159
                    go_wp2_with (first | ((with_reducible refine gate_dst (N := 5) rfl ?_); refine box_event ?hg (N := 5) ?hd (cs := #[.int .i64 0, .int .i64 0, .string (⟨#[]⟩ : ByteArray), .string (⟨#[]⟩ : ByteArray), .slice none 0 0, .slice none 0 0]) (t := 27) ?hr ?_; (case hd => rfl); (case hg => rfl); (case hr => first | (go_simp; done) | (go_simp; rfl)); intro gb160 hg w22 hbox hb; have n0_ := Aside0.mk (Kd.R_below (Kd.R_elderB (by (with_reducible repeat (first | apply Kd.R_alloc | apply Kd.R_drewN | apply Kd.R_drew)); exact HO_3.out) gb160 (Nat.le_of_eq hg.symm)) hb); have n1_ := Aside0.mk (Kd.R_below (by (with_reducible repeat (first | apply Kd.R_alloc | apply Kd.R_drewN | apply Kd.R_drew)); exact HO_149004.out) hb); have n2_ := Aside0.mk (blk_below (g := gb148) (o := .cells #[.int .i64 a0_0, .int .i64 a0_1, .string a0_2, .string a0_3, .slice Ao12 y153.length co12, .slice (some ad159) l0_5.length c0_5] 27 (0, 0)) (by (with_reducible repeat (first | refine blk_drewN ?_ _ | refine blk_drew ?_ | refine blk_alloc ?_ _)); exact BK148.out) hb); have n3_ := Aside0.mk (blk_below (g := gb149) (o := .cells #[.int .i64 0, .int .i64 0, .string (⟨#[]⟩ : ByteArray), .string (⟨#[]⟩ : ByteArray), .slice none 0 0, .slice none 0 0] 27 (0, 0)) (by (with_reducible repeat (first | refine blk_drewN ?_ _ | refine blk_drew ?_ | refine blk_alloc ?_ _)); exact BK149.out) hb); have n4_ := Aside0.mk (below_step (by repeat (first | (with_reducible first | exact HB.out | apply below_alloc | apply pw_below_drewN | apply below_drew1 | refine below_set ?_ GE148.out | refine below_set ?_ GE149.out) | exact HB.out)) hb); have n5_ := Aside0.mk (hbox); have n6_ := Aside0.mk ((by rw [hg]; exact (below_size (by repeat (first | (with_reducible first | exact HB.out | apply below_alloc | apply pw_below_drewN | apply below_drew1 | refine below_set ?_ GE148.out | refine below_set ?_ GE149.out) | exact HB.out))) : w.heap.size ≤ gb160)); have n7_ := Aside0.mk ((by rw [hg]; exact (below_size (by repeat (first | (with_reducible first | exact HB.out | apply below_alloc | apply pw_below_drewN | apply below_drew1 | refine below_set ?_ GE148.out | refine below_set ?_ GE149.out) | exact HB.out))) : w.heap.size ≤ gb160)); have n8_ := Aside0.mk ((by rw [hg]; exact Nat.ne_of_lt (blk_lt (g := gb148) (o := .cells #[.int .i64 a0_0, .int .i64 a0_1, .string a0_2, .string a0_3, .slice Ao12 y153.length co12, .slice (some ad159) l0_5.length c0_5] 27 (0, 0)) (by (with_reducible repeat (first | refine blk_drewN ?_ _ | refine blk_drew ?_ | refine blk_alloc ?_ _)); exact BK148.out)) : gb148 ≠ gb160)); have n9_ := Aside0.mk ((by rw [hg]; exact Nat.ne_of_gt (blk_lt (g := gb148) (o := .cells #[.int .i64 a0_0, .int .i64 a0_1, .string a0_2, .string a0_3, .slice Ao12 y153.length co12, .slice (some ad159) l0_5.length c0_5] 27 (0, 0)) (by (with_reducible repeat (first | refine blk_drewN ?_ _ | refine blk_drew ?_ | refine blk_alloc ?_ _)); exact BK148.out)) : gb160 ≠ gb148)); have n10_ := Aside0.mk ((by rw [hg]; exact Nat.ne_of_lt (blk_lt (g := gb149) (o := .cells #[.int .i64 0, .int .i64 0, .string (⟨#[]⟩ : ByteArray), .string (⟨#[]⟩ : ByteArray), .slice none 0 0, .slice none 0 0] 27 (0, 0)) (by (with_reducible repeat (first | refine blk_drewN ?_ _ | refine blk_drew ?_ | refine blk_alloc ?_ _)); exact BK149.out)) : gb149 ≠ gb160)); have n11_ := Aside0.mk ((by rw [hg]; exact Nat.ne_of_gt (blk_lt (g := gb149) (o := .cells #[.int .i64 0, .int .i64 0, .string (⟨#[]⟩ : ByteArray), .string (⟨#[]⟩ : ByteArray), .slice none 0 0, .slice none 0 0] 27 (0, 0)) (by (with_reducible repeat (first | refine blk_drewN ?_ _ | refine blk_drew ?_ | refine blk_alloc ?_ _)); exact BK149.out)) : gb160 ≠ gb149)); clear HO_3; clear HO_149004; clear BK148; clear BK149; clear HB; have HO_3 := n0_; have HO_149004 := n1_; have BK148 := n2_; have BK149 := n3_; have HB := n4_; have BK160 := n5_; have GW160 := n6_; have GE160 := n7_; have NB148_160 := n8_; have NB160_148 := n9_; have NB149_160 := n10_; have NB160_149 := n11_; clear n0_ n1_ n2_ n3_ n4_ n5_ n6_ n7_ n8_ n9_ n10_ n11_; clear hb hbox hg; have hnb23 := NB160_148.out; have hnc23 := NB148_160.out; have hnb24 := NB160_149.out; have hnc24 := NB149_160.out; have hcz25_0 : w22.cell? ⟨gb160, 0, none⟩ = some (.int .i64 0) := (blk_cell BK160.out 0).trans rfl; have hcz25_1 : w22.cell? ⟨gb160, 1, none⟩ = some (.int .i64 0) := (blk_cell BK160.out 1).trans rfl; have hcz25_2 : w22.cell? ⟨gb160, 2, none⟩ = some (.string (⟨#[]⟩ : ByteArray)) := (blk_cell BK160.out 2).trans rfl; have hcz25_3 : w22.cell? ⟨gb160, 3, none⟩ = some (.string (⟨#[]⟩ : ByteArray)) := (blk_cell BK160.out 3).trans rfl; have hcz25_4 : w22.cell? ⟨gb160, 4, none⟩ = some (.slice none 0 0) := (blk_cell BK160.out 4).trans rfl; have hcz25_5 : w22.cell? ⟨gb160, 5, none⟩ = some (.slice none 0 0) := (blk_cell BK160.out 5).trans rfl; have hfz25_0 := blk_frozen BK160.out 0; have hfz25_1 := blk_frozen BK160.out 1; have hfz25_2 := blk_frozen BK160.out 2; have hfz25_3 := blk_frozen BK160.out 3; have hfz25_4 := blk_frozen BK160.out 4; have hfz25_5 := blk_frozen BK160.out 5) | ((with_reducible refine gate_callee (f := 25) rfl ?_); refine goesL_ (some 24) rfl rfl Try.func25 (by kernel_rfl) rfl #[.agg #[.int .i64 ((rd_T27 l0_5 x18_1).f0.f0), .int .i64 ((rd_T27 l0_5 x18_1).f0.f1), .string ((rd_T27 l0_5 x18_1).f1), .string ((rd_T27 l0_5 x18_1).f2), .slice A159_4 ((rd_T27 l0_5 x18_1).f3).length c159_4, .slice A159_5 ((rd_T27 l0_5 x18_1).f4).length c159_5]] rfl (by (try simp only [List.map_toArray, List.map_cons, List.map_nil]); first | done | rfl | (simp only [List.length_drop, List.length_take]; rfl)) ?_; (with_reducible refine (ih k1 (by have := HK1.out; omega) ((rd_T27 l0_5 x18_1).f0.f0) ((rd_T27 l0_5 x18_1).f0.f1) ((rd_T27 l0_5 x18_1).f1) ((rd_T27 l0_5 x18_1).f2) _ _ ((rd_T27 l0_5 x18_1).f3) _ _ ((rd_T27 l0_5 x18_1).f4) t161 t162 t163 t164 t165 t168 _ ?side1 ?side2 ?side3 ?side4 A20.out).mono ?_); (case side1 => exact Kd.C_below HR159_4.out (by repeat (first | (with_reducible first | exact HB.out | apply below_alloc | apply pw_below_drewN | apply below_drew1 | refine below_set ?_ GE148.out | refine below_set ?_ GE149.out | refine below_set ?_ GE160.out) | exact HB.out))); (case side2 => exact HC159_4.out); (case side3 => exact Kd.C_below HR159_5.out (by repeat (first | (with_reducible first | exact HB.out | apply below_alloc | apply pw_below_drewN | apply below_drew1 | refine below_set ?_ GE148.out | refine below_set ?_ GE149.out | refine below_set ?_ GE160.out) | exact HB.out))); (case side4 => exact HC159_5.out); rintro e w26 ⟨v166, v169, rfl, ho0, ho1, hb⟩; refine ⟨_, rfl, ?_⟩; have n0_ := Aside0.mk (Kd.R_mono (Kd.R_told (Kd.R_told (Kd.R_old (by (with_reducible repeat (first | apply Kd.R_alloc | apply Kd.R_drewN | apply Kd.R_drew)); exact (Kd.R_mono (Kd.R_far (p := ⟨gb160, 5, none⟩) (Kd.R_far (p := ⟨gb160, 4, none⟩) (Kd.R_far (p := ⟨gb160, 3, none⟩) (Kd.R_far (p := ⟨gb160, 2, none⟩) (Kd.R_far (p := ⟨gb160, 1, none⟩) (Kd.R_far (p := ⟨gb160, 0, none⟩) (Kd.R_mono HO_3.out (fun k_ hk => (⟨hk, hk.2⟩ : _ ∧ k_ ≠ gb160))) (fun _ hk => hk.2) (.int .i64 ((rd_T27 l0_5 x18_1).f0.f0))) (fun _ hk => hk.2) (.int .i64 ((rd_T27 l0_5 x18_1).f0.f1))) (fun _ hk => hk.2) (.string ((rd_T27 l0_5 x18_1).f1))) (fun _ hk => hk.2) (.string ((rd_T27 l0_5 x18_1).f2))) (fun _ hk => hk.2) (.slice A159_4 ((rd_T27 l0_5 x18_1).f3).length c159_4)) (fun _ hk => hk.2) (.slice A159_5 ((rd_T27 l0_5 x18_1).f4).length c159_5)) (fun _ h_ => h_.1))) hb) (Kd.R_base ho0)) (Kd.R_base ho1)) (fun _ h_ => h_.1)); have n1_ := Aside0.mk (Kd.R_elder' (by (with_reducible repeat (first | apply Kd.R_alloc | apply Kd.R_drewN | apply Kd.R_drew)); exact (Kd.R_mono (Kd.R_far (p := ⟨gb160, 5, none⟩) (Kd.R_far (p := ⟨gb160, 4, none⟩) (Kd.R_far (p := ⟨gb160, 3, none⟩) (Kd.R_far (p := ⟨gb160, 2, none⟩) (Kd.R_far (p := ⟨gb160, 1, none⟩) (Kd.R_far (p := ⟨gb160, 0, none⟩) (Kd.R_types HO_149004.out BK160.out (by decide)) (fun _ hk => hk.2) (.int .i64 ((rd_T27 l0_5 x18_1).f0.f0))) (fun _ hk => hk.2) (.int .i64 ((rd_T27 l0_5 x18_1).f0.f1))) (fun _ hk => hk.2) (.string ((rd_T27 l0_5 x18_1).f1))) (fun _ hk => hk.2) (.string ((rd_T27 l0_5 x18_1).f2))) (fun _ hk => hk.2) (.slice A159_4 ((rd_T27 l0_5 x18_1).f3).length c159_4)) (fun _ hk => hk.2) (.slice A159_5 ((rd_T27 l0_5 x18_1).f4).length c159_5)) (fun _ h_ => h_.1))) (Kd.R_base ho0) hb); have n2_ := Aside0.mk (Kd.R_lower (Kd.R_new' ho0 (Kd.R_lt (by (with_reducible repeat (first | apply Kd.R_alloc | apply Kd.R_drewN | apply Kd.R_drew)); exact (Kd.R_mono (Kd.R_far (p := ⟨gb160, 5, none⟩) (Kd.R_far (p := ⟨gb160, 4, none⟩) (Kd.R_far (p := ⟨gb160, 3, none⟩) (Kd.R_far (p := ⟨gb160, 2, none⟩) (Kd.R_far (p := ⟨gb160, 1, none⟩) (Kd.R_far (p := ⟨gb160, 0, none⟩) (Kd.R_types HO_149004.out BK160.out (by decide)) (fun _ hk => hk.2) (.int .i64 ((rd_T27 l0_5 x18_1).f0.f0))) (fun _ hk => hk.2) (.int .i64 ((rd_T27 l0_5 x18_1).f0.f1))) (fun _ hk => hk.2) (.string ((rd_T27 l0_5 x18_1).f1))) (fun _ hk => hk.2) (.string ((rd_T27 l0_5 x18_1).f2))) (fun _ hk => hk.2) (.slice A159_4 ((rd_T27 l0_5 x18_1).f3).length c159_4)) (fun _ hk => hk.2) (.slice A159_5 ((rd_T27 l0_5 x18_1).f4).length c159_5)) (fun _ h_ => h_.1))))) (below_size (by repeat (first | (with_reducible first | exact HB.out | apply below_alloc | apply pw_below_drewN | apply below_drew1 | refine below_set ?_ GE148.out | refine below_set ?_ GE149.out | refine below_set ?_ GE160.out) | exact HB.out)))); have n3_ := Aside0.mk (Kd.R_lower (Kd.R_newB (Kd.R_newB (Kd.R_newB (Kd.R_new' (Kd.R_new' ho1 (Kd.R_lt (by (with_reducible repeat (first | apply Kd.R_alloc | apply Kd.R_drewN | apply Kd.R_drew)); exact (Kd.R_mono (Kd.R_far (p := ⟨gb160, 5, none⟩) (Kd.R_far (p := ⟨gb160, 4, none⟩) (Kd.R_far (p := ⟨gb160, 3, none⟩) (Kd.R_far (p := ⟨gb160, 2, none⟩) (Kd.R_far (p := ⟨gb160, 1, none⟩) (Kd.R_far (p := ⟨gb160, 0, none⟩) (Kd.R_mono HO_3.out (fun k_ hk => (⟨hk, hk.2⟩ : _ ∧ k_ ≠ gb160))) (fun _ hk => hk.2) (.int .i64 ((rd_T27 l0_5 x18_1).f0.f0))) (fun _ hk => hk.2) (.int .i64 ((rd_T27 l0_5 x18_1).f0.f1))) (fun _ hk => hk.2) (.string ((rd_T27 l0_5 x18_1).f1))) (fun _ hk => hk.2) (.string ((rd_T27 l0_5 x18_1).f2))) (fun _ hk => hk.2) (.slice A159_4 ((rd_T27 l0_5 x18_1).f3).length c159_4)) (fun _ hk => hk.2) (.slice A159_5 ((rd_T27 l0_5 x18_1).f4).length c159_5)) (fun _ h_ => h_.1))))) (Kd.R_lt (by (with_reducible repeat (first | apply Kd.R_alloc | apply Kd.R_drewN | apply Kd.R_drew)); exact (Kd.R_mono (Kd.R_far (p := ⟨gb160, 5, none⟩) (Kd.R_far (p := ⟨gb160, 4, none⟩) (Kd.R_far (p := ⟨gb160, 3, none⟩) (Kd.R_far (p := ⟨gb160, 2, none⟩) (Kd.R_far (p := ⟨gb160, 1, none⟩) (Kd.R_far (p := ⟨gb160, 0, none⟩) (Kd.R_types HO_149004.out BK160.out (by decide)) (fun _ hk => hk.2) (.int .i64 ((rd_T27 l0_5 x18_1).f0.f0))) (fun _ hk => hk.2) (.int .i64 ((rd_T27 l0_5 x18_1).f0.f1))) (fun _ hk => hk.2) (.string ((rd_T27 l0_5 x18_1).f1))) (fun _ hk => hk.2) (.string ((rd_T27 l0_5 x18_1).f2))) (fun _ hk => hk.2) (.slice A159_4 ((rd_T27 l0_5 x18_1).f3).length c159_4)) (fun _ hk => hk.2) (.slice A159_5 ((rd_T27 l0_5 x18_1).f4).length c159_5)) (fun _ h_ => h_.1))))) (g := gb148) (o := .cells #[.int .i64 a0_0, .int .i64 a0_1, .string a0_2, .string a0_3, .slice Ao12 y153.length co12, .slice (some ad159) l0_5.length c0_5] 27 (0, 0)) (by (with_reducible repeat (first | refine blk_drewN ?_ _ | refine blk_drew ?_ | refine blk_alloc ?_ _)); refine blk_far ?_ NB148_160.out _; (with_reducible repeat (first | refine blk_drewN ?_ _ | refine blk_drew ?_ | refine blk_alloc ?_ _)); refine blk_far ?_ NB148_160.out _; (with_reducible repeat (first | refine blk_drewN ?_ _ | refine blk_drew ?_ | refine blk_alloc ?_ _)); refine blk_far ?_ NB148_160.out _; (with_reducible repeat (first | refine blk_drewN ?_ _ | refine blk_drew ?_ | refine blk_alloc ?_ _)); refine blk_far ?_ NB148_160.out _; (with_reducible repeat (first | refine blk_drewN ?_ _ | refine blk_drew ?_ | refine blk_alloc ?_ _)); refine blk_far ?_ NB148_160.out _; (with_reducible repeat (first | refine blk_drewN ?_ _ | refine blk_drew ?_ | refine blk_alloc ?_ _)); refine blk_far ?_ NB148_160.out _; (with_reducible repeat (first | refine blk_drewN ?_ _ | refine blk_drew ?_ | refine blk_alloc ?_ _)); exact BK148.out)) (g := gb149) (o := .cells #[.int .i64 0, .int .i64 0, .string (⟨#[]⟩ : ByteArray), .string (⟨#[]⟩ : ByteArray), .slice none 0 0, .slice none 0 0] 27 (0, 0)) (by (with_reducible repeat (first | refine blk_drewN ?_ _ | refine blk_drew ?_ | refine blk_alloc ?_ _)); refine blk_far ?_ NB149_160.out _; (with_reducible repeat (first | refine blk_drewN ?_ _ | refine blk_drew ?_ | refine blk_alloc ?_ _)); refine blk_far ?_ NB149_160.out _; (with_reducible repeat (first | refine blk_drewN ?_ _ | refine blk_drew ?_ | refine blk_alloc ?_ _)); refine blk_far ?_ NB149_160.out _; (with_reducible repeat (first | refine blk_drewN ?_ _ | refine blk_drew ?_ | refine blk_alloc ?_ _)); refine blk_far ?_ NB149_160.out _; (with_reducible repeat (first | refine blk_drewN ?_ _ | refine blk_drew ?_ | refine blk_alloc ?_ _)); refine blk_far ?_ NB149_160.out _; (with_reducible repeat (first | refine blk_drewN ?_ _ | refine blk_drew ?_ | refine blk_alloc ?_ _)); refine blk_far ?_ NB149_160.out _; (with_reducible repeat (first | refine blk_drewN ?_ _ | refine blk_drew ?_ | refine blk_alloc ?_ _)); exact BK149.out)) (g := gb160) (o := .cells #[.int .i64 ((rd_T27 l0_5 x18_1).f0.f0), .int .i64 ((rd_T27 l0_5 x18_1).f0.f1), .string ((rd_T27 l0_5 x18_1).f1), .string ((rd_T27 l0_5 x18_1).f2), .slice A159_4 ((rd_T27 l0_5 x18_1).f3).length c159_4, .slice A159_5 ((rd_T27 l0_5 x18_1).f4).length c159_5] 27 (0, 0)) (by (with_reducible repeat (first | refine blk_drewN ?_ _ | refine blk_drew ?_ | refine blk_alloc ?_ _)); refine blk_put (cs := #[.int .i64 ((rd_T27 l0_5 x18_1).f0.f0), .int .i64 ((rd_T27 l0_5 x18_1).f0.f1), .string ((rd_T27 l0_5 x18_1).f1), .string ((rd_T27 l0_5 x18_1).f2), .slice A159_4 ((rd_T27 l0_5 x18_1).f3).length c159_4, .slice none 0 0]) ?_ 5 _ rfl; (with_reducible repeat (first | refine blk_drewN ?_ _ | refine blk_drew ?_ | refine blk_alloc ?_ _)); refine blk_put (cs := #[.int .i64 ((rd_T27 l0_5 x18_1).f0.f0), .int .i64 ((rd_T27 l0_5 x18_1).f0.f1), .string ((rd_T27 l0_5 x18_1).f1), .string ((rd_T27 l0_5 x18_1).f2), .slice none 0 0, .slice none 0 0]) ?_ 4 _ rfl; (with_reducible repeat (first | refine blk_drewN ?_ _ | refine blk_drew ?_ | refine blk_alloc ?_ _)); refine blk_put (cs := #[.int .i64 ((rd_T27 l0_5 x18_1).f0.f0), .int .i64 ((rd_T27 l0_5 x18_1).f0.f1), .string ((rd_T27 l0_5 x18_1).f1), .string (⟨#[]⟩ : ByteArray), .slice none 0 0, .slice none 0 0]) ?_ 3 _ rfl; (with_reducible repeat (first | refine blk_drewN ?_ _ | refine blk_drew ?_ | refine blk_alloc ?_ _)); refine blk_put (cs := #[.int .i64 ((rd_T27 l0_5 x18_1).f0.f0), .int .i64 ((rd_T27 l0_5 x18_1).f0.f1), .string (⟨#[]⟩ : ByteArray), .string (⟨#[]⟩ : ByteArray), .slice none 0 0, .slice none 0 0]) ?_ 2 _ rfl; (with_reducible repeat (first | refine blk_drewN ?_ _ | refine blk_drew ?_ | refine blk_alloc ?_ _)); refine blk_put (cs := #[.int .i64 ((rd_T27 l0_5 x18_1).f0.f0), .int .i64 0, .string (⟨#[]⟩ : ByteArray), .string (⟨#[]⟩ : ByteArray), .slice none 0 0, .slice none 0 0]) ?_ 1 _ rfl; (with_reducible repeat (first | refine blk_drewN ?_ _ | refine blk_drew ?_ | refine blk_alloc ?_ _)); refine blk_put (cs := #[.int .i64 0, .int .i64 0, .string (⟨#[]⟩ : ByteArray), .string (⟨#[]⟩ : ByteArray), .slice none 0 0, .slice none 0 0]) ?_ 0 _ rfl; (with_reducible repeat (first | refine blk_drewN ?_ _ | refine blk_drew ?_ | refine blk_alloc ?_ _)); exact BK160.out)) (below_size (by repeat (first | (with_reducible first | exact HB.out | apply below_alloc | apply pw_below_drewN | apply below_drew1 | refine below_set ?_ GE148.out | refine below_set ?_ GE149.out | refine below_set ?_ GE160.out) | exact HB.out)))); have n4_ := Aside0.mk (blk_below (g := gb148) (o := .cells #[.int .i64 a0_0, .int .i64 a0_1, .string a0_2, .string a0_3, .slice Ao12 y153.length co12, .slice (some ad159) l0_5.length c0_5] 27 (0, 0)) (by (with_reducible repeat (first | refine blk_drewN ?_ _ | refine blk_drew ?_ | refine blk_alloc ?_ _)); refine blk_far ?_ NB148_160.out _; (with_reducible repeat (first | refine blk_drewN ?_ _ | refine blk_drew ?_ | refine blk_alloc ?_ _)); refine blk_far ?_ NB148_160.out _; (with_reducible repeat (first | refine blk_drewN ?_ _ | refine blk_drew ?_ | refine blk_alloc ?_ _)); refine blk_far ?_ NB148_160.out _; (with_reducible repeat (first | refine blk_drewN ?_ _ | refine blk_drew ?_ | refine blk_alloc ?_ _)); refine blk_far ?_ NB148_160.out _; (with_reducible repeat (first | refine blk_drewN ?_ _ | refine blk_drew ?_ | refine blk_alloc ?_ _)); refine blk_far ?_ NB148_160.out _; (with_reducible repeat (first | refine blk_drewN ?_ _ | refine blk_drew ?_ | refine blk_alloc ?_ _)); refine blk_far ?_ NB148_160.out _; (with_reducible repeat (first | refine blk_drewN ?_ _ | refine blk_drew ?_ | refine blk_alloc ?_ _)); exact BK148.out) hb); have n5_ := Aside0.mk (blk_below (g := gb149) (o := .cells #[.int .i64 0, .int .i64 0, .string (⟨#[]⟩ : ByteArray), .string (⟨#[]⟩ : ByteArray), .slice none 0 0, .slice none 0 0] 27 (0, 0)) (by (with_reducible repeat (first | refine blk_drewN ?_ _ | refine blk_drew ?_ | refine blk_alloc ?_ _)); refine blk_far ?_ NB149_160.out _; (with_reducible repeat (first | refine blk_drewN ?_ _ | refine blk_drew ?_ | refine blk_alloc ?_ _)); refine blk_far ?_ NB149_160.out _; (with_reducible repeat (first | refine blk_drewN ?_ _ | refine blk_drew ?_ | refine blk_alloc ?_ _)); refine blk_far ?_ NB149_160.out _; (with_reducible repeat (first | refine blk_drewN ?_ _ | refine blk_drew ?_ | refine blk_alloc ?_ _)); refine blk_far ?_ NB149_160.out _; (with_reducible repeat (first | refine blk_drewN ?_ _ | refine blk_drew ?_ | refine blk_alloc ?_ _)); refine blk_far ?_ NB149_160.out _; (with_reducible repeat (first | refine blk_drewN ?_ _ | refine blk_drew ?_ | refine blk_alloc ?_ _)); refine blk_far ?_ NB149_160.out _; (with_reducible repeat (first | refine blk_drewN ?_ _ | refine blk_drew ?_ | refine blk_alloc ?_ _)); exact BK149.out) hb); have n6_ := Aside0.mk (blk_below (g := gb160) (o := .cells #[.int .i64 ((rd_T27 l0_5 x18_1).f0.f0), .int .i64 ((rd_T27 l0_5 x18_1).f0.f1), .string ((rd_T27 l0_5 x18_1).f1), .string ((rd_T27 l0_5 x18_1).f2), .slice A159_4 ((rd_T27 l0_5 x18_1).f3).length c159_4, .slice A159_5 ((rd_T27 l0_5 x18_1).f4).length c159_5] 27 (0, 0)) (by (with_reducible repeat (first | refine blk_drewN ?_ _ | refine blk_drew ?_ | refine blk_alloc ?_ _)); refine blk_put (cs := #[.int .i64 ((rd_T27 l0_5 x18_1).f0.f0), .int .i64 ((rd_T27 l0_5 x18_1).f0.f1), .string ((rd_T27 l0_5 x18_1).f1), .string ((rd_T27 l0_5 x18_1).f2), .slice A159_4 ((rd_T27 l0_5 x18_1).f3).length c159_4, .slice none 0 0]) ?_ 5 _ rfl; (with_reducible repeat (first | refine blk_drewN ?_ _ | refine blk_drew ?_ | refine blk_alloc ?_ _)); refine blk_put (cs := #[.int .i64 ((rd_T27 l0_5 x18_1).f0.f0), .int .i64 ((rd_T27 l0_5 x18_1).f0.f1), .string ((rd_T27 l0_5 x18_1).f1), .string ((rd_T27 l0_5 x18_1).f2), .slice none 0 0, .slice none 0 0]) ?_ 4 _ rfl; (with_reducible repeat (first | refine blk_drewN ?_ _ | refine blk_drew ?_ | refine blk_alloc ?_ _)); refine blk_put (cs := #[.int .i64 ((rd_T27 l0_5 x18_1).f0.f0), .int .i64 ((rd_T27 l0_5 x18_1).f0.f1), .string ((rd_T27 l0_5 x18_1).f1), .string (⟨#[]⟩ : ByteArray), .slice none 0 0, .slice none 0 0]) ?_ 3 _ rfl; (with_reducible repeat (first | refine blk_drewN ?_ _ | refine blk_drew ?_ | refine blk_alloc ?_ _)); refine blk_put (cs := #[.int .i64 ((rd_T27 l0_5 x18_1).f0.f0), .int .i64 ((rd_T27 l0_5 x18_1).f0.f1), .string (⟨#[]⟩ : ByteArray), .string (⟨#[]⟩ : ByteArray), .slice none 0 0, .slice none 0 0]) ?_ 2 _ rfl; (with_reducible repeat (first | refine blk_drewN ?_ _ | refine blk_drew ?_ | refine blk_alloc ?_ _)); refine blk_put (cs := #[.int .i64 ((rd_T27 l0_5 x18_1).f0.f0), .int .i64 0, .string (⟨#[]⟩ : ByteArray), .string (⟨#[]⟩ : ByteArray), .slice none 0 0, .slice none 0 0]) ?_ 1 _ rfl; (with_reducible repeat (first | refine blk_drewN ?_ _ | refine blk_drew ?_ | refine blk_alloc ?_ _)); refine blk_put (cs := #[.int .i64 0, .int .i64 0, .string (⟨#[]⟩ : ByteArray), .string (⟨#[]⟩ : ByteArray), .slice none 0 0, .slice none 0 0]) ?_ 0 _ rfl; (with_reducible repeat (first | refine blk_drewN ?_ _ | refine blk_drew ?_ | refine blk_alloc ?_ _)); exact BK160.out) hb); have n7_ := Aside0.mk (below_step (by repeat (first | (with_reducible first | exact HB.out | apply below_alloc | apply pw_below_drewN | apply below_drew1 | refine below_set ?_ GE148.out | refine below_set ?_ GE149.out | refine below_set ?_ GE160.out) | exact HB.out)) hb); clear HO_3; clear HO_149004; clear BK148; clear BK149; clear BK160; clear HB; have HO_3 := n0_; have HO_149004 := n1_; have HO167 := n2_; have HO170 := n3_; have BK148 := n4_; have BK149 := n5_; have BK160 := n6_; have HB := n7_; clear n0_ n1_ n2_ n3_ n4_ n5_ n6_ n7_; (try clear hb); (try clear hb2); (try clear hk); (try clear hi); (try clear ho0); (try clear ho1); obtain ⟨Ao28, co28, eo28⟩ := Kd.R_slice HO167.out; subst eo28; obtain ⟨Ao29, co29, eo29⟩ := Kd.R_slice HO170.out; subst eo29) | ((with_reducible refine gate_builtin (b := .append) (xs := #[.tmp 22, .tmp 25]) rfl ?_); at_builtin; refine Kd.R_append k27 (w0 := w) w.heap.size rfl (.tmp 22) (.tmp 25) 25 27 (.agg #[(.int .i64 0), (.int .i64 0), (.string ⟨#[]⟩), (.string ⟨#[]⟩), (.slice none 0 0), (.slice none 0 0)]) 96 rfl Try.underlying25 info27 rfl (by decide) (by omega) u3 x3_1 (⟨(⟨t161, t162⟩ : S23), t163, t164, t165, t168⟩ : S27) [.int .i64 t161, .int .i64 t162, .string t163, .string t164, .slice Ao28 t165.length co28, .slice Ao29 t168.length co29] (fun k_ => some k_ ≠ (.slice Ao12 y153.length co12 : Value).ownBlock ∧ k_ ≠ gb148 ∧ k_ ≠ gb149 ∧ k_ ≠ gb160) (fun k_ => ((fun k_ => some k_ ≠ (.slice Ao12 y153.length co12 : Value).ownBlock ∧ k_ ≠ gb148 ∧ k_ ≠ gb149 ∧ k_ ≠ gb160)) k_ ∧ some k_ ≠ (u3 : Value).ownBlock) rfl rfl ?aP (fun _ hk => hk) ?aF ?aO ?aB ?aS ?aL ?_; (case aP => exact k27_mkM _ _ _ (⟨(⟨t161, t162⟩ : S23), t163, t164, t165, t168⟩ : S27) (Kd.R_mono (Kd.R_types (Kd.R_types (Kd.R_types (Kd.R_apart' (HO167.out) (Kd.R_typed HO_3.out) (by decide)) BK148.out (by decide)) BK149.out (by decide)) BK160.out (by decide)) (fun k_ hk => ⟨⟨hk.1.1.1.1.2, ⟨hk.1.1.2, ⟨hk.1.2, hk.2⟩⟩⟩, hk.1.1.1.2⟩)) (Kd.R_mono (HO170.out) (fun k_ hk => ⟨⟨hk.1.1.1.2, ⟨hk.1.1.2, ⟨hk.1.2, hk.2⟩⟩⟩, hk.1.1.1.1.2⟩))); (case aB => exact (by repeat (first | (with_reducible first | exact HB.out | apply below_alloc | apply pw_below_drewN | apply below_drew1 | refine below_set ?_ GE148.out | refine below_set ?_ GE149.out | refine below_set ?_ GE160.out) | exact HB.out))); (case aF => exact (fun k_ hk => ⟨Kd.fresh' (Kd.R_lt (by (with_reducible repeat (first | apply Kd.R_alloc | apply Kd.R_drewN | apply Kd.R_drew)); exact HO_149004.out)) k_ hk, Kd.freshB (g := gb148) (o := .cells #[.int .i64 a0_0, .int .i64 a0_1, .string a0_2, .string a0_3, .slice Ao12 y153.length co12, .slice (some ad159) l0_5.length c0_5] 27 (0, 0)) (by (with_reducible repeat (first | refine blk_drewN ?_ _ | refine blk_drew ?_ | refine blk_alloc ?_ _)); exact BK148.out) k_ hk, Kd.freshB (g := gb149) (o := .cells #[.int .i64 0, .int .i64 0, .string (⟨#[]⟩ : ByteArray), .string (⟨#[]⟩ : ByteArray), .slice none 0 0, .slice none 0 0] 27 (0, 0)) (by (with_reducible repeat (first | refine blk_drewN ?_ _ | refine blk_drew ?_ | refine blk_alloc ?_ _)); exact BK149.out) k_ hk, Kd.freshB (g := gb160) (o := .cells #[.int .i64 ((rd_T27 l0_5 x18_1).f0.f0), .int .i64 ((rd_T27 l0_5 x18_1).f0.f1), .string ((rd_T27 l0_5 x18_1).f1), .string ((rd_T27 l0_5 x18_1).f2), .slice A159_4 ((rd_T27 l0_5 x18_1).f3).length c159_4, .slice A159_5 ((rd_T27 l0_5 x18_1).f4).length c159_5] 27 (0, 0)) (by (with_reducible repeat (first | refine blk_drewN ?_ _ | refine blk_drew ?_ | refine blk_alloc ?_ _)); exact BK160.out) k_ hk⟩)); (case aO => exact (by (with_reducible repeat (first | apply Kd.R_alloc | apply Kd.R_drewN | apply Kd.R_drew)); exact Kd.R_mono HO_3.out (fun _ hk => ⟨hk.1.1.1.1, ⟨hk.1.1.1.2.1, ⟨hk.1.1.1.2.2, hk.1.1.2⟩⟩⟩))); (case aS => exact (below_size (by repeat (first | (with_reducible first | exact HB.out | apply below_alloc | apply pw_below_drewN | apply below_drew1 | refine below_set ?_ GE148.out | refine below_set ?_ GE149.out | refine below_set ?_ GE160.out) | exact HB.out)))); (case aL => have := LMc21.out; omega); intro v172 w27 ho hb hg hat; rw [← Ny171.out] at ho; have n0_ := Aside0.mk (Kd.R_over' (by (with_reducible repeat (first | apply Kd.R_alloc | apply Kd.R_drewN | apply Kd.R_drew)); exact HO_149004.out) (Kd.R_typed (by (with_reducible repeat (first | apply Kd.R_alloc | apply Kd.R_drewN | apply Kd.R_drew)); exact HO_3.out)) (by decide) hg); have n1_ := Aside0.mk (blk_grown (g := gb148) (o := .cells #[.int .i64 a0_0, .int .i64 a0_1, .string a0_2, .string a0_3, .slice Ao12 y153.length co12, .slice (some ad159) l0_5.length c0_5] 27 (0, 0)) (by (with_reducible repeat (first | refine blk_drewN ?_ _ | refine blk_drew ?_ | refine blk_alloc ?_ _)); exact BK148.out) hg (Kd.R_away HO_3.out (fun _ hk => hk.1.1.1.2.1))); have n2_ := Aside0.mk (blk_grown (g := gb149) (o := .cells #[.int .i64 0, .int .i64 0, .string (⟨#[]⟩ : ByteArray), .string (⟨#[]⟩ : ByteArray), .slice none 0 0, .slice none 0 0] 27 (0, 0)) (by (with_reducible repeat (first | refine blk_drewN ?_ _ | refine blk_drew ?_ | refine blk_alloc ?_ _)); exact BK149.out) hg (Kd.R_away HO_3.out (fun _ hk => hk.1.1.1.2.2))); have n3_ := Aside0.mk (blk_grown (g := gb160) (o := .cells #[.int .i64 ((rd_T27 l0_5 x18_1).f0.f0), .int .i64 ((rd_T27 l0_5 x18_1).f0.f1), .string ((rd_T27 l0_5 x18_1).f1), .string ((rd_T27 l0_5 x18_1).f2), .slice A159_4 ((rd_T27 l0_5 x18_1).f3).length c159_4, .slice A159_5 ((rd_T27 l0_5 x18_1).f4).length c159_5] 27 (0, 0)) (by (with_reducible repeat (first | refine blk_drewN ?_ _ | refine blk_drew ?_ | refine blk_alloc ?_ _)); exact BK160.out) hg (Kd.R_away HO_3.out (fun _ hk => hk.1.1.2))); have n4_ := Aside0.mk (hb); have n5_ := Aside0.mk (ho); clear HO_149004; clear BK148; clear BK149; clear BK160; clear HB; clear HO_3; clear HO167; clear HO170; have HO_149004 := n0_; have BK148 := n1_; have BK149 := n2_; have BK160 := n3_; have HB := n4_; have HO173 := n5_; clear n0_ n1_ n2_ n3_ n4_ n5_; clear ho hb hg hat))
                    go_roundg k1
                    case measure => have := HK1.out; omega
                    case rel => exact ⟨(y171), (wrap64 (x18_1 + 1)), (by first | rfl | (simp; done) | (simp [*]; done)), H', ⟨by have := HK1.out; omega⟩, ⟨by (with_reducible repeat (first | apply Kd.R_alloc | apply Kd.R_drewN | apply Kd.R_drew)); exact Kd.R_mono HO173.out (fun _ hk => ⟨hk.1, ⟨hk.2.1, hk.2.2.1⟩⟩)⟩, ⟨by (with_reducible repeat (first | apply Kd.R_alloc | apply Kd.R_drewN | apply Kd.R_drew)); exact Kd.R_mono HO_149004.out (fun _ hk => trivial)⟩, ⟨by (with_reducible repeat (first | refine blk_drewN ?_ _ | refine blk_drew ?_ | refine blk_alloc ?_ _)); exact BK148.out⟩, ⟨by (with_reducible repeat (first | refine blk_drewN ?_ _ | refine blk_drew ?_ | refine blk_alloc ?_ _)); exact BK149.out⟩, ⟨by repeat (first | (with_reducible first | exact HB.out | apply below_alloc | apply pw_below_drewN | apply below_drew1 | refine below_set ?_ GE148.out | refine below_set ?_ GE149.out | refine below_set ?_ GE160.out) | exact HB.out)⟩⟩
                  · rw [if_neg c21] at H
                    exact absurd H (by simp)
                · rw [if_neg c19] at H
                  exact absurd H (by simp)
              · rw [if_neg c18] at H
                exact absurd H (by simp)
            · rw [if_neg c17] at H
              have c17b0 : decide (x18_1 < (l0_5.length : Int)) = false := decide_eq_false c17
              clear c17
              simp only [Option.some.injEq, Prod.mk.injEq] at H
              obtain ⟨rfl, rfl, rfl, rfl, rfl, rfl⟩ := H
              obtain ⟨Ao30, co30, eo30⟩ := Kd.R_slice HO_3.out
              subst eo30
              have hnb31 := NB148_149.out
              have hnc31 := NB149_148.out
              have hcz32_0 : wr.cell? ⟨gb148, 0, none⟩ = some (.int .i64 a0_0) := (blk_cell BK148.out 0).trans rfl
              have hcz32_1 : wr.cell? ⟨gb148, 1, none⟩ = some (.int .i64 a0_1) := (blk_cell BK148.out 1).trans rfl
              have hcz32_2 : wr.cell? ⟨gb148, 2, none⟩ = some (.string a0_2) := (blk_cell BK148.out 2).trans rfl
              have hcz32_3 : wr.cell? ⟨gb148, 3, none⟩ = some (.string a0_3) := (blk_cell BK148.out 3).trans rfl
              have hcz32_4 : wr.cell? ⟨gb148, 4, none⟩ = some (.slice Ao12 y153.length co12) := (blk_cell BK148.out 4).trans rfl
              have hcz32_5 : wr.cell? ⟨gb148, 5, none⟩ = some (.slice A0_5 l0_5.length c0_5) := (blk_cell BK148.out 5).trans rfl
              have hfz32_0 := blk_frozen BK148.out 0
              have hfz32_1 := blk_frozen BK148.out 1
              have hfz32_2 := blk_frozen BK148.out 2
              have hfz32_3 := blk_frozen BK148.out 3
              have hfz32_4 := blk_frozen BK148.out 4
              have hfz32_5 := blk_frozen BK148.out 5
              have hcz33_0 : wr.cell? ⟨gb149, 0, none⟩ = some (.int .i64 0) := (blk_cell BK149.out 0).trans rfl
              have hcz33_1 : wr.cell? ⟨gb149, 1, none⟩ = some (.int .i64 0) := (blk_cell BK149.out 1).trans rfl
              have hcz33_2 : wr.cell? ⟨gb149, 2, none⟩ = some (.string (⟨#[]⟩ : ByteArray)) := (blk_cell BK149.out 2).trans rfl
              have hcz33_3 : wr.cell? ⟨gb149, 3, none⟩ = some (.string (⟨#[]⟩ : ByteArray)) := (blk_cell BK149.out 3).trans rfl
              have hcz33_4 : wr.cell? ⟨gb149, 4, none⟩ = some (.slice none 0 0) := (blk_cell BK149.out 4).trans rfl
              have hcz33_5 : wr.cell? ⟨gb149, 5, none⟩ = some (.slice none 0 0) := (blk_cell BK149.out 5).trans rfl
              have hfz33_0 := blk_frozen BK149.out 0
              have hfz33_1 := blk_frozen BK149.out 1
              have hfz33_2 := blk_frozen BK149.out 2
              have hfz33_3 := blk_frozen BK149.out 3
              have hfz33_4 := blk_frozen BK149.out 4
              have hfz33_5 := blk_frozen BK149.out 5
              go_wp2
              refine bodyPost_ret (results_cell_row rfl _ _ gb149 27 #[.int .i64 a0_0, .int .i64 a0_1, .string a0_2, .string a0_3, .slice Ao12 y153.length co12, .slice Ao30 x3_1.length co30] (0, 0) _ rfl (by (with_reducible repeat (first | refine blk_drewN ?_ _ | refine blk_drew ?_ | refine blk_alloc ?_ _)); refine blk_put (cs := #[.int .i64 a0_0, .int .i64 a0_1, .string a0_2, .string a0_3, .slice Ao12 y153.length co12, .slice none 0 0]) ?_ 5 _ rfl; (with_reducible repeat (first | refine blk_drewN ?_ _ | refine blk_drew ?_ | refine blk_alloc ?_ _)); refine blk_put (cs := #[.int .i64 a0_0, .int .i64 a0_1, .string a0_2, .string a0_3, .slice none 0 0, .slice none 0 0]) ?_ 4 _ rfl; (with_reducible repeat (first | refine blk_drewN ?_ _ | refine blk_drew ?_ | refine blk_alloc ?_ _)); refine blk_put (cs := #[.int .i64 a0_0, .int .i64 a0_1, .string a0_2, .string (⟨#[]⟩ : ByteArray), .slice none 0 0, .slice none 0 0]) ?_ 3 _ rfl; (with_reducible repeat (first | refine blk_drewN ?_ _ | refine blk_drew ?_ | refine blk_alloc ?_ _)); refine blk_put (cs := #[.int .i64 a0_0, .int .i64 a0_1, .string (⟨#[]⟩ : ByteArray), .string (⟨#[]⟩ : ByteArray), .slice none 0 0, .slice none 0 0]) ?_ 2 _ rfl; (with_reducible repeat (first | refine blk_drewN ?_ _ | refine blk_drew ?_ | refine blk_alloc ?_ _)); refine blk_put (cs := #[.int .i64 a0_0, .int .i64 0, .string (⟨#[]⟩ : ByteArray), .string (⟨#[]⟩ : ByteArray), .slice none 0 0, .slice none 0 0]) ?_ 1 _ rfl; (with_reducible repeat (first | refine blk_drewN ?_ _ | refine blk_drew ?_ | refine blk_alloc ?_ _)); refine blk_put (cs := #[.int .i64 0, .int .i64 0, .string (⟨#[]⟩ : ByteArray), .string (⟨#[]⟩ : ByteArray), .slice none 0 0, .slice none 0 0]) ?_ 0 _ rfl; (with_reducible repeat (first | refine blk_drewN ?_ _ | refine blk_drew ?_ | refine blk_alloc ?_ _)); refine blk_far ?_ NB149_148.out _; (with_reducible repeat (first | refine blk_drewN ?_ _ | refine blk_drew ?_ | refine blk_alloc ?_ _)); exact BK149.out) Try.underlying27 rfl (by kernel_rfl)) rfl ?_
              exact ⟨_, _, by first | rfl | (simp [errW_none, errW_some] <;> rfl) | (simp [*, errW_none, errW_some] <;> rfl), by (with_reducible repeat (first | apply Kd.R_alloc | apply Kd.R_drewN | apply Kd.R_drew)); exact Kd.R_mono (Kd.R_far (p := ⟨gb149, 5, none⟩) (Kd.R_far (p := ⟨gb149, 4, none⟩) (Kd.R_far (p := ⟨gb149, 3, none⟩) (Kd.R_far (p := ⟨gb149, 2, none⟩) (Kd.R_far (p := ⟨gb149, 1, none⟩) (Kd.R_far (p := ⟨gb149, 0, none⟩) (Kd.R_far (p := ⟨gb148, 5, none⟩) (Kd.R_types (Kd.R_types HO_149004.out BK148.out (by decide)) BK149.out (by decide)) (fun _ hk => hk.1.2) (.slice Ao30 x3_1.length co30)) (fun _ hk => hk.2) (.int .i64 a0_0)) (fun _ hk => hk.2) (.int .i64 a0_1)) (fun _ hk => hk.2) (.string a0_2)) (fun _ hk => hk.2) (.string a0_3)) (fun _ hk => hk.2) (.slice Ao12 y153.length co12)) (fun _ hk => hk.2) (.slice Ao30 x3_1.length co30)) (fun _ hk => trivial), by (with_reducible repeat (first | apply Kd.R_alloc | apply Kd.R_drewN | apply Kd.R_drew)); exact Kd.R_mono (Kd.R_far (p := ⟨gb149, 5, none⟩) (Kd.R_far (p := ⟨gb149, 4, none⟩) (Kd.R_far (p := ⟨gb149, 3, none⟩) (Kd.R_far (p := ⟨gb149, 2, none⟩) (Kd.R_far (p := ⟨gb149, 1, none⟩) (Kd.R_far (p := ⟨gb149, 0, none⟩) (Kd.R_far (p := ⟨gb148, 5, none⟩) (Kd.R_mono (Kd.R_mono HO_3.out (fun k_ hk => (⟨hk, hk.2.1⟩ : _ ∧ k_ ≠ gb148))) (fun k_ hk => (⟨hk, hk.1.2.2⟩ : _ ∧ k_ ≠ gb149))) (fun _ hk => hk.1.2) (.slice Ao30 x3_1.length co30)) (fun _ hk => hk.2) (.int .i64 a0_0)) (fun _ hk => hk.2) (.int .i64 a0_1)) (fun _ hk => hk.2) (.string a0_2)) (fun _ hk => hk.2) (.string a0_3)) (fun _ hk => hk.2) (.slice Ao12 y153.length co12)) (fun _ hk => hk.2) (.slice Ao30 x3_1.length co30)) (fun _ hk => hk.1.1.1), by repeat (first | (with_reducible first | exact HB.out | apply below_alloc | apply pw_below_drewN | apply below_drew1 | refine below_set ?_ GE148.out | refine below_set ?_ GE149.out) | exact HB.out)⟩
      · rw [if_neg c4] at H
        exact absurd H (by simp)
    · rw [if_neg c3] at H
      exact absurd H (by simp)
  · rw [if_neg c2] at H
    exact absurd H (by simp)
end Go.Proofs.Ytnkbgimihikhoaa.PVt
namespace Go.Proofs.Ytnkbgimihikhoaa.PVt
open Go.RowKit Go.Proofs.YtnkbgimihikhoaaW.PrintWords Go.Proofs.YtnkbgimihikhoaaW.PrintLast Go.Proofs.YtnkbgimihikhoaaW.PrintMore
set_option linter.unusedVariables false
set_option linter.unusedSimpArgs false
/-- The cells of a node that may be written over: rows of blocks from b on, below t, at most so deep. -/
def Sp (b t : Nat) (w : World) : Nat → List Value → Prop
  | 0, _ => False
  | n + 1, cs => ∃ (i0 i1 : Int) (s0 s1 : ByteArray) (A4 : Option Addr) (l4 c4 : Nat) (A5 : Option Addr) (l5 c5 : Nat), cs = [.int .i64 i0, .int .i64 i1, .string s0, .string s1, .slice A4 l4 c4, .slice A5 l5 c5] ∧ l4 ≤ 9223372036854775807 ∧ l5 ≤ 9223372036854775807 ∧
    (0 < l4 → ∃ g C, A4 = some ⟨g, 0, none⟩ ∧ b ≤ g ∧ g < t ∧ w.heap[g]? = some (.cells C 99 (0, 0)) ∧ l4 * 2 ≤ C.size) ∧
    (0 < l5 → ∃ g C, A5 = some ⟨g, 0, none⟩ ∧ b ≤ g ∧ g < t ∧ w.heap[g]? = some (.cells C 27 (0, 0)) ∧ ∀ j, j < l5 → ∃ ds : List Value, ds.length = 6 ∧ (∀ i u, ds[i]? = some u → C[j * 6 + i]? = some u) ∧ Sp b t w n ds)
theorem Sp.pos {b t : Nat} {w : World} {n : Nat} {cs : List Value} (h : Sp b t w n cs) : ∃ m, n = m + 1 := by
  cases n with
  | zero => exact h.elim
  | succ m => exact ⟨m, rfl⟩
def leaf27 : List Value := [.int .i64 0, .int .i64 0, .string ⟨#[115, 112, 111, 105, 108, 116]⟩, .string ⟨#[]⟩, .slice none 0 0, .slice none 0 0]
theorem Sp.leaf (b t : Nat) (w : World) (n : Nat) : Sp b t w (n + 1) leaf27 := ⟨_, _, _, _, _, _, _, _, _, _, rfl, by omega, by omega, fun h => absurd h (by omega), fun h => absurd h (by omega)⟩
/-- What is there stays. -/
theorem Sp.step {b t : Nat} {w w1 : World} (hk : ∀ k, b ≤ k → k < w.heap.size → w1.heap[k]? = w.heap[k]?) : ∀ (n : Nat) (cs : List Value), Sp b t w n cs → Sp b t w1 n cs
  | 0, _, h => h
  | n + 1, cs, ⟨i0, i1, s0, s1, A4, l4, c4, A5, l5, c5, e, h1, h2, h3, h4⟩ => by
    refine ⟨i0, i1, s0, s1, A4, l4, c4, A5, l5, c5, e, h1, h2, fun h0 => ?_, fun h0 => ?_⟩
    · obtain ⟨g, C, e1, e2, e3, e4, e5⟩ := h3 h0
      exact ⟨g, C, e1, e2, e3, (hk g e2 (Array.getElem?_eq_some_iff.1 e4).1).trans e4, e5⟩
    · obtain ⟨g, C, e1, e2, e3, e4, e5⟩ := h4 h0
      refine ⟨g, C, e1, e2, e3, (hk g e2 (Array.getElem?_eq_some_iff.1 e4).1).trans e4, fun j hj => ?_⟩
      obtain ⟨ds, f1, f2, f3⟩ := e5 j hj
      exact ⟨ds, f1, f2, Sp.step hk n ds f3⟩
theorem Sp.more {b t : Nat} {w : World} : ∀ (n : Nat) (cs : List Value), Sp b t w n cs → Sp b t w (n + 1) cs
  | 0, _, h => h.elim
  | n + 1, cs, ⟨i0, i1, s0, s1, A4, l4, c4, A5, l5, c5, e, h1, h2, h3, h4⟩ => by
    refine ⟨i0, i1, s0, s1, A4, l4, c4, A5, l5, c5, e, h1, h2, h3, fun h0 => ?_⟩
    obtain ⟨g, C, e1, e2, e3, e4, e5⟩ := h4 h0
    refine ⟨g, C, e1, e2, e3, e4, fun j hj => ?_⟩
    obtain ⟨ds, f1, f2, f3⟩ := e5 j hj
    exact ⟨ds, f1, f2, Sp.more n ds f3⟩
theorem Sp.upto {b t : Nat} {w : World} {n m : Nat} {cs : List Value} (h : Sp b t w n cs) (hm : n ≤ m) : Sp b t w m cs := by
  obtain ⟨d, rfl⟩ := Nat.le.dest hm
  clear hm
  induction d with
  | zero => exact h
  | succ d ih => exact Sp.more _ _ ih
/-- A block of attributes is written. -/
theorem Sp.attr {b t : Nat} {w w1 : World} {g : Nat} {C C' : Array Value} (ho : ∀ k, k ≠ g → w1.heap[k]? = w.heap[k]?) (hg : w.heap[g]? = some (.cells C 99 (0, 0))) (hg' : w1.heap[g]? = some (.cells C' 99 (0, 0))) (hs : C'.size = C.size) : ∀ (n : Nat) (cs : List Value), Sp b t w n cs → Sp b t w1 n cs
  | 0, _, h => h
  | n + 1, cs, ⟨i0, i1, s0, s1, A4, l4, c4, A5, l5, c5, e, h1, h2, h3, h4⟩ => by
    refine ⟨i0, i1, s0, s1, A4, l4, c4, A5, l5, c5, e, h1, h2, fun h0 => ?_, fun h0 => ?_⟩
    · obtain ⟨q, D, e1, e2, e3, e4, e5⟩ := h3 h0
      by_cases hq : q = g
      · subst hq
        rw [hg] at e4
        injection e4 with e4
        injection e4 with e4
        subst e4
        exact ⟨q, C', e1, e2, e3, hg', by rw [hs]; exact e5⟩
      · exact ⟨q, D, e1, e2, e3, (ho q hq).trans e4, e5⟩
    · obtain ⟨q, D, e1, e2, e3, e4, e5⟩ := h4 h0
      have hq : q ≠ g := by
        rintro rfl
        rw [hg] at e4
        injection e4 with e4
        injection e4 with _ e4
        exact absurd e4 (by decide)
      refine ⟨q, D, e1, e2, e3, (ho q hq).trans e4, fun j hj => ?_⟩
      obtain ⟨ds, f1, f2, f3⟩ := e5 j hj
      exact ⟨ds, f1, f2, Sp.attr ho hg hg' hs n ds f3⟩
/-- A node in a block is written over. -/
theorem Sp.kid {b t : Nat} {w w1 : World} {g q : Nat} {C C' : Array Value} (ho : ∀ k, k ≠ g → w1.heap[k]? = w.heap[k]?) (hg : w.heap[g]? = some (.cells C 27 (0, 0))) (hg' : w1.heap[g]? = some (.cells C' 27 (0, 0)))
    (hf : ∀ m, (m < q * 6 ∨ q * 6 + 6 ≤ m) → C'[m]? = C[m]?) (hl : ∀ i u, leaf27[i]? = some u → C'[q * 6 + i]? = some u) : ∀ (n : Nat) (cs : List Value), Sp b t w n cs → Sp b t w1 n cs
  | 0, _, h => h
  | n + 1, cs, ⟨i0, i1, s0, s1, A4, l4, c4, A5, l5, c5, e, h1, h2, h3, h4⟩ => by
    refine ⟨i0, i1, s0, s1, A4, l4, c4, A5, l5, c5, e, h1, h2, fun h0 => ?_, fun h0 => ?_⟩
    · obtain ⟨k, D, e1, e2, e3, e4, e5⟩ := h3 h0
      have hk : k ≠ g := by
        rintro rfl
        rw [hg] at e4
        injection e4 with e4
        injection e4 with _ e4
        exact absurd e4 (by decide)
      exact ⟨k, D, e1, e2, e3, (ho k hk).trans e4, e5⟩
    · obtain ⟨k, D, e1, e2, e3, e4, e5⟩ := h4 h0
      by_cases hk : k = g
      · subst hk
        rw [hg] at e4
        injection e4 with e4
        injection e4 with e4
        subst e4
        refine ⟨k, C', e1, e2, e3, hg', fun j hj => ?_⟩
        obtain ⟨ds, f1, f2, f3⟩ := e5 j hj
        by_cases hj' : j = q
        · subst hj'
          obtain ⟨m, rfl⟩ := f3.pos
          exact ⟨leaf27, rfl, hl, Sp.leaf b t w1 m⟩
        · refine ⟨ds, f1, fun i u hu => ?_, Sp.kid ho hg hg' hf hl n ds f3⟩
          have hi : i < 6 := by rw [← f1]; exact (List.getElem?_eq_some_iff.1 hu).1
          rw [hf _ (by omega)]
          exact f2 i u hu
      · refine ⟨k, D, e1, e2, e3, (ho k hk).trans e4, fun j hj => ?_⟩
        obtain ⟨ds, f1, f2, f3⟩ := e5 j hj
        exact ⟨ds, f1, f2, Sp.kid ho hg hg' hf hl n ds f3⟩
attribute [local irreducible] Sp
/-- What a spoiling leaves: all below b, all from t on, and that it may be spoilt again. -/
structure Wr (b t : Nat) (w w' : World) : Prop where
  low : Below b w w'
  high : ∀ k, t ≤ k → k < w.heap.size → w'.heap[k]? = w.heap[k]?
  sp : ∀ n cs, Sp b t w n cs → Sp b t w' n cs
  oth : KeepsOthers w w'
theorem Wr.refl (b t : Nat) (w : World) : Wr b t w w := ⟨Below.refl _ _, fun _ _ _ => rfl, fun _ _ h => h, KeepsOthers.refl _⟩
theorem Wr.trans {b t : Nat} {w w1 w2 : World} (h : Wr b t w w1) (k : Wr b t w1 w2) : Wr b t w w2 := ⟨h.low.trans k.low, fun i hi hl => (k.high i hi (Nat.lt_of_lt_of_le hl h.low.size)).trans (h.high i hi hl), fun n cs hs => k.sp n cs (h.sp n cs hs), h.oth.trans k.oth⟩
theorem Wr.below {b t : Nat} {w w1 : World} (h : Below w.heap.size w w1) (hb : b ≤ w.heap.size) : Wr b t w w1 := ⟨h.mono hb, fun k _ hl => h.block k hl, fun n cs hs => Sp.step (fun k _ hl => h.block k hl) n cs hs, below_others h⟩
theorem setB {w : World} {g : Nat} {C : Array Value} {e : TypeId} (hg : w.heap[g]? = some (.cells C e (0, 0))) (o : Nat) (v : Value) : (w.setCell ⟨g, o, none⟩ v).heap[g]? = some (.cells (C.setIfInBounds o v) e (0, 0)) := Mem.set_heap hg o v
theorem low_set {b : Nat} {w : World} {g o : Nat} (hg : b ≤ g) (v : Value) : Below b w (w.setCell ⟨g, o, none⟩ v) := Below.setCell (Below.refl b w) (p := ⟨g, o, none⟩) hg v
/-- Two cells of a block of attributes. -/
theorem Wr.attr {b t : Nat} {w : World} {g : Nat} {C : Array Value} (hg : w.heap[g]? = some (.cells C 99 (0, 0))) (hb : b ≤ g) (ht : g < t) (o o' : Nat) (u v : Value) : Wr b t w ((w.setCell ⟨g, o, none⟩ u).setCell ⟨g, o', none⟩ v) where
  oth := (KeepsOthers.setCell _ _ _).trans (KeepsOthers.setCell _ _ _)
  low := (low_set hb u).trans (low_set hb v)
  high := fun k hk hl => (Mem.set_other _ _ _ _ (by show k ≠ g; omega)).trans (Mem.set_other _ _ _ _ (by show k ≠ g; omega))
  sp := by
    have h1 := setB (setB hg o u) o' v
    have h2 : ((C.setIfInBounds o u).setIfInBounds o' v).size = C.size := by rw [Array.size_setIfInBounds, Array.size_setIfInBounds]
    have h3 : ∀ k, k ≠ g → ((w.setCell ⟨g, o, none⟩ u).setCell ⟨g, o', none⟩ v).heap[k]? = w.heap[k]? := fun k hk => (Mem.set_other _ _ _ _ hk).trans (Mem.set_other _ _ _ _ hk)
    exact Sp.attr h3 hg h1 h2
def putLeaf (w : World) (g o : Nat) : World := (((((w.setCell ⟨g, o, none⟩ (.int .i64 0)).setCell ⟨g, o + 1, none⟩ (.int .i64 0)).setCell ⟨g, o + 2, none⟩ (.string ⟨#[115, 112, 111, 105, 108, 116]⟩)).setCell ⟨g, o + 3, none⟩ (.string ⟨#[]⟩)).setCell ⟨g, o + 4, none⟩ (.slice none 0 0)).setCell ⟨g, o + 5, none⟩ (.slice none 0 0)
theorem Wr.leaf {b t : Nat} {w : World} {g q : Nat} {C : Array Value} (hg : w.heap[g]? = some (.cells C 27 (0, 0))) (hb : b ≤ g) (ht : g < t) (hq : q * 6 + 6 ≤ C.size) : Wr b t w (putLeaf w g (q * 6)) where
  oth := (((((KeepsOthers.setCell _ _ _).trans (KeepsOthers.setCell _ _ _)).trans (KeepsOthers.setCell _ _ _)).trans (KeepsOthers.setCell _ _ _)).trans (KeepsOthers.setCell _ _ _)).trans (KeepsOthers.setCell _ _ _)
  low := (((((low_set hb _).trans (low_set hb _)).trans (low_set hb _)).trans (low_set hb _)).trans (low_set hb _)).trans (low_set hb _)
  high := fun k hk hl => (Mem.set_other _ _ _ _ (by show k ≠ g; omega)).trans ((Mem.set_other _ _ _ _ (by show k ≠ g; omega)).trans ((Mem.set_other _ _ _ _ (by show k ≠ g; omega)).trans ((Mem.set_other _ _ _ _ (by show k ≠ g; omega)).trans ((Mem.set_other _ _ _ _ (by show k ≠ g; omega)).trans (Mem.set_other _ _ _ _ (by show k ≠ g; omega))))))
  sp := by
    have h1 := setB (setB (setB (setB (setB (setB hg (q * 6) (.int .i64 0)) (q * 6 + 1) (.int .i64 0)) (q * 6 + 2) (.string ⟨#[115, 112, 111, 105, 108, 116]⟩)) (q * 6 + 3) (.string ⟨#[]⟩)) (q * 6 + 4) (.slice none 0 0)) (q * 6 + 5) (.slice none 0 0)
    have h3 : ∀ k, k ≠ g → (putLeaf w g (q * 6)).heap[k]? = w.heap[k]? := fun k hk => (Mem.set_other _ _ _ _ hk).trans ((Mem.set_other _ _ _ _ hk).trans ((Mem.set_other _ _ _ _ hk).trans ((Mem.set_other _ _ _ _ hk).trans ((Mem.set_other _ _ _ _ hk).trans (Mem.set_other _ _ _ _ hk)))))
    refine Sp.kid (q := q) h3 hg h1 (fun m hm => ?_) (fun i u hu => ?_)
    · simp only [Array.getElem?_setIfInBounds, Array.size_setIfInBounds]
      rw [if_neg (by omega), if_neg (by omega), if_neg (by omega), if_neg (by omega), if_neg (by omega), if_neg (by omega)]
    · have hi : i < 6 := (List.getElem?_eq_some_iff.1 hu).1
      simp only [Array.getElem?_setIfInBounds, Array.size_setIfInBounds]
      match i, hi with
      | 0, _ => rw [if_neg (by omega), if_neg (by omega), if_neg (by omega), if_neg (by omega), if_neg (by omega), if_pos (by omega), if_pos (by omega)]; exact hu
      | 1, _ => rw [if_neg (by omega), if_neg (by omega), if_neg (by omega), if_neg (by omega), if_pos (by omega), if_pos (by omega)]; exact hu
      | 2, _ => rw [if_neg (by omega), if_neg (by omega), if_neg (by omega), if_pos (by omega), if_pos (by omega)]; exact hu
      | 3, _ => rw [if_neg (by omega), if_neg (by omega), if_pos (by omega), if_pos (by omega)]; exact hu
      | 4, _ => rw [if_neg (by omega), if_pos (by omega), if_pos (by omega)]; exact hu
      | 5, _ => rw [if_pos (by omega), if_pos (by omega)]; exact hu
/-- The row of attributes, and that of the kids, of what may be spoilt. -/
theorem cell_lt {C : Array Value} {i : Nat} (h : i < C.size) : ∃ v, C[i]? = some v := ⟨C[i], Array.getElem?_eq_getElem h⟩
set_option maxHeartbeats 4000000 in
set_option maxRecDepth 100000 in
theorem spoil_calls (b t : Nat) : ∀ (n : Nat) (w : World) (cs : List Value), Sp b t w n cs → b ≤ t → t ≤ w.heap.size → Calls Try.prog 26 #[.agg cs.toArray] w fun e w' => (∃ v, e = .returned v) ∧ Wr b t w w'
  | 0, _, _, h, _, _ => by unfold Sp at h; exact h.elim
  | n + 1, w, cs, h, hbt, ht => by
    have HS0 := Aside0.mk h
    unfold Sp at h
    obtain ⟨i0, i1, s0, s1, A4, l4, c4, A5, l5, c5, rfl, h1, h2, h3, h4⟩ := h
    clear h3 h4
    have IH := Aside0.mk (spoil_calls b t n)
    have L4 := Aside0.mk h1
    have L5 := Aside0.mk h2
    have BT := Aside0.mk hbt
    have TW := Aside0.mk ht
    have HX : Aside0 ((w.alloc (.cells #[.int .i64 i0, .int .i64 i1, .string s0, .string s1, .slice A4 l4 c4, .slice A5 l5 c5] 27)).heap[w.heap.size]? = some (.cells #[.int .i64 i0, .int .i64 i1, .string s0, .string s1, .slice A4 l4 c4, .slice A5 l5 c5] 27 (0, 0))) := ⟨Mem.alloc_new _ _⟩
    have HW0 : Aside0 (Wr b t w (w.alloc (.cells #[.int .i64 i0, .int .i64 i1, .string s0, .string s1, .slice A4 l4 c4, .slice A5 l5 c5] 27))) := ⟨Wr.below (below_alloc (Below.refl _ _) _) (Nat.le_trans hbt ht)⟩
    clear h1 h2 hbt ht
    go_enter Try.func26, Try.ntmps26
    go_wp2_with (fail)
    go_loopw [2] (fun i wr => ∃ k : Nat, i = .int .i64 (k : Int) ∧ Aside0 (k ≤ l4) ∧ Aside0 (wr.heap[w.heap.size]? = some (.cells #[.int .i64 i0, .int .i64 i1, .string s0, .string s1, .slice A4 l4 c4, .slice A5 l5 c5] 27 (0, 0))) ∧ Aside0 (Wr b t w wr)) (fun i _ => l4 - (intOf i).toNat)
    case atStart => exact ⟨0, rfl, ⟨Nat.zero_le _⟩, HX, HW0⟩
    case round =>
      clear HX HW0
      obtain ⟨k, rfl, HK, HX, HW⟩ := hrel
      have hSp := HW.out.sp _ _ HS0.out
      unfold Sp at hSp
      obtain ⟨_, _, _, _, _, _, _, _, _, _, he, h1, h2, h3, h4⟩ := hSp
      injection he with _ he
      injection he with _ he
      injection he with _ he
      injection he with _ he
      injection he with he he2
      injection he with e1 e2 e3
      subst e1 e2 e3
      injection he2 with he2
      injection he2 with e1 e2 e3
      subst e1 e2 e3
      have b4 := Mem.cell_of HX.out 4
      have f4 := Mem.cell_of HX.out 5
      by_cases hlt : k < l4
      · obtain ⟨g, C, rfl, hbg, hgt, hg, hC⟩ := h3 (by omega)
        have HG := Aside0.mk hg
        have HBG := Aside0.mk hbg
        have HGT := Aside0.mk hgt
        have HCC := Aside0.mk hC
        have HLT := Aside0.mk hlt
        have HN := Aside0.mk (wrap_in hlt L4.out)
        obtain ⟨v0, hv0⟩ := cell_lt (C := C) (i := k * 2) (by omega)
        obtain ⟨v1, hv1⟩ := cell_lt (C := C) (i := k * 2 + 1) (by omega)
        have x0 := (Mem.cell_of hg (k * 2)).trans hv0
        have x1 := (Mem.cell_of hg (k * 2 + 1)).trans hv1
        have y0 := Mem.free_of hg (k * 2)
        have y1 := Mem.free_of hg (k * 2 + 1)
        have e6 : ((k : Int) < (l4 : Int)) = True := eq_true (Int.ofNat_lt.2 hlt)
        have e7 : (k < l4) = True := eq_true hlt
        have hkn : (k : Int).toNat = k := Int.toNat_natCast k
        have hkp : (0 : Int) ≤ (k : Int) := Int.natCast_nonneg k
        have ha : (⟨g, 0, none⟩ : Addr).add (k * 2) = ⟨g, k * 2, none⟩ := add_plain _ _
        clear hlt h1 h2 h3 h4 hbg hgt hg hC hv0 hv1
        go_wp2_with (fail)
        refine ⟨⟨k + 1, by rw [HN.out], ⟨by have := HLT.out; omega⟩, ⟨?_⟩, ⟨HW.out.trans (Wr.attr HG.out HBG.out HGT.out _ _ _ _)⟩⟩, dec_kid HLT.out HN.out⟩
        have hne : w.heap.size ≠ g := by have := TW.out; have := HGT.out; omega
        exact (Mem.set_other _ _ _ _ hne).trans ((Mem.set_other _ _ _ _ hne).trans HX.out)
      · have e6 : ((k : Int) < (l4 : Int)) = False := eq_false (by omega)
        have e7 : (k < l4) = False := eq_false hlt
        clear hlt h1 h2 h3 h4
        go_wp2_with (fail)
        go_loopw [3] (fun i wr => ∃ k : Nat, i = .int .i64 (k : Int) ∧ Aside0 (k ≤ l5) ∧ Aside0 (wr.heap[w.heap.size]? = some (.cells #[.int .i64 i0, .int .i64 i1, .string s0, .string s1, .slice A4 l4 c4, .slice A5 l5 c5] 27 (0, 0))) ∧ Aside0 (Wr b t w wr)) (fun i _ => l5 - (intOf i).toNat)
        case atStart => exact ⟨0, rfl, ⟨Nat.zero_le _⟩, HX, HW⟩
        case round =>
          clear HX HW b4 f4
          obtain ⟨q, rfl, HK, HX, HW⟩ := hrel
          have hSp := HW.out.sp _ _ HS0.out
          unfold Sp at hSp
          obtain ⟨_, _, _, _, _, _, _, _, _, _, he, h1, h2, h3, h4⟩ := hSp
          injection he with _ he
          injection he with _ he
          injection he with _ he
          injection he with _ he
          injection he with he he2
          injection he with e1 e2 e3
          subst e1 e2 e3
          injection he2 with he2
          injection he2 with e1 e2 e3
          subst e1 e2 e3
          have b4 := Mem.cell_of HX.out 4
          have f4 := Mem.cell_of HX.out 5
          by_cases hlt : q < l5
          · obtain ⟨g, C, rfl, hbg, hgt, hg, hD⟩ := h4 (by omega)
            obtain ⟨ds, hd6, hdc, hds⟩ := hD q hlt
            obtain ⟨m, rfl⟩ := hds.pos
            have hds2 := hds
            unfold Sp at hds2
            obtain ⟨j0, j1, u0, u1, B4, m4, e4, B5, m5, e5, rfl, _⟩ := hds2
            have HBG := Aside0.mk hbg
            have HGT := Aside0.mk hgt
            have HDS := Aside0.mk hds
            have HLT := Aside0.mk hlt
            have HN := Aside0.mk (wrap_in hlt L5.out)
            have x0 := (Mem.cell_of hg (q * 6)).trans (hdc 0 _ rfl)
            have x1 := (Mem.cell_of hg (q * 6 + 1)).trans (hdc 1 _ rfl)
            have x2 := (Mem.cell_of hg (q * 6 + 2)).trans (hdc 2 _ rfl)
            have x3 := (Mem.cell_of hg (q * 6 + 3)).trans (hdc 3 _ rfl)
            have x4 := (Mem.cell_of hg (q * 6 + 4)).trans (hdc 4 _ rfl)
            have x5 := (Mem.cell_of hg (q * 6 + 5)).trans (hdc 5 _ rfl)
            have e6' : ((q : Int) < (l5 : Int)) = True := eq_true (Int.ofNat_lt.2 hlt)
            have e7' : (q < l5) = True := eq_true hlt
            have hkn : (q : Int).toNat = q := Int.toNat_natCast q
            have hkp : (0 : Int) ≤ (q : Int) := Int.natCast_nonneg q
            have ha : (⟨g, 0, none⟩ : Addr).add (q * 6) = ⟨g, q * 6, none⟩ := add_plain _ _
            clear hlt h1 h2 h3 h4 hbg hgt hg hdc hds hD
            go_wp2_with (fail)
            refine (IH.out wr _ HDS.out BT.out (Nat.le_trans TW.out HW.out.low.size)).mono ?_
            rintro e w3 ⟨⟨v, rfl⟩, hw3⟩
            dsimp only
            have HW3 := Aside0.mk (HW.out.trans hw3)
            have HX3 := Aside0.mk ((hw3.high _ TW.out (blk_lt HX.out)).trans HX.out)
            clear hw3 b4 f4 x0 x1 x2 x3 x4 x5
            have hSp := HW3.out.sp _ _ HS0.out
            unfold Sp at hSp
            obtain ⟨_, _, _, _, _, _, _, _, _, _, he, _, _, _, h4⟩ := hSp
            injection he with _ he
            injection he with _ he
            injection he with _ he
            injection he with _ he
            injection he with he he2
            injection he with e1 e2 e3
            subst e1 e2 e3
            injection he2 with he2
            injection he2 with e1 e2 e3
            subst e1 e2 e3
            obtain ⟨g', C, eg, hbg, hgt, hg, hD⟩ := h4 (by have := HLT.out; omega)
            injection eg with eg
            injection eg with eg
            subst eg
            obtain ⟨ds, hd6, hdc, hds⟩ := hD q HLT.out
            have HG := Aside0.mk hg
            obtain ⟨u, hu⟩ : ∃ u, ds[5]? = some u := ⟨ds[5], List.getElem?_eq_getElem (by omega)⟩
            have HCC : Aside0 (q * 6 + 6 ≤ C.size) := ⟨by have := (Array.getElem?_eq_some_iff.1 (hdc 5 u hu)).1; omega⟩
            obtain ⟨v0, hv0⟩ := cell_lt (C := C) (i := q * 6) (by have := HCC.out; omega)
            obtain ⟨v1, hv1⟩ := cell_lt (C := C) (i := q * 6 + 1) (by have := HCC.out; omega)
            obtain ⟨v2, hv2⟩ := cell_lt (C := C) (i := q * 6 + 2) (by have := HCC.out; omega)
            obtain ⟨v3, hv3⟩ := cell_lt (C := C) (i := q * 6 + 3) (by have := HCC.out; omega)
            obtain ⟨v4, hv4⟩ := cell_lt (C := C) (i := q * 6 + 4) (by have := HCC.out; omega)
            obtain ⟨v5, hv5⟩ := cell_lt (C := C) (i := q * 6 + 5) (by have := HCC.out; omega)
            have x0 := (Mem.cell_of hg (q * 6)).trans hv0
            have x1 := (Mem.cell_of hg (q * 6 + 1)).trans hv1
            have x2 := (Mem.cell_of hg (q * 6 + 2)).trans hv2
            have x3 := (Mem.cell_of hg (q * 6 + 3)).trans hv3
            have x4 := (Mem.cell_of hg (q * 6 + 4)).trans hv4
            have x5 := (Mem.cell_of hg (q * 6 + 5)).trans hv5
            have y0 := Mem.free_of hg (q * 6)
            have y1 := Mem.free_of hg (q * 6 + 1)
            have y2 := Mem.free_of hg (q * 6 + 2)
            have y3 := Mem.free_of hg (q * 6 + 3)
            have y4 := Mem.free_of hg (q * 6 + 4)
            have y5 := Mem.free_of hg (q * 6 + 5)
            have b4 := Mem.cell_of HX3.out 4
            have f4 := Mem.cell_of HX3.out 5
            clear hbg hgt hg hD hd6 hdc hds hu h4 hv0 hv1 hv2 hv3 hv4 hv5
            go_wp2_with (fail)
            refine ⟨⟨q + 1, by rw [HN.out], ⟨by have := HLT.out; omega⟩, ⟨?_⟩, ⟨HW3.out.trans (Wr.leaf HG.out HBG.out HGT.out HCC.out)⟩⟩, dec_kid HLT.out HN.out⟩
            have hne : w.heap.size ≠ g := by have := TW.out; have := HGT.out; omega
            exact (Mem.set_other _ _ _ _ hne).trans ((Mem.set_other _ _ _ _ hne).trans ((Mem.set_other _ _ _ _ hne).trans ((Mem.set_other _ _ _ _ hne).trans ((Mem.set_other _ _ _ _ hne).trans ((Mem.set_other _ _ _ _ hne).trans HX3.out)))))
          · have e6' : ((q : Int) < (l5 : Int)) = False := eq_false (by omega)
            have e7' : (q < l5) = False := eq_false hlt
            clear hlt h1 h2 h3 h4
            go_wp2_with (fail)
            go_end0
            exact ⟨⟨_, rfl⟩, HW.out⟩
end Go.Proofs.Ytnkbgimihikhoaa.PVt
namespace Go.Proofs.Ytnkbgimihikhoaa.PVt
open Go.RowKit Go.Proofs.YtnkbgimihikhoaaW.PrintWords Go.Proofs.YtnkbgimihikhoaaW.PrintLast Go.Proofs.YtnkbgimihikhoaaW.PrintMore
set_option linter.unusedVariables false
set_option linter.unusedSimpArgs false
def vcopyR (k : Nat) (x : S27) : Option (Int × Int × ByteArray × ByteArray × (List S99) × (List S27)) := vtree_Copy.f k x.f0.f0 x.f0.f1 x.f1 x.f2 x.f3 x.f4
section
attribute [local irreducible] wtT wtTs szT szTs eqT eqTs fitT fitTs
theorem vcopy_l (q : Nat) (ih : ∀ (x : S27) (k : Nat), szT x ≤ q → fitT x → wtT x ≤ k → vcopyR k x = some (x.f0.f0, x.f0.f1, x.f1, x.f2, x.f3, x.f4)) (x : S27) (hq : szTs x.f4 ≤ q) (hf : fitTs x.f4) (hl : x.f4.length ≤ 1466015503701) :
    ∀ (n i k : Nat), i + n = x.f4.length → wtTs (x.f4.drop i) + 1 ≤ k → vtree_Copy.l0 k (x.f4.take i) x.f4 (x.f4.length : Int) (i : Int) x.f0.f0 x.f0.f1 x.f1 x.f2 x.f3 x.f4 = some (x.f0.f0, x.f0.f1, x.f1, x.f2, x.f3, x.f4)
  | 0, i, 0, h, hk => by omega
  | 0, i, k + 1, h, hk => by
    simp only [vtree_Copy.l0]
    rw [if_neg (by omega), List.take_of_length_le (by omega)]
  | n + 1, i, 0, h, hk => by omega
  | n + 1, i, k + 1, h, hk => by
    rw [wtTs_drop x.f4 (k := i) (by omega)] at hk
    have hw4 := wtT_eq (x.f4.getD i z27)
    have go := vcopy_l q ih x hq hf hl n (i + 1) k (by omega) (by omega)
    have hw := wrap_in (k := i) (n := x.f4.length) (by omega) (Nat.le_trans hl (by decide))
    have hkid := ih (x.f4.getD i z27) k (Nat.le_trans (szT_kid x.f4 (by omega)) hq) (fitTs_get hf (by omega)) (by omega)
    unfold vcopyR at hkid
    have c1 : (i : Int) < (x.f4.length : Int) := by omega
    have c2 : (0 : Int) ≤ (i : Int) := Int.natCast_nonneg i
    have d1 : i < x.f4.length := by omega
    have c3 := take_small d1 hl
    clear hk hw4 h
    simp only [vtree_Copy.l0]
    rw [if_pos c1, if_pos c2, if_pos c1, rd27, hkid, Option.bind_some, if_pos c3, hw]
    rw [take_snoc27 x.f4 d1] at go
    rw [eta27]
    exact go
theorem make_small {n : Nat} (h : n ≤ 1466015503701) : ((n : Int)).toNat ≤ 2932031007402 := by omega
theorem vcopy_f : ∀ (q : Nat) (x : S27) (k : Nat), szT x ≤ q → fitT x → wtT x ≤ k → vcopyR k x = some (x.f0.f0, x.f0.f1, x.f1, x.f2, x.f3, x.f4)
  | 0, x, k, h, _, _ => by have := szT_pos x; omega
  | q + 1, x, k, h, hf, hk => by
    have hsz := szT_eq x
    have hwt := wtT_eq x
    obtain ⟨f1, f2, ⟨f3, _⟩, f4, f5⟩ := (fitT_eq x).1 hf
    rw [reach_eq] at f3 f4
    obtain ⟨k, rfl⟩ : ∃ j, k = j + 1 := ⟨k - 1, by omega⟩
    have := vcopy_l q (fun x k h1 h2 h3 => vcopy_f q x k h1 h2 h3) x (by omega) f5 (kid_small f4) x.f4.length 0 k (Nat.zero_add _) (by rw [List.drop_zero]; omega)
    rw [show ((0 : Nat) : Int) = 0 from rfl, List.take_zero] at this
    unfold vcopyR
    simp only [vtree_Copy.f]
    rw [Option.bind_some, if_pos (by rw [List.length_nil, Nat.zero_add]; exact attr_small f3), if_pos (Int.natCast_nonneg _), if_pos (make_small (kid_small f4)), List.nil_append]
    exact this
end
/-- A node's cells. -/
abbrev cs27 (x : S27) (A4 : Option Addr) (c4 : Nat) (A5 : Option Addr) (c5 : Nat) : Array Value := #[.int .i64 x.f0.f0, .int .i64 x.f0.f1, .string x.f1, .string x.f2, .slice A4 x.f3.length c4, .slice A5 x.f4.length c5]
/-- What a copy gives: the same in blocks from base on. -/
theorem made_of (w' : World) (base : Nat) (x : S27) (v4 v5 : Value) (h4 : Kd.R k99 99 w' base (fun _ => True) v4 x.f3) (h5 : Kd.R k27 27 w' base (fun k_ => some k_ ≠ (v4 : Value).ownBlock) v5 x.f4) :
    ∃ A4 c4 A5 c5, v4 = .slice A4 x.f3.length c4 ∧ v5 = .slice A5 x.f4.length c5 ∧ k27.M w' base (fun _ => True) x [.int .i64 x.f0.f0, .int .i64 x.f0.f1, .string x.f1, .string x.f2, .slice A4 x.f3.length c4, .slice A5 x.f4.length c5] := by
  obtain ⟨B4, e4, rfl⟩ := Kd.R_slice h4
  obtain ⟨B5, e5, rfl⟩ := Kd.R_slice h5
  exact ⟨B4, e4, B5, e5, rfl, rfl, k27_mkM _ _ _ x h4 (Kd.R_mono h5 (fun _ _ => trivial))⟩
theorem vcopy_calls (w : World) (x : S27) (A4 : Option Addr) (c4 : Nat) (A5 : Option Addr) (c5 : Nat) (hx : RK w x A4 c4 A5 c5) (hf : fitT x) :
    Calls Try.prog 25 #[.agg (cs27 x A4 c4 A5 c5)] w fun e w' => ∃ B4 e4 B5 e5, e = .returned (.agg (cs27 x B4 e4 B5 e5)) ∧ k27.M w' w.heap.size (fun _ => True) x (cs27 x B4 e4 B5 e5).toList ∧ Below w.heap.size w w' :=
  (vtree_Copy.calls (wtT x) _ _ _ _ A4 c4 x.f3 A5 c5 x.f4 _ _ _ _ _ _ w hx.2.1 hx.1 hx.2.2.2 hx.2.2.1 (vcopy_f (szT x) x (wtT x) (Nat.le_refl _) hf (Nat.le_refl _))).mono fun e w' ⟨v4, v5, he, h4, h5, hB⟩ => by
    obtain ⟨B4, e4, B5, e5, rfl, rfl, hM⟩ := made_of w' _ x v4 v5 h4 h5
    exact ⟨B4, e4, B5, e5, he, hM, hB⟩
theorem rcopyM_calls (w : World) (x : S27) (A4 : Option Addr) (c4 : Nat) (A5 : Option Addr) (c5 : Nat) (hx : RK w x A4 c4 A5 c5) (hf : fitT x) :
    Calls Try.prog 11 #[.agg (cs27 x A4 c4 A5 c5)] w fun e w' => ∃ B4 e4 B5 e5, e = .returned (.agg (cs27 x B4 e4 B5 e5)) ∧ k27.M w' w.heap.size (fun _ => True) x (cs27 x B4 e4 B5 e5).toList ∧ Below w.heap.size w w' :=
  (topiaryref15_Copy.calls (wtT x) _ _ _ _ A4 c4 x.f3 A5 c5 x.f4 _ _ _ _ _ _ w hx.2.1 hx.1 hx.2.2.2 hx.2.2.1 (rcopy_f (szT x) x (wtT x) (Nat.le_refl _) hf (Nat.le_refl _))).mono fun e w' ⟨v4, v5, he, h4, h5, hB⟩ => by
    obtain ⟨B4, e4, B5, e5, rfl, rfl, hM⟩ := made_of w' _ x v4 v5 h4 h5
    exact ⟨B4, e4, B5, e5, he, hM, hB⟩
/-- Cells that read. -/
theorem RK.of {w : World} {x : S27} {A4 : Option Addr} {c4 : Nat} {A5 : Option Addr} {c5 : Nat} (h : k27.K w x (cs27 x A4 c4 A5 c5).toList) : RK w x A4 c4 A5 c5 := by
  obtain ⟨B4, e4, B5, e5, he, l4, g4, l5, g5⟩ := k27_open h
  injection he with _ he
  injection he with _ he
  injection he with _ he
  injection he with _ he
  injection he with he he2
  injection he with e1 e2 e3
  subst e1 e3
  injection he2 with he2
  injection he2 with e1 e2 e3
  subst e1 e3
  exact ⟨l4, g4, l5, g5⟩
theorem RK.K {w : World} {x : S27} {A4 : Option Addr} {c4 : Nat} {A5 : Option Addr} {c5 : Nat} (h : RK w x A4 c4 A5 c5) : k27.K w x (cs27 x A4 c4 A5 c5).toList := k27_mk w x h.1 h.2.1 h.2.2.1 h.2.2.2
/-- What was made may be spoilt. -/
theorem Sp.made {w : World} {base : Nat} : ∀ (n : Nat) (ok : Nat → Prop) (x : S27) (cs : List Value), szT x ≤ n → k27.M w base ok x cs → Sp base w.heap.size w n cs
  | 0, _, x, _, h, _ => by have := szT_pos x; omega
  | n + 1, ok, x, cs, h, hM => by
    have hsz := szT_eq x
    obtain ⟨v4, v5, rfl, ⟨_, in4, ho4, hr4⟩, ⟨_, in5, ho5, hr5⟩⟩ := k27_openM hM
    have hkid : ∀ j, j < x.f4.length → szT (x.f4.getD j z27) ≤ n := fun j hj => by have := szT_kid x.f4 hj; omega
    clear h hsz hM
    unfold Sp
    have key4 : ∃ A4 c4, v4 = .slice A4 x.f3.length c4 ∧ x.f3.length ≤ 9223372036854775807 ∧ (0 < x.f3.length → ∃ g C, A4 = some ⟨g, 0, none⟩ ∧ base ≤ g ∧ g < w.heap.size ∧ w.heap[g]? = some (.cells C 99 (0, 0)) ∧ x.f3.length * 2 ≤ C.size) := by
      rcases ho4.2 with ⟨rfl, h0⟩ | ⟨g, cap, cur, rfl, hb, hh, hn, hm, hs, _⟩
      · exact ⟨none, 0, by rw [h0], by omega, fun h => by omega⟩
      · refine ⟨_, _, rfl, ?_, fun _ => ⟨g, cur, rfl, hb, (Array.getElem?_eq_some_iff.1 hh).1, hh, ?_⟩⟩
        · simp only [maxLen] at hm; omega
        · have hs2 : cur.size = cap * 2 := hs
          omega
    have key5 : ∃ A5 c5, v5 = .slice A5 x.f4.length c5 ∧ x.f4.length ≤ 9223372036854775807 ∧ (0 < x.f4.length → ∃ g C, A5 = some ⟨g, 0, none⟩ ∧ base ≤ g ∧ g < w.heap.size ∧ w.heap[g]? = some (.cells C 27 (0, 0)) ∧ ∀ j, j < x.f4.length → ∃ ds : List Value, ds.length = 6 ∧ (∀ i u, ds[i]? = some u → C[j * 6 + i]? = some u) ∧ Sp base w.heap.size w n ds) := by
      rcases ho5.2 with ⟨rfl, h0⟩ | ⟨g, cap, cur, rfl, hb, hh, hn, hm, hs, ht⟩
      · exact ⟨none, 0, by rw [h0], by omega, fun h => by omega⟩
      · refine ⟨_, _, rfl, by simp only [maxLen] at hm; omega, fun _ => ⟨g, cur, rfl, hb, (Array.getElem?_eq_some_iff.1 hh).1, hh, fun j hj => ?_⟩⟩
        have hp : x.f4[j]? = some (x.f4.getD j z27) := by rw [List.getD_eq_getElem?_getD, List.getElem?_eq_getElem hj]; rfl
        have hMk := hr5.2 j _ hp
        have hlen : ((in5.drop (j * 6)).take 6).length = 6 := k27.K_len (k27.K_of_M hMk)
        refine ⟨(in5.drop (j * 6)).take 6, hlen, fun i u hu => ?_, Sp.made n _ _ _ (hkid j hj) hMk⟩
        have hi : i < 6 := by rw [← hlen]; exact (List.getElem?_eq_some_iff.1 hu).1
        have ht2 : cur.toList.take (x.f4.length * 6) = in5 := ht
        rw [List.getElem?_take_of_lt hi, List.getElem?_drop, ← ht2, List.getElem?_take_of_lt (by omega), Array.getElem?_toList] at hu
        exact hu
    obtain ⟨A4, c4, rfl, k1, k2⟩ := key4
    obtain ⟨A5, c5, rfl, k3, k4⟩ := key5
    exact ⟨_, _, _, _, A4, _, c4, A5, _, c5, rfl, k1, k3, k2, k4⟩
end Go.Proofs.Ytnkbgimihikhoaa.PVt
namespace Go.Proofs.Ytnkbgimihikhoaa.PVt
open Go.RowKit Go.Proofs.YtnkbgimihikhoaaW.PrintWords Go.Proofs.YtnkbgimihikhoaaW.PrintLast Go.Proofs.YtnkbgimihikhoaaW.PrintMore
set_option linter.unusedVariables false
set_option linter.unusedSimpArgs false
mutual
/-- A tree's nodes in its order. -/
def flatL : S27 → List S27
  | ⟨k, t, x, a, l⟩ => ⟨k, t, x, a, l⟩ :: flatLs l
def flatLs : List S27 → List S27
  | [] => []
  | x :: l => flatL x ++ flatLs l
end
theorem flatL_eq (x : S27) : flatL x = x :: flatLs x.f4 := by cases x; simp [flatL]
theorem flatLs_append : ∀ l m : List S27, flatLs (l ++ m) = flatLs l ++ flatLs m
  | [], m => by simp [flatLs]
  | x :: l, m => by simp [flatLs, flatLs_append l m]
theorem flatLs_snoc (l : List S27) {k : Nat} (h : k < l.length) : flatLs (l.take (k + 1)) = flatLs (l.take k) ++ flatL (l.getD k z27) := by
  rw [take_snoc27 l h, flatLs_append]; simp [flatLs]
mutual
theorem flatL_map : ∀ (d : Nat) (x : S27), (flatD d x).map (·.2) = flatL x
  | d, ⟨k, t, x, a, l⟩ => by simp [flatD, flatL, flatLs_map (d + 1) l]
theorem flatLs_map : ∀ (d : Nat) (l : List S27), (flatDs d l).map (·.2) = flatLs l
  | _, [] => by simp [flatDs, flatLs]
  | d, x :: l => by simp [flatDs, flatLs, flatL_map d x, flatLs_map d l]
end
theorem flatL_length (x : S27) : (flatL x).length = szT x := by rw [← flatL_map 0 x, List.length_map, flatD_length]
theorem flatLs_length (l : List S27) : (flatLs l).length = szTs l := by rw [← flatLs_map 0 l, List.length_map, flatDs_length]
/-- The row that a call was handed has grown, or moved to a new block. -/
def Moved (b : Nat) (v v' : Value) : Prop := v'.ownBlock = v.ownBlock ∨ ∃ k, v'.ownBlock = some k ∧ b ≤ k
/-- The list so far has room for more nodes. -/
def Room (m k : Nat) : Prop := (m + k) * 96 ≤ 140737488355328
theorem Room.one {m k : Nat} (h : Room m k) (hk : 1 ≤ k) : (m + 1) * 96 ≤ 140737488355328 := by unfold Room at h; omega
theorem Room.kid {m k : Nat} {x : S27} (h : Room m (szT x)) (hk : k < x.f4.length) {l : List S27} (hl : l.length = m + 1 + szTs (x.f4.take k)) : Room l.length (szT (x.f4.getD k z27)) := by
  have h1 := szTs_snoc x.f4 hk
  have h2 := szTs_take x.f4 (k + 1)
  have h3 := szT_eq x
  unfold Room at h ⊢
  rw [hl]
  omega
theorem flat_len (ys : List S27) (x : S27) (l : List S27) : (ys ++ x :: flatLs l).length = ys.length + 1 + szTs l := by rw [List.length_append, List.length_cons, flatLs_length]; omega
theorem Moved.trans {b c : Nat} {v v' v'' : Value} (h : Moved b v v') (k : Moved c v' v'') (hbc : b ≤ c) : Moved b v v'' := by
  rcases k with k | ⟨j, k, hj⟩
  · rcases h with h | ⟨i, h, hi⟩
    · exact .inl (k.trans h)
    · exact .inr ⟨i, k.trans h, hi⟩
  · exact .inr ⟨j, k, Nat.le_trans hbc hj⟩
theorem Moved.low {b c : Nat} {v v' : Value} (h : Moved b v v') (hc : c ≤ b) : Moved c v v' := h.imp id (fun ⟨k, h1, h2⟩ => ⟨k, h1, Nat.le_trans hc h2⟩)
theorem grown_moved {U wr w3 : World} {v v' : Value} (h : U.grownBy wr v.ownBlock) (m : Moved U.heap.size v v') (g : wr.grownBy w3 v'.ownBlock) : U.grownBy w3 v.ownBlock :=
  ⟨g.os.trans h.os, g.tape.trans h.tape, g.output.trans h.output, Nat.le_trans h.size g.size, fun k hk hne => (g.block k (Nat.lt_of_lt_of_le hk h.size) (fun e => by
    rcases m with m | ⟨j, m, hj⟩
    · exact hne (e.trans m)
    · rw [m] at e
      injection e with e
      omega)).trans (h.block k hk hne)⟩
theorem grown_alloc {w w' : World} {o : Obj} {r : Option Nat} (h : (w.alloc o).grownBy w' r) : w.grownBy w' r :=
  ⟨h.os, h.tape, h.output, Nat.le_trans (by rw [Mem.alloc_size]; omega) h.size, fun k hk hne => (h.block k (by rw [Mem.alloc_size]; omega) hne).trans ((below_alloc (Below.refl w.heap.size w) o).block k hk)⟩
theorem TK.rows {w : World} {n0 : Nat} {x : S27} {A4 : Option Addr} {c4 : Nat} {A5 : Option Addr} {c5 : Nat} (h : TK w n0 x (cs27 x A4 c4 A5 c5).toList) : x.f3.length ≤ c4 ∧ Kd.F k99 w (fun k => k < n0) A4 x.f3.length x.f3 ∧ x.f4.length ≤ c5 ∧ Kd.F k27 w (fun k => k < n0) A5 x.f4.length x.f4 := by
  obtain ⟨B4, e4, B5, e5, he, l4, g4, l5, g5⟩ := h.open
  injection he with _ he
  injection he with _ he
  injection he with _ he
  injection he with _ he
  injection he with he he2
  injection he with e1 e2 e3
  subst e1 e3
  injection he2 with he2
  injection he2 with e1 e2 e3
  subst e1 e3
  exact ⟨l4, g4, l5, g5⟩
/-- The tree's own blocks, and those of the list. -/
def okF (n0 base k : Nat) : Prop := k < n0 ∨ base ≤ k
set_option maxHeartbeats 4000000 in
set_option maxRecDepth 100000 in
theorem flat_calls (n0 base : Nat) (hn : n0 ≤ base) : ∀ (q : Nat) (w : World) (x : S27) (A4 : Option Addr) (c4 : Nat) (A5 : Option Addr) (c5 : Nat) (v : Value) (ys : List S27), szT x ≤ q → TK w n0 x (cs27 x A4 c4 A5 c5).toList → Kd.N k27 27 w base (okF n0 base) v ys → base ≤ w.heap.size → Room ys.length (szT x) →
    Calls Try.prog 61 #[.agg (cs27 x A4 c4 A5 c5), v] w fun e w' => ∃ v', e = .returned v' ∧ Kd.N k27 27 w' base (okF n0 base) v' (ys ++ flatL x) ∧ Below base w w' ∧ w.grownBy w' v.ownBlock ∧ Moved w.heap.size v v'
  | 0, w, x, _, _, _, _, _, _, h, _, _, _, _ => by have := szT_pos x; omega
  | q + 1, w, x, A4, c4, A5, c5, v, ys, hq, hx, hv, hb, hr => by
    have IH := Aside0.mk (flat_calls n0 base hn q)
    have HX := Aside0.mk hx
    have HV := Aside0.mk hv
    have HBS := Aside0.mk hb
    have HR := Aside0.mk hr
    have HQ := Aside0.mk hq
    have HN := Aside0.mk hn
    clear hq hx hv hb hr hn
    go_enter Try.func61, Try.ntmps61
    go_wp2_with (first | ((with_reducible refine gate_builtin (b := .append) (xs := #[.tmp 6, .tmp 8]) rfl ?_); at_builtin; go_loud (refine Kd.N_append k27 (w0 := w) base rfl (.tmp 6) (.tmp 8) 25 27 (.agg #[(.int .i64 0), (.int .i64 0), (.string ⟨#[]⟩), (.string ⟨#[]⟩), (.slice none 0 0), (.slice none 0 0)]) 96 rfl Try.underlying25 info27 rfl (by decide) (by omega) v ys x (cs27 x A4 c4 A5 c5).toList (okF n0 base) (fun k => k < n0) rfl (by rw [Mem.alloc_size]; rfl) ?aP ?aK (fun k hk => .inr (Nat.le_trans (by have := HBS.out; rw [Mem.alloc_size]; omega) hk)) ?aO ?aB ?aS ?aL ?_); (case aP => exact Kd.FK_below HX.out (below_alloc (Below.refl _ _) _)); (case aK => exact fun k hk => ⟨.inl hk, fun e => by have := Kd.N_base HV.out k e.symm; have := HN.out; omega⟩); (case aO => exact Kd.N_alloc HV.out _); (case aB => exact (Below.refl base w).alloc HBS.out _); (case aS => have := HBS.out; rw [Mem.alloc_size]; omega); (case aL => exact HR.out.one (szT_pos x)); intro v1 w1 hv1 hb1 hg1 hm1; have HV1 := Aside0.mk hv1; have HB1 := Aside0.mk hb1; have HG1 := Aside0.mk hg1; have HM1 := Aside0.mk hm1; clear hv1 hb1 hg1 hm1))
    have HSU : Aside0 ((w.alloc (.cells (cs27 x A4 c4 A5 c5) 27)).heap.size = w.heap.size + 1) := ⟨Mem.alloc_size _ _⟩
    have HB0 : Aside0 ((w.alloc (.cells (cs27 x A4 c4 A5 c5) 27)).heap[w.heap.size]? = some (.cells (cs27 x A4 c4 A5 c5) 27 (0, 0))) := ⟨Mem.alloc_new _ _⟩
    have HWU : Aside0 (∀ w', (w.alloc (.cells (cs27 x A4 c4 A5 c5) 27)).grownBy w' v.ownBlock → w.grownBy w' v.ownBlock) := ⟨fun _ h => grown_alloc h⟩
    generalize w.alloc (.cells (cs27 x A4 c4 A5 c5) 27) = U at *
    have HNE : Aside0 (some w.heap.size ≠ v.ownBlock) := ⟨fun e => by have := Kd.N_lt HV.out _ e.symm; omega⟩
    obtain ⟨_, _, hl5, hF5⟩ := HX.out.rows
    have hmax : x.f4.length ≤ 9223372036854775807 := (Kd.F_now hF5).2.1
    have HMX := Aside0.mk hmax
    have HF5 := Aside0.mk hF5
    clear hl5 hF5 hmax
    go_loopw [1, 5] (fun v' i wr => ∃ k : Nat, i = .int .i64 (k : Int) ∧ Aside0 (k ≤ x.f4.length) ∧ Aside0 (Kd.N k27 27 wr base (okF n0 base) v' (ys ++ x :: flatLs (x.f4.take k))) ∧ Aside0 (Below base w wr) ∧ Aside0 (U.grownBy wr v.ownBlock) ∧ Aside0 (Moved U.heap.size v v')) (fun _ i _ => x.f4.length - (intOf i).toNat)
    case atStart => exact ⟨0, rfl, ⟨Nat.zero_le _⟩, HV1, HB1, HG1, HM1⟩
    case round =>
      clear HV1 HB1 HG1 HM1
      obtain ⟨k, rfl, HK, HVR, HBR, HGR, HMR⟩ := hrel
      have HBX : Aside0 (wr.heap[w.heap.size]? = some (.cells (cs27 x A4 c4 A5 c5) 27 (0, 0))) := ⟨(HGR.out.block _ (by have := HSU.out; omega) HNE.out).trans HB0.out⟩
      have b5 := Mem.cell_of HBX.out 5
      by_cases hlt : k < x.f4.length
      · have HW := Aside0.mk (wrap_in hlt HMX.out)
        have HFR : Kd.F k27 wr (fun k => k < n0) A5 x.f4.length x.f4 := Kd.F_step HF5.out (fun i hi _ => HBR.out.block i (Nat.lt_of_lt_of_le hi HN.out))
        obtain ⟨ad, B4, d4, B5, d5, rfl, hc, hk⟩ := kid_at HFR k hlt
        have HKD := Aside0.mk hk
        have HRK := Aside0.mk (HR.out.kid hlt (flat_len ys x (x.f4.take k)))
        have HQK : Aside0 (szT (x.f4.getD k z27) ≤ q) := ⟨by have := szT_kid x.f4 hlt; have := szT_eq x; have := HQ.out; omega⟩
        have HSN : Aside0 ((ys ++ x :: flatLs (x.f4.take k)) ++ flatL (x.f4.getD k z27) = ys ++ x :: flatLs (x.f4.take (k + 1))) := ⟨by rw [flatLs_snoc x.f4 hlt, List.append_assoc, List.cons_append]⟩
        have HLT := Aside0.mk hlt
        obtain ⟨x0, x1, x2, x3, x4, x5⟩ := hc
        have e6 : ((k : Int) < (x.f4.length : Int)) = True := eq_true (Int.ofNat_lt.2 hlt)
        have e7 : (k < x.f4.length) = True := eq_true hlt
        have hkn : (k : Int).toNat = k := Int.toNat_natCast k
        have hkp : (0 : Int) ≤ (k : Int) := Int.natCast_nonneg k
        generalize x.f4.getD k z27 = y at *
        obtain ⟨p, hp⟩ : ∃ p, ad.add (k * 6) = p := ⟨_, rfl⟩
        rw [hp] at x0 x1 x2 x3 x4 x5
        clear hk HFR hlt
        go_wp2_with (fail)
        refine (IH.out wr y B4 d4 B5 d5 _ _ HQK.out HKD.out HVR.out (Nat.le_trans HBS.out HBR.out.size) HRK.out).mono ?_
        rintro e w3 ⟨v3, rfl, hv3, hb3, hg3, hm3⟩
        rw [HSN.out] at hv3
        dsimp only
        have HV3 := Aside0.mk hv3
        have HB3 := Aside0.mk (HBR.out.trans hb3)
        have HG3 := Aside0.mk (grown_moved HGR.out HMR.out hg3)
        have HM3 := Aside0.mk (HMR.out.trans hm3 HGR.out.size)
        clear hv3 hb3 hg3 hm3 b5 x0 x1 x2 x3 x4 x5
        go_wp2_with (fail)
        exact ⟨⟨k + 1, by rw [HW.out], ⟨by have := HLT.out; omega⟩, HV3, HB3, HG3, HM3⟩, dec_kid HLT.out HW.out⟩
      · have e6 : ((k : Int) < (x.f4.length : Int)) = False := eq_false (by omega)
        have e7 : (k < x.f4.length) = False := eq_false hlt
        have HTA : Aside0 (x.f4.take k = x.f4) := ⟨List.take_of_length_le (by omega)⟩
        clear hlt
        go_wp2_with (fail)
        go_ret
        rw [HTA.out] at HVR
        exact ⟨_, rfl, by rw [flatL_eq]; exact HVR.out, HBR.out, HWU.out _ HGR.out, HMR.out.low (by have := HSU.out; omega)⟩
theorem empty_N (W : World) (n0 base b : Nat) (hb : b = W.heap.size) (h : base ≤ W.heap.size) : Kd.N k27 27 (W.alloc (.cells #[] 27)) base (okF n0 base) (.slice (some ⟨b, 0, none⟩) 0 0) [] := by
  subst hb
  exact Kd.R_N ⟨fun k hk => .inr (Nat.le_trans h (Nat.le_of_eq (by simpa [Value.ownBlock] using hk))), [], World.ownsRow_made W #[] 0 h (Nat.zero_le _) rfl, Reps.none _ _⟩
set_option maxHeartbeats 4000000 in
set_option maxRecDepth 100000 in
/-- A tree's nodes in a new list. -/
theorem flatten_calls (n0 : Nat) (w : World) (x : S27) (A4 : Option Addr) (c4 : Nat) (A5 : Option Addr) (c5 : Nat) (hx : TK w n0 x (cs27 x A4 c4 A5 c5).toList) (hn : n0 ≤ w.heap.size) (hr : Room 0 (szT x)) :
    Calls Try.prog 29 #[.agg (cs27 x A4 c4 A5 c5)] w fun e w' => ∃ v, e = .returned v ∧ Kd.N k27 27 w' w.heap.size (okF n0 w.heap.size) v (flatL x) ∧ Below w.heap.size w w' := by
  have HX := Aside0.mk hx
  have HN := Aside0.mk hn
  have HR := Aside0.mk hr
  clear hx hn hr
  go_enter Try.func29, Try.ntmps29
  go_wp2_with (fail)
  have HB := Aside0.mk (below_alloc (below_alloc (Below.refl w.heap.size w) (.cells (cs27 x A4 c4 A5 c5) 27)) (.cells #[] 27))
  refine (flat_calls n0 w.heap.size HN.out (szT x) _ x _ _ _ _ _ [] (Nat.le_refl _) (HX.out.low (fun i hi => HB.out.block i (Nat.lt_of_lt_of_le hi HN.out))) (empty_N _ _ _ _ (by rw [Mem.alloc_size]) (by rw [Mem.alloc_size]; omega)) HB.out.size HR.out).mono ?_
  rintro e w3 ⟨v3, rfl, hv3, hb3, _, _⟩
  dsimp only
  have HV3 := Aside0.mk hv3
  have HB3 := Aside0.mk (HB.out.trans hb3)
  clear hv3 hb3 HB
  go_wp2_with (fail)
  go_ret
  exact ⟨_, rfl, HV3.out, HB3.out⟩
end Go.Proofs.Ytnkbgimihikhoaa.PVt
namespace Go.Proofs.Ytnkbgimihikhoaa.PVt
open Go.RowKit Go.Proofs.YtnkbgimihikhoaaW.PrintWords Go.Proofs.YtnkbgimihikhoaaW.PrintLast Go.Proofs.YtnkbgimihikhoaaW.PrintMore
set_option linter.unusedVariables false
set_option linter.unusedSimpArgs false
end Go.Proofs.Ytnkbgimihikhoaa.PVt
namespace Go.Proofs.Ytnkbgimihikhoaa.PVt
open Go.RowKit Go.Proofs.YtnkbgimihikhoaaW.PrintWords Go.Proofs.YtnkbgimihikhoaaW.PrintLast Go.Proofs.YtnkbgimihikhoaaW.PrintMore
set_option linter.unusedVariables false
end Go.Proofs.Ytnkbgimihikhoaa.PVt
namespace Go.Proofs.Ytnkbgimihikhoaa.PVt
open Go.RowKit Go.Proofs.YtnkbgimihikhoaaW.PrintWords Go.Proofs.YtnkbgimihikhoaaW.PrintLast Go.Proofs.YtnkbgimihikhoaaW.PrintMore
set_option linter.unusedVariables false
set_option linter.unusedSimpArgs false
theorem cells27.below {w w1 : World} {p : Addr} {x : S27} {A4 : Option Addr} {c4 : Nat} {A5 : Option Addr} {c5 : Nat} (h : cells27 w p x A4 c4 A5 c5) (hb : Below w.heap.size w w1) : cells27 w1 p x A4 c4 A5 c5 :=
  ⟨pw_cell_below hb h.1, pw_cell_below hb h.2.1, pw_cell_below hb h.2.2.1, pw_cell_below hb h.2.2.2.1, pw_cell_below hb h.2.2.2.2.1, pw_cell_below hb h.2.2.2.2.2⟩
end Go.Proofs.Ytnkbgimihikhoaa.PVt
namespace Go.Proofs.Ytnkbgimihikhoaa.Link
open Go.RowKit
set_option linter.unusedVariables false
variable {α : Type} {F : Fence} {n : Nat} {P : Program}
/-- The iterator's contract: at each round it holds of what came, of the element and of the memory what Lk says. -/
def Tells (F : Fence) (n : Nat) (P : Program) (g : Nat) (lb : Array Value) (encs : α → Array Value) (Kp : α → World → World → Prop) (Lk : List α → α → World → Prop) (S Sp : List α → Prop) (w : World) : Prop :=
  ∀ (l : Nat) (J Jx : List α → World → Prop) (W : World), Below w.heap.size w W → AbidesFrom W.heap.size J → AbidesFrom W.heap.size Jx →
    (∀ pre x W1, J pre W1 → Lk pre x W1 → YieldAt F (n - 1) P l (encs x) W1 fun e W' =>
      (e = .returned (.bool true) ∧ J (pre ++ [x]) W' ∧ Kp x W1 W') ∨ (e = .returned (.bool false) ∧ Jx (pre ++ [x]) W')) →
    J [] W →
    CallsIn F n P g (#[.func (.yield l) #[] #[]] ++ lb) W fun e W' => (∃ v, e = .returned v) ∧ ((∃ xs, S xs ∧ J xs W') ∨ (∃ pre, Sp pre ∧ Jx pre W'))
/-- A loop's record. -/
def record (fn : FuncId) (tmps : Array Value) (ps : Array Tmp) (assign body : Code) (D : Nat) (st : LoopState) (pe : Option Code) : Loop :=
  { state := st, pending := pe, fn := fn, tmps := tmps, params := ps, assign := assign, body := body, defers := D }
/-- The loop stands between two rounds: its record, its block for deferred calls. -/
structure Stands (rec : LoopState → Option Code → Loop) (D : Nat) (st : LoopState) (pe : Option Code) (W : World) : Prop where
  loop : W.heap[D + 1]? = some (.loop (rec st pe))
  mark : W.heap[D]? = some (.deferred (some []))
theorem Stands.lt {rec : LoopState → Option Code → Loop} {D : Nat} {st : LoopState} {pe : Option Code} {W : World} (h : Stands rec D st pe W) : D + 1 < W.heap.size := (Array.getElem?_eq_some_iff.1 h.loop).1
theorem Stands.from_ {rec : LoopState → Option Code → Loop} {D : Nat} {st : LoopState} {pe : Option Code} {W W' : World} (h : Stands rec D st pe W) (k : KeepsFrom D W W') : Stands rec D st pe W' := ⟨k.same _ _ (Nat.le_succ D) h.loop rfl, k.same _ _ (Nat.le_refl D) h.mark rfl⟩
theorem Stands.put {rec : LoopState → Option Code → Loop} {D : Nat} {st st' : LoopState} {pe pe' : Option Code} {W : World} (h : Stands rec D st pe W) : Stands rec D st' pe' (W.putObj (D + 1) (.loop (rec st' pe'))) := ⟨World.putObj_heap_same h.lt, (World.putObj_heap_other (by omega)).trans h.mark⟩
theorem Stands.grown {rec : LoopState → Option Code → Loop} {D : Nat} {st : LoopState} {pe : Option Code} {X Y : World} {row : Option Nat} (h : Stands rec D st pe X) (hg : X.grownBy Y row) (hr : ∀ r, row = some r → ∃ o : Obj, X.heap[r]? = some o ∧ o.isWalk = true) : Stands rec D st pe Y := ⟨(grownBy_keeps hg hr h.loop rfl).trans h.loop, (grownBy_keeps hg hr h.mark rfl).trans h.mark⟩
theorem walk_row {D B : Nat} {A : World} {row : Option Nat} (hB : D ≤ B) (hr : ∀ r, row = some r → B ≤ r ∧ ∃ o : Obj, A.heap[r]? = some o ∧ o.isWalk = true) : ∀ r, row = some r → D ≤ r ∧ ∃ o : Obj, A.heap[r]? = some o ∧ o.isCells = false := fun r e => by
  obtain ⟨h1, o, ho, hw⟩ := hr r e
  exact ⟨Nat.le_trans hB h1, o, ho, Obj.not_cells_of_walk hw⟩
/-- One round. -/
theorem round_told {ps : Array Tmp} {assign body : Code} {tmps : Array Value} {fn D m : Nat} (hfn : F.fn fn) {encs : α → Array Value} {Kp : World → World → Prop}
    (hKt : ∀ {A B C : World}, Kp A B → Kp B C → Kp A C) (hKb : ∀ (W : World) (l : Nat) (o o' : Obj), D ≤ l → W.heap[l]? = some o → o.isCells = false → o.isWalk = false → Kp W (W.putObj l o'))
    (I : List α → World → Prop) (Ix : Code → List α → World → Prop) (hI : OwnFrom D I) (hIx : ∀ c, OwnFrom D (Ix c)) (Ax : Act → World → Prop) (hAx : ∀ a', OwnFrom D (fun (_ : Unit) W => Ax a' W))
    {pre : List α} {x : α} {W : World} (hps : (encs x).size = ps.size) (hs : Stands (record fn tmps ps assign body D) D .ready none W)
    (ha : ∀ K : Act → World → Prop, (∀ a' W', KeepsFrom D W W' → Kp W W' → I pre W' → Ax a' W' → K a' W') →
      assign.wpIn (F.inRound (D + 1)) m P (Exit.then K (fun _ _ _ => False)) { tmps := (ps.zip (encs x)).foldl (fun t (p, v) => t.setIfInBounds p v) tmps, defers := [] } W)
    (hb : ∀ (a' : Act) (Wa : World), (∃ r, Wa.heap[D + 1]? = some (.loop r)) → I pre Wa → Ax a' Wa → body.wpIn (F.inRound (D + 1)) m P (ownPostG D Kp I Ix (pre ++ [x]) Wa) a' Wa) :
    YieldAt F m P (D + 1) (encs x) W fun e W' => (e = .returned (.bool true) ∧ (I (pre ++ [x]) W' ∧ Stands (record fn tmps ps assign body D) D .ready none W') ∧ Kp W W') ∨ (e = .returned (.bool false) ∧ ∃ c, Ix c (pre ++ [x]) W' ∧ Stands (record fn tmps ps assign body D) D .done (some c) W') := by
  refine ⟨fn, _, assign, body, run_yield (P := P) (args := encs x) hs.loop hps, roundIn_of_wpIn hfn (ha _ ?_)⟩
  intro a' Wa hkf hkp hia hax
  have h1 := hs.from_ hkf
  have h2 : Stands (record fn tmps ps assign body D) D .busy none (Wa.putObj (D + 1) (.loop (record fn tmps ps assign body D .busy none))) := h1.put
  have hk1 : Kp Wa (Wa.putObj (D + 1) (.loop (record fn tmps ps assign body D .busy none))) := hKb _ _ _ _ (Nat.le_succ D) h1.loop rfl rfl
  refine ⟨_, run_beginRound h1.loop rfl, ?_⟩
  refine wpIn_mono (hb a' _ ⟨_, h2.loop⟩ (hI.putObj _ hia (Nat.le_succ D) h1.loop rfl) ((hAx a').putObj (s := ()) _ hax (Nat.le_succ D) h1.loop rfl)) ?_
  have last : ∀ (c : Code) (W3 : World), KeepsFrom D (Wa.putObj (D + 1) (.loop (record fn tmps ps assign body D .busy none))) W3 → Ix c (pre ++ [x]) W3 →
      ∃ v W4, (Instr.endRound (D + 1) (some c)).run P W3 = .ok v W4 ∧ ((v = .bool true ∧ (I (pre ++ [x]) W4 ∧ Stands (record fn tmps ps assign body D) D .ready none W4) ∧ Kp W W4) ∨ (v = .bool false ∧ ∃ c, Ix c (pre ++ [x]) W4 ∧ Stands (record fn tmps ps assign body D) D .done (some c) W4)) := fun c W3 hk hx => by
    have h3 := h2.from_ hk
    exact ⟨_, _, run_endRound (P := P) (some c) h3.loop, .inr ⟨rfl, c, (hIx c).putObj _ hx (Nat.le_succ D) h3.loop rfl, h3.put⟩⟩
  rintro e a3 W3 hp
  cases e with
  | normal =>
    obtain ⟨hk3, hkp3, hi3⟩ := hp
    have h3 := h2.from_ hk3
    exact ⟨_, _, run_endRound (P := P) none h3.loop, .inl ⟨rfl, ⟨hI.putObj _ hi3 (Nat.le_succ D) h3.loop rfl, h3.put⟩, hKt hkp (hKt (hKt hk1 hkp3) (hKb _ _ _ _ (Nat.le_succ D) h3.loop rfl rfl))⟩⟩
  | ret =>
    obtain ⟨v, W4, hr, h⟩ := last .ret W3 hp.1 hp.2
    exact ⟨v, W4, hr, h.imp (fun h => ⟨by rw [h.1], h.2⟩) (fun h => ⟨by rw [h.1], h.2⟩)⟩
  | exit id =>
    obtain ⟨v, W4, hr, h⟩ := last (.exit id) W3 hp.1 hp.2
    exact ⟨v, W4, hr, h.imp (fun h => ⟨by rw [h.1], h.2⟩) (fun h => ⟨by rw [h.1], h.2⟩)⟩
  | goto t =>
    obtain ⟨v, W4, hr, h⟩ := last (.goto t) W3 hp.1 hp.2
    exact ⟨v, W4, hr, h.imp (fun h => ⟨by rw [h.1], h.2⟩) (fun h => ⟨by rw [h.1], h.2⟩)⟩
  | panic ch => exact hp.elim
  | outgrown => exact hp.elim
/-- A range over a function, each round told of its element. -/
theorem range_told {g : Operand} {ps : Array Tmp} {assign body : Code} {Q : Exit → Act → World → Prop} {a : Act} {w : World}
    (hro : F.round = none) (h1 : 1 ≤ n) {gf : Nat} {lb : Array Value} (hg : a.eval g = .func (.func gf) #[] lb) (hFg : F.fn gf) (eg : ∀ args w, (callFunc gf args).run P w = .ok (.enter gf args) w)
    {encs : α → Array Value} {Kp : α → World → World → Prop} {Lk : List α → α → World → Prop} {S Sp : List α → Prop} {w0 : World} (hseq : Tells F (n - 1) P gf lb encs Kp Lk S Sp w0)
    (hKt : ∀ (x : α) {A B C : World}, Kp x A B → Kp x B C → Kp x A C) (hKb : ∀ (x : α) (W : World) (l : Nat) (o o' : Obj), w.heap.size ≤ l → W.heap[l]? = some o → o.isCells = false → o.isWalk = false → Kp x W (W.putObj l o')) (hb0 : Below w0.heap.size w0 w) (hps : ∀ x, (encs x).size = ps.size)
    (I : List α → World → Prop) (Ix : Code → List α → World → Prop) (hI : OwnFrom w.heap.size I) (hIx : ∀ c, OwnFrom w.heap.size (Ix c)) (h0 : I [] w) (Ax : List α → α → Act → World → Prop) (hAx : ∀ pre x a', OwnFrom w.heap.size (fun (_ : Unit) W => Ax pre x a' W))
    (hassign : ∀ (l : Nat) (pre : List α) (x : α) (W : World) (K : Act → World → Prop), I pre W → Lk pre x W → (∀ a' W', KeepsFrom w.heap.size W W' → Kp x W W' → I pre W' → Ax pre x a' W' → K a' W') →
      assign.wpIn (F.inRound l) (n - 1 - 1) P (Exit.then K (fun _ _ _ => False)) { tmps := (ps.zip (encs x)).foldl (fun t (p, v) => t.setIfInBounds p v) a.tmps, defers := [] } W)
    (hbody : ∀ (l : Nat) (pre : List α) (x : α) (a' : Act) (W : World), w.heap.size ≤ l → (∃ r, W.heap[l]? = some (.loop r)) → I pre W → Ax pre x a' W → body.wpIn (F.inRound l) (n - 1 - 1) P (ownPostG w.heap.size (Kp x) I Ix (pre ++ [x]) W) a' W)
    (hdone : ∀ (D : Nat) (xs : List α) (W : World), w.heap.size ≤ D → S xs → I xs W → W.heap[D]? = some (.deferred (some [])) → Q .normal { a with defers := { target := .collected D, args := #[] } :: a.defers } W)
    (hstop : ∀ (D : Nat) (c : Code) (pre : List α) (W : World), w.heap.size ≤ D → Sp pre → Ix c pre W → W.heap[D]? = some (.deferred (some [])) → c.wpIn F n P Q { a with defers := { target := .collected D, args := #[] } :: a.defers } W) :
    (Code.rangeFunc g ps assign body).wpIn F n P Q a w := by
  refine wpIn_rangeFunc fun fn hfn => ?_
  rw [hro]
  have hent := run_enterLoop_outer (P := P) (w := w) fn a.tmps ps assign body
  have hst : Stands (record fn a.tmps ps assign body w.heap.size) w.heap.size .ready none ((w.alloc (.deferred (some []))).alloc (.loop (record fn a.tmps ps assign body w.heap.size .ready none))) := by
    constructor
    · have := World.alloc_heap_new (w.alloc (.deferred (some []))) (.loop (record fn a.tmps ps assign body w.heap.size .ready none))
      rwa [World.size_alloc] at this
    · exact (Below.heap_alloc _ _ _ (by simp)).trans (World.alloc_heap_new w _)
  have hst0 : I [] ((w.alloc (.deferred (some []))).alloc (.loop (record fn a.tmps ps assign body w.heap.size .ready none))) := hI.alloc _ (hI.alloc _ h0)
  have hbl : Below w.heap.size w ((w.alloc (.deferred (some []))).alloc (.loop (record fn a.tmps ps assign body w.heap.size .ready none))) := ((Below.refl _ w).alloc (Nat.le_refl _) _).alloc (by simp) _
  change _ = Result.ok _ ((w.alloc (.deferred (some []))).alloc (.loop (record fn a.tmps ps assign body w.heap.size .ready none))) at hent
  generalize ((w.alloc (.deferred (some []))).alloc (.loop (record fn a.tmps ps assign body w.heap.size .ready none))) = W1 at *
  refine ⟨w.heap.size + 1, [{ target := .collected w.heap.size, args := #[] }], W1, { target := .fn (.func gf) lb, args := #[.func (.yield (w.heap.size + 1)) #[] #[]] }, W1, gf, #[.func (.yield (w.heap.size + 1)) #[] #[]] ++ lb, W1, hent, ?_, ?_, ?_, fun _ => h1, ?_⟩
  · simp only [resolve, hg]
    simp [go_sem]
  · intro f' hf'
    simp [Target.leads] at hf'
    subst hf'
    exact hFg
  · simp [invoke, go_sem, eg]
  · refine CallsIn.mono (hseq (w.heap.size + 1) (fun pre W => I pre W ∧ Stands (record fn a.tmps ps assign body w.heap.size) w.heap.size .ready none W) (fun pre W => ∃ c, Ix c pre W ∧ Stands (record fn a.tmps ps assign body w.heap.size) w.heap.size .done (some c) W) W1 (hb0.trans (hbl.mono hb0.size)) ?_ ?_ ?_ ⟨hst0, hst⟩) ?_
    · exact fun s A B row hs hg' hr => ⟨hI s A B row hs.1 hg' (walk_row hbl.size hr), hs.2.grown hg' (fun r e => (hr r e).2)⟩
    · rintro s A B row ⟨c, hc, hs⟩ hg' hr
      exact ⟨c, hIx c s A B row hc hg' (walk_row hbl.size hr), hs.grown hg' (fun r e => (hr r e).2)⟩
    · rintro pre x W ⟨hi, hs⟩ hlk
      exact round_told (Kp := Kp x) hfn (fun h k => hKt x h k) (hKb x) I Ix hI hIx (Ax pre x) (hAx pre x) (hps x) hs (fun K hK => hassign _ pre x W K hi hlk hK) (fun a' Wa hr hia hax => hbody _ pre x a' Wa (Nat.le_succ _) hr hia hax)
    · rintro e W2 ⟨⟨v, rfl⟩, ⟨xs, hS, hi, hs⟩ | ⟨pre, hSp, c, hi, hs⟩⟩
      · exact ⟨none, _, run_endLoop (P := P) hs.loop (by simp [record]), hdone _ xs _ (Nat.le_refl _) hS (hI.putObj _ hi (Nat.le_succ _) hs.loop rfl) ((World.putObj_heap_other (by omega)).trans hs.mark)⟩
      · exact ⟨some c, _, run_endLoop (P := P) hs.loop (by simp [record]), hstop _ c pre _ (Nat.le_refl _) hSp ((hIx c).putObj _ hi (Nat.le_succ _) hs.loop rfl) ((World.putObj_heap_other (by omega)).trans hs.mark)⟩
end Go.Proofs.Ytnkbgimihikhoaa.Link
namespace Go.Proofs.Ytnkbgimihikhoaa.PVt
open Go.RowKit Go.Shelf Go.Proofs.YtnkbgimihikhoaaW.PrintWords Go.Proofs.YtnkbgimihikhoaaW.PrintLast Go.Proofs.YtnkbgimihikhoaaW.PrintMore
attribute [local go_sem] Oper.semAt_some
set_option linter.unusedVariables false
set_option linter.unusedSimpArgs false
/-- A node that is handed to a round: how many are above it, what it is, its cells. -/
structure Nq where
  d : Nat
  x : S27
  cs : List Value
def plq (p : Nq) : Nat × S27 := (p.d, p.x)
def encQ (p : Nq) : Array Value := #[.int .i64 (p.d : Int), .agg p.cs.toArray]
/-- What a round is told: the node lies as its cells say; with it a part of the tree's nodes has come; the memory below n0 is as it was. -/
def Lkq (w0 : World) (n0 : Nat) (X : List (Nat × S27)) (pre : List Nq) (p : Nq) (W : World) : Prop := TK w0 n0 p.x p.cs ∧ fitT p.x ∧ (pre ++ [p]).map plq <+: X ∧ ∀ i, i < n0 → W.heap[i]? = w0.heap[i]?
theorem pre_one {X : List (Nat × S27)} {pre : List Nq} {d : Nat} {x : S27} {cs : List Value} (h : pre.map plq ++ flatD d x <+: X) : (pre ++ [(⟨d, x, cs⟩ : Nq)]).map plq <+: X := by
  obtain ⟨t, ht⟩ := h
  rw [flatD_eq] at ht
  exact ⟨flatDs (d + 1) x.f4 ++ t, by rw [← ht, List.map_append]; simp [plq]⟩
theorem pre_kid {X a : List (Nat × S27)} {d k : Nat} {x y : S27} (h : a ++ flatD d x <+: X) (hf : flatD d x = (d, x) :: flatDs (d + 1) x.f4) (hs : flatDs (d + 1) (x.f4.take (k + 1)) = flatDs (d + 1) (x.f4.take k) ++ flatD (d + 1) y) : (a ++ (d, x) :: flatDs (d + 1) (x.f4.take k)) ++ flatD (d + 1) y <+: X := by
  obtain ⟨t, ht⟩ := h
  obtain ⟨u, hu⟩ := flatDs_prefix (d + 1) x.f4 (k + 1)
  refine ⟨u ++ t, ?_⟩
  rw [← ht, hf, ← hu, hs]
  simp
set_option maxHeartbeats 8000000 in
set_option maxRecDepth 100000 in
theorem walk60_in (yb : Addr) (n0 B : Nat) (X : List (Nat × S27)) (T : Nat → Prop) (w0 : World) (J Jx : List (Nq) → World → Prop) (hJ : AbidesFrom B J)
    (hY : ∀ pre x W, J pre W → Lkq w0 n0 X pre x W → CallsIn Fence.wide 1 Try.prog 60 (encQ x ++ #[.pointer (some yb)]) W fun e W' => (e = .returned (.bool true) ∧ J (pre ++ [x]) W' ∧ Kw n0 T W W') ∨ (e = .returned (.bool false) ∧ Jx (pre ++ [x]) W')) :
    ∀ (q : Nat) (d : Nat) (x : S27) (cs : List Value) (pre : List (Nq)) (W : World), szT x ≤ q → d + szT x ≤ 1099511627776 → TK w0 n0 x cs → fitT x → pre.map plq ++ flatD d x <+: X → (∀ i, i < n0 → W.heap[i]? = w0.heap[i]?) → n0 ≤ W.heap.size → (∀ i, T i → i < W.heap.size) → J pre W →
      CallsIn Fence.wide 1 Try.prog 59 #[.agg cs.toArray, .int .i64 (d : Int), .func (.func 60) #[] #[.pointer (some yb)]] W fun e W' =>
        (e = .returned (.bool true) ∧ (∃ ys, ys.map plq = flatD d x ∧ J (pre ++ ys) W') ∧ Kw n0 T W W') ∨ (e = .returned (.bool false) ∧ ∃ ys, ys.map plq <+: flatD d x ∧ Jx (pre ++ ys) W') := by
  intro q
  induction q with
  | zero =>
    intro d x cs pre W hq
    have := szT_pos x
    omega
  | succ q ih =>
    intro d x cs pre W hq hd hT hft hpx hb hn hTl hJ0
    have hsz := szT_eq x
    obtain ⟨A4, c4, A5, c5, hcs, l4, g4, l5, g5⟩ := hT.open
    subst hcs
    have HFT := Aside0.mk hft
    have HPX := Aside0.mk hpx
    have HB := Aside0.mk hb
    have HTL := Aside0.mk hTl
    have hlen := szTs_len x.f4
    have hR := hY pre ⟨d, x, [.int .i64 x.f0.f0, .int .i64 x.f0.f1, .string x.f1, .string x.f2, .slice A4 x.f3.length c4, .slice A5 x.f4.length c5]⟩ (W.alloc (.cells #[.int .i64 x.f0.f0, .int .i64 x.f0.f1, .string x.f1, .string x.f2, .slice A4 x.f3.length c4, .slice A5 x.f4.length c5] 27)) (hJ _ _ _ none hJ0 (World.grownBy_alloc _ _ none) (fun r e => by cases e)) ⟨hT, hft, pre_one hpx, fun i hi => ((below_alloc (Below.refl W.heap.size W) _).block i (Nat.lt_of_lt_of_le hi hn)).trans (hb i hi)⟩
    dsimp only [encQ] at hR
    have HF := Aside0.mk g5
    have HFF : Aside0 (flatD d x = (d, x) :: flatDs (d + 1) x.f4) := ⟨flatD_eq d x⟩
    have HT := Aside0.mk hT
    obtain ⟨nd, hnd⟩ : ∃ nd : Nq, nd = ⟨d, x, [.int .i64 x.f0.f0, .int .i64 x.f0.f1, .string x.f1, .string x.f2, .slice A4 x.f3.length c4, .slice A5 x.f4.length c5]⟩ := ⟨_, rfl⟩
    have HND : Aside0 (plq nd = (d, x)) := ⟨by rw [hnd]; rfl⟩
    rw [← hnd] at hR
    clear hnd hT hft hpx hb hTl g4 g5 hJ0
    refine callsIn_of_wp Try.func59 rfl trivial ?_ rfl
    simp only [Try.ntmps59, List.size_toArray, List.length_cons, List.length_nil, Nat.reduceAdd, Nat.reduceSub, Array.replicate_succ, Array.replicate_zero, List.push_toArray, List.append_toArray, List.nil_append, List.cons_append]
    have HRR := Aside0.mk hR
    clear hR
    gi_wp2_with (fail)
    refine ⟨trivial, ?_⟩
    refine (callsIn_wide.2 ((callsIn_wide (n := 1)).1 HRR.out)).mono ?_
    rintro e W1 (⟨rfl, hJ1, hk1⟩ | ⟨rfl, hx1⟩)
    · have HJ1 := Aside0.mk hJ1
      have HK1 : Aside0 (Kw n0 T W W1) := ⟨(Kw.below (below_alloc (Below.refl _ _) _) hn).trans hk1⟩
      have HBX : Aside0 (W1.heap[W.heap.size]? = some (.cells #[.int .i64 x.f0.f0, .int .i64 x.f0.f1, .string x.f1, .string x.f2, .slice A4 x.f3.length c4, .slice A5 x.f4.length c5] 27 (0, 0))) := ⟨hk1.cells _ _ _ (fun h => Nat.lt_irrefl _ (HTL.out _ h)) (Mem.alloc_new _ _)⟩
      have b5 : W1.cell? ⟨W.heap.size, 5, none⟩ = some (.slice A5 x.f4.length c5) := Mem.cell_of HBX.out 5
      clear hJ1 hk1
      gi_wp2
      gi_loopw [17] (fun i wr => ∃ k : Nat, i = .int .i64 (k : Int) ∧ Aside0 (k ≤ x.f4.length) ∧ Aside0 (∃ ys, ys.map plq = flatDs (d + 1) (x.f4.take k) ∧ J (pre ++ nd :: ys) wr) ∧ Aside0 (Kw n0 T W wr))
        (fun i _ => x.f4.length - (intOf i).toNat)
      case atStart => exact ⟨0, rfl, ⟨Nat.zero_le _⟩, ⟨[], by simp [flatDs], HJ1.out⟩, HK1⟩
      case round =>
        obtain ⟨k, rfl, HKL, HJS, HKW⟩ := hrel
        by_cases hlt : k < x.f4.length
        · obtain ⟨ad, B4, e4, B5, e5, rfl, hcl, hTk⟩ := kid_at (Kd.F_step HF.out (fun i hi _ => (HKW.out.low i hi).trans (HB.out i hi))) k hlt
          have hTk0 : TK w0 n0 _ _ := hTk.low (fun i hi => ((HKW.out.low i hi).trans (HB.out i hi)).symm)
          have HFK : Aside0 (fitT (x.f4.getD k z27)) := ⟨fitTs_get ((fitT_eq x).1 HFT.out).2.2.2.2 hlt⟩
          have HS := Aside0.mk (flatDs_snoc (d + 1) x.f4 hlt)
          have HZ : Aside0 (szTs (x.f4.take (k + 1)) = szTs (x.f4.take k) + szT (x.f4.getD k z27) ∧ szTs (x.f4.take (k + 1)) ≤ szTs x.f4) := ⟨szTs_snoc x.f4 hlt, szTs_take _ _⟩
          obtain ⟨y, hy'⟩ : ∃ y, x.f4.getD k z27 = y := ⟨_, rfl⟩
          rw [hy'] at hcl hTk hTk0 HS HZ HFK
          obtain ⟨p, hp⟩ : ∃ p, ad.add (k * 6) = p := ⟨_, rfl⟩
          rw [hp] at hcl
          obtain ⟨c0, c1, c2, c3, c4', c5'⟩ := hcl
          obtain ⟨ys, hys, hJs⟩ := HJS.out
          have HYS := Aside0.mk hys
          have HPK : Aside0 ((pre ++ nd :: ys).map plq ++ flatD (d + 1) y <+: X) := ⟨by rw [List.map_append, List.map_cons, HND.out, hys]; exact pre_kid HPX.out HFF.out HS.out⟩
          have IH := Aside0.mk (ih (d + 1) y _ (pre ++ nd :: ys) (wr.alloc (.cells #[.int .i64 y.f0.f0, .int .i64 y.f0.f1, .string y.f1, .string y.f2, .slice B4 y.f3.length e4, .slice B5 y.f4.length e5] 27))
            (by have := HZ.out; omega) (by have := HZ.out; omega) hTk0 HFK.out HPK.out (fun i hi => by
              have h1 : i < wr.heap.size := Nat.lt_of_lt_of_le (Nat.lt_of_lt_of_le hi hn) HKW.out.size
              exact ((below_alloc (Below.refl wr.heap.size wr) _).block i h1).trans ((HKW.out.low i hi).trans (HB.out i hi))) (Nat.le_trans (Nat.le_trans hn HKW.out.size) (by rw [Mem.alloc_size]; omega)) (fun i hi => by have := HTL.out i hi; have := HKW.out.size; rw [Mem.alloc_size]; omega)
            (hJ _ _ _ none hJs (World.grownBy_alloc _ _ none) (fun r e => by cases e)))
          have hw_ := wrap_next hd
          have hw2 := wrap_kid hlt hlen hsz hd
          clear hTk hTk0 hy' hys hJs
          have hkn : (k : Int).toNat = k := Int.toNat_natCast k
          have hkp : (0 : Int) ≤ (k : Int) := Int.natCast_nonneg k
          clear hd hq hsz hlen
          gi_wp2_with (fail)
          refine ⟨trivial, ?_⟩
          refine (callsIn_wide.2 ((callsIn_wide (n := 1)).1 IH.out)).mono ?_
          rintro e W3 (⟨rfl, ⟨zs, hzs, hJ3⟩, hk3⟩ | ⟨rfl, zs, hzs, hx3⟩)
          · have HZS := Aside0.mk hzs
            have HJ3 : Aside0 (J (pre ++ nd :: (ys ++ zs)) W3) := ⟨by rw [List.append_assoc] at hJ3; exact hJ3⟩
            have HK3 : Aside0 (Kw n0 T W W3) := ⟨HKW.out.trans ((Kw.below (below_alloc (Below.refl _ _) _) (Nat.le_trans hn HKW.out.size)).trans hk3)⟩
            clear hzs hJ3 hk3 IH
            gi_wp2_with (fail)
            go_roundw
            case rel => exact ⟨k + 1, congrArg (Value.int .i64) hw2, ⟨hlt⟩, ⟨ys ++ zs, by rw [List.map_append, HYS.out, HZS.out, HS.out], HJ3.out⟩, HK3⟩
            case measure => exact dec_lt hlt hw2
          · have HZS := Aside0.mk hzs
            have HX3 : Aside0 (Jx (pre ++ nd :: (ys ++ zs)) W3) := ⟨by rw [List.append_assoc] at hx3; exact hx3⟩
            clear hzs hx3 IH
            gi_wp2_with (fail)
            refine bodyPost_ret (results_tmp rfl _ _ _) rfl ?_
            refine .inr ⟨rfl, nd :: (ys ++ zs), ?_, HX3.out⟩
            rw [HFF.out, List.map_cons, HND.out, List.map_append, HYS.out]
            have h1 : flatDs (d + 1) (x.f4.take k) ++ zs.map plq <+: flatDs (d + 1) (x.f4.take (k + 1)) := by rw [HS.out]; exact (List.prefix_append_right_inj _).2 HZS.out
            exact (List.prefix_cons_inj _).2 (h1.trans (flatDs_prefix _ _ _))
        · obtain rfl : k = x.f4.length := by have := HKL.out; omega
          gi_wp2
          refine bodyPost_ret (results_tmp rfl _ _ _) rfl ?_
          obtain ⟨ys, hys, hJs⟩ := HJS.out
          rw [List.take_length] at hys
          exact .inl ⟨rfl, ⟨nd :: ys, by rw [HFF.out, List.map_cons, HND.out, hys], hJs⟩, HKW.out⟩
    · gi_wp2
      refine bodyPost_ret (results_tmp rfl _ _ _) rfl ?_
      exact .inr ⟨rfl, [nd], by rw [HFF.out, List.map_cons, HND.out]; exact ⟨_, rfl⟩, hx1⟩
end Go.Proofs.Ytnkbgimihikhoaa.PVt
namespace Go.Proofs.Ytnkbgimihikhoaa.PVt
open Go.RowKit Go.Shelf Go.Proofs.YtnkbgimihikhoaaW.PrintWords Go.Proofs.YtnkbgimihikhoaaW.PrintLast Go.Proofs.YtnkbgimihikhoaaW.PrintMore
attribute [local go_sem] Oper.semAt_some
set_option linter.unusedVariables false
set_option linter.unusedSimpArgs false
/-- A node that is handed to a round: how many are above it, what it is, its cells. -/
structure Nf (w0 : World) (n0 : Nat) where
  d : Nat
  x : S27
  cs : List Value
  ok : TK w0 n0 x cs
  hd : d ≤ 1099511627776
  hf : fitT x
end Go.Proofs.Ytnkbgimihikhoaa.PVt
namespace Go.Proofs.Ytnkbgimihikhoaa.PVt
open Go.RowKit Go.Shelf Go.Proofs.YtnkbgimihikhoaaW.PrintWords Go.Proofs.YtnkbgimihikhoaaW.PrintLast Go.Proofs.YtnkbgimihikhoaaW.PrintMore
attribute [local go_sem] Oper.semAt_some
attribute [local go_sem high] eqA23
set_option linter.unusedVariables false
set_option linter.unusedSimpArgs false
theorem M_of_own_grown {α : Type} {d : Kd α} {B base : Nat} {ok : Nat → Prop} {X Y : World} {x : α} {cs : List Value} {row : Option Nat} (h : d.M X base ok x cs) (hg : X.grownBy Y row) (hr : ∀ r, row = some r → B ≤ r ∧ ∃ o : Obj, X.heap[r]? = some o ∧ o.isCells = false) : d.M Y base ok x cs :=
  d.M_mono (fun _ hk => hk.1) (Kd.M_grown (d.M_bound h) hg (fun k hk e' => by obtain ⟨_, _, _, q, _, cells, hc⟩ := hk; obtain ⟨_, o, ho, hn⟩ := hr k e'.symm; rw [hc] at ho; cases ho; cases hn))
end Go.Proofs.Ytnkbgimihikhoaa.PVt
namespace Go.Proofs.Ytnkbgimihikhoaa.Round
open Go.RowKit Go.Proofs.YtnkbgimihikhoaaW.PrintWords Go.Proofs.YtnkbgimihikhoaaW.PrintLast
set_option linter.unusedVariables false
variable {P : Program} {ops : Array Oper} {Q : Exit → Act → World → Prop} {md : Region.Mode} {l m : Nat}
def noDefer (ops : Array Oper) : Bool := ops.toList.all fun o => match o.op with | .defer _ => false | _ => true
theorem noDefer_spec (h : noDefer ops = true) {i : Nat} {o : Oper} (hi : ops[i]? = some o) (c : _) : o.op ≠ .defer c := by
  have := List.all_eq_true.1 h o (by rw [← Array.getElem?_toList] at hi; exact List.mem_of_getElem? hi)
  intro e
  rw [e] at this
  cases this
theorem rowsIn_of {row : String} {args : Array Value} {w : World} {R : Value → World → Prop} (h : Rows P row args w R) : RowsIn (Fence.wide.inRound l) m P row args w R :=
  fun c cs _ => by
    obtain ⟨v, w', hr, hs⟩ := h c cs
    exact ⟨v, w', hr, stepsIn_wide.2 hs⟩
theorem opIn {o : Oper} {a : Act} {w : World} {K : Act → World → Prop} (hd : ∀ c, o.op ≠ .defer c) (h : o.wp P a w K Q) : o.wpIn (Fence.wide.inRound l) m P a w K Q := by
  unfold Oper.wp at h
  unfold Oper.wpIn
  refine ⟨fun _ _ => trivial, ?_⟩
  rw [show (Fence.wide.inRound l).round = some l from rfl, Oper.semAt_some l _ _ hd]
  generalize (execOp a.eval o).run P w = r at h ⊢
  cases r with
  | ok x w' =>
    cases x with
    | enter f args => exact ⟨(fun hh => nomatch hh), (CallsIn.inRound l (callsIn_wide.2 h)).mono (fun e w'' he => by cases e <;> exact he)⟩
    | row r args => exact ⟨(fun hh => nomatch hh), rowsIn_of h⟩
    | round l f t a b => exact False.elim h
    | _ => exact h
  | halt x w' => cases x <;> exact h
theorem anyIn (hd : noDefer ops = true) (hQ : ¬ LetsOut Q) : ∀ (fuel : Nat) (listed : Array Bool) (a : Act) (w : World), wpAny P md ops Q fuel listed a w → wpAnyIn (Fence.wide.inRound l) m P md ops Q fuel listed a w
  | 0, _, _, _, h => h
  | fuel + 1, listed, a, w, h => ⟨h.1, fun i hi => by
    have h2 := h.2 i hi
    unfold wpOp at h2
    unfold wpOpIn
    cases ho : ops[i]? with
    | none => rw [ho] at h2; exact anyIn hd hQ fuel _ a w h2
    | some o =>
      rw [ho] at h2
      simp only at h2 ⊢
      split
      · rename_i hw
        rw [if_pos hw] at h2
        rcases h2 with h2 | h2
        · exact Oper.wpIn_mono (fun a w => anyIn hd hQ fuel _ a w) (opIn (noDefer_spec hd ho) h2)
        · exact absurd h2.2 hQ
      · rename_i hw
        rw [if_neg hw] at h2
        exact ⟨fun _ _ => trivial, anyIn hd hQ fuel _ _ w h2⟩⟩
theorem region {id : Nat} {a : Act} {w : World} (hm : P.follows .mixedOrders = true) (hd : noDefer ops = true) (hQ : ¬ LetsOut Q)
    (h : wpAny P .any ops Q ops.size (Array.replicate ops.size false) a { w with drawn := w.drawn + 1 }) : (Code.region id ops true).wpIn (Fence.wide.inRound l) m P Q a w := wpIn_region_any hm (anyIn hd hQ _ _ _ _ h)
/-- The start of a region's steps (the words start_, pure_, take_, ..). -/
theorem start {id n : Nat} {a : Act} {w : World} {S : World → Prop} {ds : List Nat} (lb : Array Bool) (hm : P.follows .mixedOrders = true) (hn : ops.size = n) (hl : Array.replicate n false = lb) (hd : noDefer ops = true) (hQ : ¬ LetsOut Q) (hS : S w.drew)
    (h : S w.drew → wpAnyLast P .any ops Q S ds n lb a w.drew) : (Code.region id ops true).wpIn (Fence.wide.inRound l) m P Q a w := by
  subst hn
  subst hl
  exact region hm hd hQ (wpAny_of_last _ _ _ _ (h hS))
end Go.Proofs.Ytnkbgimihikhoaa.Round
