/- The tree of the empty Doc. -/
import Derived.RangeFuncNested
import Derived.RangeFuncBound
import Derived.RangeFuncCalls
import Derived.RangeFuncLeaves
import Derived.RangeFuncBox
import Derived.Shelf.Abstract
import Derived.Shelf.RegionOpen
import Derived.WalkKit
import Derived.OwnWalkIn
import Derived.TacticsInMore
import Derived.LoopNIn
import Derived.LoopIn
import Derived.ControlIn
import Derived.Deep.QuietTactic
import Derived.BigQuiet
import Derived.Deep.DeepCutAuto
import Derived.Deep.CutBlock
import Derived.Test.YtnkbgimihikhoaaVtC
import Derived.Test.YtnkbgimihikhoaaVtK
namespace Go.Proofs.Ytnkbgimihikhoaa.PVt
open Go.RowKit Go.Shelf Go.Proofs.YtnkbgimihikhoaaW.PrintWords Go.Proofs.YtnkbgimihikhoaaW.PrintLast Go.Proofs.YtnkbgimihikhoaaW.PrintMore
attribute [local go_sem] Oper.semAt_some
set_option linter.unusedVariables false
set_option linter.unusedSimpArgs false
theorem back69 (w : World) : Calls Try.prog 69 #[.slice none 0 0] w fun e w' => e = .returned (.func (.func 83) #[] #[.pointer (some ⟨w.heap.size, 0, none⟩)]) ∧ w' = w.alloc (.cells #[.slice none 0 0] 34) := by
  go_enter Try.func69, Try.ntmps69
  go_wp2
  go_ret
  exact ⟨rfl, rfl⟩
theorem back70 (w : World) : Calls Try.prog 70 #[.slice none 0 0] w fun e w' => e = .returned (.func (.func 84) #[] #[.pointer (some ⟨w.heap.size, 0, none⟩)]) ∧ w' = w.alloc (.cells #[.slice none 0 0] 36) := by
  go_enter Try.func70, Try.ntmps70
  go_wp2
  go_ret
  exact ⟨rfl, rfl⟩
def encE (x : Empty) : Array Value := x.elim
set_option maxHeartbeats 8000000 in
set_option maxRecDepth 100000 in
theorem stops83 {w : World} {bx : Nat} (hbx : w.heap[bx]? = some (.cells #[.slice none 0 0] 34 (0, 0))) :
    SeqStopsK Fence.wide 2 Try.prog 83 #[.pointer (some ⟨bx, 0, none⟩)] encE (fun W W' => W.heap.size ≤ W'.heap.size) (fun _ => True) (fun _ => False) 0 w := fun l J Jx W hW hJ hJx hY h0 => by
  have hbl := (Array.getElem?_eq_some_iff.1 hbx).1
  have c0 : W.cell? ⟨bx, 0, none⟩ = some (.slice none 0 0) := Mem.cell_of ((hW.block bx hbl).trans hbx) 0
  clear hbl hbx hY
  refine callsIn_of_wp Try.func83 rfl trivial ?_ rfl
  simp only [Try.ntmps83, List.append_toArray, List.size_toArray, List.length_cons, List.length_nil, Nat.reduceAdd, Nat.reduceSub, Array.replicate_succ, Array.replicate_zero, List.push_toArray, List.append_toArray, List.nil_append, List.cons_append]
  gi_wp2_with (fail)
  gi_loopw [3] (fun v wr => v = .int .i64 (-1) ∧ wr = W) (fun _ _ => 0)
  case atStart => exact ⟨rfl, rfl⟩
  case round =>
    obtain ⟨rfl, rfl⟩ := hrel
    gi_wp2_with (fail)
    go_end0
    exact ⟨⟨_, rfl⟩, .inl ⟨[], trivial, h0⟩⟩
set_option maxHeartbeats 8000000 in
set_option maxRecDepth 100000 in
theorem stops84 {w : World} {bx : Nat} (hbx : w.heap[bx]? = some (.cells #[.slice none 0 0] 36 (0, 0))) :
    SeqStopsK Fence.wide 2 Try.prog 84 #[.pointer (some ⟨bx, 0, none⟩)] encE (fun W W' => W.heap.size ≤ W'.heap.size) (fun _ => True) (fun _ => False) 0 w := fun l J Jx W hW hJ hJx hY h0 => by
  have hbl := (Array.getElem?_eq_some_iff.1 hbx).1
  have c0 : W.cell? ⟨bx, 0, none⟩ = some (.slice none 0 0) := Mem.cell_of ((hW.block bx hbl).trans hbx) 0
  clear hbl hbx hY
  refine callsIn_of_wp Try.func84 rfl trivial ?_ rfl
  simp only [Try.ntmps84, List.append_toArray, List.size_toArray, List.length_cons, List.length_nil, Nat.reduceAdd, Nat.reduceSub, Array.replicate_succ, Array.replicate_zero, List.push_toArray, List.append_toArray, List.nil_append, List.cons_append]
  gi_wp2_with (fail)
  gi_loopw [3] (fun v wr => v = .int .i64 (-1) ∧ wr = W) (fun _ _ => 0)
  case atStart => exact ⟨rfl, rfl⟩
  case round =>
    obtain ⟨rfl, rfl⟩ := hrel
    gi_wp2_with (fail)
    go_end0
    exact ⟨⟨_, rfl⟩, .inl ⟨[], trivial, h0⟩⟩
theorem look_empty {W : World} {b t e : Nat} {z : Value} (hu : Try.prog.underlying t = some (.map 23 e)) (hz : (zeroValue e).run Try.prog W = .ok z W) (h : W.heap[b]? = some (.map #[] 0)) (k : S23) : (Instr.lookup t (.map (some b)) (keyV k) false).run Try.prog W = .ok z W := by
  have e2 := get_run h
  have hf : (Instr.findKey 23 (keyV k) []).run Try.prog W = .ok none W := find_run W k []
  have hc := fun em => check_key em W k
  have hur : (underlying t).run Try.prog W = .ok (TypeDesc.map 23 e) W := by simp [underlying, hu, Sem.run]
  unfold Instr.lookup
  simp only [Sem.run_bind, hur, Result.andThen_ok, e2, Sem.run_pure, hc, hf, hz]
  rfl
/-- A projector of nothing. -/
structure Proj0 (W : World) (p m : Nat) (v : Nat) (a1 a2 a3 a4 : Nat) : Prop where
  box : W.heap[p]? = some (.cells #[.map (some a1), .map (some a2), .map (some a3), .map (some a4), .map (some m), .int .i64 (v : Int)] 83 (0, 0))
  h2 : W.heap[a2]? = some (.map #[] 0)
  h3 : W.heap[a3]? = some (.map #[] 0)
  ne2 : a2 ≠ m
  ne3 : a3 ≠ m
set_option maxHeartbeats 8000000 in
set_option maxRecDepth 100000 in
theorem of_empty (w : World) : Calls Try.prog 49 #[.agg #[.slice none 0 0, .slice none 0 0, .slice none 0 0, .slice none 0 0]] w fun e w' => ∃ p m a1 a2 a3 a4, e = .returned (.pointer (some ⟨p, 0, none⟩)) ∧ Proj0 w' p m 0 a1 a2 a3 a4 ∧ w'.heap[m]? = some (.map #[] 0) ∧ w.heap.size ≤ p ∧ w.heap.size ≤ m ∧ Below w.heap.size w w' := by
  refine (callsIn_wide (n := 3)).1 ?_
  refine callsIn_of_wp_marks Try.func49 rfl trivial ?_ rfl
  simp only [Try.ntmps49, List.size_toArray, List.length_cons, List.length_nil, Nat.reduceAdd, Nat.reduceSub, Array.replicate_succ, Array.replicate_zero, List.push_toArray, List.append_toArray, List.nil_append, List.cons_append]
  refine wpIn_wide.2 ?_
  have hmm := @run_makeMap Try.prog
  go_wp2_with (fail)
  clear hmm
  refine (back69 _).mono ?_
  rintro e w1 ⟨rfl, rfl⟩
  go_wp2_with (fail)
  have hBU : Below w.heap.size w (((((((((w.alloc (.cells #[.slice none 0 0, .slice none 0 0, .slice none 0 0, .slice none 0 0] 39)).alloc (.map #[] 0)).alloc (.map #[] 0)).alloc (.map #[] 0)).alloc (.map #[] 0)).alloc (.map #[] 0)).alloc (.cells #[.map (some (w.heap.size + 1)), .map (some (w.heap.size + 1 + 1)), .map (some (w.heap.size + 1 + 1 + 1)), .map (some (w.heap.size + 1 + 1 + 1 + 1)), .map (some (w.heap.size + 1 + 1 + 1 + 1 + 1)), .int .i64 0] 83)).alloc (.cells #[.pointer (some ⟨w.heap.size + 1 + 1 + 1 + 1 + 1 + 1, 0, none⟩)] 75)).alloc (.cells #[.slice none 0 0] 34)) := below_alloc (below_alloc (below_alloc (below_alloc (below_alloc (below_alloc (below_alloc (below_alloc (below_alloc (Below.refl _ _) _) _) _) _) _) _) _) _) _
  have hUS : (((((((((w.alloc (.cells #[.slice none 0 0, .slice none 0 0, .slice none 0 0, .slice none 0 0] 39)).alloc (.map #[] 0)).alloc (.map #[] 0)).alloc (.map #[] 0)).alloc (.map #[] 0)).alloc (.map #[] 0)).alloc (.cells #[.map (some (w.heap.size + 1)), .map (some (w.heap.size + 1 + 1)), .map (some (w.heap.size + 1 + 1 + 1)), .map (some (w.heap.size + 1 + 1 + 1 + 1)), .map (some (w.heap.size + 1 + 1 + 1 + 1 + 1)), .int .i64 0] 83)).alloc (.cells #[.pointer (some ⟨w.heap.size + 1 + 1 + 1 + 1 + 1 + 1, 0, none⟩)] 75)).alloc (.cells #[.slice none 0 0] 34)).heap.size = w.heap.size + 9 := by rw [Mem.alloc_size, Mem.alloc_size, Mem.alloc_size, Mem.alloc_size, Mem.alloc_size, Mem.alloc_size, Mem.alloc_size, Mem.alloc_size, Mem.alloc_size]
  have hd : (((((((((w.alloc (.cells #[.slice none 0 0, .slice none 0 0, .slice none 0 0, .slice none 0 0] 39)).alloc (.map #[] 0)).alloc (.map #[] 0)).alloc (.map #[] 0)).alloc (.map #[] 0)).alloc (.map #[] 0)).alloc (.cells #[.map (some (w.heap.size + 1)), .map (some (w.heap.size + 1 + 1)), .map (some (w.heap.size + 1 + 1 + 1)), .map (some (w.heap.size + 1 + 1 + 1 + 1)), .map (some (w.heap.size + 1 + 1 + 1 + 1 + 1)), .int .i64 0] 83)).alloc (.cells #[.pointer (some ⟨w.heap.size + 1 + 1 + 1 + 1 + 1 + 1, 0, none⟩)] 75)).alloc (.cells #[.slice none 0 0] 34)).heap[w.heap.size]? = some (.cells #[.slice none 0 0, .slice none 0 0, .slice none 0 0, .slice none 0 0] 39 (0, 0)) := Mem.alloc_old (Mem.alloc_old (Mem.alloc_old (Mem.alloc_old (Mem.alloc_old (Mem.alloc_old (Mem.alloc_old (Mem.alloc_old (Mem.alloc_new _ _) _) _) _) _) _) _) _) _
  have ha2 : (((((((((w.alloc (.cells #[.slice none 0 0, .slice none 0 0, .slice none 0 0, .slice none 0 0] 39)).alloc (.map #[] 0)).alloc (.map #[] 0)).alloc (.map #[] 0)).alloc (.map #[] 0)).alloc (.map #[] 0)).alloc (.cells #[.map (some (w.heap.size + 1)), .map (some (w.heap.size + 1 + 1)), .map (some (w.heap.size + 1 + 1 + 1)), .map (some (w.heap.size + 1 + 1 + 1 + 1)), .map (some (w.heap.size + 1 + 1 + 1 + 1 + 1)), .int .i64 0] 83)).alloc (.cells #[.pointer (some ⟨w.heap.size + 1 + 1 + 1 + 1 + 1 + 1, 0, none⟩)] 75)).alloc (.cells #[.slice none 0 0] 34)).heap[w.heap.size + 1 + 1]? = some (.map #[] 0) := Mem.alloc_old (Mem.alloc_old (Mem.alloc_old (Mem.alloc_old (Mem.alloc_old (Mem.alloc_old (Mem.alloc_new_at _ _ _ (by rw [Mem.alloc_size, Mem.alloc_size])) _) _) _) _) _) _
  have ha3 : (((((((((w.alloc (.cells #[.slice none 0 0, .slice none 0 0, .slice none 0 0, .slice none 0 0] 39)).alloc (.map #[] 0)).alloc (.map #[] 0)).alloc (.map #[] 0)).alloc (.map #[] 0)).alloc (.map #[] 0)).alloc (.cells #[.map (some (w.heap.size + 1)), .map (some (w.heap.size + 1 + 1)), .map (some (w.heap.size + 1 + 1 + 1)), .map (some (w.heap.size + 1 + 1 + 1 + 1)), .map (some (w.heap.size + 1 + 1 + 1 + 1 + 1)), .int .i64 0] 83)).alloc (.cells #[.pointer (some ⟨w.heap.size + 1 + 1 + 1 + 1 + 1 + 1, 0, none⟩)] 75)).alloc (.cells #[.slice none 0 0] 34)).heap[w.heap.size + 1 + 1 + 1]? = some (.map #[] 0) := Mem.alloc_old (Mem.alloc_old (Mem.alloc_old (Mem.alloc_old (Mem.alloc_old (Mem.alloc_new_at _ _ _ (by rw [Mem.alloc_size, Mem.alloc_size, Mem.alloc_size])) _) _) _) _) _
  have hm : (((((((((w.alloc (.cells #[.slice none 0 0, .slice none 0 0, .slice none 0 0, .slice none 0 0] 39)).alloc (.map #[] 0)).alloc (.map #[] 0)).alloc (.map #[] 0)).alloc (.map #[] 0)).alloc (.map #[] 0)).alloc (.cells #[.map (some (w.heap.size + 1)), .map (some (w.heap.size + 1 + 1)), .map (some (w.heap.size + 1 + 1 + 1)), .map (some (w.heap.size + 1 + 1 + 1 + 1)), .map (some (w.heap.size + 1 + 1 + 1 + 1 + 1)), .int .i64 0] 83)).alloc (.cells #[.pointer (some ⟨w.heap.size + 1 + 1 + 1 + 1 + 1 + 1, 0, none⟩)] 75)).alloc (.cells #[.slice none 0 0] 34)).heap[w.heap.size + 1 + 1 + 1 + 1 + 1]? = some (.map #[] 0) := Mem.alloc_old (Mem.alloc_old (Mem.alloc_old (Mem.alloc_new_at _ _ _ (by rw [Mem.alloc_size, Mem.alloc_size, Mem.alloc_size, Mem.alloc_size, Mem.alloc_size])) _) _) _
  have hp : (((((((((w.alloc (.cells #[.slice none 0 0, .slice none 0 0, .slice none 0 0, .slice none 0 0] 39)).alloc (.map #[] 0)).alloc (.map #[] 0)).alloc (.map #[] 0)).alloc (.map #[] 0)).alloc (.map #[] 0)).alloc (.cells #[.map (some (w.heap.size + 1)), .map (some (w.heap.size + 1 + 1)), .map (some (w.heap.size + 1 + 1 + 1)), .map (some (w.heap.size + 1 + 1 + 1 + 1)), .map (some (w.heap.size + 1 + 1 + 1 + 1 + 1)), .int .i64 0] 83)).alloc (.cells #[.pointer (some ⟨w.heap.size + 1 + 1 + 1 + 1 + 1 + 1, 0, none⟩)] 75)).alloc (.cells #[.slice none 0 0] 34)).heap[w.heap.size + 1 + 1 + 1 + 1 + 1 + 1]? = some (.cells #[.map (some (w.heap.size + 1)), .map (some (w.heap.size + 1 + 1)), .map (some (w.heap.size + 1 + 1 + 1)), .map (some (w.heap.size + 1 + 1 + 1 + 1)), .map (some (w.heap.size + 1 + 1 + 1 + 1 + 1)), .int .i64 0] 83 (0, 0)) := Mem.alloc_old (Mem.alloc_old (Mem.alloc_new_at _ _ _ (by rw [Mem.alloc_size, Mem.alloc_size, Mem.alloc_size, Mem.alloc_size, Mem.alloc_size, Mem.alloc_size])) _) _
  have hq : (((((((((w.alloc (.cells #[.slice none 0 0, .slice none 0 0, .slice none 0 0, .slice none 0 0] 39)).alloc (.map #[] 0)).alloc (.map #[] 0)).alloc (.map #[] 0)).alloc (.map #[] 0)).alloc (.map #[] 0)).alloc (.cells #[.map (some (w.heap.size + 1)), .map (some (w.heap.size + 1 + 1)), .map (some (w.heap.size + 1 + 1 + 1)), .map (some (w.heap.size + 1 + 1 + 1 + 1)), .map (some (w.heap.size + 1 + 1 + 1 + 1 + 1)), .int .i64 0] 83)).alloc (.cells #[.pointer (some ⟨w.heap.size + 1 + 1 + 1 + 1 + 1 + 1, 0, none⟩)] 75)).alloc (.cells #[.slice none 0 0] 34)).heap[w.heap.size + 1 + 1 + 1 + 1 + 1 + 1 + 1]? = some (.cells #[.pointer (some ⟨w.heap.size + 1 + 1 + 1 + 1 + 1 + 1, 0, none⟩)] 75 (0, 0)) := Mem.alloc_old (Mem.alloc_new_at _ _ _ (by rw [Mem.alloc_size, Mem.alloc_size, Mem.alloc_size, Mem.alloc_size, Mem.alloc_size, Mem.alloc_size, Mem.alloc_size])) _
  have hbx : (((((((((w.alloc (.cells #[.slice none 0 0, .slice none 0 0, .slice none 0 0, .slice none 0 0] 39)).alloc (.map #[] 0)).alloc (.map #[] 0)).alloc (.map #[] 0)).alloc (.map #[] 0)).alloc (.map #[] 0)).alloc (.cells #[.map (some (w.heap.size + 1)), .map (some (w.heap.size + 1 + 1)), .map (some (w.heap.size + 1 + 1 + 1)), .map (some (w.heap.size + 1 + 1 + 1 + 1)), .map (some (w.heap.size + 1 + 1 + 1 + 1 + 1)), .int .i64 0] 83)).alloc (.cells #[.pointer (some ⟨w.heap.size + 1 + 1 + 1 + 1 + 1 + 1, 0, none⟩)] 75)).alloc (.cells #[.slice none 0 0] 34)).heap[w.heap.size + 1 + 1 + 1 + 1 + 1 + 1 + 1 + 1]? = some (.cells #[.slice none 0 0] 34 (0, 0)) := Mem.alloc_new_at _ _ _ (by rw [Mem.alloc_size, Mem.alloc_size, Mem.alloc_size, Mem.alloc_size, Mem.alloc_size, Mem.alloc_size, Mem.alloc_size, Mem.alloc_size])
  generalize (((((((((w.alloc (.cells #[.slice none 0 0, .slice none 0 0, .slice none 0 0, .slice none 0 0] 39)).alloc (.map #[] 0)).alloc (.map #[] 0)).alloc (.map #[] 0)).alloc (.map #[] 0)).alloc (.map #[] 0)).alloc (.cells #[.map (some (w.heap.size + 1)), .map (some (w.heap.size + 1 + 1)), .map (some (w.heap.size + 1 + 1 + 1)), .map (some (w.heap.size + 1 + 1 + 1 + 1)), .map (some (w.heap.size + 1 + 1 + 1 + 1 + 1)), .int .i64 0] 83)).alloc (.cells #[.pointer (some ⟨w.heap.size + 1 + 1 + 1 + 1 + 1 + 1, 0, none⟩)] 75)).alloc (.cells #[.slice none 0 0] 34)) = U at *
  refine (wpIn_wide (n := 3)).1 ?_
  refine wpIn_rangeFunc_ownH (F := Fence.wide) (n := 3) rfl (by decide) (gf := 83) (lb := #[.pointer (some ⟨w.heap.size + 1 + 1 + 1 + 1 + 1 + 1 + 1 + 1, 0, none⟩)]) rfl trivial (enters_of Try.func83 (by kernel_rfl) rfl)
    (stops83 hbx) (fun h k => Nat.le_trans h k) (fun W l o o' hl h1 h2 _ => by simp) (Below.refl _ _) (fun x => x.elim)
    (fun (pre : List Empty) W => LK (fun _ => False) w.heap.size w U W) (fun _ _ _ => False) (LK_own (Nat.le_refl _) hBU.size) (fun _ _ _ _ _ hs _ _ => hs) ⟨KeptT.refl _ _, hBU⟩
    (fun x a' W => True) (fun x a' _ X Y row hs hg hr => trivial) ?assign ?body ?done ?stop
  case assign => rintro l pre x; exact x.elim
  case body => rintro l pre x; exact x.elim
  case stop => rintro D c pre W _ _ h _; exact h.elim
  case done =>
    rintro D ys W1 hD _ hL hKD
    have HL := Aside0.mk hL
    have HKD := Aside0.mk hKD
    have d1 : W1.cell? ⟨w.heap.size, 1, none⟩ = some (.slice none 0 0) := Mem.cell_of (hL.1.cells hd id) 1
    have d2 : W1.cell? ⟨w.heap.size, 2, none⟩ = some (.slice none 0 0) := Mem.cell_of (hL.1.cells hd id) 2
    have d3 : W1.cell? ⟨w.heap.size, 3, none⟩ = some (.slice none 0 0) := Mem.cell_of (hL.1.cells hd id) 3
    have HU : Aside0 (U.heap.size ≤ W1.heap.size) := ⟨hL.1.size⟩
    clear hL hKD
    go_wp2_with (fail)
    go_loopw [36] (fun v wr => v = .int .i64 0 ∧ wr = W1) (fun _ _ => 0)
    case atStart => exact ⟨rfl, rfl⟩
    case round =>
      obtain ⟨rfl, rfl⟩ := hrel
      rename World => W1
      go_wp2_with (fail)
      refine (back70 _).mono ?_
      rintro e w1 ⟨rfl, rfl⟩
      go_wp2_with (fail)
      have hbx2 : (W1.alloc (.cells #[.slice none 0 0] 36)).heap[W1.heap.size]? = some (.cells #[.slice none 0 0] 36 (0, 0)) := Mem.alloc_new _ _
      have hL2 : LK (fun _ => False) w.heap.size w U (W1.alloc (.cells #[.slice none 0 0] 36)) := HL.out.on (below_alloc (Below.refl _ _) _) hBU.size
      have HD2 : Aside0 ((W1.alloc (.cells #[.slice none 0 0] 36)).heap[D]? = some (.deferred (some []))) := ⟨Mem.alloc_old HKD.out _⟩
      generalize W1.alloc (.cells #[.slice none 0 0] 36) = V at *
      have hBV := hL2.2
      refine (wpIn_wide (n := 3)).1 ?_
      refine wpIn_rangeFunc_ownH (F := Fence.wide) (n := 3) rfl (by decide) (gf := 84) (lb := #[.pointer (some ⟨W1.heap.size, 0, none⟩)]) rfl trivial (enters_of Try.func84 (by kernel_rfl) rfl)
        (stops84 hbx2) (fun h k => Nat.le_trans h k) (fun W l o o' hl h1 h2 _ => by simp) (Below.refl _ _) (fun x => x.elim)
        (fun (pre : List Empty) W => LK (fun _ => False) w.heap.size w V W) (fun _ _ _ => False) (LK_own (Nat.le_refl _) hBV.size) (fun _ _ _ _ _ hs _ _ => hs) ⟨KeptT.refl _ _, hBV⟩
        (fun x a' W => True) (fun x a' _ X Y row hs hg hr => trivial) ?assign2 ?body2 ?done2 ?stop2
      case assign2 => rintro l pre x; exact x.elim
      case body2 => rintro l pre x; exact x.elim
      case stop2 => rintro D c pre W _ _ h _; exact h.elim
      case done2 =>
        rintro D2 ys W2 hD2 _ hL3 hKD2
        have hK : KeptT (fun _ => False) U W2 := ⟨Nat.le_trans hL2.1.size hL3.1.size, fun i hi hn => (hL3.1.block i (Nat.lt_of_lt_of_le hi hL2.1.size) hn).trans (hL2.1.block i hi hn)⟩
        have HK := Aside0.mk hK
        have HB := Aside0.mk hL3.2
        have HKD2 := Aside0.mk hKD2
        have HKD1 := Aside0.mk (hL3.1.cells HD2.out id)
        have d1' : W2.cell? ⟨w.heap.size, 1, none⟩ = some (.slice none 0 0) := Mem.cell_of (hK.cells hd id) 1
        have q0 : W2.cell? ⟨w.heap.size + 1 + 1 + 1 + 1 + 1 + 1 + 1, 0, none⟩ = some (.pointer (some ⟨w.heap.size + 1 + 1 + 1 + 1 + 1 + 1, 0, none⟩)) := Mem.cell_of (hK.cells hq id) 0
        clear hK hL3 hKD2 d1 d2 d3
        go_wp2_with (fail)
        go_loopw [69] (fun v wr => v = .int .i64 0 ∧ wr = W2) (fun _ _ => 0)
        case atStart => exact ⟨rfl, rfl⟩
        case round =>
          obtain ⟨rfl, rfl⟩ := hrel
          rename World => W2
          go_wp2_with (fail)
          have hlt : D < D2 := Nat.lt_of_lt_of_le (blk_lt' HD2.out) hD2
          have he4 : (W2.putObj D2 (.deferred none)).heap[D]? = _ := (World.putObj_heap_other (by omega)).trans HKD1.out
          refine ⟨by simp, .inl ⟨_, _, rfl, run_takeDeferred HKD2.out, by simp, .inl ⟨_, _, rfl, run_takeDeferred he4, ?_⟩⟩⟩
          have he : ∀ k o, k < w.heap.size + 9 → U.heap[k]? = some o → ((W2.putObj D2 (.deferred none)).putObj D (.deferred none)).heap[k]? = some o := fun k o hk ho => (World.putObj_heap_other (by omega)).trans ((World.putObj_heap_other (by omega)).trans (HK.out.cells ho id))
          refine ⟨_, results_tmp rfl _ _ _, w.heap.size + 1 + 1 + 1 + 1 + 1 + 1, w.heap.size + 1 + 1 + 1 + 1 + 1, w.heap.size + 1, w.heap.size + 1 + 1, w.heap.size + 1 + 1 + 1, w.heap.size + 1 + 1 + 1 + 1, rfl, ⟨he _ _ (by omega) hp, he _ _ (by omega) ha2, he _ _ (by omega) ha3, by omega, by omega⟩, he _ _ (by omega) hm, by omega, by omega, ?_⟩
          exact (HB.out.trans (belowK_b (w := V) hBV.size _ D2 _ _ hD2 HKD2.out rfl rfl)).trans (belowK_b (w := U) hBU.size _ D _ _ hD he4 rfl rfl)
theorem below_put' {n b : Nat} {w W : World} (h : Below n w W) (hb : n ≤ b) (o : Obj) : Below n w (W.putObj b o) := ⟨h.os, h.tape, h.output, Nat.le_trans h.size (by simp), fun i hi => (World.putObj_heap_other (by omega)).trans (h.block i hi)⟩
theorem set6 {P : World} {b t : Nat} {u0 u1 u2 u3 u4 u5 : Value} (h : P.heap[b]? = some (.cells #[u0, u1, u2, u3, u4, u5] t (0, 0))) (v0 v1 v2 v3 v4 v5 : Value) :
    ((((((P.setCell ⟨b, 0, none⟩ v0).setCell ⟨b, 1, none⟩ v1).setCell ⟨b, 2, none⟩ v2).setCell ⟨b, 3, none⟩ v3).setCell ⟨b, 4, none⟩ v4).setCell ⟨b, 5, none⟩ v5).heap[b]? = some (.cells #[v0, v1, v2, v3, v4, v5] t (0, 0)) :=
  Mem.set_heap (Mem.set_heap (Mem.set_heap (Mem.set_heap (Mem.set_heap (Mem.set_heap h 0 v0) 1 v1) 2 v2) 3 v3) 4 v4) 5 v5
theorem set6_far (P : World) {b k : Nat} (h : k ≠ b) (v0 v1 v2 v3 v4 v5 : Value) :
    ((((((P.setCell ⟨b, 0, none⟩ v0).setCell ⟨b, 1, none⟩ v1).setCell ⟨b, 2, none⟩ v2).setCell ⟨b, 3, none⟩ v3).setCell ⟨b, 4, none⟩ v4).setCell ⟨b, 5, none⟩ v5).heap[k]? = P.heap[k]? :=
  (Mem.set_other _ _ _ _ h).trans ((Mem.set_other _ _ _ _ h).trans ((Mem.set_other _ _ _ _ h).trans ((Mem.set_other _ _ _ _ h).trans ((Mem.set_other _ _ _ _ h).trans (Mem.set_other _ _ _ _ h)))))
theorem set6_below {P w : World} {b n : Nat} (h : Below n w P) (hn : n ≤ b) (v0 v1 v2 v3 v4 v5 : Value) :
    Below n w ((((((P.setCell ⟨b, 0, none⟩ v0).setCell ⟨b, 1, none⟩ v1).setCell ⟨b, 2, none⟩ v2).setCell ⟨b, 3, none⟩ v3).setCell ⟨b, 4, none⟩ v4).setCell ⟨b, 5, none⟩ v5) :=
  (((((h.setCell (p := ⟨b, 0, none⟩) hn _).setCell (p := ⟨b, 1, none⟩) hn _).setCell (p := ⟨b, 2, none⟩) hn _).setCell (p := ⟨b, 3, none⟩) hn _).setCell (p := ⟨b, 4, none⟩) hn _).setCell (p := ⟨b, 5, none⟩) hn _
theorem below_after {n m : Nat} {w w1 w2 : World} (h : Below m w w1) (k : Below n w1 w2) (hn : n ≤ m) : Below n w w2 := (h.mono hn).trans k
theorem wrap_one' : IntKind.i64.wrap 1 = 1 := by decide
def z0 : S23 := ⟨0, 0⟩
set_option maxHeartbeats 8000000 in
set_option maxRecDepth 100000 in
theorem node_empty (w : World) (p m a1 a2 a3 a4 n0 : Nat) (h : Proj0 w p m 0 a1 a2 a3 a4) (hm : w.heap[m]? = some (.map #[] 0)) (hp : n0 ≤ p) (hm0 : n0 ≤ m) (hn : n0 ≤ w.heap.size) :
    Calls Try.prog 50 #[.pointer (some ⟨p, 0, none⟩), .agg #[.int .i64 0, .int .i64 0], .string { data := #[114, 111, 111, 116] }] w fun e w' => e = .returned (.agg #[.int .i64 0, .int .i64 0, .string { data := #[114, 111, 111, 116] }, .string ⟨#[]⟩, .slice none 0 0, .slice none 0 0]) ∧ w'.heap[p]? = some (.cells #[.map (some a1), .map (some a2), .map (some a3), .map (some a4), .map (some m), .int .i64 1] 83 (0, 0)) ∧ Below n0 w w' := by
  have hpl := blk_lt' h.box
  have hml := blk_lt' hm
  have hB1 : Below w.heap.size w (((w.alloc (.cells #[.int .i64 0, .int .i64 0] 23)).alloc (.cells #[.int .i64 0, .int .i64 0, .string ⟨#[]⟩, .string ⟨#[]⟩, .slice none 0 0, .slice none 0 0] 27)).alloc (.cells #[.int .i64 0, .int .i64 0, .string { data := #[114, 111, 111, 116] }, .string ⟨#[]⟩, .slice none 0 0, .slice none 0 0] 27)) := below_alloc (below_alloc (below_alloc (Below.refl _ _) _) _) _
  have hp1 := (hB1.block p hpl).trans h.box
  have hm1 : MapS (((w.alloc (.cells #[.int .i64 0, .int .i64 0] 23)).alloc (.cells #[.int .i64 0, .int .i64 0, .string ⟨#[]⟩, .string ⟨#[]⟩, .slice none 0 0, .slice none 0 0] 27)).alloc (.cells #[.int .i64 0, .int .i64 0, .string { data := #[114, 111, 111, 116] }, .string ⟨#[]⟩, .slice none 0 0, .slice none 0 0] 27)) m [] := (hB1.block m hml).trans hm
  have h21 := (hB1.block a2 (blk_lt' h.h2)).trans h.h2
  have h31 := (hB1.block a3 (blk_lt' h.h3)).trans h.h3
  have h4 : (((w.alloc (.cells #[.int .i64 0, .int .i64 0] 23)).alloc (.cells #[.int .i64 0, .int .i64 0, .string ⟨#[]⟩, .string ⟨#[]⟩, .slice none 0 0, .slice none 0 0] 27)).alloc (.cells #[.int .i64 0, .int .i64 0, .string { data := #[114, 111, 111, 116] }, .string ⟨#[]⟩, .slice none 0 0, .slice none 0 0] 27)).heap[w.heap.size]? = some (.cells #[.int .i64 0, .int .i64 0] 23 (0, 0)) := Mem.alloc_old (Mem.alloc_old (Mem.alloc_new _ _) _) _
  have h6 : (((w.alloc (.cells #[.int .i64 0, .int .i64 0] 23)).alloc (.cells #[.int .i64 0, .int .i64 0, .string ⟨#[]⟩, .string ⟨#[]⟩, .slice none 0 0, .slice none 0 0] 27)).alloc (.cells #[.int .i64 0, .int .i64 0, .string { data := #[114, 111, 111, 116] }, .string ⟨#[]⟩, .slice none 0 0, .slice none 0 0] 27)).heap[w.heap.size + 1]? = some (.cells #[.int .i64 0, .int .i64 0, .string ⟨#[]⟩, .string ⟨#[]⟩, .slice none 0 0, .slice none 0 0] 27 (0, 0)) := Mem.alloc_old (Mem.alloc_new_at _ _ _ (by rw [Mem.alloc_size])) _
  have h7 : (((w.alloc (.cells #[.int .i64 0, .int .i64 0] 23)).alloc (.cells #[.int .i64 0, .int .i64 0, .string ⟨#[]⟩, .string ⟨#[]⟩, .slice none 0 0, .slice none 0 0] 27)).alloc (.cells #[.int .i64 0, .int .i64 0, .string { data := #[114, 111, 111, 116] }, .string ⟨#[]⟩, .slice none 0 0, .slice none 0 0] 27)).heap[w.heap.size + 1 + 1]? = some (.cells #[.int .i64 0, .int .i64 0, .string { data := #[114, 111, 111, 116] }, .string ⟨#[]⟩, .slice none 0 0, .slice none 0 0] 27 (0, 0)) := Mem.alloc_new_at _ _ _ (by rw [Mem.alloc_size, Mem.alloc_size])
  have hne2 := h.ne2
  have hne3 := h.ne3
  clear h hm
  have HB1 := Aside0.mk hB1
  clear hB1
  go_enter Try.func50, Try.ntmps50
  go_upto_region 2 with (fail)
  generalize (((w.alloc (.cells #[.int .i64 0, .int .i64 0] 23)).alloc (.cells #[.int .i64 0, .int .i64 0, .string ⟨#[]⟩, .string ⟨#[]⟩, .slice none 0 0, .slice none 0 0] 27)).alloc (.cells #[.int .i64 0, .int .i64 0, .string { data := #[114, 111, 111, 116] }, .string ⟨#[]⟩, .slice none 0 0, .slice none 0 0] 27)) = W1 at *
  have hpm : p ≠ m := by rintro rfl; have h_ := hm1; unfold MapS at h_; rw [hp1] at h_; cases h_
  have hMd : MapS W1.drew m [] := hm1
  have r1 : Sem.run Try.prog (Instr.lookup 70 (.map (some m)) (.agg #[.int .i64 0, .int .i64 0]) false) W1.drew = .ok (.int .i64 0) W1.drew := look_run hMd z0
  have r2 : Sem.run Try.prog (Instr.mapEntry 70 (.map (some m)) (.agg #[.int .i64 0, .int .i64 0])) W1.drew = .ok (.tuple #[.int .i64 0, .int .i64 0]) (W1.drew.putObj m (.map (ents 0 [(z0, 0)]).toArray 1)) := entry_run hMd z0 rfl
  have hM1 : MapS (W1.drew.putObj m (.map (ents 0 [(z0, 0)]).toArray 1)) m [(z0, 0)] := World.putObj_heap_same (blk_lt' hMd)
  have hM2 : MapS ((W1.drew.putObj m (.map (ents 0 [(z0, 0)]).toArray 1)).putObj m (.map (ents 0 [(z0, 1)]).toArray 1)) m [(z0, 1)] := World.putObj_heap_same (blk_lt' hM1)
  have r3 : Sem.run Try.prog (Instr.lookup 70 (.map (some m)) (.agg #[.int .i64 0, .int .i64 0]) false) (W1.drew.putObj m (.map (ents 0 [(z0, 0)]).toArray 1)) = .ok (.int .i64 0) (W1.drew.putObj m (.map (ents 0 [(z0, 0)]).toArray 1)) := look_run hM1 z0
  have r4 : Sem.run Try.prog (Instr.entryStore 70 (.map (some m)) (.int .i64 0) (.int .i64 1)) (W1.drew.putObj m (.map (ents 0 [(z0, 0)]).toArray 1)) = .ok () ((W1.drew.putObj m (.map (ents 0 [(z0, 0)]).toArray 1)).putObj m (.map (ents 0 [(z0, 1)]).toArray 1)) := store_run (l := []) z0 1 hM1
  have hw1 := wrap_one'
  have ho : ∀ k o, k ≠ m → W1.heap[k]? = some o → ((W1.drew.putObj m (.map (ents 0 [(z0, 0)]).toArray 1)).putObj m (.map (ents 0 [(z0, 1)]).toArray 1)).heap[k]? = some o := fun k o hk h_ => (World.putObj_heap_other hk).trans ((World.putObj_heap_other hk).trans h_)
  have HPB : Aside0 (Below n0 W1 ((W1.drew.putObj m (.map (ents 0 [(z0, 0)]).toArray 1)).putObj m (.map (ents 0 [(z0, 1)]).toArray 1))) := ⟨below_put' (below_put' (below_drew (Below.refl _ _)) hm0 _) hm0 _⟩
  have c4 : W1.cell? ⟨p, 4, none⟩ = some (.map (some m)) := Mem.cell_of hp1 4
  have k0 : W1.cell? ⟨w.heap.size, 0, none⟩ = some (.int .i64 0) := Mem.cell_of h4 0
  have k1 : W1.cell? ⟨w.heap.size, 1, none⟩ = some (.int .i64 0) := Mem.cell_of h4 1
  have HP2 := Aside0.mk (ho _ _ hpm hp1)
  have HA2 := Aside0.mk (ho _ _ hne2 h21)
  have HA3 := Aside0.mk (ho _ _ hne3 h31)
  have HK4 := Aside0.mk (ho _ _ (by omega) h4)
  have HK6 := Aside0.mk (ho _ _ (by omega) h6)
  have HK7 := Aside0.mk (ho _ _ (by omega) h7)
  clear hM1 hM2 hMd ho hp1 hm1 h21 h31 h4 h6 h7
  generalize hq1 : (W1.drew.putObj m (.map (ents 0 [(z0, 0)]).toArray 1)) = P1 at *
  generalize hq2 : P1.putObj m (.map (ents 0 [(z0, 1)]).toArray 1) = P2 at *
  clear hq1 hq2
  go_cut [20] from 142 (fun v wr => Aside0 (wr = P2))
  case first =>
    go_region
    all_goals
      go_wp2_with (fail)
      go_meet
      case rel => exact ⟨rfl⟩
  case rest =>
    obtain rfl := hcut.out
    clear r1 r2 r3 r4 c4 k0 k1
    have c5 : wc.cell? ⟨p, 5, none⟩ = some (.int .i64 0) := Mem.cell_of HP2.out 5
    have f5 := Mem.free_of HP2.out 5
    go_upto_region 5 with (fail)
    have ho : ∀ k o, k ≠ p → wc.heap[k]? = some o → (wc.setCell ⟨p, 5, none⟩ (.int .i64 1)).heap[k]? = some o := fun k o hk h_ => (Mem.set_other _ _ _ _ hk).trans h_
    have HP3 : Aside0 ((wc.setCell ⟨p, 5, none⟩ (.int .i64 1)).heap[p]? = some (.cells #[.map (some a1), .map (some a2), .map (some a3), .map (some a4), .map (some m), .int .i64 1] 83 (0, 0))) := ⟨Mem.set_heap HP2.out 5 _⟩
    have HB3 : Aside0 (Below n0 W1 (wc.setCell ⟨p, 5, none⟩ (.int .i64 1))) := ⟨HPB.out.setCell (p := ⟨p, 5, none⟩) hp _⟩
    have hK4 := ho _ _ (by omega) HK4.out
    have hK6 := ho _ _ (by omega) HK6.out
    have hK7 := ho _ _ (by omega) HK7.out
    have hA2 := ho _ _ (by rintro rfl; have h_ := HA2.out; rw [HP2.out] at h_; cases h_) HA2.out
    have hA3 := ho _ _ (by rintro rfl; have h_ := HA3.out; rw [HP2.out] at h_; cases h_) HA3.out
    clear c5 f5 ho HP2 HA2 HA3 HK4 HK6 HK7 HPB
    generalize wc.setCell ⟨p, 5, none⟩ (.int .i64 1) = P3 at *
    have c1 : P3.cell? ⟨p, 1, none⟩ = some (.map (some a2)) := Mem.cell_of HP3.out 1
    have c2 : P3.cell? ⟨p, 2, none⟩ = some (.map (some a3)) := Mem.cell_of HP3.out 2
    have k0 : P3.cell? ⟨w.heap.size, 0, none⟩ = some (.int .i64 0) := Mem.cell_of hK4 0
    have k1 : P3.cell? ⟨w.heap.size, 1, none⟩ = some (.int .i64 0) := Mem.cell_of hK4 1
    have r5 : Sem.run Try.prog (Instr.lookup 79 (.map (some a2)) (.agg #[.int .i64 0, .int .i64 0]) false) P3.drew = .ok (.slice none 0 0) P3.drew := look_empty (W := P3.drew) (z := .slice none 0 0) Try.underlying79 (by have hu := Try.underlying37; go_simp) hA2 z0
    have r6 : Sem.run Try.prog (Instr.lookup 80 (.map (some a3)) (.agg #[.int .i64 0, .int .i64 0]) false) P3.drew.drew = .ok (.slice none 0 0) P3.drew.drew := look_empty (W := P3.drew.drew) (z := .slice none 0 0) Try.underlying80 (by have hu := Try.underlying48; go_simp) hA3 z0
    go_region
    all_goals
      go_wp2_with (fail)
      go_loopw [43] (fun v wr => v = .int .i64 0 ∧ wr = P3.drew) (fun _ _ => 0)
      case atStart => exact ⟨rfl, rfl⟩
      case round =>
        obtain ⟨rfl, rfl⟩ := hrel
        go_wp2_with (fail)
        go_region
        all_goals
          go_wp2_with (fail)
          go_loopw [87] (fun v wr => v = .int .i64 0 ∧ wr = P3.drew.drew) (fun _ _ => 0)
          case atStart => exact ⟨rfl, rfl⟩
          case round =>
            obtain ⟨rfl, rfl⟩ := hrel
            have hK6' : P3.drew.drew.heap[w.heap.size + 1]? = _ := hK6
            have hK7' : P3.drew.drew.heap[w.heap.size + 1 + 1]? = _ := hK7
            have HP5 : Aside0 (P3.drew.drew.heap[p]? = _) := HP3
            have HB5 : Aside0 (Below n0 W1 P3.drew.drew) := ⟨below_drew (below_drew HB3.out)⟩
            generalize P3.drew.drew = P5 at hK6' hK7' HP5 HB5 ⊢
            have y0 : P5.cell? ⟨w.heap.size + 1 + 1, 0, none⟩ = some (.int .i64 0) := Mem.cell_of hK7' 0
            have y1 : P5.cell? ⟨w.heap.size + 1 + 1, 1, none⟩ = some (.int .i64 0) := Mem.cell_of hK7' 1
            have y2 : P5.cell? ⟨w.heap.size + 1 + 1, 2, none⟩ = some (.string { data := #[114, 111, 111, 116] }) := Mem.cell_of hK7' 2
            have y3 : P5.cell? ⟨w.heap.size + 1 + 1, 3, none⟩ = some (.string ⟨#[]⟩) := Mem.cell_of hK7' 3
            have y4 : P5.cell? ⟨w.heap.size + 1 + 1, 4, none⟩ = some (.slice none 0 0) := Mem.cell_of hK7' 4
            have y5 : P5.cell? ⟨w.heap.size + 1 + 1, 5, none⟩ = some (.slice none 0 0) := Mem.cell_of hK7' 5
            have HK6 := Aside0.mk hK6'
            have g0 : P5.cell? ⟨w.heap.size + 1, 0, none⟩ = some (.int .i64 0) := Mem.cell_of hK6' 0
            have g1 : P5.cell? ⟨w.heap.size + 1, 1, none⟩ = some (.int .i64 0) := Mem.cell_of hK6' 1
            have g2 : P5.cell? ⟨w.heap.size + 1, 2, none⟩ = some (.string ⟨#[]⟩) := Mem.cell_of hK6' 2
            have g3 : P5.cell? ⟨w.heap.size + 1, 3, none⟩ = some (.string ⟨#[]⟩) := Mem.cell_of hK6' 3
            have g4 : P5.cell? ⟨w.heap.size + 1, 4, none⟩ = some (.slice none 0 0) := Mem.cell_of hK6' 4
            have g5 : P5.cell? ⟨w.heap.size + 1, 5, none⟩ = some (.slice none 0 0) := Mem.cell_of hK6' 5
            have fr0 := Mem.free_of hK6' 0
            have fr1 := Mem.free_of hK6' 1
            have fr2 := Mem.free_of hK6' 2
            have fr3 := Mem.free_of hK6' 3
            have fr4 := Mem.free_of hK6' 4
            have fr5 := Mem.free_of hK6' 5
            clear hK6' hK7' hK6 hK7 hK4 hA2 hA3 r5 r6 c1 c2 k0 k1
            go_wp2_with (fail)
            have hpl2 : p < w.heap.size := hpl
            refine bodyPost_ret (results_cell_row rfl _ _ (w.heap.size + 1) 27 #[.int .i64 0, .int .i64 0, .string { data := #[114, 111, 111, 116] }, .string ⟨#[]⟩, .slice none 0 0, .slice none 0 0] (0, 0) _ rfl (set6 HK6.out _ _ _ _ _ _) Try.underlying27 rfl (by kernel_rfl)) rfl ⟨rfl, (set6_far _ (by omega) _ _ _ _ _ _).trans HP5.out, ?_⟩
            exact set6_below (below_after HB1.out HB5.out hn) (by omega) _ _ _ _ _ _
set_option maxHeartbeats 8000000 in
set_option maxRecDepth 100000 in
theorem tree_empty (w : World) : Calls Try.prog 18 #[.agg #[.slice none 0 0, .slice none 0 0, .slice none 0 0, .slice none 0 0]] w fun e w' => e = .returned (.tuple #[.agg #[.int .i64 0, .int .i64 0, .string { data := #[114, 111, 111, 116] }, .string ⟨#[]⟩, .slice none 0 0, .slice none 0 0], .int .i64 0]) ∧ Below w.heap.size w w' := by
  go_enter Try.func18, Try.ntmps18
  go_wp2_with (fail)
  refine (of_empty _).mono ?_
  rintro e w1 ⟨p, m, a1, a2, a3, a4, rfl, hP, hm, hp, hmm, hb⟩
  have HB := Aside0.mk hb
  have hlo : w.heap.size + 2 ≤ p := by have h_ := hp; rw [Mem.alloc_size, Mem.alloc_size] at h_; exact h_
  have hlm : w.heap.size + 2 ≤ m := by have h_ := hmm; rw [Mem.alloc_size, Mem.alloc_size] at h_; exact h_
  have HB2 : Aside0 (Below (w.heap.size + 2) ((w.alloc (.cells #[.slice none 0 0, .slice none 0 0, .slice none 0 0, .slice none 0 0] 39)).alloc (.cells #[.int .i64 0, .int .i64 0, .string ⟨#[]⟩, .string ⟨#[]⟩, .slice none 0 0, .slice none 0 0] 27)) w1) := ⟨by have h_ := hb; rw [Mem.alloc_size, Mem.alloc_size] at h_; exact h_⟩
  have HN := Aside0.mk (node_empty w1 p m a1 a2 a3 a4 (w.heap.size + 2) hP hm hlo hlm (by have h_ := hb.size; rw [Mem.alloc_size, Mem.alloc_size] at h_; exact h_))
  clear hP hm hp hmm hb
  go_wp2_with (fail)
  refine HN.out.mono ?_
  rintro e w2 ⟨rfl, hp2, hb2⟩
  have hb12 := HB2.out.trans hb2
  have hr0 : w2.heap[w.heap.size + 1]? = some (.cells #[.int .i64 0, .int .i64 0, .string ⟨#[]⟩, .string ⟨#[]⟩, .slice none 0 0, .slice none 0 0] 27 (0, 0)) := (hb12.block _ (by omega)).trans (Mem.alloc_new_at _ _ _ (by rw [Mem.alloc_size]))
  have HBW : Aside0 (Below w.heap.size w w2) := ⟨(below_alloc (below_alloc (Below.refl _ _) _) _).trans (hb12.mono (by omega))⟩
  have HS : Aside0 (w.heap.size + 2 ≤ w2.heap.size) := ⟨by have h_ := hb12.size; rw [Mem.alloc_size, Mem.alloc_size] at h_; exact h_⟩
  have c5 : (w2.alloc (.cells #[.int .i64 0, .int .i64 0, .string { data := #[114, 111, 111, 116] }, .string ⟨#[]⟩, .slice none 0 0, .slice none 0 0] 27)).cell? ⟨p, 5, none⟩ = some (.int .i64 1) := Mem.cell_alloc (Mem.cell_of hp2 5) _
  clear hp2 hb2 hb12 HN HB
  go_upto_region 5 with (fail)
  have hr := Mem.alloc_old hr0 (.cells #[.int .i64 0, .int .i64 0, .string { data := #[114, 111, 111, 116] }, .string ⟨#[]⟩, .slice none 0 0, .slice none 0 0] 27)
  have h5 : (w2.alloc (.cells #[.int .i64 0, .int .i64 0, .string { data := #[114, 111, 111, 116] }, .string ⟨#[]⟩, .slice none 0 0, .slice none 0 0] 27)).heap[w2.heap.size]? = _ := Mem.alloc_new _ _
  have HB5 : Aside0 (Below w.heap.size w (w2.alloc (.cells #[.int .i64 0, .int .i64 0, .string { data := #[114, 111, 111, 116] }, .string ⟨#[]⟩, .slice none 0 0, .slice none 0 0] 27))) := ⟨HBW.out.alloc HBW.out.size _⟩
  generalize w2.alloc (.cells #[.int .i64 0, .int .i64 0, .string { data := #[114, 111, 111, 116] }, .string ⟨#[]⟩, .slice none 0 0, .slice none 0 0] 27) = P5 at *
  have y0 : P5.cell? ⟨w2.heap.size, 0, none⟩ = some (.int .i64 0) := Mem.cell_of h5 0
  have y1 : P5.cell? ⟨w2.heap.size, 1, none⟩ = some (.int .i64 0) := Mem.cell_of h5 1
  have y2 : P5.cell? ⟨w2.heap.size, 2, none⟩ = some (.string { data := #[114, 111, 111, 116] }) := Mem.cell_of h5 2
  have y3 : P5.cell? ⟨w2.heap.size, 3, none⟩ = some (.string ⟨#[]⟩) := Mem.cell_of h5 3
  have y4 : P5.cell? ⟨w2.heap.size, 4, none⟩ = some (.slice none 0 0) := Mem.cell_of h5 4
  have y5 : P5.cell? ⟨w2.heap.size, 5, none⟩ = some (.slice none 0 0) := Mem.cell_of h5 5
  have HK6 := Aside0.mk hr
  have g0 : P5.cell? ⟨w.heap.size + 1, 0, none⟩ = some (.int .i64 0) := Mem.cell_of hr 0
  have g1 : P5.cell? ⟨w.heap.size + 1, 1, none⟩ = some (.int .i64 0) := Mem.cell_of hr 1
  have g2 : P5.cell? ⟨w.heap.size + 1, 2, none⟩ = some (.string ⟨#[]⟩) := Mem.cell_of hr 2
  have g3 : P5.cell? ⟨w.heap.size + 1, 3, none⟩ = some (.string ⟨#[]⟩) := Mem.cell_of hr 3
  have g4 : P5.cell? ⟨w.heap.size + 1, 4, none⟩ = some (.slice none 0 0) := Mem.cell_of hr 4
  have g5 : P5.cell? ⟨w.heap.size + 1, 5, none⟩ = some (.slice none 0 0) := Mem.cell_of hr 5
  have fr0 := Mem.free_of hr 0
  have fr1 := Mem.free_of hr 1
  have fr2 := Mem.free_of hr 2
  have fr3 := Mem.free_of hr 3
  have fr4 := Mem.free_of hr 4
  have fr5 := Mem.free_of hr 5
  clear hr hr0 h5
  go_wp2_with (fail)
  refine bodyPost_ret (results_ct rfl _ _ (w.heap.size + 1) 27 #[.int .i64 0, .int .i64 0, .string { data := #[114, 111, 111, 116] }, .string ⟨#[]⟩, .slice none 0 0, .slice none 0 0] (0, 0) _ rfl (set6 HK6.out _ _ _ _ _ _) Try.underlying27 rfl (by kernel_rfl)) rfl ⟨rfl, ?_⟩
  exact set6_below HB5.out (by omega) _ _ _ _ _ _
end Go.Proofs.Ytnkbgimihikhoaa.PVt
