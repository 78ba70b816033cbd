/- Of at the empty document, Count, awake; Same of trees. -/
import Derived.RangeFuncNested
import Derived.RangeFuncBound
import Derived.RangeFuncCalls
import Derived.RangeFuncLeaves
import Derived.RangeFuncBox
import Derived.Shelf.Abstract
import Derived.Shelf.RegionOpen
import Derived.WalkKit
import Derived.OwnWalkIn
import Derived.TacticsInMore
import Derived.LoopNIn
import Derived.LoopIn
import Derived.ControlIn
import Derived.Deep.QuietTactic
import Derived.BigQuiet
import Derived.Deep.DeepCutAuto
import Derived.Deep.CutBlock
import Derived.Test.YtnkbgimihikhoaaMVtA
import Derived.Test.YtnkbgimihikhoaaMVtB
import Derived.Test.YtnkbgimihikhoaaMVtPa
import Derived.Test.YtnkbgimihikhoaaMVtPb
namespace Go.Proofs.Ytnkbgimihikhoaa.PVt
open Go.RowKit Go.Shelf Go.Proofs.YtnkbgimihikhoaaW.PrintWords Go.Proofs.YtnkbgimihikhoaaW.PrintLast Go.Proofs.YtnkbgimihikhoaaW.PrintMore
attribute [local go_sem] Oper.semAt_some
set_option linter.unusedVariables false
set_option linter.unusedSimpArgs false
theorem back69 (w : World) : Calls Try.prog 69 #[.slice none 0 0] w fun e w' => e = .returned (.func (.func 83) #[] #[.pointer (some ⟨w.heap.size, 0, none⟩)]) ∧ w' = w.alloc (.cells #[.slice none 0 0] 34) := by
  go_enter Try.func69, Try.ntmps69
  go_wp2
  go_ret
  exact ⟨rfl, rfl⟩
theorem back70 (w : World) : Calls Try.prog 70 #[.slice none 0 0] w fun e w' => e = .returned (.func (.func 84) #[] #[.pointer (some ⟨w.heap.size, 0, none⟩)]) ∧ w' = w.alloc (.cells #[.slice none 0 0] 36) := by
  go_enter Try.func70, Try.ntmps70
  go_wp2
  go_ret
  exact ⟨rfl, rfl⟩
def encE (x : Empty) : Array Value := x.elim
set_option maxHeartbeats 8000000 in
set_option maxRecDepth 100000 in
theorem stops83 {w : World} {bx : Nat} (hbx : w.heap[bx]? = some (.cells #[.slice none 0 0] 34 (0, 0))) :
    SeqStopsK Fence.wide 2 Try.prog 83 #[.pointer (some ⟨bx, 0, none⟩)] encE (fun W W' => W.heap.size ≤ W'.heap.size) (fun _ => True) (fun _ => False) 0 w := fun l J Jx W hW hJ hJx hY h0 => by
  have hbl := (Array.getElem?_eq_some_iff.1 hbx).1
  have c0 : W.cell? ⟨bx, 0, none⟩ = some (.slice none 0 0) := Mem.cell_of ((hW.block bx hbl).trans hbx) 0
  clear hbl hbx hY
  refine callsIn_of_wp Try.func83 rfl trivial ?_ rfl
  simp only [Try.ntmps83, List.append_toArray, List.size_toArray, List.length_cons, List.length_nil, Nat.reduceAdd, Nat.reduceSub, Array.replicate_succ, Array.replicate_zero, List.push_toArray, List.append_toArray, List.nil_append, List.cons_append]
  gi_wp2_with (fail)
  gi_loopw [3] (fun v wr => v = .int .i64 (-1) ∧ wr = W) (fun _ _ => 0)
  case atStart => exact ⟨rfl, rfl⟩
  case round =>
    obtain ⟨rfl, rfl⟩ := hrel
    gi_wp2_with (fail)
    go_end0
    exact ⟨⟨_, rfl⟩, .inl ⟨[], trivial, h0⟩⟩
set_option maxHeartbeats 8000000 in
set_option maxRecDepth 100000 in
theorem stops84 {w : World} {bx : Nat} (hbx : w.heap[bx]? = some (.cells #[.slice none 0 0] 36 (0, 0))) :
    SeqStopsK Fence.wide 2 Try.prog 84 #[.pointer (some ⟨bx, 0, none⟩)] encE (fun W W' => W.heap.size ≤ W'.heap.size) (fun _ => True) (fun _ => False) 0 w := fun l J Jx W hW hJ hJx hY h0 => by
  have hbl := (Array.getElem?_eq_some_iff.1 hbx).1
  have c0 : W.cell? ⟨bx, 0, none⟩ = some (.slice none 0 0) := Mem.cell_of ((hW.block bx hbl).trans hbx) 0
  clear hbl hbx hY
  refine callsIn_of_wp Try.func84 rfl trivial ?_ rfl
  simp only [Try.ntmps84, List.append_toArray, List.size_toArray, List.length_cons, List.length_nil, Nat.reduceAdd, Nat.reduceSub, Array.replicate_succ, Array.replicate_zero, List.push_toArray, List.append_toArray, List.nil_append, List.cons_append]
  gi_wp2_with (fail)
  gi_loopw [3] (fun v wr => v = .int .i64 (-1) ∧ wr = W) (fun _ _ => 0)
  case atStart => exact ⟨rfl, rfl⟩
  case round =>
    obtain ⟨rfl, rfl⟩ := hrel
    gi_wp2_with (fail)
    go_end0
    exact ⟨⟨_, rfl⟩, .inl ⟨[], trivial, h0⟩⟩
theorem look_empty {W : World} {b t e : Nat} {z : Value} (hu : Try.prog.underlying t = some (.map 23 e)) (hz : (zeroValue e).run Try.prog W = .ok z W) (h : W.heap[b]? = some (.map #[] 0)) (k : S23) : (Instr.lookup t (.map (some b)) (keyV k) false).run Try.prog W = .ok z W := by
  have e2 := get_run h
  have hf : (Instr.findKey 23 (keyV k) []).run Try.prog W = .ok none W := find_run W k []
  have hc := fun em => check_key em W k
  have hur : (underlying t).run Try.prog W = .ok (TypeDesc.map 23 e) W := by simp [underlying, hu, Sem.run]
  unfold Instr.lookup
  simp only [Sem.run_bind, hur, Result.andThen_ok, e2, Sem.run_pure, hc, hf, hz]
  rfl
/-- A projector of nothing. -/
structure Proj0 (W : World) (p m : Nat) (v : Nat) (a1 a2 a3 a4 : Nat) : Prop where
  box : W.heap[p]? = some (.cells #[.map (some a1), .map (some a2), .map (some a3), .map (some a4), .map (some m), .int .i64 (v : Int)] 83 (0, 0))
  h2 : W.heap[a2]? = some (.map #[] 0)
  h3 : W.heap[a3]? = some (.map #[] 0)
  ne2 : a2 ≠ m
  ne3 : a3 ≠ m
set_option maxHeartbeats 8000000 in
set_option maxRecDepth 100000 in
theorem of_empty (w : World) : Calls Try.prog 49 #[.agg #[.slice none 0 0, .slice none 0 0, .slice none 0 0, .slice none 0 0]] w fun e w' => ∃ p m a1 a2 a3 a4, e = .returned (.pointer (some ⟨p, 0, none⟩)) ∧ Proj0 w' p m 0 a1 a2 a3 a4 ∧ w'.heap[m]? = some (.map #[] 0) ∧ w.heap.size ≤ p ∧ w.heap.size ≤ m ∧ Below w.heap.size w w' := by
  refine (callsIn_wide (n := 3)).1 ?_
  refine callsIn_of_wp_marks Try.func49 rfl trivial ?_ rfl
  simp only [Try.ntmps49, List.size_toArray, List.length_cons, List.length_nil, Nat.reduceAdd, Nat.reduceSub, Array.replicate_succ, Array.replicate_zero, List.push_toArray, List.append_toArray, List.nil_append, List.cons_append]
  refine wpIn_wide.2 ?_
  have hmm := @run_makeMap Try.prog
  go_wp2_with (fail)
  clear hmm
  refine (back69 _).mono ?_
  rintro e w1 ⟨rfl, rfl⟩
  go_wp2_with (fail)
  have hBU : Below w.heap.size w (((((((((w.alloc (.cells #[.slice none 0 0, .slice none 0 0, .slice none 0 0, .slice none 0 0] 39)).alloc (.map #[] 0)).alloc (.map #[] 0)).alloc (.map #[] 0)).alloc (.map #[] 0)).alloc (.map #[] 0)).alloc (.cells #[.map (some (w.heap.size + 1)), .map (some (w.heap.size + 1 + 1)), .map (some (w.heap.size + 1 + 1 + 1)), .map (some (w.heap.size + 1 + 1 + 1 + 1)), .map (some (w.heap.size + 1 + 1 + 1 + 1 + 1)), .int .i64 0] 83)).alloc (.cells #[.pointer (some ⟨w.heap.size + 1 + 1 + 1 + 1 + 1 + 1, 0, none⟩)] 75)).alloc (.cells #[.slice none 0 0] 34)) := below_alloc (below_alloc (below_alloc (below_alloc (below_alloc (below_alloc (below_alloc (below_alloc (below_alloc (Below.refl _ _) _) _) _) _) _) _) _) _) _
  have hUS : (((((((((w.alloc (.cells #[.slice none 0 0, .slice none 0 0, .slice none 0 0, .slice none 0 0] 39)).alloc (.map #[] 0)).alloc (.map #[] 0)).alloc (.map #[] 0)).alloc (.map #[] 0)).alloc (.map #[] 0)).alloc (.cells #[.map (some (w.heap.size + 1)), .map (some (w.heap.size + 1 + 1)), .map (some (w.heap.size + 1 + 1 + 1)), .map (some (w.heap.size + 1 + 1 + 1 + 1)), .map (some (w.heap.size + 1 + 1 + 1 + 1 + 1)), .int .i64 0] 83)).alloc (.cells #[.pointer (some ⟨w.heap.size + 1 + 1 + 1 + 1 + 1 + 1, 0, none⟩)] 75)).alloc (.cells #[.slice none 0 0] 34)).heap.size = w.heap.size + 9 := by rw [Mem.alloc_size, Mem.alloc_size, Mem.alloc_size, Mem.alloc_size, Mem.alloc_size, Mem.alloc_size, Mem.alloc_size, Mem.alloc_size, Mem.alloc_size]
  have hd : (((((((((w.alloc (.cells #[.slice none 0 0, .slice none 0 0, .slice none 0 0, .slice none 0 0] 39)).alloc (.map #[] 0)).alloc (.map #[] 0)).alloc (.map #[] 0)).alloc (.map #[] 0)).alloc (.map #[] 0)).alloc (.cells #[.map (some (w.heap.size + 1)), .map (some (w.heap.size + 1 + 1)), .map (some (w.heap.size + 1 + 1 + 1)), .map (some (w.heap.size + 1 + 1 + 1 + 1)), .map (some (w.heap.size + 1 + 1 + 1 + 1 + 1)), .int .i64 0] 83)).alloc (.cells #[.pointer (some ⟨w.heap.size + 1 + 1 + 1 + 1 + 1 + 1, 0, none⟩)] 75)).alloc (.cells #[.slice none 0 0] 34)).heap[w.heap.size]? = some (.cells #[.slice none 0 0, .slice none 0 0, .slice none 0 0, .slice none 0 0] 39 (0, 0)) := Mem.alloc_old (Mem.alloc_old (Mem.alloc_old (Mem.alloc_old (Mem.alloc_old (Mem.alloc_old (Mem.alloc_old (Mem.alloc_old (Mem.alloc_new _ _) _) _) _) _) _) _) _) _
  have ha2 : (((((((((w.alloc (.cells #[.slice none 0 0, .slice none 0 0, .slice none 0 0, .slice none 0 0] 39)).alloc (.map #[] 0)).alloc (.map #[] 0)).alloc (.map #[] 0)).alloc (.map #[] 0)).alloc (.map #[] 0)).alloc (.cells #[.map (some (w.heap.size + 1)), .map (some (w.heap.size + 1 + 1)), .map (some (w.heap.size + 1 + 1 + 1)), .map (some (w.heap.size + 1 + 1 + 1 + 1)), .map (some (w.heap.size + 1 + 1 + 1 + 1 + 1)), .int .i64 0] 83)).alloc (.cells #[.pointer (some ⟨w.heap.size + 1 + 1 + 1 + 1 + 1 + 1, 0, none⟩)] 75)).alloc (.cells #[.slice none 0 0] 34)).heap[w.heap.size + 1 + 1]? = some (.map #[] 0) := Mem.alloc_old (Mem.alloc_old (Mem.alloc_old (Mem.alloc_old (Mem.alloc_old (Mem.alloc_old (Mem.alloc_new_at _ _ _ (by rw [Mem.alloc_size, Mem.alloc_size])) _) _) _) _) _) _
  have ha3 : (((((((((w.alloc (.cells #[.slice none 0 0, .slice none 0 0, .slice none 0 0, .slice none 0 0] 39)).alloc (.map #[] 0)).alloc (.map #[] 0)).alloc (.map #[] 0)).alloc (.map #[] 0)).alloc (.map #[] 0)).alloc (.cells #[.map (some (w.heap.size + 1)), .map (some (w.heap.size + 1 + 1)), .map (some (w.heap.size + 1 + 1 + 1)), .map (some (w.heap.size + 1 + 1 + 1 + 1)), .map (some (w.heap.size + 1 + 1 + 1 + 1 + 1)), .int .i64 0] 83)).alloc (.cells #[.pointer (some ⟨w.heap.size + 1 + 1 + 1 + 1 + 1 + 1, 0, none⟩)] 75)).alloc (.cells #[.slice none 0 0] 34)).heap[w.heap.size + 1 + 1 + 1]? = some (.map #[] 0) := Mem.alloc_old (Mem.alloc_old (Mem.alloc_old (Mem.alloc_old (Mem.alloc_old (Mem.alloc_new_at _ _ _ (by rw [Mem.alloc_size, Mem.alloc_size, Mem.alloc_size])) _) _) _) _) _
  have hm : (((((((((w.alloc (.cells #[.slice none 0 0, .slice none 0 0, .slice none 0 0, .slice none 0 0] 39)).alloc (.map #[] 0)).alloc (.map #[] 0)).alloc (.map #[] 0)).alloc (.map #[] 0)).alloc (.map #[] 0)).alloc (.cells #[.map (some (w.heap.size + 1)), .map (some (w.heap.size + 1 + 1)), .map (some (w.heap.size + 1 + 1 + 1)), .map (some (w.heap.size + 1 + 1 + 1 + 1)), .map (some (w.heap.size + 1 + 1 + 1 + 1 + 1)), .int .i64 0] 83)).alloc (.cells #[.pointer (some ⟨w.heap.size + 1 + 1 + 1 + 1 + 1 + 1, 0, none⟩)] 75)).alloc (.cells #[.slice none 0 0] 34)).heap[w.heap.size + 1 + 1 + 1 + 1 + 1]? = some (.map #[] 0) := Mem.alloc_old (Mem.alloc_old (Mem.alloc_old (Mem.alloc_new_at _ _ _ (by rw [Mem.alloc_size, Mem.alloc_size, Mem.alloc_size, Mem.alloc_size, Mem.alloc_size])) _) _) _
  have hp : (((((((((w.alloc (.cells #[.slice none 0 0, .slice none 0 0, .slice none 0 0, .slice none 0 0] 39)).alloc (.map #[] 0)).alloc (.map #[] 0)).alloc (.map #[] 0)).alloc (.map #[] 0)).alloc (.map #[] 0)).alloc (.cells #[.map (some (w.heap.size + 1)), .map (some (w.heap.size + 1 + 1)), .map (some (w.heap.size + 1 + 1 + 1)), .map (some (w.heap.size + 1 + 1 + 1 + 1)), .map (some (w.heap.size + 1 + 1 + 1 + 1 + 1)), .int .i64 0] 83)).alloc (.cells #[.pointer (some ⟨w.heap.size + 1 + 1 + 1 + 1 + 1 + 1, 0, none⟩)] 75)).alloc (.cells #[.slice none 0 0] 34)).heap[w.heap.size + 1 + 1 + 1 + 1 + 1 + 1]? = some (.cells #[.map (some (w.heap.size + 1)), .map (some (w.heap.size + 1 + 1)), .map (some (w.heap.size + 1 + 1 + 1)), .map (some (w.heap.size + 1 + 1 + 1 + 1)), .map (some (w.heap.size + 1 + 1 + 1 + 1 + 1)), .int .i64 0] 83 (0, 0)) := Mem.alloc_old (Mem.alloc_old (Mem.alloc_new_at _ _ _ (by rw [Mem.alloc_size, Mem.alloc_size, Mem.alloc_size, Mem.alloc_size, Mem.alloc_size, Mem.alloc_size])) _) _
  have hq : (((((((((w.alloc (.cells #[.slice none 0 0, .slice none 0 0, .slice none 0 0, .slice none 0 0] 39)).alloc (.map #[] 0)).alloc (.map #[] 0)).alloc (.map #[] 0)).alloc (.map #[] 0)).alloc (.map #[] 0)).alloc (.cells #[.map (some (w.heap.size + 1)), .map (some (w.heap.size + 1 + 1)), .map (some (w.heap.size + 1 + 1 + 1)), .map (some (w.heap.size + 1 + 1 + 1 + 1)), .map (some (w.heap.size + 1 + 1 + 1 + 1 + 1)), .int .i64 0] 83)).alloc (.cells #[.pointer (some ⟨w.heap.size + 1 + 1 + 1 + 1 + 1 + 1, 0, none⟩)] 75)).alloc (.cells #[.slice none 0 0] 34)).heap[w.heap.size + 1 + 1 + 1 + 1 + 1 + 1 + 1]? = some (.cells #[.pointer (some ⟨w.heap.size + 1 + 1 + 1 + 1 + 1 + 1, 0, none⟩)] 75 (0, 0)) := Mem.alloc_old (Mem.alloc_new_at _ _ _ (by rw [Mem.alloc_size, Mem.alloc_size, Mem.alloc_size, Mem.alloc_size, Mem.alloc_size, Mem.alloc_size, Mem.alloc_size])) _
  have hbx : (((((((((w.alloc (.cells #[.slice none 0 0, .slice none 0 0, .slice none 0 0, .slice none 0 0] 39)).alloc (.map #[] 0)).alloc (.map #[] 0)).alloc (.map #[] 0)).alloc (.map #[] 0)).alloc (.map #[] 0)).alloc (.cells #[.map (some (w.heap.size + 1)), .map (some (w.heap.size + 1 + 1)), .map (some (w.heap.size + 1 + 1 + 1)), .map (some (w.heap.size + 1 + 1 + 1 + 1)), .map (some (w.heap.size + 1 + 1 + 1 + 1 + 1)), .int .i64 0] 83)).alloc (.cells #[.pointer (some ⟨w.heap.size + 1 + 1 + 1 + 1 + 1 + 1, 0, none⟩)] 75)).alloc (.cells #[.slice none 0 0] 34)).heap[w.heap.size + 1 + 1 + 1 + 1 + 1 + 1 + 1 + 1]? = some (.cells #[.slice none 0 0] 34 (0, 0)) := Mem.alloc_new_at _ _ _ (by rw [Mem.alloc_size, Mem.alloc_size, Mem.alloc_size, Mem.alloc_size, Mem.alloc_size, Mem.alloc_size, Mem.alloc_size, Mem.alloc_size])
  generalize (((((((((w.alloc (.cells #[.slice none 0 0, .slice none 0 0, .slice none 0 0, .slice none 0 0] 39)).alloc (.map #[] 0)).alloc (.map #[] 0)).alloc (.map #[] 0)).alloc (.map #[] 0)).alloc (.map #[] 0)).alloc (.cells #[.map (some (w.heap.size + 1)), .map (some (w.heap.size + 1 + 1)), .map (some (w.heap.size + 1 + 1 + 1)), .map (some (w.heap.size + 1 + 1 + 1 + 1)), .map (some (w.heap.size + 1 + 1 + 1 + 1 + 1)), .int .i64 0] 83)).alloc (.cells #[.pointer (some ⟨w.heap.size + 1 + 1 + 1 + 1 + 1 + 1, 0, none⟩)] 75)).alloc (.cells #[.slice none 0 0] 34)) = U at *
  refine (wpIn_wide (n := 3)).1 ?_
  refine wpIn_rangeFunc_ownH (F := Fence.wide) (n := 3) rfl (by decide) (gf := 83) (lb := #[.pointer (some ⟨w.heap.size + 1 + 1 + 1 + 1 + 1 + 1 + 1 + 1, 0, none⟩)]) rfl trivial (enters_of Try.func83 (by kernel_rfl) rfl)
    (stops83 hbx) (fun h k => Nat.le_trans h k) (fun W l o o' hl h1 h2 _ => by simp) (Below.refl _ _) (fun x => x.elim)
    (fun (pre : List Empty) W => LK (fun _ => False) w.heap.size w U W) (fun _ _ _ => False) (LK_own (Nat.le_refl _) hBU.size) (fun _ _ _ _ _ hs _ _ => hs) ⟨KeptT.refl _ _, hBU⟩
    (fun x a' W => True) (fun x a' _ X Y row hs hg hr => trivial) ?assign ?body ?done ?stop
  case assign => rintro l pre x; exact x.elim
  case body => rintro l pre x; exact x.elim
  case stop => rintro D c pre W _ _ h _; exact h.elim
  case done =>
    rintro D ys W1 hD _ hL hKD
    have HL := Aside0.mk hL
    have HKD := Aside0.mk hKD
    have d1 : W1.cell? ⟨w.heap.size, 1, none⟩ = some (.slice none 0 0) := Mem.cell_of (hL.1.cells hd id) 1
    have d2 : W1.cell? ⟨w.heap.size, 2, none⟩ = some (.slice none 0 0) := Mem.cell_of (hL.1.cells hd id) 2
    have d3 : W1.cell? ⟨w.heap.size, 3, none⟩ = some (.slice none 0 0) := Mem.cell_of (hL.1.cells hd id) 3
    have HU : Aside0 (U.heap.size ≤ W1.heap.size) := ⟨hL.1.size⟩
    clear hL hKD
    go_wp2_with (fail)
    go_loopw [36] (fun v wr => v = .int .i64 0 ∧ wr = W1) (fun _ _ => 0)
    case atStart => exact ⟨rfl, rfl⟩
    case round =>
      obtain ⟨rfl, rfl⟩ := hrel
      rename World => W1
      go_wp2_with (fail)
      refine (back70 _).mono ?_
      rintro e w1 ⟨rfl, rfl⟩
      go_wp2_with (fail)
      have hbx2 : (W1.alloc (.cells #[.slice none 0 0] 36)).heap[W1.heap.size]? = some (.cells #[.slice none 0 0] 36 (0, 0)) := Mem.alloc_new _ _
      have hL2 : LK (fun _ => False) w.heap.size w U (W1.alloc (.cells #[.slice none 0 0] 36)) := HL.out.on (below_alloc (Below.refl _ _) _) hBU.size
      have HD2 : Aside0 ((W1.alloc (.cells #[.slice none 0 0] 36)).heap[D]? = some (.deferred (some []))) := ⟨Mem.alloc_old HKD.out _⟩
      generalize W1.alloc (.cells #[.slice none 0 0] 36) = V at *
      have hBV := hL2.2
      refine (wpIn_wide (n := 3)).1 ?_
      refine wpIn_rangeFunc_ownH (F := Fence.wide) (n := 3) rfl (by decide) (gf := 84) (lb := #[.pointer (some ⟨W1.heap.size, 0, none⟩)]) rfl trivial (enters_of Try.func84 (by kernel_rfl) rfl)
        (stops84 hbx2) (fun h k => Nat.le_trans h k) (fun W l o o' hl h1 h2 _ => by simp) (Below.refl _ _) (fun x => x.elim)
        (fun (pre : List Empty) W => LK (fun _ => False) w.heap.size w V W) (fun _ _ _ => False) (LK_own (Nat.le_refl _) hBV.size) (fun _ _ _ _ _ hs _ _ => hs) ⟨KeptT.refl _ _, hBV⟩
        (fun x a' W => True) (fun x a' _ X Y row hs hg hr => trivial) ?assign2 ?body2 ?done2 ?stop2
      case assign2 => rintro l pre x; exact x.elim
      case body2 => rintro l pre x; exact x.elim
      case stop2 => rintro D c pre W _ _ h _; exact h.elim
      case done2 =>
        rintro D2 ys W2 hD2 _ hL3 hKD2
        have hK : KeptT (fun _ => False) U W2 := ⟨Nat.le_trans hL2.1.size hL3.1.size, fun i hi hn => (hL3.1.block i (Nat.lt_of_lt_of_le hi hL2.1.size) hn).trans (hL2.1.block i hi hn)⟩
        have HK := Aside0.mk hK
        have HB := Aside0.mk hL3.2
        have HKD2 := Aside0.mk hKD2
        have HKD1 := Aside0.mk (hL3.1.cells HD2.out id)
        have d1' : W2.cell? ⟨w.heap.size, 1, none⟩ = some (.slice none 0 0) := Mem.cell_of (hK.cells hd id) 1
        have q0 : W2.cell? ⟨w.heap.size + 1 + 1 + 1 + 1 + 1 + 1 + 1, 0, none⟩ = some (.pointer (some ⟨w.heap.size + 1 + 1 + 1 + 1 + 1 + 1, 0, none⟩)) := Mem.cell_of (hK.cells hq id) 0
        clear hK hL3 hKD2 d1 d2 d3
        go_wp2_with (fail)
        go_loopw [69] (fun v wr => v = .int .i64 0 ∧ wr = W2) (fun _ _ => 0)
        case atStart => exact ⟨rfl, rfl⟩
        case round =>
          obtain ⟨rfl, rfl⟩ := hrel
          rename World => W2
          go_wp2_with (fail)
          have hlt : D < D2 := Nat.lt_of_lt_of_le (blk_lt' HD2.out) hD2
          have he4 : (W2.putObj D2 (.deferred none)).heap[D]? = _ := (World.putObj_heap_other (by omega)).trans HKD1.out
          refine ⟨by simp, .inl ⟨_, _, rfl, run_takeDeferred HKD2.out, by simp, .inl ⟨_, _, rfl, run_takeDeferred he4, ?_⟩⟩⟩
          have he : ∀ k o, k < w.heap.size + 9 → U.heap[k]? = some o → ((W2.putObj D2 (.deferred none)).putObj D (.deferred none)).heap[k]? = some o := fun k o hk ho => (World.putObj_heap_other (by omega)).trans ((World.putObj_heap_other (by omega)).trans (HK.out.cells ho id))
          refine ⟨_, results_tmp rfl _ _ _, w.heap.size + 1 + 1 + 1 + 1 + 1 + 1, w.heap.size + 1 + 1 + 1 + 1 + 1, w.heap.size + 1, w.heap.size + 1 + 1, w.heap.size + 1 + 1 + 1, w.heap.size + 1 + 1 + 1 + 1, rfl, ⟨he _ _ (by omega) hp, he _ _ (by omega) ha2, he _ _ (by omega) ha3, by omega, by omega⟩, he _ _ (by omega) hm, by omega, by omega, ?_⟩
          exact (HB.out.trans (belowK_b (w := V) hBV.size _ D2 _ _ hD2 HKD2.out rfl rfl)).trans (belowK_b (w := U) hBU.size _ D _ _ hD he4 rfl rfl)
theorem below_put' {n b : Nat} {w W : World} (h : Below n w W) (hb : n ≤ b) (o : Obj) : Below n w (W.putObj b o) := ⟨h.os, h.tape, h.output, Nat.le_trans h.size (by simp), fun i hi => (World.putObj_heap_other (by omega)).trans (h.block i hi)⟩
theorem set6 {P : World} {b t : Nat} {u0 u1 u2 u3 u4 u5 : Value} (h : P.heap[b]? = some (.cells #[u0, u1, u2, u3, u4, u5] t (0, 0))) (v0 v1 v2 v3 v4 v5 : Value) :
    ((((((P.setCell ⟨b, 0, none⟩ v0).setCell ⟨b, 1, none⟩ v1).setCell ⟨b, 2, none⟩ v2).setCell ⟨b, 3, none⟩ v3).setCell ⟨b, 4, none⟩ v4).setCell ⟨b, 5, none⟩ v5).heap[b]? = some (.cells #[v0, v1, v2, v3, v4, v5] t (0, 0)) :=
  Mem.set_heap (Mem.set_heap (Mem.set_heap (Mem.set_heap (Mem.set_heap (Mem.set_heap h 0 v0) 1 v1) 2 v2) 3 v3) 4 v4) 5 v5
theorem set6_far (P : World) {b k : Nat} (h : k ≠ b) (v0 v1 v2 v3 v4 v5 : Value) :
    ((((((P.setCell ⟨b, 0, none⟩ v0).setCell ⟨b, 1, none⟩ v1).setCell ⟨b, 2, none⟩ v2).setCell ⟨b, 3, none⟩ v3).setCell ⟨b, 4, none⟩ v4).setCell ⟨b, 5, none⟩ v5).heap[k]? = P.heap[k]? :=
  (Mem.set_other _ _ _ _ h).trans ((Mem.set_other _ _ _ _ h).trans ((Mem.set_other _ _ _ _ h).trans ((Mem.set_other _ _ _ _ h).trans ((Mem.set_other _ _ _ _ h).trans (Mem.set_other _ _ _ _ h)))))
theorem set6_below {P w : World} {b n : Nat} (h : Below n w P) (hn : n ≤ b) (v0 v1 v2 v3 v4 v5 : Value) :
    Below n w ((((((P.setCell ⟨b, 0, none⟩ v0).setCell ⟨b, 1, none⟩ v1).setCell ⟨b, 2, none⟩ v2).setCell ⟨b, 3, none⟩ v3).setCell ⟨b, 4, none⟩ v4).setCell ⟨b, 5, none⟩ v5) :=
  (((((h.setCell (p := ⟨b, 0, none⟩) hn _).setCell (p := ⟨b, 1, none⟩) hn _).setCell (p := ⟨b, 2, none⟩) hn _).setCell (p := ⟨b, 3, none⟩) hn _).setCell (p := ⟨b, 4, none⟩) hn _).setCell (p := ⟨b, 5, none⟩) hn _
theorem below_after {n m : Nat} {w w1 w2 : World} (h : Below m w w1) (k : Below n w1 w2) (hn : n ≤ m) : Below n w w2 := (h.mono hn).trans k
theorem wrap_one' : IntKind.i64.wrap 1 = 1 := by decide
def z0 : S23 := ⟨0, 0⟩
set_option maxHeartbeats 8000000 in
set_option maxRecDepth 100000 in
theorem node_empty (w : World) (p m a1 a2 a3 a4 n0 : Nat) (h : Proj0 w p m 0 a1 a2 a3 a4) (hm : w.heap[m]? = some (.map #[] 0)) (hp : n0 ≤ p) (hm0 : n0 ≤ m) (hn : n0 ≤ w.heap.size) :
    Calls Try.prog 50 #[.pointer (some ⟨p, 0, none⟩), .agg #[.int .i64 0, .int .i64 0], .string { data := #[114, 111, 111, 116] }] w fun e w' => e = .returned (.agg #[.int .i64 0, .int .i64 0, .string { data := #[114, 111, 111, 116] }, .string ⟨#[]⟩, .slice none 0 0, .slice none 0 0]) ∧ w'.heap[p]? = some (.cells #[.map (some a1), .map (some a2), .map (some a3), .map (some a4), .map (some m), .int .i64 1] 83 (0, 0)) ∧ Below n0 w w' := by
  have hpl := blk_lt' h.box
  have hml := blk_lt' hm
  have hB1 : Below w.heap.size w (((w.alloc (.cells #[.int .i64 0, .int .i64 0] 23)).alloc (.cells #[.int .i64 0, .int .i64 0, .string ⟨#[]⟩, .string ⟨#[]⟩, .slice none 0 0, .slice none 0 0] 27)).alloc (.cells #[.int .i64 0, .int .i64 0, .string { data := #[114, 111, 111, 116] }, .string ⟨#[]⟩, .slice none 0 0, .slice none 0 0] 27)) := below_alloc (below_alloc (below_alloc (Below.refl _ _) _) _) _
  have hp1 := (hB1.block p hpl).trans h.box
  have hm1 : MapS (((w.alloc (.cells #[.int .i64 0, .int .i64 0] 23)).alloc (.cells #[.int .i64 0, .int .i64 0, .string ⟨#[]⟩, .string ⟨#[]⟩, .slice none 0 0, .slice none 0 0] 27)).alloc (.cells #[.int .i64 0, .int .i64 0, .string { data := #[114, 111, 111, 116] }, .string ⟨#[]⟩, .slice none 0 0, .slice none 0 0] 27)) m [] := (hB1.block m hml).trans hm
  have h21 := (hB1.block a2 (blk_lt' h.h2)).trans h.h2
  have h31 := (hB1.block a3 (blk_lt' h.h3)).trans h.h3
  have h4 : (((w.alloc (.cells #[.int .i64 0, .int .i64 0] 23)).alloc (.cells #[.int .i64 0, .int .i64 0, .string ⟨#[]⟩, .string ⟨#[]⟩, .slice none 0 0, .slice none 0 0] 27)).alloc (.cells #[.int .i64 0, .int .i64 0, .string { data := #[114, 111, 111, 116] }, .string ⟨#[]⟩, .slice none 0 0, .slice none 0 0] 27)).heap[w.heap.size]? = some (.cells #[.int .i64 0, .int .i64 0] 23 (0, 0)) := Mem.alloc_old (Mem.alloc_old (Mem.alloc_new _ _) _) _
  have h6 : (((w.alloc (.cells #[.int .i64 0, .int .i64 0] 23)).alloc (.cells #[.int .i64 0, .int .i64 0, .string ⟨#[]⟩, .string ⟨#[]⟩, .slice none 0 0, .slice none 0 0] 27)).alloc (.cells #[.int .i64 0, .int .i64 0, .string { data := #[114, 111, 111, 116] }, .string ⟨#[]⟩, .slice none 0 0, .slice none 0 0] 27)).heap[w.heap.size + 1]? = some (.cells #[.int .i64 0, .int .i64 0, .string ⟨#[]⟩, .string ⟨#[]⟩, .slice none 0 0, .slice none 0 0] 27 (0, 0)) := Mem.alloc_old (Mem.alloc_new_at _ _ _ (by rw [Mem.alloc_size])) _
  have h7 : (((w.alloc (.cells #[.int .i64 0, .int .i64 0] 23)).alloc (.cells #[.int .i64 0, .int .i64 0, .string ⟨#[]⟩, .string ⟨#[]⟩, .slice none 0 0, .slice none 0 0] 27)).alloc (.cells #[.int .i64 0, .int .i64 0, .string { data := #[114, 111, 111, 116] }, .string ⟨#[]⟩, .slice none 0 0, .slice none 0 0] 27)).heap[w.heap.size + 1 + 1]? = some (.cells #[.int .i64 0, .int .i64 0, .string { data := #[114, 111, 111, 116] }, .string ⟨#[]⟩, .slice none 0 0, .slice none 0 0] 27 (0, 0)) := Mem.alloc_new_at _ _ _ (by rw [Mem.alloc_size, Mem.alloc_size])
  have hne2 := h.ne2
  have hne3 := h.ne3
  clear h hm
  have HB1 := Aside0.mk hB1
  clear hB1
  go_enter Try.func50, Try.ntmps50
  go_upto_region 2 with (fail)
  generalize (((w.alloc (.cells #[.int .i64 0, .int .i64 0] 23)).alloc (.cells #[.int .i64 0, .int .i64 0, .string ⟨#[]⟩, .string ⟨#[]⟩, .slice none 0 0, .slice none 0 0] 27)).alloc (.cells #[.int .i64 0, .int .i64 0, .string { data := #[114, 111, 111, 116] }, .string ⟨#[]⟩, .slice none 0 0, .slice none 0 0] 27)) = W1 at *
  have hpm : p ≠ m := by rintro rfl; have h_ := hm1; unfold MapS at h_; rw [hp1] at h_; cases h_
  have hMd : MapS W1.drew m [] := hm1
  have r1 : Sem.run Try.prog (Instr.lookup 70 (.map (some m)) (.agg #[.int .i64 0, .int .i64 0]) false) W1.drew = .ok (.int .i64 0) W1.drew := look_run hMd z0
  have r2 : Sem.run Try.prog (Instr.mapEntry 70 (.map (some m)) (.agg #[.int .i64 0, .int .i64 0])) W1.drew = .ok (.tuple #[.int .i64 0, .int .i64 0]) (W1.drew.putObj m (.map (ents 0 [(z0, 0)]).toArray 1)) := entry_run hMd z0 rfl
  have hM1 : MapS (W1.drew.putObj m (.map (ents 0 [(z0, 0)]).toArray 1)) m [(z0, 0)] := World.putObj_heap_same (blk_lt' hMd)
  have hM2 : MapS ((W1.drew.putObj m (.map (ents 0 [(z0, 0)]).toArray 1)).putObj m (.map (ents 0 [(z0, 1)]).toArray 1)) m [(z0, 1)] := World.putObj_heap_same (blk_lt' hM1)
  have r3 : Sem.run Try.prog (Instr.lookup 70 (.map (some m)) (.agg #[.int .i64 0, .int .i64 0]) false) (W1.drew.putObj m (.map (ents 0 [(z0, 0)]).toArray 1)) = .ok (.int .i64 0) (W1.drew.putObj m (.map (ents 0 [(z0, 0)]).toArray 1)) := look_run hM1 z0
  have r4 : Sem.run Try.prog (Instr.entryStore 70 (.map (some m)) (.int .i64 0) (.int .i64 1)) (W1.drew.putObj m (.map (ents 0 [(z0, 0)]).toArray 1)) = .ok () ((W1.drew.putObj m (.map (ents 0 [(z0, 0)]).toArray 1)).putObj m (.map (ents 0 [(z0, 1)]).toArray 1)) := store_run (l := []) z0 1 hM1
  have hw1 := wrap_one'
  have ho : ∀ k o, k ≠ m → W1.heap[k]? = some o → ((W1.drew.putObj m (.map (ents 0 [(z0, 0)]).toArray 1)).putObj m (.map (ents 0 [(z0, 1)]).toArray 1)).heap[k]? = some o := fun k o hk h_ => (World.putObj_heap_other hk).trans ((World.putObj_heap_other hk).trans h_)
  have HPB : Aside0 (Below n0 W1 ((W1.drew.putObj m (.map (ents 0 [(z0, 0)]).toArray 1)).putObj m (.map (ents 0 [(z0, 1)]).toArray 1))) := ⟨below_put' (below_put' (below_drew (Below.refl _ _)) hm0 _) hm0 _⟩
  have c4 : W1.cell? ⟨p, 4, none⟩ = some (.map (some m)) := Mem.cell_of hp1 4
  have k0 : W1.cell? ⟨w.heap.size, 0, none⟩ = some (.int .i64 0) := Mem.cell_of h4 0
  have k1 : W1.cell? ⟨w.heap.size, 1, none⟩ = some (.int .i64 0) := Mem.cell_of h4 1
  have HP2 := Aside0.mk (ho _ _ hpm hp1)
  have HA2 := Aside0.mk (ho _ _ hne2 h21)
  have HA3 := Aside0.mk (ho _ _ hne3 h31)
  have HK4 := Aside0.mk (ho _ _ (by omega) h4)
  have HK6 := Aside0.mk (ho _ _ (by omega) h6)
  have HK7 := Aside0.mk (ho _ _ (by omega) h7)
  clear hM1 hM2 hMd ho hp1 hm1 h21 h31 h4 h6 h7
  generalize hq1 : (W1.drew.putObj m (.map (ents 0 [(z0, 0)]).toArray 1)) = P1 at *
  generalize hq2 : P1.putObj m (.map (ents 0 [(z0, 1)]).toArray 1) = P2 at *
  clear hq1 hq2
  go_cut [20] from 142 (fun v wr => Aside0 (wr = P2))
  case first =>
    go_region
    all_goals
      go_wp2_with (fail)
      go_meet
      case rel => exact ⟨rfl⟩
  case rest =>
    obtain rfl := hcut.out
    clear r1 r2 r3 r4 c4 k0 k1
    have c5 : wc.cell? ⟨p, 5, none⟩ = some (.int .i64 0) := Mem.cell_of HP2.out 5
    have f5 := Mem.free_of HP2.out 5
    go_upto_region 5 with (fail)
    have ho : ∀ k o, k ≠ p → wc.heap[k]? = some o → (wc.setCell ⟨p, 5, none⟩ (.int .i64 1)).heap[k]? = some o := fun k o hk h_ => (Mem.set_other _ _ _ _ hk).trans h_
    have HP3 : Aside0 ((wc.setCell ⟨p, 5, none⟩ (.int .i64 1)).heap[p]? = some (.cells #[.map (some a1), .map (some a2), .map (some a3), .map (some a4), .map (some m), .int .i64 1] 83 (0, 0))) := ⟨Mem.set_heap HP2.out 5 _⟩
    have HB3 : Aside0 (Below n0 W1 (wc.setCell ⟨p, 5, none⟩ (.int .i64 1))) := ⟨HPB.out.setCell (p := ⟨p, 5, none⟩) hp _⟩
    have hK4 := ho _ _ (by omega) HK4.out
    have hK6 := ho _ _ (by omega) HK6.out
    have hK7 := ho _ _ (by omega) HK7.out
    have hA2 := ho _ _ (by rintro rfl; have h_ := HA2.out; rw [HP2.out] at h_; cases h_) HA2.out
    have hA3 := ho _ _ (by rintro rfl; have h_ := HA3.out; rw [HP2.out] at h_; cases h_) HA3.out
    clear c5 f5 ho HP2 HA2 HA3 HK4 HK6 HK7 HPB
    generalize wc.setCell ⟨p, 5, none⟩ (.int .i64 1) = P3 at *
    have c1 : P3.cell? ⟨p, 1, none⟩ = some (.map (some a2)) := Mem.cell_of HP3.out 1
    have c2 : P3.cell? ⟨p, 2, none⟩ = some (.map (some a3)) := Mem.cell_of HP3.out 2
    have k0 : P3.cell? ⟨w.heap.size, 0, none⟩ = some (.int .i64 0) := Mem.cell_of hK4 0
    have k1 : P3.cell? ⟨w.heap.size, 1, none⟩ = some (.int .i64 0) := Mem.cell_of hK4 1
    have r5 : Sem.run Try.prog (Instr.lookup 79 (.map (some a2)) (.agg #[.int .i64 0, .int .i64 0]) false) P3.drew = .ok (.slice none 0 0) P3.drew := look_empty (W := P3.drew) (z := .slice none 0 0) Try.underlying79 (by have hu := Try.underlying37; go_simp) hA2 z0
    have r6 : Sem.run Try.prog (Instr.lookup 80 (.map (some a3)) (.agg #[.int .i64 0, .int .i64 0]) false) P3.drew.drew = .ok (.slice none 0 0) P3.drew.drew := look_empty (W := P3.drew.drew) (z := .slice none 0 0) Try.underlying80 (by have hu := Try.underlying48; go_simp) hA3 z0
    go_region
    all_goals
      go_wp2_with (fail)
      go_loopw [43] (fun v wr => v = .int .i64 0 ∧ wr = P3.drew) (fun _ _ => 0)
      case atStart => exact ⟨rfl, rfl⟩
      case round =>
        obtain ⟨rfl, rfl⟩ := hrel
        go_wp2_with (fail)
        go_region
        all_goals
          go_wp2_with (fail)
          go_loopw [87] (fun v wr => v = .int .i64 0 ∧ wr = P3.drew.drew) (fun _ _ => 0)
          case atStart => exact ⟨rfl, rfl⟩
          case round =>
            obtain ⟨rfl, rfl⟩ := hrel
            have hK6' : P3.drew.drew.heap[w.heap.size + 1]? = _ := hK6
            have hK7' : P3.drew.drew.heap[w.heap.size + 1 + 1]? = _ := hK7
            have HP5 : Aside0 (P3.drew.drew.heap[p]? = _) := HP3
            have HB5 : Aside0 (Below n0 W1 P3.drew.drew) := ⟨below_drew (below_drew HB3.out)⟩
            generalize P3.drew.drew = P5 at hK6' hK7' HP5 HB5 ⊢
            have y0 : P5.cell? ⟨w.heap.size + 1 + 1, 0, none⟩ = some (.int .i64 0) := Mem.cell_of hK7' 0
            have y1 : P5.cell? ⟨w.heap.size + 1 + 1, 1, none⟩ = some (.int .i64 0) := Mem.cell_of hK7' 1
            have y2 : P5.cell? ⟨w.heap.size + 1 + 1, 2, none⟩ = some (.string { data := #[114, 111, 111, 116] }) := Mem.cell_of hK7' 2
            have y3 : P5.cell? ⟨w.heap.size + 1 + 1, 3, none⟩ = some (.string ⟨#[]⟩) := Mem.cell_of hK7' 3
            have y4 : P5.cell? ⟨w.heap.size + 1 + 1, 4, none⟩ = some (.slice none 0 0) := Mem.cell_of hK7' 4
            have y5 : P5.cell? ⟨w.heap.size + 1 + 1, 5, none⟩ = some (.slice none 0 0) := Mem.cell_of hK7' 5
            have HK6 := Aside0.mk hK6'
            have g0 : P5.cell? ⟨w.heap.size + 1, 0, none⟩ = some (.int .i64 0) := Mem.cell_of hK6' 0
            have g1 : P5.cell? ⟨w.heap.size + 1, 1, none⟩ = some (.int .i64 0) := Mem.cell_of hK6' 1
            have g2 : P5.cell? ⟨w.heap.size + 1, 2, none⟩ = some (.string ⟨#[]⟩) := Mem.cell_of hK6' 2
            have g3 : P5.cell? ⟨w.heap.size + 1, 3, none⟩ = some (.string ⟨#[]⟩) := Mem.cell_of hK6' 3
            have g4 : P5.cell? ⟨w.heap.size + 1, 4, none⟩ = some (.slice none 0 0) := Mem.cell_of hK6' 4
            have g5 : P5.cell? ⟨w.heap.size + 1, 5, none⟩ = some (.slice none 0 0) := Mem.cell_of hK6' 5
            have fr0 := Mem.free_of hK6' 0
            have fr1 := Mem.free_of hK6' 1
            have fr2 := Mem.free_of hK6' 2
            have fr3 := Mem.free_of hK6' 3
            have fr4 := Mem.free_of hK6' 4
            have fr5 := Mem.free_of hK6' 5
            clear hK6' hK7' hK6 hK7 hK4 hA2 hA3 r5 r6 c1 c2 k0 k1
            go_wp2_with (fail)
            have hpl2 : p < w.heap.size := hpl
            refine bodyPost_ret (results_cell_row rfl _ _ (w.heap.size + 1) 27 #[.int .i64 0, .int .i64 0, .string { data := #[114, 111, 111, 116] }, .string ⟨#[]⟩, .slice none 0 0, .slice none 0 0] (0, 0) _ rfl (set6 HK6.out _ _ _ _ _ _) Try.underlying27 rfl (by kernel_rfl)) rfl ⟨rfl, (set6_far _ (by omega) _ _ _ _ _ _).trans HP5.out, ?_⟩
            exact set6_below (below_after HB1.out HB5.out hn) (by omega) _ _ _ _ _ _
set_option maxHeartbeats 8000000 in
set_option maxRecDepth 100000 in
theorem tree_empty (w : World) : Calls Try.prog 18 #[.agg #[.slice none 0 0, .slice none 0 0, .slice none 0 0, .slice none 0 0]] w fun e w' => e = .returned (.tuple #[.agg #[.int .i64 0, .int .i64 0, .string { data := #[114, 111, 111, 116] }, .string ⟨#[]⟩, .slice none 0 0, .slice none 0 0], .int .i64 0]) ∧ Below w.heap.size w w' := by
  go_enter Try.func18, Try.ntmps18
  go_wp2_with (fail)
  refine (of_empty _).mono ?_
  rintro e w1 ⟨p, m, a1, a2, a3, a4, rfl, hP, hm, hp, hmm, hb⟩
  have HB := Aside0.mk hb
  have hlo : w.heap.size + 2 ≤ p := by have h_ := hp; rw [Mem.alloc_size, Mem.alloc_size] at h_; exact h_
  have hlm : w.heap.size + 2 ≤ m := by have h_ := hmm; rw [Mem.alloc_size, Mem.alloc_size] at h_; exact h_
  have HB2 : Aside0 (Below (w.heap.size + 2) ((w.alloc (.cells #[.slice none 0 0, .slice none 0 0, .slice none 0 0, .slice none 0 0] 39)).alloc (.cells #[.int .i64 0, .int .i64 0, .string ⟨#[]⟩, .string ⟨#[]⟩, .slice none 0 0, .slice none 0 0] 27)) w1) := ⟨by have h_ := hb; rw [Mem.alloc_size, Mem.alloc_size] at h_; exact h_⟩
  have HN := Aside0.mk (node_empty w1 p m a1 a2 a3 a4 (w.heap.size + 2) hP hm hlo hlm (by have h_ := hb.size; rw [Mem.alloc_size, Mem.alloc_size] at h_; exact h_))
  clear hP hm hp hmm hb
  go_wp2_with (fail)
  refine HN.out.mono ?_
  rintro e w2 ⟨rfl, hp2, hb2⟩
  have hb12 := HB2.out.trans hb2
  have hr0 : w2.heap[w.heap.size + 1]? = some (.cells #[.int .i64 0, .int .i64 0, .string ⟨#[]⟩, .string ⟨#[]⟩, .slice none 0 0, .slice none 0 0] 27 (0, 0)) := (hb12.block _ (by omega)).trans (Mem.alloc_new_at _ _ _ (by rw [Mem.alloc_size]))
  have HBW : Aside0 (Below w.heap.size w w2) := ⟨(below_alloc (below_alloc (Below.refl _ _) _) _).trans (hb12.mono (by omega))⟩
  have HS : Aside0 (w.heap.size + 2 ≤ w2.heap.size) := ⟨by have h_ := hb12.size; rw [Mem.alloc_size, Mem.alloc_size] at h_; exact h_⟩
  have c5 : (w2.alloc (.cells #[.int .i64 0, .int .i64 0, .string { data := #[114, 111, 111, 116] }, .string ⟨#[]⟩, .slice none 0 0, .slice none 0 0] 27)).cell? ⟨p, 5, none⟩ = some (.int .i64 1) := Mem.cell_alloc (Mem.cell_of hp2 5) _
  clear hp2 hb2 hb12 HN HB
  go_upto_region 5 with (fail)
  have hr := Mem.alloc_old hr0 (.cells #[.int .i64 0, .int .i64 0, .string { data := #[114, 111, 111, 116] }, .string ⟨#[]⟩, .slice none 0 0, .slice none 0 0] 27)
  have h5 : (w2.alloc (.cells #[.int .i64 0, .int .i64 0, .string { data := #[114, 111, 111, 116] }, .string ⟨#[]⟩, .slice none 0 0, .slice none 0 0] 27)).heap[w2.heap.size]? = _ := Mem.alloc_new _ _
  have HB5 : Aside0 (Below w.heap.size w (w2.alloc (.cells #[.int .i64 0, .int .i64 0, .string { data := #[114, 111, 111, 116] }, .string ⟨#[]⟩, .slice none 0 0, .slice none 0 0] 27))) := ⟨HBW.out.alloc HBW.out.size _⟩
  generalize w2.alloc (.cells #[.int .i64 0, .int .i64 0, .string { data := #[114, 111, 111, 116] }, .string ⟨#[]⟩, .slice none 0 0, .slice none 0 0] 27) = P5 at *
  have y0 : P5.cell? ⟨w2.heap.size, 0, none⟩ = some (.int .i64 0) := Mem.cell_of h5 0
  have y1 : P5.cell? ⟨w2.heap.size, 1, none⟩ = some (.int .i64 0) := Mem.cell_of h5 1
  have y2 : P5.cell? ⟨w2.heap.size, 2, none⟩ = some (.string { data := #[114, 111, 111, 116] }) := Mem.cell_of h5 2
  have y3 : P5.cell? ⟨w2.heap.size, 3, none⟩ = some (.string ⟨#[]⟩) := Mem.cell_of h5 3
  have y4 : P5.cell? ⟨w2.heap.size, 4, none⟩ = some (.slice none 0 0) := Mem.cell_of h5 4
  have y5 : P5.cell? ⟨w2.heap.size, 5, none⟩ = some (.slice none 0 0) := Mem.cell_of h5 5
  have HK6 := Aside0.mk hr
  have g0 : P5.cell? ⟨w.heap.size + 1, 0, none⟩ = some (.int .i64 0) := Mem.cell_of hr 0
  have g1 : P5.cell? ⟨w.heap.size + 1, 1, none⟩ = some (.int .i64 0) := Mem.cell_of hr 1
  have g2 : P5.cell? ⟨w.heap.size + 1, 2, none⟩ = some (.string ⟨#[]⟩) := Mem.cell_of hr 2
  have g3 : P5.cell? ⟨w.heap.size + 1, 3, none⟩ = some (.string ⟨#[]⟩) := Mem.cell_of hr 3
  have g4 : P5.cell? ⟨w.heap.size + 1, 4, none⟩ = some (.slice none 0 0) := Mem.cell_of hr 4
  have g5 : P5.cell? ⟨w.heap.size + 1, 5, none⟩ = some (.slice none 0 0) := Mem.cell_of hr 5
  have fr0 := Mem.free_of hr 0
  have fr1 := Mem.free_of hr 1
  have fr2 := Mem.free_of hr 2
  have fr3 := Mem.free_of hr 3
  have fr4 := Mem.free_of hr 4
  have fr5 := Mem.free_of hr 5
  clear hr hr0 h5
  go_wp2_with (fail)
  refine bodyPost_ret (results_ct rfl _ _ (w.heap.size + 1) 27 #[.int .i64 0, .int .i64 0, .string { data := #[114, 111, 111, 116] }, .string ⟨#[]⟩, .slice none 0 0, .slice none 0 0] (0, 0) _ rfl (set6 HK6.out _ _ _ _ _ _) Try.underlying27 rfl (by kernel_rfl)) rfl ⟨rfl, ?_⟩
  exact set6_below HB5.out (by omega) _ _ _ _ _ _
end Go.Proofs.Ytnkbgimihikhoaa.PVt
namespace Go.Proofs.Ytnkbgimihikhoaa.PVt
open Go.RowKit Go.Proofs.YtnkbgimihikhoaaW.PrintWords Go.Proofs.YtnkbgimihikhoaaW.PrintLast Go.Proofs.YtnkbgimihikhoaaW.PrintMore
set_option linter.unusedVariables false
set_option linter.unusedSimpArgs false
set_option maxHeartbeats 4000000 in
theorem count_calls (w : World) (x : S27) (A4 : Option Addr) (c4 : Nat) (A5 : Option Addr) (c5 : Nat) (hd : szT x ≤ 1099511627776)
    (hT : TK w w.heap.size x [.int .i64 x.f0.f0, .int .i64 x.f0.f1, .string x.f1, .string x.f2, .slice A4 x.f3.length c4, .slice A5 x.f4.length c5]) :
    Calls Try.prog 32 #[.agg #[.int .i64 x.f0.f0, .int .i64 x.f0.f1, .string x.f1, .string x.f2, .slice A4 x.f3.length c4, .slice A5 x.f4.length c5]] w fun e w' => e = .returned (.int .i64 ((szT x : Nat) : Int)) ∧ Below w.heap.size w w' := by
  have hb := below_alloc (Below.refl w.heap.size w) (.cells #[.int .i64 x.f0.f0, .int .i64 x.f0.f1, .string x.f1, .string x.f2, .slice A4 x.f3.length c4, .slice A5 x.f4.length c5] 27)
  have HK := Aside0.mk (keys_calls (w.alloc (.cells #[.int .i64 x.f0.f0, .int .i64 x.f0.f1, .string x.f1, .string x.f2, .slice A4 x.f3.length c4, .slice A5 x.f4.length c5] 27)) x A4 c4 A5 c5 hd (Kd.FK_mono (hT.low (fun i hi => hb.block i hi)) (fun i hi => Nat.lt_of_lt_of_le hi hb.size)))
  have HB := Aside0.mk hb
  have HL : Aside0 ((keysP (flatD 0 x)).length = szT x) := ⟨by unfold keysP; rw [List.length_map, flatD_length]⟩
  clear hT hb
  go_enter Try.func32, Try.ntmps32
  go_wp2_with (fail)
  refine HK.out.mono ?_
  rintro e w' ⟨v, rfl, hR, hB⟩
  obtain ⟨A, c, rfl⟩ := Kd.R_slice hR
  rw [HL.out]
  have HB2 := Aside0.mk hB
  clear hR hB HK
  go_wp2
  go_ret
  exact ⟨rfl, HB.out.trans (HB2.out.mono HB.out.size)⟩
def rootS : ByteArray := { data := #[114, 111, 111, 116] }
def rootT : S27 := ⟨⟨0, 0⟩, rootS, ⟨#[]⟩, [], []⟩
theorem TK_bare (w : World) (x : S27) (h3 : x.f3 = []) (h4 : x.f4 = []) : TK w w.heap.size x [.int .i64 x.f0.f0, .int .i64 x.f0.f1, .string x.f1, .string x.f2, .slice none 0 0, .slice none 0 0] := by
  obtain ⟨a, b, c, d, e⟩ := x
  cases h3
  cases h4
  exact TK.of (k27_mk w _ (Nat.le_refl _) (Kd.C_nil _ _) (Nat.le_refl _) (Kd.C_nil _ _))
theorem check_root : checkP rootT = 0 := by decide
theorem check_zero : checkP z27 = 8 := by decide
theorem max_root : maxD (flatD 0 rootT) = 1 := by decide
set_option maxHeartbeats 8000000 in
set_option maxRecDepth 100000 in
theorem awake_calls (w : World) : Calls Try.prog 15 #[] w fun e w' => e = .returned (.bool true) ∧ Below w.heap.size w w' := by
  have HO := Aside0.mk (tree_empty w)
  go_enter Try.func15, Try.ntmps15
  go_wp2_with (fail)
  refine HO.out.mono ?_
  rintro e w1 ⟨rfl, hb1⟩
  have HB1 : Aside0 (Below w.heap.size w (w1.alloc (.cells #[.int .i64 0, .int .i64 0, .string { data := #[114, 111, 111, 116] }, .string ⟨#[]⟩, .slice none 0 0, .slice none 0 0] 27))) := ⟨hb1.alloc hb1.size _⟩
  have h1 : (w1.alloc (.cells #[.int .i64 0, .int .i64 0, .string { data := #[114, 111, 111, 116] }, .string ⟨#[]⟩, .slice none 0 0, .slice none 0 0] 27)).heap[w1.heap.size]? = some (.cells #[.int .i64 0, .int .i64 0, .string { data := #[114, 111, 111, 116] }, .string ⟨#[]⟩, .slice none 0 0, .slice none 0 0] 27 (0, 0)) := Mem.alloc_new _ _
  clear hb1 HO
  go_upto_region 2 with (fail)
  generalize w1.alloc (.cells #[.int .i64 0, .int .i64 0, .string { data := #[114, 111, 111, 116] }, .string ⟨#[]⟩, .slice none 0 0, .slice none 0 0] 27) = u1 at *
  have HX1 := Aside0.mk h1
  have y0 : u1.cell? ⟨w1.heap.size, 0, none⟩ = some (.int .i64 0) := Mem.cell_of h1 0
  have y1 : u1.cell? ⟨w1.heap.size, 1, none⟩ = some (.int .i64 0) := Mem.cell_of h1 1
  have y2 : u1.cell? ⟨w1.heap.size, 2, none⟩ = some (.string { data := #[114, 111, 111, 116] }) := Mem.cell_of h1 2
  have y3 : u1.cell? ⟨w1.heap.size, 3, none⟩ = some (.string ⟨#[]⟩) := Mem.cell_of h1 3
  have y4 : u1.cell? ⟨w1.heap.size, 4, none⟩ = some (.slice none 0 0) := Mem.cell_of h1 4
  have y5 : u1.cell? ⟨w1.heap.size, 5, none⟩ = some (.slice none 0 0) := Mem.cell_of h1 5
  clear h1
  have HC := Aside0.mk (check_calls u1 rootT none 0 none 0 (by decide) (TK_bare u1 rootT rfl rfl))
  rw [check_root] at HC
  have e1 : (({ data := #[114, 111, 111, 116] } : ByteArray).toList == ({ data := #[114, 111, 111, 116] } : ByteArray).toList) = true := beq_self_eq_true _
  go_wp2_with (fail)
  refine HC.out.mono ?_
  rintro e w2 ⟨rfl, hb2⟩
  have HX2 : Aside0 (w2.heap[w1.heap.size]? = some (.cells #[.int .i64 0, .int .i64 0, .string { data := #[114, 111, 111, 116] }, .string ⟨#[]⟩, .slice none 0 0, .slice none 0 0] 27 (0, 0))) := ⟨(hb2.block _ (blk_lt' HX1.out)).trans HX1.out⟩
  have HB2 : Aside0 (Below w.heap.size w w2) := ⟨HB1.out.trans (hb2.mono HB1.out.size)⟩
  clear hb2 HC y0 y1 y2 y3 y4 y5
  have y0 : w2.cell? ⟨w1.heap.size, 0, none⟩ = some (.int .i64 0) := Mem.cell_of HX2.out 0
  have y1 : w2.cell? ⟨w1.heap.size, 1, none⟩ = some (.int .i64 0) := Mem.cell_of HX2.out 1
  have y2 : w2.cell? ⟨w1.heap.size, 2, none⟩ = some (.string { data := #[114, 111, 111, 116] }) := Mem.cell_of HX2.out 2
  have y3 : w2.cell? ⟨w1.heap.size, 3, none⟩ = some (.string ⟨#[]⟩) := Mem.cell_of HX2.out 3
  have y4 : w2.cell? ⟨w1.heap.size, 4, none⟩ = some (.slice none 0 0) := Mem.cell_of HX2.out 4
  have y5 : w2.cell? ⟨w1.heap.size, 5, none⟩ = some (.slice none 0 0) := Mem.cell_of HX2.out 5
  have HC := Aside0.mk (count_calls w2 rootT none 0 none 0 (by decide) (TK_bare w2 rootT rfl rfl))
  rw [show szT rootT = 1 from by decide] at HC
  go_wp2_with (fail)
  refine HC.out.mono ?_
  rintro e w3 ⟨rfl, hb3⟩
  have HX3 : Aside0 (w3.heap[w1.heap.size]? = some (.cells #[.int .i64 0, .int .i64 0, .string { data := #[114, 111, 111, 116] }, .string ⟨#[]⟩, .slice none 0 0, .slice none 0 0] 27 (0, 0))) := ⟨(hb3.block _ (blk_lt' HX2.out)).trans HX2.out⟩
  have HB3 : Aside0 (Below w.heap.size w w3) := ⟨HB2.out.trans (hb3.mono HB2.out.size)⟩
  clear hb3 HC y0 y1 y2 y3 y4 y5
  have y0 : w3.cell? ⟨w1.heap.size, 0, none⟩ = some (.int .i64 0) := Mem.cell_of HX3.out 0
  have y1 : w3.cell? ⟨w1.heap.size, 1, none⟩ = some (.int .i64 0) := Mem.cell_of HX3.out 1
  have y2 : w3.cell? ⟨w1.heap.size, 2, none⟩ = some (.string { data := #[114, 111, 111, 116] }) := Mem.cell_of HX3.out 2
  have y3 : w3.cell? ⟨w1.heap.size, 3, none⟩ = some (.string ⟨#[]⟩) := Mem.cell_of HX3.out 3
  have y4 : w3.cell? ⟨w1.heap.size, 4, none⟩ = some (.slice none 0 0) := Mem.cell_of HX3.out 4
  have y5 : w3.cell? ⟨w1.heap.size, 5, none⟩ = some (.slice none 0 0) := Mem.cell_of HX3.out 5
  have HC := Aside0.mk (depth_calls w3 rootT none 0 none 0 (by decide) (TK_bare w3 rootT rfl rfl))
  rw [max_root] at HC
  go_wp2_with (fail)
  refine HC.out.mono ?_
  rintro e w4 ⟨rfl, hb4⟩
  have HX4 : Aside0 (w4.heap[w1.heap.size]? = some (.cells #[.int .i64 0, .int .i64 0, .string { data := #[114, 111, 111, 116] }, .string ⟨#[]⟩, .slice none 0 0, .slice none 0 0] 27 (0, 0))) := ⟨(hb4.block _ (blk_lt' HX3.out)).trans HX3.out⟩
  have HB4 : Aside0 (Below w.heap.size w w4) := ⟨HB3.out.trans (hb4.mono HB3.out.size)⟩
  clear hb4 HC y0 y1 y2 y3 y4 y5
  have y0 : w4.cell? ⟨w1.heap.size, 0, none⟩ = some (.int .i64 0) := Mem.cell_of HX4.out 0
  have y1 : w4.cell? ⟨w1.heap.size, 1, none⟩ = some (.int .i64 0) := Mem.cell_of HX4.out 1
  have y2 : w4.cell? ⟨w1.heap.size, 2, none⟩ = some (.string { data := #[114, 111, 111, 116] }) := Mem.cell_of HX4.out 2
  have y3 : w4.cell? ⟨w1.heap.size, 3, none⟩ = some (.string ⟨#[]⟩) := Mem.cell_of HX4.out 3
  have y4 : w4.cell? ⟨w1.heap.size, 4, none⟩ = some (.slice none 0 0) := Mem.cell_of HX4.out 4
  have y5 : w4.cell? ⟨w1.heap.size, 5, none⟩ = some (.slice none 0 0) := Mem.cell_of HX4.out 5
  have HC := Aside0.mk (check_calls w4 z27 none 0 none 0 (by decide) (TK_bare w4 z27 rfl rfl))
  rw [check_zero] at HC
  go_wp2_with (fail)
  refine HC.out.mono ?_
  rintro e w5 ⟨rfl, hb5⟩
  have HB5 := Aside0.mk hb5
  clear hb5
  go_wp2
  go_ret
  exact ⟨rfl, HB4.out.trans (HB5.out.mono HB4.out.size)⟩
end Go.Proofs.Ytnkbgimihikhoaa.PVt
namespace Go.Proofs.Ytnkbgimihikhoaa.PVt
open Go.RowKit Go.Proofs.YtnkbgimihikhoaaW.PrintWords Go.Proofs.YtnkbgimihikhoaaW.PrintLast Go.Proofs.YtnkbgimihikhoaaW.PrintMore
set_option linter.unusedVariables false
set_option linter.unusedSimpArgs false
def eqA (a b : S99) : Bool := a.f0.toList == b.f0.toList && (a.f1.toList == b.f1.toList)
def eqAs : List S99 → List S99 → Bool
  | [], [] => true
  | a :: l, b :: m => eqA a b && eqAs l m
  | _, _ => false
mutual
def eqT : S27 → S27 → Bool
  | ⟨k, t, u, a, l⟩, ⟨k', t', u', a', l'⟩ => sameK k k' && (t.toList == t'.toList && (u.toList == u'.toList && (eqAs a a' && eqTs l l')))
def eqTs : List S27 → List S27 → Bool
  | [], [] => true
  | x :: l, y :: m => eqT x y && eqTs l m
  | _, _ => false
end
theorem eqT_eq (x y : S27) : eqT x y = (sameK x.f0 y.f0 && (x.f1.toList == y.f1.toList && (x.f2.toList == y.f2.toList && (eqAs x.f3 y.f3 && eqTs x.f4 y.f4)))) := by cases x; cases y; simp [eqT]
theorem sameK_self (k : S23) : sameK k k = true := sameK_iff.2 rfl
theorem eqA_self (a : S99) : eqA a a = true := by simp [eqA]
theorem eqAs_self : ∀ l : List S99, eqAs l l = true
  | [] => rfl
  | a :: l => by simp [eqAs, eqA_self, eqAs_self l]
mutual
theorem eqT_self : ∀ x : S27, eqT x x = true
  | ⟨k, t, u, a, l⟩ => by simp [eqT, sameK_self, eqAs_self, eqTs_self l]
theorem eqTs_self : ∀ l : List S27, eqTs l l = true
  | [] => by simp [eqTs]
  | x :: l => by simp [eqTs, eqT_self x, eqTs_self l]
end
theorem eqAs_len : ∀ (l m : List S99), l.length ≠ m.length → eqAs l m = false
  | [], [], h => absurd rfl h
  | [], b :: m, _ => rfl
  | a :: l, [], _ => rfl
  | a :: l, b :: m, h => by rw [eqAs, eqAs_len l m (fun e => h (by simp [e])), Bool.and_false]
theorem eqTs_len : ∀ (l m : List S27), l.length ≠ m.length → eqTs l m = false
  | [], [], h => absurd rfl h
  | [], b :: m, _ => by simp [eqTs]
  | a :: l, [], _ => by simp [eqTs]
  | a :: l, b :: m, h => by rw [eqTs, eqTs_len l m (fun e => h (by simp [e])), Bool.and_false]
theorem drop99 (l : List S99) {k : Nat} (h : k < l.length) : l.drop k = l.getD k z99 :: l.drop (k + 1) := by
  rw [List.drop_eq_getElem_cons h, List.getD_eq_getElem?_getD, List.getElem?_eq_getElem h]; rfl
theorem drop27 (l : List S27) {k : Nat} (h : k < l.length) : l.drop k = l.getD k z27 :: l.drop (k + 1) := by
  rw [List.drop_eq_getElem_cons h, List.getD_eq_getElem?_getD, List.getElem?_eq_getElem h]; rfl
theorem eqTs_drop {l m : List S27} {k : Nat} (h : k < l.length) (hm : k < m.length) : eqTs (l.drop k) (m.drop k) = (eqT (l.getD k z27) (m.getD k z27) && eqTs (l.drop (k + 1)) (m.drop (k + 1))) := by
  rw [drop27 l h, drop27 m hm, eqTs]
theorem eqAs_drop {l m : List S99} {k : Nat} (h : k < l.length) (hm : k < m.length) : eqAs (l.drop k) (m.drop k) = (eqA (l.getD k z99) (m.getD k z99) && eqAs (l.drop (k + 1)) (m.drop (k + 1))) := by
  rw [drop99 l h, drop99 m hm, eqAs]
theorem wrap_in {k n : Nat} (h : k < n) (hn : n ≤ 9223372036854775807) : wrap64 ((k : Int) + 1) = ((k + 1 : Nat) : Int) := by unfold wrap64; omega
theorem attrs_l (l m : List S99) (hl : l.length ≤ 9223372036854775807) (he : l.length = m.length) : ∀ (n i k : Nat), i + n = l.length → n + 1 ≤ k → api_Attr.l0 k l m (l.length : Int) (i : Int) = some (eqAs (l.drop i) (m.drop i))
  | 0, i, 0, h, hk => by omega
  | 0, i, k + 1, h, hk => by
    simp only [api_Attr.l0]
    rw [if_neg (by omega), List.drop_eq_nil_of_le (show l.length ≤ i by omega), List.drop_eq_nil_of_le (show m.length ≤ i by omega)]
    rfl
  | n + 1, i, 0, h, hk => by omega
  | n + 1, i, k + 1, h, hk => by
    have go := attrs_l l m hl he n (i + 1) k (by omega) (by omega)
    have hw := wrap_in (k := i) (n := l.length) (by omega) hl
    simp only [api_Attr.l0]
    rw [if_pos (by omega), if_pos (by omega), if_pos (by omega), if_pos (by omega), hw, go, rd99, rd99, show eqAs (l.drop i) (m.drop i) = _ from eqAs_drop (k := i) (by omega) (by omega)]
    unfold eqA
    cases (l.getD i z99).f0.toList == (m.getD i z99).f0.toList <;> cases (l.getD i z99).f1.toList == (m.getD i z99).f1.toList <;> rfl
theorem attrs_f (l m : List S99) (hl : l.length ≤ 9223372036854775807) : ∃ k, api_Attr.f k l m = some (eqAs l m) := by
  refine ⟨l.length + 1, ?_⟩
  unfold api_Attr.f
  by_cases h : l.length = m.length
  · rw [if_pos (by omega)]
    have := attrs_l l m hl h l.length 0 (l.length + 1) (by omega) (by omega)
    rw [show ((0 : Nat) : Int) = 0 from rfl] at this
    rw [this, List.drop_zero, List.drop_zero]
  · rw [if_neg (by omega), eqAs_len l m h]
theorem attrs_calls (w : World) (A : Option Addr) (c : Nat) (l : List S99) (B : Option Addr) (d : Nat) (m : List S99) (hl : Kd.C k99 w A l.length l) (hc : l.length ≤ c) (hm : Kd.C k99 w B m.length m) (hd : m.length ≤ d) :
    Calls Try.prog 63 #[.slice A l.length c, .slice B m.length d] w fun e w' => e = .returned (.bool (eqAs l m)) ∧ Below w.heap.size w w' := by
  obtain ⟨k, hk⟩ := attrs_f l m hl.2.1
  exact (api_Attr.calls k A c l B d m _ w hl hc hm hd hk).mono fun e w' ⟨h1, h2⟩ => ⟨h1, drawn_below h2⟩
/-- A node that is read, with all beneath it. -/
def RK (w : World) (x : S27) (A4 : Option Addr) (c4 : Nat) (A5 : Option Addr) (c5 : Nat) : Prop := x.f3.length ≤ c4 ∧ Kd.C k99 w A4 x.f3.length x.f3 ∧ x.f4.length ≤ c5 ∧ Kd.C k27 w A5 x.f4.length x.f4
theorem RK.below {w w' : World} {x : S27} {A4 : Option Addr} {c4 : Nat} {A5 : Option Addr} {c5 : Nat} (h : RK w x A4 c4 A5 c5) (hb : Below w.heap.size w w') : RK w' x A4 c4 A5 c5 := ⟨h.1, Kd.C_below h.2.1 hb, h.2.2.1, Kd.C_below h.2.2.2 hb⟩
theorem kid_read {w : World} {n : Nat} {A : Option Addr} {xs : List S27} (h : Kd.C k27 w A n xs) (k : Nat) (hk : k < n) :
    ∃ ad A4 c4 A5 c5, A = some ad ∧ cells27 w (ad.add (k * 6)) (xs.getD k z27) A4 c4 A5 c5 ∧ RK w (xs.getD k z27) A4 c4 A5 c5 := by
  obtain ⟨ad, A4, c4, A5, c5, e, h0, h1, h2, h3, h4, h5, l4, g4, l5, g5⟩ := at_T27 h (k : Int) (Int.natCast_nonneg _) (Int.ofNat_lt.2 hk)
  rw [Int.toNat_natCast] at h0 h1 h2 h3 h4 h5
  have e : rd_T27 xs (k : Int) = xs.getD k z27 := by unfold rd_T27; rw [Int.toNat_natCast]
  rw [e] at h0 h1 h2 h3 h4 h5 l4 g4 l5 g5
  exact ⟨ad, A4, c4, A5, c5, by assumption, ⟨h0, h1, h2, h3, h4, h5⟩, l4, g4, l5, g5⟩
theorem eql9 (W : World) (a b : ByteArray) : Sem.run Try.prog (binOp .eql 9 (.string a) (.string b)) W = .ok (.bool (a.toList == b.toList)) W := by
  have hu := Try.underlying9
  go_simp
attribute [local go_sem high] eqA23
theorem eql23 (W : World) (a b : S23) : Sem.run Try.prog (binOp .eql 23 (.agg #[.int .i64 a.f0, .int .i64 a.f1]) (.agg #[.int .i64 b.f0, .int .i64 b.f1])) W = .ok (.bool (sameK a b)) W := by
  unfold sameK
  go_simp
theorem measure_kid {k n : Nat} (h : k < n) (hw : wrap64 ((k : Int) + 1) = ((k + 1 : Nat) : Int)) : n - (intOf (Value.int .i64 (wrap64 ((k : Int) + 1)))).toNat < n - (intOf (Value.int .i64 (k : Int))).toNat := dec_kid h hw
theorem ret_bool {v : Value} {r : Bool} (h : v = .bool r) : Ending.returned v = .returned (.bool r) := by rw [h]
set_option maxHeartbeats 8000000 in
set_option maxRecDepth 100000 in
theorem eqfunc_calls (q : Nat) (ih : ∀ (x y : S27) (A4 : Option Addr) (c4 : Nat) (A5 : Option Addr) (c5 : Nat) (B4 : Option Addr) (e4 : Nat) (B5 : Option Addr) (e5 : Nat) (w : World), szT x ≤ q → RK w x A4 c4 A5 c5 → RK w y B4 e4 B5 e5 →
      Calls Try.prog 31 #[.agg #[.int .i64 x.f0.f0, .int .i64 x.f0.f1, .string x.f1, .string x.f2, .slice A4 x.f3.length c4, .slice A5 x.f4.length c5], .agg #[.int .i64 y.f0.f0, .int .i64 y.f0.f1, .string y.f1, .string y.f2, .slice B4 y.f3.length e4, .slice B5 y.f4.length e5]] w fun e w' => e = .returned (.bool (eqT x y)) ∧ Below w.heap.size w w')
    (w : World) (A : Option Addr) (c : Nat) (l : List S27) (B : Option Addr) (d : Nat) (m : List S27) (hq : szTs l ≤ q) (hl : Kd.C k27 w A l.length l) (hm : Kd.C k27 w B m.length m) :
    Calls Try.prog 64 #[.slice A l.length c, .slice B m.length d, .func (.func 31) #[] #[]] w fun e w' => e = .returned (.bool (eqTs l m)) ∧ Below w.heap.size w w' := by
  have HIH := Aside0.mk ih
  have HL := Aside0.mk hl
  have HM := Aside0.mk hm
  have HQ := Aside0.mk hq
  have hmax := hl.2.1
  clear hl hm hq ih
  by_cases hne : l.length = m.length
  · have e1 : ((l.length : Int) == (m.length : Int)) = true := beq_iff_eq.2 (by omega)
    have e0 : ((l.length : Int) != (m.length : Int)) = false := by rw [bne, e1]; rfl
    have e2 : ((l.length : Int) = (m.length : Int)) = True := eq_true (by omega)
    have e3 : (l.length = m.length) = True := eq_true hne
    have HNE := Aside0.mk hne
    clear hne
    go_enter Try.func64, Try.ntmps64
    go_wp2_with (fail)
    go_loopw [17] (fun i wr => ∃ k : Nat, i = .int .i64 (k : Int) ∧ Aside0 (k ≤ l.length) ∧ Aside0 (eqTs (l.drop k) (m.drop k) = eqTs l m) ∧ Aside0 (Below w.heap.size w wr)) (fun i _ => l.length - (intOf i).toNat)
    case atStart => exact ⟨0, rfl, ⟨Nat.zero_le _⟩, ⟨rfl⟩, ⟨Below.refl _ _⟩⟩
    case round =>
      obtain ⟨k, rfl, HK, HE, HB⟩ := hrel
      by_cases hlt : k < l.length
      · have hlm : k < m.length := by have := HNE.out; omega
        have HW := Aside0.mk (wrap_in hlt hmax)
        obtain ⟨ad, A4, c4, A5, c5, rfl, hc, hr⟩ := kid_read (Kd.C_below HL.out HB.out) k hlt
        obtain ⟨ad2, B4, e4, B5, e5, rfl, hc2, hr2⟩ := kid_read (Kd.C_below HM.out HB.out) k hlm
        have HQ1 : Aside0 (szT (l.getD k z27) ≤ q) := ⟨Nat.le_trans (szT_kid l hlt) HQ.out⟩
        have HE1 : Aside0 (eqTs l m = (eqT (l.getD k z27) (m.getD k z27) && eqTs (l.drop (k + 1)) (m.drop (k + 1)))) := ⟨by rw [← HE.out, eqTs_drop hlt hlm]⟩
        obtain ⟨x, hx⟩ : ∃ x, l.getD k z27 = x := ⟨_, rfl⟩
        obtain ⟨y, hy⟩ : ∃ y, m.getD k z27 = y := ⟨_, rfl⟩
        rw [hx] at hc hr HQ1 HE1
        rw [hy] at hc2 hr2 HE1
        obtain ⟨p, hp⟩ : ∃ p, ad.add (k * 6) = p := ⟨_, rfl⟩
        obtain ⟨r, hr'⟩ : ∃ r, ad2.add (k * 6) = r := ⟨_, rfl⟩
        rw [hp] at hc
        rw [hr'] at hc2
        obtain ⟨x0, x1, x2, x3, x4, x5⟩ := hc
        obtain ⟨y0, y1, y2, y3, y4, y5⟩ := hc2
        have hb2 : Below wr.heap.size wr ((wr.alloc (.cells #[.int .i64 x.f0.f0, .int .i64 x.f0.f1, .string x.f1, .string x.f2, .slice A4 x.f3.length c4, .slice A5 x.f4.length c5] 27)).alloc (.cells #[.int .i64 y.f0.f0, .int .i64 y.f0.f1, .string y.f1, .string y.f2, .slice B4 y.f3.length e4, .slice B5 y.f4.length e5] 27)) := below_alloc (below_alloc (Below.refl _ _) _) _
        have HC := Aside0.mk (HIH.out x y A4 c4 A5 c5 B4 e4 B5 e5 ((wr.alloc (.cells #[.int .i64 x.f0.f0, .int .i64 x.f0.f1, .string x.f1, .string x.f2, .slice A4 x.f3.length c4, .slice A5 x.f4.length c5] 27)).alloc (.cells #[.int .i64 y.f0.f0, .int .i64 y.f0.f1, .string y.f1, .string y.f2, .slice B4 y.f3.length e4, .slice B5 y.f4.length e5] 27)) HQ1.out (hr.below hb2) (hr2.below hb2))
        have HB2 := Aside0.mk (HB.out.trans (hb2.mono HB.out.size))
        have hkn : (k : Int).toNat = k := Int.toNat_natCast k
        have hkp : (0 : Int) ≤ (k : Int) := Int.natCast_nonneg k
        have e4_ : ((k : Int) < (l.length : Int)) = True := eq_true (Int.ofNat_lt.2 hlt)
        have e5_ : (k < l.length) = True := eq_true hlt
        have e6_ : ((k : Int) < (m.length : Int)) = True := eq_true (Int.ofNat_lt.2 hlm)
        have e7_ : (k < m.length) = True := eq_true hlm
        have z0 : (wr.alloc (.cells #[.int .i64 x.f0.f0, .int .i64 x.f0.f1, .string x.f1, .string x.f2, .slice A4 x.f3.length c4, .slice A5 x.f4.length c5] 27)).cell? r = some (.int .i64 y.f0.f0) := Mem.cell_alloc y0 _
        have z1 : (wr.alloc (.cells #[.int .i64 x.f0.f0, .int .i64 x.f0.f1, .string x.f1, .string x.f2, .slice A4 x.f3.length c4, .slice A5 x.f4.length c5] 27)).cell? ⟨r.block, r.off + 1, none⟩ = some (.int .i64 y.f0.f1) := Mem.cell_alloc y1 _
        have z2 : (wr.alloc (.cells #[.int .i64 x.f0.f0, .int .i64 x.f0.f1, .string x.f1, .string x.f2, .slice A4 x.f3.length c4, .slice A5 x.f4.length c5] 27)).cell? ⟨r.block, r.off + 2, none⟩ = some (.string y.f1) := Mem.cell_alloc y2 _
        have z3 : (wr.alloc (.cells #[.int .i64 x.f0.f0, .int .i64 x.f0.f1, .string x.f1, .string x.f2, .slice A4 x.f3.length c4, .slice A5 x.f4.length c5] 27)).cell? ⟨r.block, r.off + 3, none⟩ = some (.string y.f2) := Mem.cell_alloc y3 _
        have z4 : (wr.alloc (.cells #[.int .i64 x.f0.f0, .int .i64 x.f0.f1, .string x.f1, .string x.f2, .slice A4 x.f3.length c4, .slice A5 x.f4.length c5] 27)).cell? ⟨r.block, r.off + 4, none⟩ = some (.slice B4 y.f3.length e4) := Mem.cell_alloc y4 _
        have z5 : (wr.alloc (.cells #[.int .i64 x.f0.f0, .int .i64 x.f0.f1, .string x.f1, .string x.f2, .slice A4 x.f3.length c4, .slice A5 x.f4.length c5] 27)).cell? ⟨r.block, r.off + 5, none⟩ = some (.slice B5 y.f4.length e5) := Mem.cell_alloc y5 _
        have HLT := Aside0.mk hlt
        have w0 : ((wr.alloc (.cells #[.int .i64 x.f0.f0, .int .i64 x.f0.f1, .string x.f1, .string x.f2, .slice A4 x.f3.length c4, .slice A5 x.f4.length c5] 27)).alloc (.cells #[.int .i64 y.f0.f0, .int .i64 y.f0.f1, .string y.f1, .string y.f2, .slice B4 y.f3.length e4, .slice B5 y.f4.length e5] 27)).heap[wr.heap.size]? = some (.cells #[.int .i64 x.f0.f0, .int .i64 x.f0.f1, .string x.f1, .string x.f2, .slice A4 x.f3.length c4, .slice A5 x.f4.length c5] 27 (0, 0)) := Mem.alloc_old (Mem.alloc_new _ _) _
        clear hr hr2 hx hy hb2 hlt hlm y0 y1 y2 y3 y4 y5 w0
        go_wp2_with (fail)
        refine HC.out.mono ?_
        rintro e w5 ⟨rfl, hb5⟩
        have HB5 := Aside0.mk (HB2.out.trans (hb5.mono HB2.out.size))
        clear hb5 HC
        cases hxy : eqT x y with
        | true =>
          rw [hxy, Bool.true_and] at HE1
          go_wp2_with (fail)
          go_roundw
          case rel => exact ⟨k + 1, congrArg (Value.int .i64) HW.out, ⟨HLT.out⟩, ⟨HE1.out.symm⟩, HB5⟩
          case measure => exact measure_kid HLT.out HW.out
        | false =>
          rw [hxy, Bool.false_and] at HE1
          go_wp2
          go_ret
          exact ⟨ret_bool (by rw [HE1.out]; rfl), HB5.out⟩
      · have e4_ : ((k : Int) < (l.length : Int)) = False := eq_false (fun h => hlt (Int.ofNat_lt.1 h))
        have e5_ : (k < l.length) = False := eq_false hlt
        have HT : Aside0 (eqTs l m = true) := ⟨by rw [← HE.out, List.drop_eq_nil_of_le (show l.length ≤ k by omega), List.drop_eq_nil_of_le (show m.length ≤ k by have := HNE.out; omega)]; simp [eqTs]⟩
        clear hlt
        go_wp2
        go_ret
        exact ⟨ret_bool (by rw [HT.out]; rfl), HB.out⟩
  · have e1 : ((l.length : Int) == (m.length : Int)) = false := beq_eq_false_iff_ne.2 (by omega)
    have e0 : ((l.length : Int) != (m.length : Int)) = true := by rw [bne, e1]; rfl
    have e2 : ((l.length : Int) = (m.length : Int)) = False := eq_false (by omega)
    have e3 : (l.length = m.length) = False := eq_false hne
    have HF := Aside0.mk (eqTs_len l m hne)
    clear hne
    go_enter Try.func64, Try.ntmps64
    go_wp2
    go_ret
    exact ⟨ret_bool (by rw [HF.out]; rfl), Below.refl _ _⟩
set_option maxHeartbeats 8000000 in
set_option maxRecDepth 100000 in
theorem same_calls : ∀ (q : Nat) (x y : S27) (A4 : Option Addr) (c4 : Nat) (A5 : Option Addr) (c5 : Nat) (B4 : Option Addr) (e4 : Nat) (B5 : Option Addr) (e5 : Nat) (w : World), szT x ≤ q → RK w x A4 c4 A5 c5 → RK w y B4 e4 B5 e5 →
      Calls Try.prog 31 #[.agg #[.int .i64 x.f0.f0, .int .i64 x.f0.f1, .string x.f1, .string x.f2, .slice A4 x.f3.length c4, .slice A5 x.f4.length c5], .agg #[.int .i64 y.f0.f0, .int .i64 y.f0.f1, .string y.f1, .string y.f2, .slice B4 y.f3.length e4, .slice B5 y.f4.length e5]] w fun e w' => e = .returned (.bool (eqT x y)) ∧ Below w.heap.size w w' := by
  intro q
  induction q with
  | zero => intro x y _ _ _ _ _ _ _ _ _ h; have := szT_pos x; omega
  | succ q ih =>
    intro x y A4 c4 A5 c5 B4 e4 B5 e5 w hq hx hy
    have hB := below_alloc (below_alloc (Below.refl w.heap.size w) (.cells #[.int .i64 x.f0.f0, .int .i64 x.f0.f1, .string x.f1, .string x.f2, .slice A4 x.f3.length c4, .slice A5 x.f4.length c5] 27)) (.cells #[.int .i64 y.f0.f0, .int .i64 y.f0.f1, .string y.f1, .string y.f2, .slice B4 y.f3.length e4, .slice B5 y.f4.length e5] 27)
    have HX := Aside0.mk (hx.below hB)
    have HY := Aside0.mk (hy.below hB)
    have HB := Aside0.mk hB
    have HE := Aside0.mk (eqT_eq x y)
    have hq2 : szTs x.f4 ≤ q := by have h_ := szT_eq x; omega
    have HA := Aside0.mk (attrs_calls _ A4 c4 x.f3 B4 e4 y.f3 HX.out.2.1 HX.out.1 HY.out.2.1 HY.out.1)
    have HF := Aside0.mk (fun w' (hw : Below _ _ w') => eqfunc_calls q ih w' A5 c5 x.f4 B5 e5 y.f4 hq2 (Kd.C_below HX.out.2.2.2 hw) (Kd.C_below HY.out.2.2.2 hw))
    have rk : ∀ W, Sem.run Try.prog (binOp .eql 23 (.agg #[.int .i64 x.f0.f0, .int .i64 x.f0.f1]) (.agg #[.int .i64 y.f0.f0, .int .i64 y.f0.f1])) W = .ok (.bool (sameK x.f0 y.f0)) W := fun W => eql23 W x.f0 y.f0
    clear ih hx hy hB hq hq2
    cases h0 : sameK x.f0 y.f0 with
    | false =>
      rw [h0, Bool.false_and] at HE
      rw [h0] at rk
      clear h0
      go_enter Try.func31, Try.ntmps31
      go_wp2
      go_ret
      exact ⟨ret_bool (by rw [HE.out]; rfl), HB.out⟩
    | true =>
      rw [h0, Bool.true_and] at HE
      rw [h0] at rk
      clear h0
      cases h1 : x.f1.toList == y.f1.toList with
      | false =>
        rw [h1, Bool.false_and] at HE
        have h1' : (x.f1.toList = y.f1.toList) = False := eq_false (beq_eq_false_iff_ne.1 h1)
        go_enter Try.func31, Try.ntmps31
        go_wp2
        go_ret
        exact ⟨ret_bool (by rw [HE.out]; rfl), HB.out⟩
      | true =>
        rw [h1, Bool.true_and] at HE
        have h1' : (x.f1.toList = y.f1.toList) = True := eq_true (beq_iff_eq.1 h1)
        cases h2 : x.f2.toList == y.f2.toList with
        | false =>
          rw [h2, Bool.false_and] at HE
          have h2' : (x.f2.toList = y.f2.toList) = False := eq_false (beq_eq_false_iff_ne.1 h2)
          go_enter Try.func31, Try.ntmps31
          go_wp2
          go_ret
          exact ⟨ret_bool (by rw [HE.out]; rfl), HB.out⟩
        | true =>
          rw [h2, Bool.true_and] at HE
          have h2' : (x.f2.toList = y.f2.toList) = True := eq_true (beq_iff_eq.1 h2)
          have hq1 : Aside0 (∀ w', Below ((w.alloc (.cells #[.int .i64 x.f0.f0, .int .i64 x.f0.f1, .string x.f1, .string x.f2, .slice A4 x.f3.length c4, .slice A5 x.f4.length c5] 27)).alloc (.cells #[.int .i64 y.f0.f0, .int .i64 y.f0.f1, .string y.f1, .string y.f2, .slice B4 y.f3.length e4, .slice B5 y.f4.length e5] 27)).heap.size ((w.alloc (.cells #[.int .i64 x.f0.f0, .int .i64 x.f0.f1, .string x.f1, .string x.f2, .slice A4 x.f3.length c4, .slice A5 x.f4.length c5] 27)).alloc (.cells #[.int .i64 y.f0.f0, .int .i64 y.f0.f1, .string y.f1, .string y.f2, .slice B4 y.f3.length e4, .slice B5 y.f4.length e5] 27)) w' → w'.heap[w.heap.size]? = some (.cells #[.int .i64 x.f0.f0, .int .i64 x.f0.f1, .string x.f1, .string x.f2, .slice A4 x.f3.length c4, .slice A5 x.f4.length c5] 27 (0, 0)) ∧ w'.heap[w.heap.size + 1]? = some (.cells #[.int .i64 y.f0.f0, .int .i64 y.f0.f1, .string y.f1, .string y.f2, .slice B4 y.f3.length e4, .slice B5 y.f4.length e5] 27 (0, 0))) := ⟨fun w' hw => ⟨(hw.block _ (by rw [Mem.alloc_size, Mem.alloc_size]; omega)).trans (Mem.alloc_old (Mem.alloc_new _ _) _), (hw.block _ (by rw [Mem.alloc_size, Mem.alloc_size]; omega)).trans (Mem.alloc_new_at _ _ _ (by rw [Mem.alloc_size]))⟩⟩
          go_enter Try.func31, Try.ntmps31
          go_wp2_with (fail)
          refine HA.out.mono ?_
          rintro e w3 ⟨rfl, hb3⟩
          have HB3 := Aside0.mk hb3
          have hz := hq1.out w3 hb3
          have x5 : w3.cell? ⟨w.heap.size, 5, none⟩ = some (.slice A5 x.f4.length c5) := Mem.cell_of hz.1 5
          have y5 : w3.cell? ⟨w.heap.size + 1, 5, none⟩ = some (.slice B5 y.f4.length e5) := Mem.cell_of hz.2 5
          clear hb3 hz rk HA
          cases h3 : eqAs x.f3 y.f3 with
          | false =>
            rw [h3, Bool.false_and] at HE
            clear h3
            go_wp2
            go_ret
            exact ⟨ret_bool (by rw [HE.out]; rfl), HB.out.trans (HB3.out.mono HB.out.size)⟩
          | true =>
            rw [h3, Bool.true_and] at HE
            clear h3
            go_wp2_with (fail)
            refine (HF.out w3 HB3.out).mono ?_
            rintro e w4 ⟨rfl, hb4⟩
            have HB4 := Aside0.mk hb4
            clear hb4
            go_wp2
            go_ret
            exact ⟨ret_bool (by rw [HE.out]; rfl), HB.out.trans ((HB3.out.trans (HB4.out.mono HB3.out.size)).mono HB.out.size)⟩
end Go.Proofs.Ytnkbgimihikhoaa.PVt
