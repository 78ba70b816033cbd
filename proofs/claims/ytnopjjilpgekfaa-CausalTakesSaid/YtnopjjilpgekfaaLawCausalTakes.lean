/- Any changes that come to a buffer of any room, with any clocks: what comes, and what is held behind each, is as the document says; a clone goes on as the buffer would. -/
import Derived.Test.YtnopjjilpgekfaaRows
import Derived.Test.YtnopjjilpgekfaaQT6
import Derived.JoinedCond
import Derived.Deep.CondSized
import Derived.WalkKit
import Derived.ProofKit
import Derived.OpenShut
import Derived.ShutString
import Derived.ChangeOld
import Derived.Below
import Derived.SizedLaws
namespace Go.Proofs.Ytnopjjilpgekfaa.causalTakes
open Go.ChangeShapes Go.WideShapes Go.ChangeAt Go.RowKit
open Go.ChangeMaps (open_string shut_string)
set_option linter.unusedVariables false
theorem own : ownKnob Try.prog.godebug = none := by kernel_rfl
theorem laidOut : laidOutB Try.prog = true := by kernel_rfl
set_option maxHeartbeats 4000000 in
set_option maxRecDepth 100000 in
theorem lifted (os : Os) (started : os.Started) (H : Type) (enc : TypeId × Value → H) :
    ReturnsInHanded {} Try.checked os 8 .any (Rows.causalTakesSpec.pre6 enc Try.prog Try.f8 Rows.causalTakesRow.domain false) (Rows.causalTakesSpec.post enc Try.prog Try.f8 false true false false) := by
  refine returnsInHanded_of_change_sized (C := Try.checked) own started (by kernel_rfl) Try.func8
    (ChangeSpec.witness6 (enc := enc) (C := Try.checked) false ⟨#[], #[.int .i64 0, .slice none 0 0], []⟩ 8 (by kernel_rfl) (by kernel_rfl) (by kernel_rfl) (by kernel_rfl)) ?_
  intro W base args ds gs before hval0 hW hcnd hsz0 _
  have hval : ∀ (j : Nat) t v, Try.f8.params[j]? = some t → args[j]? = some v → Value.okWide Try.prog W .any base t v := hval0
  have hW' := hW
  obtain ⟨p, q, hA0, hV, rfl, hfz, hnd⟩ := hW
  have hA : DataW.TrodAll enc Try.prog W 0 (fun _ => true) true Try.f8.params.toList args.toList ds p := hA0
  rw [Try.params8] at hA hval
  obtain ⟨v0, vs0, d0, ds0, p0, q0, hargs, rfl, rfl, h0, r0⟩ := trodAll_cons hA
  obtain ⟨v1, vs1, d1, ds1, p1, q1, rfl, rfl, rfl, h1, r1⟩ := trodAll_cons r0
  obtain ⟨rfl, rfl, rfl⟩ := trodAll_nil r1
  obtain rfl : args = #[v0, v1] := by cases args; simp_all
  obtain ⟨rfl, rfl⟩ := trodVars_none hV
  have k0 := h0
  have lt0 : ∀ x ∈ p0, x.block < W.heap.size := by obtain ⟨m, hm⟩ := k0; exact DataW.trod_lt m _ _ _ hm
  obtain ⟨x0, kx0, okx0⟩ := Rdr.Reads.param (Rdr.int Try.underlying3) h0
  have kw0 := okx0 (fun n hn => of_decide_eq_true (List.all_eq_true.1 hsz0 _ (DataW.weights_mem_each (j := 0) rfl rfl n hn)))
  obtain ⟨z0, rfl, rfl, rfl, w0⟩ := open_int Try.underlying3 (hval 0 3 v0 rfl rfl) h0
  obtain rfl : z0 = x0 := by have e_ := kx0; have e2_ := List.head_eq_of_cons_eq (show [Value.int .i64 z0] = [Value.int .i64 x0] from e_); injection e2_
  have k1 := h1
  have lt1 : ∀ x ∈ p1, x.block < W.heap.size := by obtain ⟨m, hm⟩ := k1; exact DataW.trod_lt m _ _ _ hm
  obtain ⟨x1, kx1, okx1⟩ := Rdr.Reads.param (Rdr.slice (e := 58) Try.underlying56 (by kernel_rfl) (Rdr.iso (Rdr.struct Try.underlying58 (by kernel_rfl) (Rdr.more (by kernel_rfl) (Rdr.int Try.underlying3) (Rdr.more (by kernel_rfl) (Rdr.slice (e := 3) Try.underlying23 (by kernel_rfl) (Rdr.int Try.underlying3)) (Rdr.last (by kernel_rfl) (Rdr.iso (Rdr.struct Try.underlying32 (by kernel_rfl) (Rdr.more (by kernel_rfl) (Rdr.iso (Rdr.struct Try.underlying30 (by kernel_rfl) (Rdr.more (by kernel_rfl) (Rdr.int Try.underlying3) (Rdr.last (by kernel_rfl) (Rdr.int Try.underlying3)))) (fun x : PCa.S30 => (x.f0, x.f1)) (fun x => ⟨x.1, x.2⟩) (fun _ => rfl)) (Rdr.more (by kernel_rfl) (Rdr.int Try.underlying3) (Rdr.more (by kernel_rfl) (Rdr.slice (e := 3) Try.underlying23 (by kernel_rfl) (Rdr.int Try.underlying3)) (Rdr.more (by kernel_rfl) (Rdr.int Try.underlying3) (Rdr.more (by kernel_rfl) (Rdr.iso (Rdr.struct Try.underlying30 (by kernel_rfl) (Rdr.more (by kernel_rfl) (Rdr.int Try.underlying3) (Rdr.last (by kernel_rfl) (Rdr.int Try.underlying3)))) (fun x : PCa.S30 => (x.f0, x.f1)) (fun x => ⟨x.1, x.2⟩) (fun _ => rfl)) (Rdr.more (by kernel_rfl) (Rdr.iso (Rdr.struct Try.underlying30 (by kernel_rfl) (Rdr.more (by kernel_rfl) (Rdr.int Try.underlying3) (Rdr.last (by kernel_rfl) (Rdr.int Try.underlying3)))) (fun x : PCa.S30 => (x.f0, x.f1)) (fun x => ⟨x.1, x.2⟩) (fun _ => rfl)) (Rdr.more (by kernel_rfl) (Rdr.iso (Rdr.struct Try.underlying30 (by kernel_rfl) (Rdr.more (by kernel_rfl) (Rdr.int Try.underlying3) (Rdr.last (by kernel_rfl) (Rdr.int Try.underlying3)))) (fun x : PCa.S30 => (x.f0, x.f1)) (fun x => ⟨x.1, x.2⟩) (fun _ => rfl)) (Rdr.more (by kernel_rfl) (Rdr.string Try.underlying9) (Rdr.last (by kernel_rfl) (Rdr.string Try.underlying9))))))))))) (fun x : PCa.S32 => (x.f0, x.f1, x.f2, x.f3, x.f4, x.f5, x.f6, x.f7, x.f8)) (fun x => ⟨x.1, x.2.1, x.2.2.1, x.2.2.2.1, x.2.2.2.2.1, x.2.2.2.2.2.1, x.2.2.2.2.2.2.1, x.2.2.2.2.2.2.2.1, x.2.2.2.2.2.2.2.2⟩) (fun _ => rfl)))))) (fun x : PCa.S58 => (x.f0, x.f1, x.f2)) (fun x => ⟨x.1, x.2.1, x.2.2⟩) (fun _ => rfl))) h1
  have kw1 := okx1 (fun n hn => of_decide_eq_true (List.all_eq_true.1 hsz0 _ (DataW.weights_mem_each (j := 1) rfl rfl n hn)))
  obtain ⟨a1, l1, c1, rfl⟩ := okWide_slice Try.underlying56 (hval 1 56 v1 rfl rfl)
  obtain ⟨a1', c1', e1, hc1, kx1⟩ := kx1
  simp only [Value.cells, List.cons.injEq, Value.slice.injEq, and_true] at e1
  obtain ⟨rfl, rfl, rfl⟩ := e1
  have hs1 : ∀ x ∈ x1, x.f1.length < 17592186044416 ∧ x.f2.f2.length < 17592186044416 ∧ x.f2.f7.size < 4611686018427387904 := fun x hx => by have h1_ : x.f1.length * 8 ≤ reachBytes := (kw1.2 x hx).2.1.1; have h2_ : x.f2.f2.length * 8 ≤ reachBytes := (kw1.2 x hx).2.2.2.2.1.1; have h3_ : x.f2.f7.size ≤ reachBytes := (kw1.2 x hx).2.2.2.2.2.2.2.2.2.1; unfold reachBytes at h1_ h2_ h3_; omega
  have hn1 : x1.length < 4611686018427387904 := by have h_ : x1.length * 168 ≤ reachBytes := kw1.1; unfold reachBytes at h_; omega
  clear hA0 hval0 hsz0 hval
  refine (PCa.takes_law_calls W z0 a1 c1 x1 kx1 hn1 hs1).mono fun e W' ⟨he, bel⟩ => ?_
  subst he
  exact ⟨_, rfl, _, _, _, [], _, [], hW', trodAll_mk1 (shut_bool Try.underlying4 _), (trodAll_cons_mk (Below.trod laidOut (by kernel_rfl) (of_decide_eq_true (by kernel_rfl)) k0 bel lt0) (trodAll_cons_mk (Below.trod laidOut (by kernel_rfl) (of_decide_eq_true (by kernel_rfl)) k1 bel lt1) trodAll_mk0)), rfl, bel.frame _, fun h => by cases h⟩
theorem proved : Rows.CausalTakesSaid :=
  OpenClaim.holds_of_wide 8 Try.f8 rfl rfl rfl rfl rfl rfl rfl ⟨rfl, rfl, rfl, rfl, rfl⟩ rfl rfl rfl rfl rfl (by kernel_rfl) Try.func8 (by kernel_rfl)
    (of_decide_eq_true (by kernel_rfl)) (by unfold Func.isWrapper; first | (rw [if_pos (by decide +kernel)]; kernel_rfl) | (rw [if_neg (by decide +kernel)]; exact ⟨rfl, rfl⟩))
    (fun os started H enc _ => lifted os started H enc)
#print axioms proved
end Go.Proofs.Ytnopjjilpgekfaa.causalTakes
namespace Go.Proofs.Ytnopjjilpgekfaa
theorem causalTakes_holds : Rows.CausalTakesSaid := causalTakes.proved
end Go.Proofs.Ytnopjjilpgekfaa
