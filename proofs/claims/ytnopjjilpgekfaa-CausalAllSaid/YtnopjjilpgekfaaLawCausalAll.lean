/- However a log's changes come, each one comes once, and nothing stays held. -/
import Derived.Test.YtnopjjilpgekfaaRows
import Derived.Test.YtnopjjilpgekfaaQL6
import Derived.JoinedCond
import Derived.Deep.CondSized
import Derived.WalkKit
import Derived.ProofKit
import Derived.OpenShut
import Derived.ShutString
import Derived.ChangeOld
import Derived.Below
import Derived.SizedLaws
namespace Go.Proofs.Ytnopjjilpgekfaa.causalAll
open Go.ChangeShapes Go.WideShapes Go.ChangeAt Go.RowKit
open Go.ChangeMaps (open_string shut_string)
set_option linter.unusedVariables false
theorem own : ownKnob Try.prog.godebug = none := by kernel_rfl
theorem laidOut : laidOutB Try.prog = true := by kernel_rfl
set_option maxHeartbeats 4000000 in
set_option maxRecDepth 100000 in
theorem lifted (os : Os) (started : os.Started) (H : Type) (enc : TypeId × Value → H) :
    ReturnsInHanded {} Try.checked os 3 .any (Rows.causalAllSpec.pre6 enc Try.prog Try.f3 Rows.causalAllRow.domain false) (Rows.causalAllSpec.post enc Try.prog Try.f3 false true false false) := by
  refine returnsInHanded_of_change_sized (C := Try.checked) own started (by kernel_rfl) Try.func3
    (ChangeSpec.witness6 (enc := enc) (C := Try.checked) false ⟨#[], #[.slice none 0 0, .slice none 0 0], []⟩ 8 (by kernel_rfl) (by kernel_rfl) (by kernel_rfl) (by kernel_rfl)) ?_
  intro W base args ds gs before hval0 hW hcnd hsz0 _
  have hval : ∀ (j : Nat) t v, Try.f3.params[j]? = some t → args[j]? = some v → Value.okWide Try.prog W .any base t v := hval0
  have hW' := hW
  obtain ⟨p, q, hA0, hV, rfl, hfz, hnd⟩ := hW
  have hA : DataW.TrodAll enc Try.prog W 0 (fun _ => true) true Try.f3.params.toList args.toList ds p := hA0
  rw [Try.params3] at hA hval
  obtain ⟨v0, vs0, d0, ds0, p0, q0, hargs, rfl, rfl, h0, r0⟩ := trodAll_cons hA
  obtain ⟨v1, vs1, d1, ds1, p1, q1, rfl, rfl, rfl, h1, r1⟩ := trodAll_cons r0
  obtain ⟨rfl, rfl, rfl⟩ := trodAll_nil r1
  obtain rfl : args = #[v0, v1] := by cases args; simp_all
  obtain ⟨rfl, rfl⟩ := trodVars_none hV
  have k0 := h0
  have lt0 : ∀ x ∈ p0, x.block < W.heap.size := by obtain ⟨m, hm⟩ := k0; exact DataW.trod_lt m _ _ _ hm
  obtain ⟨x0, kx0, okx0⟩ := Rdr.Reads.param (Rdr.slice (e := 32) Try.underlying22 (by kernel_rfl) (Rdr.iso (Rdr.struct Try.underlying32 (by kernel_rfl) (Rdr.more (by kernel_rfl) (Rdr.iso (Rdr.struct Try.underlying30 (by kernel_rfl) (Rdr.more (by kernel_rfl) (Rdr.int Try.underlying3) (Rdr.last (by kernel_rfl) (Rdr.int Try.underlying3)))) (fun x : PCa.S30 => (x.f0, x.f1)) (fun x => ⟨x.1, x.2⟩) (fun _ => rfl)) (Rdr.more (by kernel_rfl) (Rdr.int Try.underlying3) (Rdr.more (by kernel_rfl) (Rdr.slice (e := 3) Try.underlying23 (by kernel_rfl) (Rdr.int Try.underlying3)) (Rdr.more (by kernel_rfl) (Rdr.int Try.underlying3) (Rdr.more (by kernel_rfl) (Rdr.iso (Rdr.struct Try.underlying30 (by kernel_rfl) (Rdr.more (by kernel_rfl) (Rdr.int Try.underlying3) (Rdr.last (by kernel_rfl) (Rdr.int Try.underlying3)))) (fun x : PCa.S30 => (x.f0, x.f1)) (fun x => ⟨x.1, x.2⟩) (fun _ => rfl)) (Rdr.more (by kernel_rfl) (Rdr.iso (Rdr.struct Try.underlying30 (by kernel_rfl) (Rdr.more (by kernel_rfl) (Rdr.int Try.underlying3) (Rdr.last (by kernel_rfl) (Rdr.int Try.underlying3)))) (fun x : PCa.S30 => (x.f0, x.f1)) (fun x => ⟨x.1, x.2⟩) (fun _ => rfl)) (Rdr.more (by kernel_rfl) (Rdr.iso (Rdr.struct Try.underlying30 (by kernel_rfl) (Rdr.more (by kernel_rfl) (Rdr.int Try.underlying3) (Rdr.last (by kernel_rfl) (Rdr.int Try.underlying3)))) (fun x : PCa.S30 => (x.f0, x.f1)) (fun x => ⟨x.1, x.2⟩) (fun _ => rfl)) (Rdr.more (by kernel_rfl) (Rdr.string Try.underlying9) (Rdr.last (by kernel_rfl) (Rdr.string Try.underlying9))))))))))) (fun x : PCa.S32 => (x.f0, x.f1, x.f2, x.f3, x.f4, x.f5, x.f6, x.f7, x.f8)) (fun x => ⟨x.1, x.2.1, x.2.2.1, x.2.2.2.1, x.2.2.2.2.1, x.2.2.2.2.2.1, x.2.2.2.2.2.2.1, x.2.2.2.2.2.2.2.1, x.2.2.2.2.2.2.2.2⟩) (fun _ => rfl))) h0
  have kw0 := okx0 (fun n hn => of_decide_eq_true (List.all_eq_true.1 hsz0 _ (DataW.weights_mem_each (j := 0) rfl rfl n hn)))
  obtain ⟨a0, l0, c0, rfl⟩ := okWide_slice Try.underlying22 (hval 0 22 v0 rfl rfl)
  obtain ⟨a0', c0', e0, hc0, kx0⟩ := kx0
  simp only [Value.cells, List.cons.injEq, Value.slice.injEq, and_true] at e0
  obtain ⟨rfl, rfl, rfl⟩ := e0
  have k1 := h1
  have lt1 : ∀ x ∈ p1, x.block < W.heap.size := by obtain ⟨m, hm⟩ := k1; exact DataW.trod_lt m _ _ _ hm
  obtain ⟨x1, kx1, okx1⟩ := Rdr.Reads.param (Rdr.slice (e := 3) Try.underlying23 (by kernel_rfl) (Rdr.int Try.underlying3)) h1
  have kw1 := okx1 (fun n hn => of_decide_eq_true (List.all_eq_true.1 hsz0 _ (DataW.weights_mem_each (j := 1) rfl rfl n hn)))
  obtain ⟨a1, l1, c1, rfl⟩ := okWide_slice Try.underlying23 (hval 1 23 v1 rfl rfl)
  obtain ⟨a1', c1', e1, hc1, kx1⟩ := kx1
  simp only [Value.cells, List.cons.injEq, Value.slice.injEq, and_true] at e1
  obtain ⟨rfl, rfl, rfl⟩ := e1
  have hs0 : ∀ x ∈ x0, x.f7.size < 4611686018427387904 := fun x hx => by have h_ : x.f7.size ≤ reachBytes := (kw0.2 x hx).2.2.2.2.2.2.2.1; unfold reachBytes at h_; omega
  have hn0 : x0.length < 4611686018427387904 := by have h_ : x0.length * 136 ≤ reachBytes := kw0.1; unfold reachBytes at h_; omega
  clear hA0 hval0 hsz0 hval
  refine (PCa.all_law_calls W a0 c0 x0 kx0 hn0 hs0 a1 c1 x1 kx1).mono fun e W' ⟨he, bel⟩ => ?_
  subst he
  exact ⟨_, rfl, _, _, _, [], _, [], hW', trodAll_mk1 (shut_bool Try.underlying4 _), (trodAll_cons_mk (Below.trod laidOut (by kernel_rfl) (of_decide_eq_true (by kernel_rfl)) k0 bel lt0) (trodAll_cons_mk (Below.trod laidOut (by kernel_rfl) (of_decide_eq_true (by kernel_rfl)) k1 bel lt1) trodAll_mk0)), rfl, bel.frame _, fun h => by cases h⟩
theorem proved : Rows.CausalAllSaid :=
  OpenClaim.holds_of_wide 3 Try.f3 rfl rfl rfl rfl rfl rfl rfl ⟨rfl, rfl, rfl, rfl, rfl⟩ rfl rfl rfl rfl rfl (by kernel_rfl) Try.func3 (by kernel_rfl)
    (of_decide_eq_true (by kernel_rfl)) (by unfold Func.isWrapper; first | (rw [if_pos (by decide +kernel)]; kernel_rfl) | (rw [if_neg (by decide +kernel)]; exact ⟨rfl, rfl⟩))
    (fun os started H enc _ => lifted os started H enc)
#print axioms proved
end Go.Proofs.Ytnopjjilpgekfaa.causalAll
namespace Go.Proofs.Ytnopjjilpgekfaa
theorem causalAll_holds : Rows.CausalAllSaid := causalAll.proved
end Go.Proofs.Ytnopjjilpgekfaa
