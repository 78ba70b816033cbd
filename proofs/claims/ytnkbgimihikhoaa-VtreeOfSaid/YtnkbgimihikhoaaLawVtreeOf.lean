/- The tree that any Doc comes to, right or wrong: vtree's Of makes it as the document says. -/
import Derived.Test.YtnkbgimihikhoaaRows
import Derived.Test.YtnkbgimihikhoaaQU7
import Derived.JoinedCond
import Derived.Deep.CondSized
import Derived.WalkKit
import Derived.ProofKit
import Derived.OpenShut
import Derived.ShutString
import Derived.ChangeOld
import Derived.Below
import Derived.SizedLaws
namespace Go.Proofs.Ytnkbgimihikhoaa.vtreeOf
open Go.ChangeShapes Go.WideShapes Go.ChangeAt Go.RowKit
open Go.ChangeMaps (open_string shut_string)
set_option linter.unusedVariables false
theorem own : ownKnob Try.prog.godebug = none := by kernel_rfl
theorem laidOut : laidOutB Try.prog = true := by kernel_rfl
set_option maxHeartbeats 4000000 in
set_option maxRecDepth 100000 in
theorem lifted (os : Os) (started : os.Started) (H : Type) (enc : TypeId × Value → H) :
    ReturnsInHanded {} Try.checked os 4 .any (Rows.vtreeOfSpec.pre6 enc Try.prog Try.f4 Rows.vtreeOfRow.domain false) (Rows.vtreeOfSpec.post enc Try.prog Try.f4 false true false false) := by
  refine returnsInHanded_of_change_sized (C := Try.checked) own started (by kernel_rfl) Try.func4
    (ChangeSpec.witness6 (enc := enc) (C := Try.checked) false ⟨#[], #[.agg #[.slice none 0 0, .slice none 0 0, .slice none 0 0, .slice none 0 0]], []⟩ 8 (by kernel_rfl) (by kernel_rfl) (by kernel_rfl) (by kernel_rfl)) ?_
  intro W base args ds gs before hval0 hW hcnd hsz0 _
  have hval : ∀ (j : Nat) t v, Try.f4.params[j]? = some t → args[j]? = some v → Value.okWide Try.prog W .any base t v := hval0
  have hW' := hW
  obtain ⟨p, q, hA0, hV, rfl, hfz, hnd⟩ := hW
  have hA : DataW.TrodAll enc Try.prog W 0 (fun _ => true) true Try.f4.params.toList args.toList ds p := hA0
  rw [Try.params4] at hA hval
  obtain ⟨v0, vs0, d0, ds0, p0, q0, hargs, rfl, rfl, h0, r0⟩ := trodAll_cons hA
  obtain ⟨rfl, rfl, rfl⟩ := trodAll_nil r0
  obtain rfl : args = #[v0] := by cases args; simp_all
  obtain ⟨rfl, rfl⟩ := trodVars_none hV
  have k0 := h0
  have lt0 : ∀ x ∈ p0, x.block < W.heap.size := by obtain ⟨m, hm⟩ := k0; exact DataW.trod_lt m _ _ _ hm
  obtain ⟨x0, kx0, okx0⟩ := Rdr.Reads.param (Rdr.iso (Rdr.struct Try.underlying39 (by kernel_rfl) (Rdr.more (by kernel_rfl) (Rdr.slice (e := 52) Try.underlying34 (by kernel_rfl) (Rdr.iso (Rdr.struct Try.underlying52 (by kernel_rfl) (Rdr.more (by kernel_rfl) (Rdr.iso (Rdr.struct Try.underlying23 (by kernel_rfl) (Rdr.more (by kernel_rfl) (Rdr.int Try.underlying3) (Rdr.last (by kernel_rfl) (Rdr.int Try.underlying3)))) (fun x : PVt.S23 => (x.f0, x.f1)) (fun x => ⟨x.1, x.2⟩) (fun _ => rfl)) (Rdr.last (by kernel_rfl) (Rdr.string Try.underlying9)))) (fun x : PVt.S52 => (x.f0, x.f1)) (fun x => ⟨x.1, x.2⟩) (fun _ => rfl))) (Rdr.more (by kernel_rfl) (Rdr.slice (e := 97) Try.underlying35 (by kernel_rfl) (Rdr.iso (Rdr.struct Try.underlying97 (by kernel_rfl) (Rdr.more (by kernel_rfl) (Rdr.iso (Rdr.struct Try.underlying23 (by kernel_rfl) (Rdr.more (by kernel_rfl) (Rdr.int Try.underlying3) (Rdr.last (by kernel_rfl) (Rdr.int Try.underlying3)))) (fun x : PVt.S23 => (x.f0, x.f1)) (fun x => ⟨x.1, x.2⟩) (fun _ => rfl)) (Rdr.more (by kernel_rfl) (Rdr.iso (Rdr.struct Try.underlying23 (by kernel_rfl) (Rdr.more (by kernel_rfl) (Rdr.int Try.underlying3) (Rdr.last (by kernel_rfl) (Rdr.int Try.underlying3)))) (fun x : PVt.S23 => (x.f0, x.f1)) (fun x => ⟨x.1, x.2⟩) (fun _ => rfl)) (Rdr.last (by kernel_rfl) (Rdr.iso (Rdr.struct Try.underlying23 (by kernel_rfl) (Rdr.more (by kernel_rfl) (Rdr.int Try.underlying3) (Rdr.last (by kernel_rfl) (Rdr.int Try.underlying3)))) (fun x : PVt.S23 => (x.f0, x.f1)) (fun x => ⟨x.1, x.2⟩) (fun _ => rfl)))))) (fun x : PVt.S97 => (x.f0, x.f1, x.f2)) (fun x => ⟨x.1, x.2.1, x.2.2⟩) (fun _ => rfl))) (Rdr.more (by kernel_rfl) (Rdr.slice (e := 74) Try.underlying36 (by kernel_rfl) (Rdr.iso (Rdr.struct Try.underlying74 (by kernel_rfl) (Rdr.more (by kernel_rfl) (Rdr.iso (Rdr.struct Try.underlying23 (by kernel_rfl) (Rdr.more (by kernel_rfl) (Rdr.int Try.underlying3) (Rdr.last (by kernel_rfl) (Rdr.int Try.underlying3)))) (fun x : PVt.S23 => (x.f0, x.f1)) (fun x => ⟨x.1, x.2⟩) (fun _ => rfl)) (Rdr.last (by kernel_rfl) (Rdr.slice (e := 23) Try.underlying48 (by kernel_rfl) (Rdr.iso (Rdr.struct Try.underlying23 (by kernel_rfl) (Rdr.more (by kernel_rfl) (Rdr.int Try.underlying3) (Rdr.last (by kernel_rfl) (Rdr.int Try.underlying3)))) (fun x : PVt.S23 => (x.f0, x.f1)) (fun x => ⟨x.1, x.2⟩) (fun _ => rfl)))))) (fun x : PVt.S74 => (x.f0, x.f1)) (fun x => ⟨x.1, x.2⟩) (fun _ => rfl))) (Rdr.last (by kernel_rfl) (Rdr.slice (e := 111) Try.underlying37 (by kernel_rfl) (Rdr.iso (Rdr.struct Try.underlying111 (by kernel_rfl) (Rdr.more (by kernel_rfl) (Rdr.iso (Rdr.struct Try.underlying23 (by kernel_rfl) (Rdr.more (by kernel_rfl) (Rdr.int Try.underlying3) (Rdr.last (by kernel_rfl) (Rdr.int Try.underlying3)))) (fun x : PVt.S23 => (x.f0, x.f1)) (fun x => ⟨x.1, x.2⟩) (fun _ => rfl)) (Rdr.more (by kernel_rfl) (Rdr.string Try.underlying9) (Rdr.more (by kernel_rfl) (Rdr.iso (Rdr.struct Try.underlying23 (by kernel_rfl) (Rdr.more (by kernel_rfl) (Rdr.int Try.underlying3) (Rdr.last (by kernel_rfl) (Rdr.int Try.underlying3)))) (fun x : PVt.S23 => (x.f0, x.f1)) (fun x => ⟨x.1, x.2⟩) (fun _ => rfl)) (Rdr.more (by kernel_rfl) (Rdr.string Try.underlying9) (Rdr.last (by kernel_rfl) (Rdr.bool Try.underlying4))))))) (fun x : PVt.S111 => (x.f0, x.f1, x.f2, x.f3, x.f4)) (fun x => ⟨x.1, x.2.1, x.2.2.1, x.2.2.2.1, x.2.2.2.2⟩) (fun _ => rfl)))))))) (fun x : PVt.DocP => (x.made, x.placed, x.rows, x.regs)) (fun x => ⟨x.1, x.2.1, x.2.2.1, x.2.2.2⟩) (fun _ => rfl)) h0
  have kw0 := okx0 (fun n hn => of_decide_eq_true (List.all_eq_true.1 hsz0 _ (DataW.weights_mem_each (j := 0) rfl rfl n hn)))
  obtain ⟨cs0, rfl, _⟩ := okWide_struct Try.underlying39 (hval 0 39 v0 rfl rfl)
  obtain ⟨A0, c0, A1, c1, A2, c2, A3, c3, e0, dk0⟩ := PVt.k39_open kx0
  have e0' : cs0.toList = [.slice A0 x0.made.length c0, .slice A1 x0.placed.length c1, .slice A2 x0.rows.length c2, .slice A3 x0.regs.length c3] := e0
  obtain rfl : cs0 = #[.slice A0 x0.made.length c0, .slice A1 x0.placed.length c1, .slice A2 x0.rows.length c2, .slice A3 x0.regs.length c3] := Array.toList_inj.1 e0'
  have hfd : PVt.FitD x0 := ⟨fun x hx => (kw0.1.2 x hx).2, fun x hx => ⟨(kw0.2.2.2.2 x hx).2.1, (kw0.2.2.2.2 x hx).2.2.2.1⟩⟩
  have hrl : x0.rows.length < 4611686018427387904 := by have h_ : x0.rows.length * 40 ≤ reachBytes := kw0.2.2.1.1; unfold reachBytes at h_; omega
  have hsl : ∀ r ∈ x0.rows, r.f1.length < 4611686018427387904 := fun r hr => by have h_ : r.f1.length * 16 ≤ reachBytes := (kw0.2.2.1.2 r hr).2.1; unfold reachBytes at h_; omega
  clear hA0 hval0 hsz0 hval
  refine (PVt.of_law_calls W x0 A0 A1 A2 A3 c0 c1 c2 c3 dk0 hfd hrl hsl).mono fun e W' ⟨he, bel⟩ => ?_
  subst he
  exact ⟨_, rfl, _, _, _, [], _, [], hW', trodAll_mk1 (shut_bool Try.underlying4 _), (trodAll_cons_mk (Below.trod laidOut (by kernel_rfl) (of_decide_eq_true (by kernel_rfl)) k0 bel lt0) trodAll_mk0), rfl, bel.frame _, fun h => by cases h⟩
theorem proved : Rows.VtreeOfSaid :=
  OpenClaim.holds_of_wide 4 Try.f4 rfl rfl rfl rfl rfl rfl rfl ⟨rfl, rfl, rfl, rfl, rfl⟩ rfl rfl rfl rfl rfl (by kernel_rfl) Try.func4 (by kernel_rfl)
    (of_decide_eq_true (by kernel_rfl)) (by unfold Func.isWrapper; first | (rw [if_pos (by decide +kernel)]; kernel_rfl) | (rw [if_neg (by decide +kernel)]; exact ⟨rfl, rfl⟩))
    (fun os started H enc _ => lifted os started H enc)
#print axioms proved
end Go.Proofs.Ytnkbgimihikhoaa.vtreeOf
namespace Go.Proofs.Ytnkbgimihikhoaa
theorem vtreeOf_holds : Rows.VtreeOfSaid := vtreeOf.proved
end Go.Proofs.Ytnkbgimihikhoaa
