/- A nil net has no replicas, whatever the call. -/
import Derived.Test.YtchepjbdaojidaaRows
import Derived.Test.YtchepjbdaojidaaRdr
import Derived.Test.YtchepjbdaojidaaMBagsN
import Derived.JoinedCond
import Derived.Deep.CondSized
import Derived.WalkKit
import Derived.ProofKit
import Derived.OpenShut
import Derived.ShutString
import Derived.ChangeOld
import Derived.Below
import Derived.SizedLaws
namespace Go.Proofs.Ytchepjbdaojidaa.bagsNil
open Go.ChangeShapes Go.WideShapes Go.ChangeAt Go.RowKit
open Go.ChangeMaps (open_string shut_string)
set_option linter.unusedVariables false
theorem own : ownKnob Try.prog.godebug = none := by kernel_rfl
theorem laidOut : laidOutB Try.prog = true := by kernel_rfl
set_option maxHeartbeats 4000000 in
set_option maxRecDepth 100000 in
theorem lifted (os : Os) (started : os.Started) (H : Type) (enc : TypeId × Value → H) :
    ReturnsInHanded {} Try.checked os 9 .any (Rows.bagsNilSpec.pre6 enc Try.prog Try.f9 Rows.bagsNilRow.domain false) (Rows.bagsNilSpec.post enc Try.prog Try.f9 false true false false) := by
  refine returnsInHanded_of_change_sized (C := Try.checked) own started (by kernel_rfl) Try.func9
    (ChangeSpec.witness6 (enc := enc) (C := Try.checked) false ⟨#[], #[.agg #[.int .i64 0, .int .i64 0, .int .i64 0, .int .i64 0, .int .i64 0, .int .i64 0, .slice none 0 0]], []⟩ 8 (by kernel_rfl) (by kernel_rfl) (by kernel_rfl) (by kernel_rfl)) ?_
  intro W base args ds gs before hval0 hW hcnd hsz0 _
  have hval : ∀ (j : Nat) t v, Try.f9.params[j]? = some t → args[j]? = some v → Value.okWide Try.prog W .any base t v := hval0
  have hW' := hW
  obtain ⟨p, q, hA0, hV, rfl, hfz, hnd⟩ := hW
  have hA : DataW.TrodAll enc Try.prog W 0 (fun _ => true) true Try.f9.params.toList args.toList ds p := hA0
  rw [Try.params9] at hA hval
  obtain ⟨v0, vs0, d0, ds0, p0, q0, hargs, rfl, rfl, h0, r0⟩ := trodAll_cons hA
  obtain ⟨rfl, rfl, rfl⟩ := trodAll_nil r0
  obtain rfl : args = #[v0] := by cases args; simp_all
  obtain ⟨rfl, rfl⟩ := trodVars_none hV
  have k0 := h0
  have lt0 : ∀ x ∈ p0, x.block < W.heap.size := by obtain ⟨m, hm⟩ := k0; exact DataW.trod_lt m _ _ _ hm
  obtain ⟨x0, kx0, okx0⟩ := Rdr.Reads.param (Rdr.iso (Rdr.struct Try.underlying37 (by kernel_rfl) (Rdr.more (by kernel_rfl) (Rdr.int Try.underlying3) (Rdr.more (by kernel_rfl) (Rdr.int Try.underlying3) (Rdr.more (by kernel_rfl) (Rdr.int Try.underlying3) (Rdr.more (by kernel_rfl) (Rdr.int Try.underlying3) (Rdr.more (by kernel_rfl) (Rdr.int Try.underlying3) (Rdr.more (by kernel_rfl) (Rdr.int Try.underlying3) (Rdr.last (by kernel_rfl) (Rdr.slice (e := 5) Try.underlying22 (by kernel_rfl) (Rdr.int Try.underlying5)))))))))) PBags.Cmd.parts (fun x => ⟨x.1, x.2.1, x.2.2.1, x.2.2.2.1, x.2.2.2.2.1, x.2.2.2.2.2.1, x.2.2.2.2.2.2⟩) (fun _ => rfl)) h0
  have kw0 := okx0 (fun n hn => of_decide_eq_true (List.all_eq_true.1 hsz0 _ (DataW.weights_mem_each (j := 0) rfl rfl n hn)))
  obtain ⟨cs0, rfl, _⟩ := okWide_struct Try.underlying37 (hval 0 37 v0 rfl rfl)
  obtain ⟨A0, c0, e0, lc0, gk0⟩ := PBags.kCmd_open kx0
  have e0' : cs0.toList = _ := e0
  obtain rfl : cs0 = #[.int .i64 x0.kd, .int .i64 x0.a, .int .i64 x0.b, .int .i64 x0.x, .int .i64 x0.p, .int .i64 x0.m, .slice A0 x0.l.length c0] := Array.toList_inj.1 e0'
  have hbl : x0.l.length ≤ 140737488351232 := Nat.le_trans (Nat.le_of_eq (Nat.mul_one _).symm) kw0.2.2.2.2.2.2.1
  clear hA0 hval0 hsz0 hval
  refine (PBags.bagsNil_calls W x0.kd x0.a x0.b x0.x x0.p x0.m A0 c0 x0.l gk0 lc0 hbl).mono fun e W' ⟨he, bel⟩ => ?_
  subst he
  exact ⟨_, rfl, _, _, _, [], _, [], hW', trodAll_mk1 (shut_bool Try.underlying4 _), (trodAll_cons_mk (Below.trod laidOut (by kernel_rfl) (of_decide_eq_true (by kernel_rfl)) k0 bel lt0) trodAll_mk0), rfl, bel.frame _, fun h => by cases h⟩
theorem proved : Rows.BagsNilSaid :=
  OpenClaim.holds_of_wide 9 Try.f9 rfl rfl rfl rfl rfl rfl rfl ⟨rfl, rfl, rfl, rfl, rfl⟩ rfl rfl rfl rfl rfl (by kernel_rfl) Try.func9 (by kernel_rfl)
    (of_decide_eq_true (by kernel_rfl)) (by unfold Func.isWrapper; first | (rw [if_pos (by decide +kernel)]; kernel_rfl) | (rw [if_neg (by decide +kernel)]; exact ⟨rfl, rfl⟩))
    (fun os started H enc _ => lifted os started H enc)
#print axioms proved
end Go.Proofs.Ytchepjbdaojidaa.bagsNil
namespace Go.Proofs.Ytchepjbdaojidaa
theorem bagsNil_holds : Rows.BagsNilSaid := bagsNil.proved
end Go.Proofs.Ytchepjbdaojidaa
