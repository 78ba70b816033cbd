/- What the statement's row needs of this session's texts, joined by program: part 1. -/
import Derived.Test.YtnkbgimihikhoaaProg
import Derived.Below
import Derived.Deep.Draws
import Derived.Deep.AppendLies
import Derived.Maps.AppendAt
import Derived.OwnWalk
import Derived.Laws.BytesArg
import Derived.Laws.MakeOwn
import Derived.Laws.OwnMore
import Derived.Deep.OwnRows
import Derived.Tactics
import Derived.Lib.ConvBytes
import Derived.Laws.Slices
import Derived.WalkKit
import Derived.KernelRfl
import Derived.RowKit3
import Derived.Deep.LoopGhost
import Derived.Deep.QuietTactic
import Derived.BigQuiet
import Derived.WideLaws
import Derived.Deep.DeepCutAuto
import Derived.Deep.CutBlock
import Derived.Deep.RegionHeld3
import Derived.Laws.Rows
import Derived.Lib.AppendStr
import Derived.ArgAppend
import Derived.Laws.IdiomCopy
import Derived.OrdersHeld
import Derived.Laws.BitsLemmas
import Derived.RowKit
import Derived.Test.YtnkbgimihikhoaaWWords
import Derived.Test.YtnkbgimihikhoaaWLast
import Derived.Test.YtnkbgimihikhoaaWTab
import Derived.Test.YtnkbgimihikhoaaWFour
import Derived.Test.YtnkbgimihikhoaaWQPut
import Derived.Test.YtnkbgimihikhoaaWApart
import Derived.Test.YtnkbgimihikhoaaWArr
import Derived.Test.YtnkbgimihikhoaaWZeros
import Derived.Test.YtnkbgimihikhoaaWFoot
import Derived.Test.YtnkbgimihikhoaaWKept
import Derived.Test.YtnkbgimihikhoaaWShare
import Derived.Test.YtnkbgimihikhoaaWN
import Derived.Test.YtnkbgimihikhoaaWFootNe
import Derived.Test.YtnkbgimihikhoaaWAt
import Derived.Test.YtnkbgimihikhoaaWEqStruct
import Derived.Test.YtnkbgimihikhoaaWRepsOne
import Derived.Test.YtnkbgimihikhoaaWInv
import Derived.Test.YtnkbgimihikhoaaWInvWords
import Derived.Test.YtnkbgimihikhoaaWGuard
import Derived.Test.YtnkbgimihikhoaaWNEv
import Derived.Test.YtnkbgimihikhoaaWMore
import Derived.RangeFuncNested
import Derived.RangeFuncBound
import Derived.RangeFuncCalls
import Derived.RangeFuncLeaves
import Derived.RangeFuncBox
import Derived.Shelf.Abstract
import Derived.Shelf.RegionOpen
import Derived.OwnWalkIn
import Derived.TacticsInMore
import Derived.LoopNIn
import Derived.LoopIn
import Derived.Maps.OwnIn
import Derived.IntWalk
import Derived.Laws.Cover1
import Derived.Maps.Own
import Derived.ControlIn
import Derived.Sort.CutIn
namespace Go.Proofs.Ytnkbgimihikhoaa.PVt
open Go.RowKit Go.Proofs.YtnkbgimihikhoaaW.PrintWords Go.Proofs.YtnkbgimihikhoaaW.PrintLast Go.Proofs.YtnkbgimihikhoaaW.PrintMore
attribute [local go_sem] max2_int min2_int max_two min_two max_three min_three max_four min_four   -- for this text's walks alone
set_option linter.unusedVariables false
set_option linter.unusedSimpArgs false
def errW : Option Int → Value
  | none => .nilIface
  | some c => .iface 0 (.int .i64 c)
theorem errW_none : errW none = .nilIface := rfl
theorem errW_some (c : Int) : errW (some c) = .iface 0 (.int .i64 c) := rfl
theorem info3 : (Try.prog.info? 3).map (fun i => (i.zero, i.size, i.bytes)) = some (some (.int .i64 0), 1, 8) := by kernel_rfl
theorem info23 : (Try.prog.info? 23).map (fun i => (i.zero, i.size, i.bytes)) = some (some (.agg #[(.int .i64 0), (.int .i64 0)]), 2, 16) := by kernel_rfl
theorem info27 : (Try.prog.info? 27).map (fun i => (i.zero, i.size, i.bytes)) = some (some (.agg #[(.int .i64 0), (.int .i64 0), (.string ⟨#[]⟩), (.string ⟨#[]⟩), (.slice none 0 0), (.slice none 0 0)]), 6, 96) := by kernel_rfl
theorem info99 : (Try.prog.info? 99).map (fun i => (i.zero, i.size, i.bytes)) = some (some (.agg #[(.string ⟨#[]⟩), (.string ⟨#[]⟩)]), 2, 32) := by kernel_rfl
structure S23 where
  f0 : Int
  f1 : Int
def z23 : S23 := ⟨(0 : Int), (0 : Int)⟩
def k23 : Kd S23 := Kd.iso (Kd.pair (Kd.int .i64) (Kd.int .i64)) (fun x : S23 => (x.f0, x.f1))
theorem k23_open {w : World} {x : S23} {cs : List Value} (h : k23.K w x cs) : cs = [.int .i64 x.f0, .int .i64 x.f1] := by
  obtain ⟨_, _, rfl, rfl, rfl⟩ := h
  exact rfl
theorem k23_openM {w : World} {base : Nat} {ok : Nat → Prop} {x : S23} {cs : List Value} (h : k23.M w base ok x cs) : cs = [.int .i64 x.f0, .int .i64 x.f1] := by
  obtain ⟨_, _, rfl, rfl, rfl⟩ := h
  exact rfl
theorem k23_mk (w : World) (x : S23)  : k23.K w x [.int .i64 x.f0, .int .i64 x.f1] := ⟨[.int .i64 x.f0], [.int .i64 x.f1], rfl, rfl, rfl⟩
theorem k23_mkM (w : World) (base : Nat) (ok : Nat → Prop) (x : S23)  : k23.M w base ok x [.int .i64 x.f0, .int .i64 x.f1] := ⟨[.int .i64 x.f0], [.int .i64 x.f1], rfl, rfl, rfl⟩
def rd_T23 (xs : List S23) (i : Int) : S23 := xs.getD i.toNat z23
structure S99 where
  f0 : ByteArray
  f1 : ByteArray
def z99 : S99 := ⟨(⟨#[]⟩ : ByteArray), (⟨#[]⟩ : ByteArray)⟩
def k99 : Kd S99 := Kd.iso (Kd.pair Kd.string Kd.string) (fun x : S99 => (x.f0, x.f1))
theorem k99_open {w : World} {x : S99} {cs : List Value} (h : k99.K w x cs) : cs = [.string x.f0, .string x.f1] := by
  obtain ⟨_, _, rfl, rfl, rfl⟩ := h
  exact rfl
def rd_T99 (xs : List S99) (i : Int) : S99 := xs.getD i.toNat z99
theorem at_T99 {w : World} {A : Option Addr} {n : Nat} {xs : List S99} (h : Kd.C k99 w A n xs) (i : Int) (h0 : 0 ≤ i) (h1 : i < n) : ∃ ad , A = some ad ∧ w.cell? (ad.add (i.toNat * 2)) = some (.string (rd_T99 xs i).f0) ∧ w.cell? ⟨(ad.add (i.toNat * 2)).block, (ad.add (i.toNat * 2)).off + 1, none⟩ = some (.string (rd_T99 xs i).f1) := by
  obtain ⟨ad, c, e, _, hK, hc0⟩ := Kd.C_get h z99 i h0 h1
  have hc : ∀ j u, c[j]? = some u → w.cell? (ad.add (i.toNat * 2 + j)) = some u := hc0
  obtain rfl := k99_open hK
  exact ⟨ad, e, hc 0 _ rfl, by rw [← add_field _ _ 1 (by omega)]; exact hc 1 _ rfl⟩
structure S27 where
  f0 : S23
  f1 : ByteArray
  f2 : ByteArray
  f3 : (List S99)
  f4 : (List S27)
def z27 : S27 := ⟨z23, (⟨#[]⟩ : ByteArray), (⟨#[]⟩ : ByteArray), ([] : List S99), ([] : List S27)⟩
def F27 (d : Kd S27) : Kd S27 := Kd.iso (Kd.pair k23 (Kd.pair Kd.string (Kd.pair Kd.string (Kd.pair (Kd.slice 99 k99) (Kd.slice 27 d))))) (fun x : S27 => (x.f0, x.f1, x.f2, x.f3, x.f4))
theorem mono27 : Kd.Mono F27 := Kd.mono_iso _ (Kd.mono_pair (Kd.mono_const _) (Kd.mono_pair (Kd.mono_const _) (Kd.mono_pair (Kd.mono_const _) (Kd.mono_pair (Kd.mono_const _) (Kd.mono_slice 27 Kd.mono_id)))))
theorem sub27 : Kd.Sub F27 [27, 99] := Kd.sub_iso _ (Kd.sub_pair (Kd.sub_const _ (by decide)) (Kd.sub_pair (Kd.sub_const _ (by decide)) (Kd.sub_pair (Kd.sub_const _ (by decide)) (Kd.sub_pair (Kd.sub_const _ (by decide)) (Kd.sub_slice 27 (by decide) Kd.sub_id)))))
theorem sz27 : ∀ n, (Kd.upto F27 6 [27, 99] n).sz = 6 := Kd.upto_sz (fun _ => rfl)
def k27 : Kd S27 := Kd.fix F27 6 [27, 99] sz27 (Kd.upto_E sub27)
theorem k27_open {w : World} {x : S27} {cs : List Value} (h : k27.K w x cs) : ∃ A4 c4 A5 c5, cs = [.int .i64 x.f0.f0, .int .i64 x.f0.f1, .string x.f1, .string x.f2, .slice A4 x.f3.length c4, .slice A5 x.f4.length c5] ∧ x.f3.length ≤ c4 ∧ k99.C w A4 x.f3.length x.f3 ∧ x.f4.length ≤ c5 ∧ k27.C w A5 x.f4.length x.f4 := by
  obtain ⟨n, h⟩ := h
  cases n with
  | zero => exact h.elim
  | succ n =>
    obtain ⟨_, _, rfl, s0, ⟨_, _, rfl, rfl, ⟨_, _, rfl, rfl, ⟨_, _, rfl, ⟨A4, c4, rfl, l4, g4⟩, ⟨A5, c5, rfl, l5, g5⟩⟩⟩⟩⟩ := h
    obtain rfl := k23_open s0
    exact ⟨A4, c4, A5, c5, rfl, l4, g4, l5, Kd.fix_C g5⟩
theorem k27_openM {w : World} {base : Nat} {ok : Nat → Prop} {x : S27} {cs : List Value} (h : k27.M w base ok x cs) : ∃ v4 v5, cs = [.int .i64 x.f0.f0, .int .i64 x.f0.f1, .string x.f1, .string x.f2, v4, v5] ∧ k99.R 99 w base ok v4 x.f3 ∧ k27.R 27 w base ok v5 x.f4 := by
  obtain ⟨n, h⟩ := h
  cases n with
  | zero => exact h.elim
  | succ n =>
    obtain ⟨_, _, rfl, s0, ⟨_, _, rfl, rfl, ⟨_, _, rfl, rfl, ⟨_, _, rfl, ⟨v4, rfl, g4⟩, ⟨v5, rfl, g5⟩⟩⟩⟩⟩ := h
    obtain rfl := k23_openM s0
    exact ⟨v4, v5, rfl, g4, Kd.fix_R g5⟩
theorem k27_mk (w : World) (x : S27) {A4 : Option Addr} {c4 : Nat} (l4 : x.f3.length ≤ c4) (g4 : k99.C w A4 x.f3.length x.f3) {A5 : Option Addr} {c5 : Nat} (l5 : x.f4.length ≤ c5) (g5 : k27.C w A5 x.f4.length x.f4) : k27.K w x [.int .i64 x.f0.f0, .int .i64 x.f0.f1, .string x.f1, .string x.f2, .slice A4 x.f3.length c4, .slice A5 x.f4.length c5] := by
  obtain ⟨n5, q5⟩ := Kd.fix_C_back mono27 g5
  have r5 := Kd.upto_C_le mono27 sz27 (show n5 ≤ n5 by omega) q5
  exact ⟨n5 + 1, ⟨[.int .i64 x.f0.f0, .int .i64 x.f0.f1], [.string x.f1, .string x.f2, .slice A4 x.f3.length c4, .slice A5 x.f4.length c5], rfl, (k23_mk w x.f0 ), ⟨[.string x.f1], [.string x.f2, .slice A4 x.f3.length c4, .slice A5 x.f4.length c5], rfl, rfl, ⟨[.string x.f2], [.slice A4 x.f3.length c4, .slice A5 x.f4.length c5], rfl, rfl, ⟨[.slice A4 x.f3.length c4], [.slice A5 x.f4.length c5], rfl, ⟨A4, c4, rfl, l4, g4⟩, ⟨A5, c5, rfl, l5, r5⟩⟩⟩⟩⟩⟩
theorem k27_mkM (w : World) (base : Nat) (ok : Nat → Prop) (x : S27) {v4 : Value} (g4 : k99.R 99 w base ok v4 x.f3) {v5 : Value} (g5 : k27.R 27 w base ok v5 x.f4) : k27.M w base ok x [.int .i64 x.f0.f0, .int .i64 x.f0.f1, .string x.f1, .string x.f2, v4, v5] := by
  obtain ⟨n5, q5⟩ := Kd.fix_R_back mono27 g5
  have r5 := Kd.upto_R_le mono27 sz27 (show n5 ≤ n5 by omega) q5
  exact ⟨n5 + 1, ⟨[.int .i64 x.f0.f0, .int .i64 x.f0.f1], [.string x.f1, .string x.f2, v4, v5], rfl, (k23_mkM w base ok x.f0 ), ⟨[.string x.f1], [.string x.f2, v4, v5], rfl, rfl, ⟨[.string x.f2], [v4, v5], rfl, rfl, ⟨[v4], [v5], rfl, ⟨v4, rfl, g4⟩, ⟨v5, rfl, r5⟩⟩⟩⟩⟩⟩
theorem k27_openF {W : World} {ok : Nat → Prop} {x : S27} {cs : List Value} (h : Kd.FK k27 W ok x cs) : ∃ A4 c4 A5 c5, cs = [.int .i64 x.f0.f0, .int .i64 x.f0.f1, .string x.f1, .string x.f2, .slice A4 x.f3.length c4, .slice A5 x.f4.length c5] ∧ x.f3.length ≤ c4 ∧ Kd.F k99 W ok A4 x.f3.length x.f3 ∧ x.f4.length ≤ c5 ∧ Kd.F k27 W ok A5 x.f4.length x.f4 := by
  obtain ⟨A4, c4, A5, c5, rfl, l4, _, l5, _⟩ := k27_open (Kd.FK_now h)
  exact ⟨A4, c4, A5, c5, rfl, l4, (fun W' hW => by obtain ⟨A4_, c4_, A5_, c5_, he, l4_, g4_, l5_, g5_⟩ := k27_open (h W' hW); injection (Option.some.inj (show some (Value.slice A4 x.f3.length c4) = some (Value.slice A4_ x.f3.length c4_) from congrArg (fun l => l[4]?) he)) with ha_ _ _; rw [ha_]; exact g4_), l5, (fun W' hW => by obtain ⟨A4_, c4_, A5_, c5_, he, l4_, g4_, l5_, g5_⟩ := k27_open (h W' hW); injection (Option.some.inj (show some (Value.slice A5 x.f4.length c5) = some (Value.slice A5_ x.f4.length c5_) from congrArg (fun l => l[5]?) he)) with ha_ _ _; rw [ha_]; exact g5_)⟩
def rd_T27 (xs : List S27) (i : Int) : S27 := xs.getD i.toNat z27
theorem at_T27 {w : World} {A : Option Addr} {n : Nat} {xs : List S27} (h : Kd.C k27 w A n xs) (i : Int) (h0 : 0 ≤ i) (h1 : i < n) : ∃ ad A4 c4 A5 c5, A = some ad ∧ w.cell? (ad.add (i.toNat * 6)) = some (.int .i64 (rd_T27 xs i).f0.f0) ∧ w.cell? ⟨(ad.add (i.toNat * 6)).block, (ad.add (i.toNat * 6)).off + 1, none⟩ = some (.int .i64 (rd_T27 xs i).f0.f1) ∧ w.cell? ⟨(ad.add (i.toNat * 6)).block, (ad.add (i.toNat * 6)).off + 2, none⟩ = some (.string (rd_T27 xs i).f1) ∧ w.cell? ⟨(ad.add (i.toNat * 6)).block, (ad.add (i.toNat * 6)).off + 3, none⟩ = some (.string (rd_T27 xs i).f2) ∧ w.cell? ⟨(ad.add (i.toNat * 6)).block, (ad.add (i.toNat * 6)).off + 4, none⟩ = some (.slice A4 (rd_T27 xs i).f3.length c4) ∧ w.cell? ⟨(ad.add (i.toNat * 6)).block, (ad.add (i.toNat * 6)).off + 5, none⟩ = some (.slice A5 (rd_T27 xs i).f4.length c5) ∧ (rd_T27 xs i).f3.length ≤ c4 ∧ k99.C w A4 (rd_T27 xs i).f3.length (rd_T27 xs i).f3 ∧ (rd_T27 xs i).f4.length ≤ c5 ∧ k27.C w A5 (rd_T27 xs i).f4.length (rd_T27 xs i).f4 := by
  obtain ⟨ad, c, e, _, hK, hc0⟩ := Kd.C_get h z27 i h0 h1
  have hc : ∀ j u, c[j]? = some u → w.cell? (ad.add (i.toNat * 6 + j)) = some u := hc0
  obtain ⟨A4, c4, A5, c5, rfl, l4, g4, l5, g5⟩ := k27_open hK
  exact ⟨ad, A4, c4, A5, c5, e, hc 0 _ rfl, by rw [← add_field _ _ 1 (by omega)]; exact hc 1 _ rfl, by rw [← add_field _ _ 2 (by omega)]; exact hc 2 _ rfl, by rw [← add_field _ _ 3 (by omega)]; exact hc 3 _ rfl, by rw [← add_field _ _ 4 (by omega)]; exact hc 4 _ rfl, by rw [← add_field _ _ 5 (by omega)]; exact hc 5 _ rfl, l4, g4, l5, g5⟩
structure S74 where
  f0 : S23
  f1 : (List S23)
structure S52 where
  f0 : S23
  f1 : ByteArray
structure S97 where
  f0 : S23
  f1 : S23
  f2 : S23
structure S111 where
  f0 : S23
  f1 : ByteArray
  f2 : S23
  f3 : ByteArray
  f4 : Bool
structure S91 where
  f0 : S23
  f1 : Int
  f2 : (List Int)
  f3 : Int
  f4 : S23
  f5 : S23
  f6 : S23
  f7 : ByteArray
  f8 : ByteArray
structure S126 where
  f0 : S23
  f1 : S23
  f2 : S23
  f3 : Bool
structure S151 where
  f0 : S23
  f1 : S23
end Go.Proofs.Ytnkbgimihikhoaa.PVt
namespace Go.Proofs.Ytnkbgimihikhoaa.PVt
open Go.RowKit Go.Proofs.YtnkbgimihikhoaaW.PrintWords Go.Proofs.YtnkbgimihikhoaaW.PrintLast Go.Proofs.YtnkbgimihikhoaaW.PrintMore
attribute [local go_sem] max2_int min2_int max_two min_two max_three min_three max_four min_four   -- for this text's walks alone
set_option linter.unusedVariables false
set_option linter.unusedSimpArgs false
theorem eqA23 (d : Nat) (w : World) (x0 y0 : Int) (x1 y1 : Int) :
    (Op.equalIn (d + 2) 23 (.agg #[.int .i64 x0, .int .i64 x1]) (.agg #[.int .i64 y0, .int .i64 y1])).run Try.prog w = .ok (x0 == y0 && (x1 == y1)) w := by
  refine eqA_of Try.underlying23 (by kernel_rfl) ?_
  refine eqf_cons (by rfl) (by go_simp; rfl) (by go_simp; rfl) (by go_simp) ?_
  exact eqf_last (by rfl) (by go_simp; rfl) (by go_simp; rfl) (by go_simp)
end Go.Proofs.Ytnkbgimihikhoaa.PVt
namespace Go.Proofs.Ytnkbgimihikhoaa.PVt
open Go.RowKit Go.Proofs.YtnkbgimihikhoaaW.PrintWords Go.Proofs.YtnkbgimihikhoaaW.PrintLast Go.Proofs.YtnkbgimihikhoaaW.PrintMore
attribute [local go_sem] max2_int min2_int max_two min_two max_three min_three max_four min_four   -- for this text's walks alone
set_option linter.unusedVariables false
set_option linter.unusedSimpArgs false
theorem eqA99 (d : Nat) (w : World) (x0 y0 : ByteArray) (x1 y1 : ByteArray) :
    (Op.equalIn (d + 2) 99 (.agg #[.string x0, .string x1]) (.agg #[.string y0, .string y1])).run Try.prog w = .ok (x0.toList == y0.toList && (x1.toList == y1.toList)) w := by
  refine eqA_of Try.underlying99 (by kernel_rfl) ?_
  refine eqf_cons (by rfl) (by go_simp; rfl) (by go_simp; rfl) (by go_simp) ?_
  exact eqf_last (by rfl) (by go_simp; rfl) (by go_simp; rfl) (by go_simp)
end Go.Proofs.Ytnkbgimihikhoaa.PVt
namespace Go.Proofs.Ytnkbgimihikhoaa.PVt
open Go.RowKit Go.Proofs.YtnkbgimihikhoaaW.PrintWords Go.Proofs.YtnkbgimihikhoaaW.PrintLast Go.Proofs.YtnkbgimihikhoaaW.PrintMore
attribute [local go_sem] max2_int min2_int max_two min_two max_three min_three max_four min_four   -- for this text's walks alone
set_option linter.unusedVariables false
set_option linter.unusedSimpArgs false
def ident_replica.f (a0 : Int) : Option (Bool) := if a0 ≥ 0 then (some (decide (a0 < 64))) else (some false)
set_option maxHeartbeats 8000000 in
set_option maxRecDepth 100000 in
theorem ident_replica.calls (a0 : Int) (r : Bool) (w : World) (h : ident_replica.f a0 = some r) :
    Calls Try.prog 66 #[.int .i64 a0] w fun e w' => e = .returned (.bool r) ∧ Drawn0 w w' := by
  have H : (if a0 ≥ 0 then (some (decide (a0 < 64))) else (some false)) = some r := h
  clear h
  by_cases c2 : a0 ≥ 0
  · rw [if_pos c2] at H
    have c2b0 : decide (0 ≤ a0) = true := decide_eq_true c2
    clear c2
    obtain rfl := Option.some.inj H
    go_enter Try.func66, Try.ntmps66
    go_wp2
    go_ret
    exact ⟨by first | rfl | (simp; done) | (simp [*]; done), by repeat (first | exact Drawn0.refl _ | apply Drawn0.step)⟩
  · rw [if_neg c2] at H
    have c2b0 : decide (0 ≤ a0) = false := decide_eq_false c2
    clear c2
    obtain rfl := Option.some.inj H
    go_enter Try.func66, Try.ntmps66
    go_wp2
    go_ret
    exact ⟨by first | rfl | (simp; done) | (simp [*]; done), by repeat (first | exact Drawn0.refl _ | apply Drawn0.step)⟩
end Go.Proofs.Ytnkbgimihikhoaa.PVt
namespace Go.Proofs.Ytnkbgimihikhoaa.PVt
open Go.RowKit Go.Proofs.YtnkbgimihikhoaaW.PrintWords Go.Proofs.YtnkbgimihikhoaaW.PrintLast Go.Proofs.YtnkbgimihikhoaaW.PrintMore
attribute [local go_sem] max2_int min2_int max_two min_two max_three min_three max_four min_four   -- for this text's walks alone
set_option linter.unusedVariables false
set_option linter.unusedSimpArgs false
def ident_Right.f (a0_0 : Int) (a0_1 : Int) : Option (Bool) := if a0_0 ≥ 1 then (if a0_0 ≤ 1099511627776 then ((ident_replica.f a0_1).bind fun t125 => (some t125)) else (some false)) else (some false)
set_option maxHeartbeats 8000000 in
set_option maxRecDepth 100000 in
theorem ident_Right.calls (a0_0 : Int) (a0_1 : Int) (r : Bool) (w : World) (h : ident_Right.f a0_0 a0_1 = some r) :
    Calls Try.prog 43 #[.agg #[.int .i64 a0_0, .int .i64 a0_1]] w fun e w' => e = .returned (.bool r) ∧ Below w.heap.size w w' := by
  have hu23 := Try.underlying23
  have HB := Aside0.mk (Below.refl w.heap.size w)
  have H : (if a0_0 ≥ 1 then (if a0_0 ≤ 1099511627776 then ((ident_replica.f a0_1).bind fun t125 => (some t125)) else (some false)) else (some false)) = some r := h
  clear h
  by_cases c2 : a0_0 ≥ 1
  · rw [if_pos c2] at H
    have c2b0 : decide (1 ≤ a0_0) = true := decide_eq_true c2
    clear c2
    by_cases c3 : a0_0 ≤ 1099511627776
    · rw [if_pos c3] at H
      have c3b0 : decide (a0_0 ≤ 1099511627776) = true := decide_eq_true c3
      clear c3
      replace H := Option.bind_eq_some_iff.mp H
      obtain ⟨t125, A40, H⟩ := H
      replace H : (some t125) = some r := H
      have A4 := Aside0.mk A40
      clear A40
      obtain rfl := Option.some.inj H
      go_enter Try.func43, Try.ntmps43
      go_wp2_with (first | ((with_reducible refine gate_dst (N := 1) rfl ?_); refine box_event ?hg (N := 1) ?hd (cs := #[.int .i64 a0_0, .int .i64 a0_1]) (t := 23) ?hr ?_; (case hd => rfl); (case hg => rfl); (case hr => first | (go_simp; done) | (go_simp; rfl)); intro gb124 hg w5 hbox hb; have n0_ := Aside0.mk (below_step (by repeat (first | (with_reducible first | exact HB.out | apply below_alloc | apply pw_below_drewN | apply below_drew1) | exact HB.out)) hb); have n1_ := Aside0.mk (hbox); have n2_ := Aside0.mk ((by rw [hg]; exact (below_size (by repeat (first | (with_reducible first | exact HB.out | apply below_alloc | apply pw_below_drewN | apply below_drew1) | exact HB.out))) : w.heap.size ≤ gb124)); have n3_ := Aside0.mk ((by rw [hg]; exact (below_size (by repeat (first | (with_reducible first | exact HB.out | apply below_alloc | apply pw_below_drewN | apply below_drew1) | exact HB.out))) : w.heap.size ≤ gb124)); clear HB; have HB := n0_; have BK124 := n1_; have GW124 := n2_; have GE124 := n3_; clear n0_ n1_ n2_ n3_; clear hb hbox hg; have hcz6_0 : w5.cell? ⟨gb124, 0, none⟩ = some (.int .i64 a0_0) := (blk_cell BK124.out 0).trans rfl; have hcz6_1 : w5.cell? ⟨gb124, 1, none⟩ = some (.int .i64 a0_1) := (blk_cell BK124.out 1).trans rfl; have hfz6_0 := blk_frozen BK124.out 0; have hfz6_1 := blk_frozen BK124.out 1) | (go_at_call 66; (try simp only [← List.length_take, ← List.length_drop]); (with_reducible refine (ident_replica.calls a0_1 t125 _ A4.out).mono ?_); rintro e w' ⟨rfl, ⟨nd, rfl⟩⟩))
      go_ret
      exact ⟨by first | rfl | (simp [errW_none, errW_some] <;> rfl) | (simp [*, errW_none, errW_some] <;> rfl), by repeat (first | (with_reducible first | exact HB.out | apply below_alloc | apply pw_below_drewN | apply below_drew1 | refine below_set ?_ GE124.out) | exact HB.out)⟩
    · rw [if_neg c3] at H
      have c3b0 : decide (a0_0 ≤ 1099511627776) = false := decide_eq_false c3
      clear c3
      obtain rfl := Option.some.inj H
      go_enter Try.func43, Try.ntmps43
      go_wp2_with (first | ((with_reducible refine gate_dst (N := 1) rfl ?_); refine box_event ?hg (N := 1) ?hd (cs := #[.int .i64 a0_0, .int .i64 a0_1]) (t := 23) ?hr ?_; (case hd => rfl); (case hg => rfl); (case hr => first | (go_simp; done) | (go_simp; rfl)); intro gb124 hg w7 hbox hb; have n0_ := Aside0.mk (below_step (by repeat (first | (with_reducible first | exact HB.out | apply below_alloc | apply pw_below_drewN | apply below_drew1) | exact HB.out)) hb); have n1_ := Aside0.mk (hbox); have n2_ := Aside0.mk ((by rw [hg]; exact (below_size (by repeat (first | (with_reducible first | exact HB.out | apply below_alloc | apply pw_below_drewN | apply below_drew1) | exact HB.out))) : w.heap.size ≤ gb124)); have n3_ := Aside0.mk ((by rw [hg]; exact (below_size (by repeat (first | (with_reducible first | exact HB.out | apply below_alloc | apply pw_below_drewN | apply below_drew1) | exact HB.out))) : w.heap.size ≤ gb124)); clear HB; have HB := n0_; have BK124 := n1_; have GW124 := n2_; have GE124 := n3_; clear n0_ n1_ n2_ n3_; clear hb hbox hg; have hcz8_0 : w7.cell? ⟨gb124, 0, none⟩ = some (.int .i64 a0_0) := (blk_cell BK124.out 0).trans rfl; have hcz8_1 : w7.cell? ⟨gb124, 1, none⟩ = some (.int .i64 a0_1) := (blk_cell BK124.out 1).trans rfl; have hfz8_0 := blk_frozen BK124.out 0; have hfz8_1 := blk_frozen BK124.out 1))
      go_ret
      exact ⟨by first | rfl | (simp [errW_none, errW_some] <;> rfl) | (simp [*, errW_none, errW_some] <;> rfl), by repeat (first | (with_reducible first | exact HB.out | apply below_alloc | apply pw_below_drewN | apply below_drew1 | refine below_set ?_ GE124.out) | exact HB.out)⟩
  · rw [if_neg c2] at H
    have c2b0 : decide (1 ≤ a0_0) = false := decide_eq_false c2
    clear c2
    obtain rfl := Option.some.inj H
    go_enter Try.func43, Try.ntmps43
    go_wp2_with (first | ((with_reducible refine gate_dst (N := 1) rfl ?_); refine box_event ?hg (N := 1) ?hd (cs := #[.int .i64 a0_0, .int .i64 a0_1]) (t := 23) ?hr ?_; (case hd => rfl); (case hg => rfl); (case hr => first | (go_simp; done) | (go_simp; rfl)); intro gb124 hg w9 hbox hb; have n0_ := Aside0.mk (below_step (by repeat (first | (with_reducible first | exact HB.out | apply below_alloc | apply pw_below_drewN | apply below_drew1) | exact HB.out)) hb); have n1_ := Aside0.mk (hbox); have n2_ := Aside0.mk ((by rw [hg]; exact (below_size (by repeat (first | (with_reducible first | exact HB.out | apply below_alloc | apply pw_below_drewN | apply below_drew1) | exact HB.out))) : w.heap.size ≤ gb124)); have n3_ := Aside0.mk ((by rw [hg]; exact (below_size (by repeat (first | (with_reducible first | exact HB.out | apply below_alloc | apply pw_below_drewN | apply below_drew1) | exact HB.out))) : w.heap.size ≤ gb124)); clear HB; have HB := n0_; have BK124 := n1_; have GW124 := n2_; have GE124 := n3_; clear n0_ n1_ n2_ n3_; clear hb hbox hg; have hcz10_0 : w9.cell? ⟨gb124, 0, none⟩ = some (.int .i64 a0_0) := (blk_cell BK124.out 0).trans rfl; have hcz10_1 : w9.cell? ⟨gb124, 1, none⟩ = some (.int .i64 a0_1) := (blk_cell BK124.out 1).trans rfl; have hfz10_0 := blk_frozen BK124.out 0; have hfz10_1 := blk_frozen BK124.out 1))
    go_ret
    exact ⟨by first | rfl | (simp [errW_none, errW_some] <;> rfl) | (simp [*, errW_none, errW_some] <;> rfl), by repeat (first | (with_reducible first | exact HB.out | apply below_alloc | apply pw_below_drewN | apply below_drew1 | refine below_set ?_ GE124.out) | exact HB.out)⟩
end Go.Proofs.Ytnkbgimihikhoaa.PVt
namespace Go.Proofs.Ytnkbgimihikhoaa.PVt
open Go.RowKit Go.Proofs.YtnkbgimihikhoaaW.PrintWords Go.Proofs.YtnkbgimihikhoaaW.PrintLast Go.Proofs.YtnkbgimihikhoaaW.PrintMore
attribute [local go_sem] max2_int min2_int max_two min_two max_three min_three max_four min_four   -- for this text's walks alone
set_option linter.unusedVariables false
set_option linter.unusedSimpArgs false
attribute [local go_sem high] eqA23
def ident_Node.f (a0_0 : Int) (a0_1 : Int) : Option (Bool) := (ident_Right.f a0_0 a0_1).bind fun t127 => (if t127 = true then (some true) else (if (a0_0 == 0 && (a0_1 == 0)) = true then (some true) else (some (a0_0 == 0 && (a0_1 == 1)))))
set_option maxHeartbeats 8000000 in
set_option maxRecDepth 100000 in
theorem ident_Node.calls (a0_0 : Int) (a0_1 : Int) (r : Bool) (w : World) (h : ident_Node.f a0_0 a0_1 = some r) :
    Calls Try.prog 42 #[.agg #[.int .i64 a0_0, .int .i64 a0_1]] w fun e w' => e = .returned (.bool r) ∧ Below w.heap.size w w' := by
  have hu23 := Try.underlying23
  have HB := Aside0.mk (Below.refl w.heap.size w)
  have H : ((ident_Right.f a0_0 a0_1).bind fun t127 => (if t127 = true then (some true) else (if (a0_0 == 0 && (a0_1 == 0)) = true then (some true) else (some (a0_0 == 0 && (a0_1 == 1)))))) = some r := h
  clear h
  replace H := Option.bind_eq_some_iff.mp H
  obtain ⟨t127, A20, H⟩ := H
  replace H : (if t127 = true then (some true) else (if (a0_0 == 0 && (a0_1 == 0)) = true then (some true) else (some (a0_0 == 0 && (a0_1 == 1))))) = some r := H
  have A2 := Aside0.mk A20
  clear A20
  by_cases c3 : t127 = true
  · subst c3
    have H1 : (some true) = some r := by rw [if_pos rfl] at H; exact H
    clear H
    have H := H1
    clear H1
    obtain rfl := Option.some.inj H
    go_enter Try.func42, Try.ntmps42
    go_wp2_with (first | ((with_reducible refine gate_dst (N := 1) rfl ?_); refine box_event ?hg (N := 1) ?hd (cs := #[.int .i64 a0_0, .int .i64 a0_1]) (t := 23) ?hr ?_; (case hd => rfl); (case hg => rfl); (case hr => first | (go_simp; done) | (go_simp; rfl)); intro gb126 hg w4 hbox hb; have n0_ := Aside0.mk (below_step (by repeat (first | (with_reducible first | exact HB.out | apply below_alloc | apply pw_below_drewN | apply below_drew1) | exact HB.out)) hb); have n1_ := Aside0.mk (hbox); have n2_ := Aside0.mk ((by rw [hg]; exact (below_size (by repeat (first | (with_reducible first | exact HB.out | apply below_alloc | apply pw_below_drewN | apply below_drew1) | exact HB.out))) : w.heap.size ≤ gb126)); have n3_ := Aside0.mk ((by rw [hg]; exact (below_size (by repeat (first | (with_reducible first | exact HB.out | apply below_alloc | apply pw_below_drewN | apply below_drew1) | exact HB.out))) : w.heap.size ≤ gb126)); clear HB; have HB := n0_; have BK126 := n1_; have GW126 := n2_; have GE126 := n3_; clear n0_ n1_ n2_ n3_; clear hb hbox hg; have hcz5_0 : w4.cell? ⟨gb126, 0, none⟩ = some (.int .i64 a0_0) := (blk_cell BK126.out 0).trans rfl; have hcz5_1 : w4.cell? ⟨gb126, 1, none⟩ = some (.int .i64 a0_1) := (blk_cell BK126.out 1).trans rfl; have hfz5_0 := blk_frozen BK126.out 0; have hfz5_1 := blk_frozen BK126.out 1) | ((with_reducible refine gate_callee (f := 43) rfl ?_); refine goesL_ (some 4) rfl rfl Try.func43 (by kernel_rfl) rfl #[.agg #[.int .i64 a0_0, .int .i64 a0_1]] rfl (by (try simp only [List.map_toArray, List.map_cons, List.map_nil]); first | done | rfl | (simp only [List.length_drop, List.length_take]; rfl)) ?_; (with_reducible refine (ident_Right.calls a0_0 a0_1 true _ A2.out).mono ?_); rintro e w6 ⟨rfl, hb⟩; refine ⟨_, rfl, ?_⟩; have n0_ := Aside0.mk (blk_below (g := gb126) (o := .cells #[.int .i64 a0_0, .int .i64 a0_1] 23 (0, 0)) (by (with_reducible repeat (first | refine blk_drewN ?_ _ | refine blk_drew ?_ | refine blk_alloc ?_ _)); exact BK126.out) hb); have n1_ := Aside0.mk (below_step (by repeat (first | (with_reducible first | exact HB.out | apply below_alloc | apply pw_below_drewN | apply below_drew1 | refine below_set ?_ GE126.out) | exact HB.out)) hb); clear BK126; clear HB; have BK126 := n0_; have HB := n1_; clear n0_ n1_; (try clear hb); (try clear hb2); (try clear hk); (try clear hi)))
    go_ret
    exact ⟨by first | rfl | (simp [errW_none, errW_some] <;> rfl) | (simp [*, errW_none, errW_some] <;> rfl), by repeat (first | (with_reducible first | exact HB.out | apply below_alloc | apply pw_below_drewN | apply below_drew1 | refine below_set ?_ GE126.out) | exact HB.out)⟩
  · replace c3 := Bool.eq_false_iff.mpr c3
    subst c3
    have H1 : (if (a0_0 == 0 && (a0_1 == 0)) = true then (some true) else (some (a0_0 == 0 && (a0_1 == 1)))) = some r := by rw [if_neg (show ¬ (false = true) by decide)] at H; exact H
    clear H
    have H := H1
    clear H1
    by_cases c7 : (a0_0 == 0 && (a0_1 == 0)) = true
    · rw [if_pos c7] at H
      have c7b0 : (a0_0 == 0 && (a0_1 == 0)) = true := c7
      (try (have c7b1 : decide (a0_0 = 0 && (a0_1 == 0)) = true := by simpa using c7))
      (try (have c7b2 : (a0_0 == 0 && (a0_1 == 0)) = true := by simpa using c7))
      clear c7
      obtain rfl := Option.some.inj H
      go_enter Try.func42, Try.ntmps42
      go_wp2_with (first | ((with_reducible refine gate_dst (N := 1) rfl ?_); refine box_event ?hg (N := 1) ?hd (cs := #[.int .i64 a0_0, .int .i64 a0_1]) (t := 23) ?hr ?_; (case hd => rfl); (case hg => rfl); (case hr => first | (go_simp; done) | (go_simp; rfl)); intro gb126 hg w8 hbox hb; have n0_ := Aside0.mk (below_step (by repeat (first | (with_reducible first | exact HB.out | apply below_alloc | apply pw_below_drewN | apply below_drew1) | exact HB.out)) hb); have n1_ := Aside0.mk (hbox); have n2_ := Aside0.mk ((by rw [hg]; exact (below_size (by repeat (first | (with_reducible first | exact HB.out | apply below_alloc | apply pw_below_drewN | apply below_drew1) | exact HB.out))) : w.heap.size ≤ gb126)); have n3_ := Aside0.mk ((by rw [hg]; exact (below_size (by repeat (first | (with_reducible first | exact HB.out | apply below_alloc | apply pw_below_drewN | apply below_drew1) | exact HB.out))) : w.heap.size ≤ gb126)); clear HB; have HB := n0_; have BK126 := n1_; have GW126 := n2_; have GE126 := n3_; clear n0_ n1_ n2_ n3_; clear hb hbox hg; have hcz9_0 : w8.cell? ⟨gb126, 0, none⟩ = some (.int .i64 a0_0) := (blk_cell BK126.out 0).trans rfl; have hcz9_1 : w8.cell? ⟨gb126, 1, none⟩ = some (.int .i64 a0_1) := (blk_cell BK126.out 1).trans rfl; have hfz9_0 := blk_frozen BK126.out 0; have hfz9_1 := blk_frozen BK126.out 1) | ((with_reducible refine gate_callee (f := 43) rfl ?_); refine goesL_ (some 4) rfl rfl Try.func43 (by kernel_rfl) rfl #[.agg #[.int .i64 a0_0, .int .i64 a0_1]] rfl (by (try simp only [List.map_toArray, List.map_cons, List.map_nil]); first | done | rfl | (simp only [List.length_drop, List.length_take]; rfl)) ?_; (with_reducible refine (ident_Right.calls a0_0 a0_1 false _ A2.out).mono ?_); rintro e w10 ⟨rfl, hb⟩; refine ⟨_, rfl, ?_⟩; have n0_ := Aside0.mk (blk_below (g := gb126) (o := .cells #[.int .i64 a0_0, .int .i64 a0_1] 23 (0, 0)) (by (with_reducible repeat (first | refine blk_drewN ?_ _ | refine blk_drew ?_ | refine blk_alloc ?_ _)); exact BK126.out) hb); have n1_ := Aside0.mk (below_step (by repeat (first | (with_reducible first | exact HB.out | apply below_alloc | apply pw_below_drewN | apply below_drew1 | refine below_set ?_ GE126.out) | exact HB.out)) hb); clear BK126; clear HB; have BK126 := n0_; have HB := n1_; clear n0_ n1_; (try clear hb); (try clear hb2); (try clear hk); (try clear hi); have hcz11_0 : w10.cell? ⟨gb126, 0, none⟩ = some (.int .i64 a0_0) := (blk_cell BK126.out 0).trans rfl; have hcz11_1 : w10.cell? ⟨gb126, 1, none⟩ = some (.int .i64 a0_1) := (blk_cell BK126.out 1).trans rfl; have hfz11_0 := blk_frozen BK126.out 0; have hfz11_1 := blk_frozen BK126.out 1))
      go_ret
      exact ⟨by first | rfl | (simp [errW_none, errW_some] <;> rfl) | (simp [*, errW_none, errW_some] <;> rfl), by repeat (first | (with_reducible first | exact HB.out | apply below_alloc | apply pw_below_drewN | apply below_drew1 | refine below_set ?_ GE126.out) | exact HB.out)⟩
    · rw [if_neg c7] at H
      have c7b0 : (a0_0 == 0 && (a0_1 == 0)) = false := by simpa using c7
      (try (have c7b1 : decide (a0_0 = 0 && (a0_1 == 0)) = false := by simpa using c7))
      (try (have c7b2 : (a0_0 == 0 && (a0_1 == 0)) = false := by simpa using c7))
      (try (have c7b3 : ¬ (a0_0 = 0 && (a0_1 == 0)) := by simpa using c7))
      clear c7
      obtain rfl := Option.some.inj H
      go_enter Try.func42, Try.ntmps42
      go_wp2_with (first | ((with_reducible refine gate_dst (N := 1) rfl ?_); refine box_event ?hg (N := 1) ?hd (cs := #[.int .i64 a0_0, .int .i64 a0_1]) (t := 23) ?hr ?_; (case hd => rfl); (case hg => rfl); (case hr => first | (go_simp; done) | (go_simp; rfl)); intro gb126 hg w12 hbox hb; have n0_ := Aside0.mk (below_step (by repeat (first | (with_reducible first | exact HB.out | apply below_alloc | apply pw_below_drewN | apply below_drew1) | exact HB.out)) hb); have n1_ := Aside0.mk (hbox); have n2_ := Aside0.mk ((by rw [hg]; exact (below_size (by repeat (first | (with_reducible first | exact HB.out | apply below_alloc | apply pw_below_drewN | apply below_drew1) | exact HB.out))) : w.heap.size ≤ gb126)); have n3_ := Aside0.mk ((by rw [hg]; exact (below_size (by repeat (first | (with_reducible first | exact HB.out | apply below_alloc | apply pw_below_drewN | apply below_drew1) | exact HB.out))) : w.heap.size ≤ gb126)); clear HB; have HB := n0_; have BK126 := n1_; have GW126 := n2_; have GE126 := n3_; clear n0_ n1_ n2_ n3_; clear hb hbox hg; have hcz13_0 : w12.cell? ⟨gb126, 0, none⟩ = some (.int .i64 a0_0) := (blk_cell BK126.out 0).trans rfl; have hcz13_1 : w12.cell? ⟨gb126, 1, none⟩ = some (.int .i64 a0_1) := (blk_cell BK126.out 1).trans rfl; have hfz13_0 := blk_frozen BK126.out 0; have hfz13_1 := blk_frozen BK126.out 1) | ((with_reducible refine gate_callee (f := 43) rfl ?_); refine goesL_ (some 4) rfl rfl Try.func43 (by kernel_rfl) rfl #[.agg #[.int .i64 a0_0, .int .i64 a0_1]] rfl (by (try simp only [List.map_toArray, List.map_cons, List.map_nil]); first | done | rfl | (simp only [List.length_drop, List.length_take]; rfl)) ?_; (with_reducible refine (ident_Right.calls a0_0 a0_1 false _ A2.out).mono ?_); rintro e w14 ⟨rfl, hb⟩; refine ⟨_, rfl, ?_⟩; have n0_ := Aside0.mk (blk_below (g := gb126) (o := .cells #[.int .i64 a0_0, .int .i64 a0_1] 23 (0, 0)) (by (with_reducible repeat (first | refine blk_drewN ?_ _ | refine blk_drew ?_ | refine blk_alloc ?_ _)); exact BK126.out) hb); have n1_ := Aside0.mk (below_step (by repeat (first | (with_reducible first | exact HB.out | apply below_alloc | apply pw_below_drewN | apply below_drew1 | refine below_set ?_ GE126.out) | exact HB.out)) hb); clear BK126; clear HB; have BK126 := n0_; have HB := n1_; clear n0_ n1_; (try clear hb); (try clear hb2); (try clear hk); (try clear hi); have hcz15_0 : w14.cell? ⟨gb126, 0, none⟩ = some (.int .i64 a0_0) := (blk_cell BK126.out 0).trans rfl; have hcz15_1 : w14.cell? ⟨gb126, 1, none⟩ = some (.int .i64 a0_1) := (blk_cell BK126.out 1).trans rfl; have hfz15_0 := blk_frozen BK126.out 0; have hfz15_1 := blk_frozen BK126.out 1))
      go_ret
      exact ⟨by first | rfl | (simp [errW_none, errW_some] <;> rfl) | (simp [*, errW_none, errW_some] <;> rfl), by repeat (first | (with_reducible first | exact HB.out | apply below_alloc | apply pw_below_drewN | apply below_drew1 | refine below_set ?_ GE126.out) | exact HB.out)⟩
end Go.Proofs.Ytnkbgimihikhoaa.PVt
namespace Go.Proofs.Ytnkbgimihikhoaa.PVt
open Go.RowKit Go.Proofs.YtnkbgimihikhoaaW.PrintWords Go.Proofs.YtnkbgimihikhoaaW.PrintLast Go.Proofs.YtnkbgimihikhoaaW.PrintMore
attribute [local go_sem] max2_int min2_int max_two min_two max_three min_three max_four min_four   -- for this text's walks alone
set_option linter.unusedVariables false
set_option linter.unusedSimpArgs false
mutual
def change_Name.j0 : Nat → ByteArray → Bool → Option (Bool)
  | 0, _, _ => none
  | k + 1, x0, x22 => if x22 = true then (some false) else (change_Name.l0 k x0 (x0.size : Int) 0)
def change_Name.l0 : Nat → ByteArray → Int → Int → Option (Bool)
  | 0, _, _, _ => none
  | k + 1, x0, x24, x25 => if x25 < x24 then (if 0 ≤ x25 then (if x25 < (x0.size : Int) then (if (bt x0 x25) < 97 then (if (bt x0 x25) < 48 then (if (bt x0 x25) = 45 then (change_Name.l0 k x0 x24 (wrap64 (x25 + 1))) else (some false)) else (if (bt x0 x25) > 57 then (if (bt x0 x25) = 45 then (change_Name.l0 k x0 x24 (wrap64 (x25 + 1))) else (some false)) else (change_Name.l0 k x0 x24 (wrap64 (x25 + 1))))) else (if (bt x0 x25) > 122 then (if (bt x0 x25) < 48 then (if (bt x0 x25) = 45 then (change_Name.l0 k x0 x24 (wrap64 (x25 + 1))) else (some false)) else (if (bt x0 x25) > 57 then (if (bt x0 x25) = 45 then (change_Name.l0 k x0 x24 (wrap64 (x25 + 1))) else (some false)) else (change_Name.l0 k x0 x24 (wrap64 (x25 + 1))))) else (change_Name.l0 k x0 x24 (wrap64 (x25 + 1))))) else (none)) else (none)) else (some true)
end
def change_Name.f (k : Nat) (a0 : ByteArray) : Option (Bool) := if (a0.size : Int) = 0 then (change_Name.j0 k a0 true) else (if (a0.size : Int) > 32 then (change_Name.j0 k a0 true) else (if 0 < (a0.size : Int) then (if (bt a0 0) < 97 then (change_Name.j0 k a0 true) else (change_Name.j0 k a0 (decide ((bt a0 0) > 122)))) else (none)))
theorem change_Name.mono_l : ∀ k, (∀ y0 y1, LeO (change_Name.j0 k y0 y1) (change_Name.j0 (k + 1) y0 y1)) ∧ (∀ y0 y1 y2, LeO (change_Name.l0 k y0 y1 y2) (change_Name.l0 (k + 1) y0 y1 y2))
  | 0 => ⟨fun _ _ r h => by simp [change_Name.j0] at h, fun _ _ _ r h => by simp [change_Name.l0] at h⟩
  | k + 1 => by
    obtain ⟨ih0, ih1⟩ := change_Name.mono_l k
    refine ⟨?_, ?_⟩
    · intro y0 y1
      unfold change_Name.j0
      repeat' first
      | (with_reducible exact ih0 _ _)
      | (with_reducible exact ih1 _ _ _)
      | (with_reducible exact LeO.refl _)
      | (with_reducible exact LeO.none _)
      | (with_reducible refine LeO.ite ?_ ?_)
      | (with_reducible refine LeO.bind ?_ (fun _ => ?_))
      | exact ih0 _ _
      | exact ih1 _ _ _
      | exact LeO.none _
      | refine LeO.ite ?_ ?_
      | refine LeO.bind ?_ (fun _ => ?_)
    · intro y0 y1 y2
      unfold change_Name.l0
      repeat' first
      | (with_reducible exact ih0 _ _)
      | (with_reducible exact ih1 _ _ _)
      | (with_reducible exact LeO.refl _)
      | (with_reducible exact LeO.none _)
      | (with_reducible refine LeO.ite ?_ ?_)
      | (with_reducible refine LeO.bind ?_ (fun _ => ?_))
      | exact ih0 _ _
      | exact ih1 _ _ _
      | exact LeO.none _
      | refine LeO.ite ?_ ?_
      | refine LeO.bind ?_ (fun _ => ?_)
theorem change_Name.mono : ∀ a0 k, LeO (change_Name.f k a0) (change_Name.f (k + 1) a0) := by
  intro a0 k
  obtain ⟨ih0, ih1⟩ := change_Name.mono_l k
  unfold change_Name.f
  repeat' first
      | (with_reducible exact ih0 _ _)
      | (with_reducible exact ih1 _ _ _)
      | (with_reducible exact LeO.refl _)
      | (with_reducible exact LeO.none _)
      | (with_reducible refine LeO.ite ?_ ?_)
      | (with_reducible refine LeO.bind ?_ (fun _ => ?_))
      | exact ih0 _ _
      | exact ih1 _ _ _
      | exact LeO.none _
      | refine LeO.ite ?_ ?_
      | refine LeO.bind ?_ (fun _ => ?_)
set_option maxHeartbeats 8000000 in
set_option maxRecDepth 100000 in
theorem change_Name.calls (k : Nat) (a0 : ByteArray) (r : Bool) (w : World) (h : change_Name.f k a0 = some r) :
    Calls Try.prog 67 #[.string a0] w fun e w' => e = .returned (.bool r) ∧ Drawn0 w w' := by
  have H : (if (a0.size : Int) = 0 then (change_Name.j0 k a0 true) else (if (a0.size : Int) > 32 then (change_Name.j0 k a0 true) else (if 0 < (a0.size : Int) then (if (bt a0 0) < 97 then (change_Name.j0 k a0 true) else (change_Name.j0 k a0 (decide ((bt a0 0) > 122)))) else (none)))) = some r := h
  clear h
  have HC2 := Aside0.mk H
  clear H
  go_enter Try.func67, Try.ntmps67
  go_upto_region 1 with (fail)
  go_cut [22] (fun v22 wc => ∃ (kq : Nat) (x22_1 : Bool), v22 = .bool x22_1 ∧ Aside0 (change_Name.j0 kq a0 x22_1 = some r) ∧ Aside0 (kq ≤ k) ∧ Drawn0 w wc)
  case first =>
    have H := HC2.out
    clear HC2
    by_cases c3 : (a0.size : Int) = 0
    · rw [if_pos c3] at H
      have c3b0 : ((a0.size : Int) == 0) = true := beq_iff_eq.mpr c3
      have c3b1 : ((a0.size : Int) != 0) = false := bne_eq_false_iff_eq.mpr c3
      clear c3
      (first | rw [c3b0] | (simp only [i64_w, i32_w]; rw [c3b0]) | skip)
      have H' := Aside0.mk H
      clear H
      go_wp2
      go_meet
      case rel => exact ⟨_, (true), (by first | rfl | (simp; done) | (simp [*]; done)), H', ⟨by first | omega | exact Nat.le_refl _⟩, by repeat (first | exact Drawn0.refl _ | apply Drawn0.step)⟩
    · rw [if_neg c3] at H
      have c3b0 : ((a0.size : Int) == 0) = false := beq_eq_false_iff_ne.mpr c3
      have c3b1 : ((a0.size : Int) != 0) = true := bne_iff_ne.mpr c3
      (first | rw [c3b0] | (simp only [i64_w, i32_w]; rw [c3b0]) | skip)
      by_cases c4 : (a0.size : Int) > 32
      · rw [if_pos c4] at H
        have c4b0 : decide (32 < (a0.size : Int)) = true := decide_eq_true c4
        have c4b1 : decide (32 < a0.size) = true := decide_eq_true (by omega)
        clear c4
        have H' := Aside0.mk H
        clear H
        go_wp2
        go_meet
        case rel => exact ⟨_, (true), (by first | rfl | (simp; done) | (simp [*]; done)), H', ⟨by first | omega | exact Nat.le_refl _⟩, by repeat (first | exact Drawn0.refl _ | apply Drawn0.step)⟩
      · rw [if_neg c4] at H
        have c4b0 : decide (32 < (a0.size : Int)) = false := decide_eq_false c4
        have c4b1 : decide (32 < a0.size) = false := decide_eq_false (by omega)
        clear c4
        by_cases c5 : 0 < (a0.size : Int)
        · rw [if_pos c5] at H
          have c5b0 : decide (0 < (a0.size : Int)) = true := decide_eq_true c5
          have c5b1 : decide (0 < a0.size) = true := decide_eq_true (by omega)
          clear c5
          by_cases c7 : (bt a0 0) < 97
          · rw [if_pos c7] at H
            have c7b0 : decide ((bt a0 0) < 97) = true := decide_eq_true c7
            clear c7
            have H' := Aside0.mk H
            clear H
            have p6 : 0 ≤ (0 : Int) := (by omega)
            have q6 : 0 < a0.size := (by have : (0 : Int) < (a0.size : Int) := of_decide_eq_true (by first | (with_reducible assumption) | assumption); omega)
            have hx6 : ∀ h : 0 < a0.size, ((a0[0]'h).toNat : Int) = bt a0 0 := bt_at a0 0
            clear p6
            have qi6 : (0 < (a0.size : Int)) = True := eq_true (of_decide_eq_true (by first | (with_reducible assumption) | assumption))
            replace q6 := eq_true q6
            go_wp2
            go_meet
            case rel => exact ⟨_, (true), (by first | rfl | (simp; done) | (simp [*]; done)), H', ⟨by first | omega | exact Nat.le_refl _⟩, by repeat (first | exact Drawn0.refl _ | apply Drawn0.step)⟩
          · rw [if_neg c7] at H
            have c7b0 : decide ((bt a0 0) < 97) = false := decide_eq_false c7
            clear c7
            have H' := Aside0.mk H
            clear H
            have p6 : 0 ≤ (0 : Int) := (by omega)
            have q6 : 0 < a0.size := (by have : (0 : Int) < (a0.size : Int) := of_decide_eq_true (by first | (with_reducible assumption) | assumption); omega)
            have hx6 : ∀ h : 0 < a0.size, ((a0[0]'h).toNat : Int) = bt a0 0 := bt_at a0 0
            clear p6
            have qi6 : (0 < (a0.size : Int)) = True := eq_true (of_decide_eq_true (by first | (with_reducible assumption) | assumption))
            replace q6 := eq_true q6
            have p8 : 0 ≤ (0 : Int) := (by omega)
            have q8 : 0 < a0.size := (by have : (0 : Int) < (a0.size : Int) := of_decide_eq_true (by first | (with_reducible assumption) | assumption); omega)
            have hx8 : ∀ h : 0 < a0.size, ((a0[0]'h).toNat : Int) = bt a0 0 := bt_at a0 0
            clear p8
            have qi8 : (0 < (a0.size : Int)) = True := eq_true (of_decide_eq_true (by first | (with_reducible assumption) | assumption))
            replace q8 := eq_true q8
            go_wp2
            go_meet
            case rel => exact ⟨_, (decide ((bt a0 0) > 122)), (by first | rfl | (simp; done) | (simp [*]; done)), H', ⟨by first | omega | exact Nat.le_refl _⟩, by repeat (first | exact Drawn0.refl _ | apply Drawn0.step)⟩
        · rw [if_neg c5] at H
          exact absurd H (by simp)
  case rest =>
    clear HC2
    try clear p2
    try clear c3
    try clear c3b0
    try clear c3b1
    try clear c4
    try clear c4b0
    try clear c4b1
    try clear c5
    try clear c5b0
    try clear c5b1
    try clear c6
    try clear p6
    try clear q6
    try clear hx6
    try clear qi6
    try clear c7
    try clear c7b0
    try clear p8
    try clear q8
    try clear hx8
    try clear qi8
    try clear p6
    try clear p8
    try clear q6
    try clear q8
    obtain ⟨kq, x22_1, rfl, HA, HJ1, ⟨mc1, rfl⟩⟩ := hcut
    cases kq with
    | zero => exact absurd HA.out (by simp [change_Name.j0])
    | succ kj1 =>
      have H := HA.out
      clear HA
      simp only [change_Name.j0] at H
      by_cases c9 : x22_1 = true
      · subst c9
        have H1 : (some false) = some r := by rw [if_pos rfl] at H; exact H
        clear H
        have H := H1
        clear H1
        obtain rfl := Option.some.inj H
        go_wp2
        go_ret
        exact ⟨by first | rfl | (simp; done) | (simp [*]; done), by repeat (first | exact Drawn0.refl _ | apply Drawn0.step)⟩
      · replace c9 := Bool.eq_false_iff.mpr c9
        subst c9
        have H1 : (change_Name.l0 kj1 a0 (a0.size : Int) 0) = some r := by rw [if_neg (show ¬ (false = true) by decide)] at H; exact H
        clear H
        have H := H1
        clear H1
        have H' := Aside0.mk H
        clear H
        go_wp2
        go_loopg [25] kj1 (fun kq v25 w' => ∃ (x25_2 : Int), v25 = .int .i64 x25_2 ∧ Aside0 (change_Name.l0 kq a0 (a0.size : Int) x25_2 = some r) ∧ Aside0 (kq ≤ kj1) ∧ Drawn0 w w')
        case atStart => exact ⟨(0), (by first | rfl | (simp; done) | (simp [*]; done)), H', ⟨Nat.le_refl _⟩, by repeat (first | exact Drawn0.refl _ | apply Drawn0.step)⟩
        case round =>
          clear H'
          try clear c1
          try clear p2
          try clear c3
          try clear c3b0
          try clear c3b1
          try clear c4
          try clear c4b0
          try clear c4b1
          try clear c5
          try clear c5b0
          try clear c5b1
          try clear c6
          try clear p6
          try clear q6
          try clear hx6
          try clear qi6
          try clear c7
          try clear c7b0
          try clear p8
          try clear q8
          try clear hx8
          try clear qi8
          try clear c9
          try clear p2
          try clear p6
          try clear p8
          try clear q6
          try clear q8
          obtain ⟨x25_2, rfl, HA, HK2, ⟨m2, rfl⟩⟩ := hrel
          cases gk with
          | zero => exact absurd HA.out (by simp [change_Name.l0])
          | succ k2 =>
            have H := HA.out
            clear HA
            simp only [change_Name.l0] at H
            by_cases c10 : x25_2 < (a0.size : Int)
            · rw [if_pos c10] at H
              have c10b0 : decide (x25_2 < (a0.size : Int)) = true := decide_eq_true c10
              clear c10
              by_cases c11 : 0 ≤ x25_2
              · rw [if_pos c11] at H
                have c11b0 : decide (0 ≤ x25_2) = true := decide_eq_true c11
                clear c11
                by_cases c12 : x25_2 < (a0.size : Int)
                · rw [if_pos c12] at H
                  have c12b0 : decide (x25_2 < (a0.size : Int)) = true := decide_eq_true c12
                  clear c12
                  by_cases c14 : (bt a0 x25_2) < 97
                  · rw [if_pos c14] at H
                    have c14b0 : decide ((bt a0 x25_2) < 97) = true := decide_eq_true c14
                    clear c14
                    by_cases c15 : (bt a0 x25_2) < 48
                    · rw [if_pos c15] at H
                      have c15b0 : decide ((bt a0 x25_2) < 48) = true := decide_eq_true c15
                      clear c15
                      by_cases c16 : (bt a0 x25_2) = 45
                      · rw [if_pos c16] at H
                        have c16b0 : ((bt a0 x25_2) == 45) = true := beq_iff_eq.mpr c16
                        have c16b1 : ((bt a0 x25_2) != 45) = false := bne_eq_false_iff_eq.mpr c16
                        clear c16
                        have H' := Aside0.mk H
                        clear H
                        have p13 : 0 ≤ (x25_2 : Int) := of_decide_eq_true (by first | (with_reducible assumption) | assumption)
                        have q13 : x25_2 < (a0.size : Int) := of_decide_eq_true (by first | (with_reducible assumption) | assumption)
                        have hx13 := bt_at a0 x25_2
                        replace p13 := eq_true p13
                        replace q13 := eq_true q13
                        go_wp2
                        go_roundg k2
                        case measure => have := HJ1.out; have := HK2.out; omega
                        case rel => exact ⟨(wrap64 (x25_2 + 1)), (by first | rfl | (simp; done) | (simp [*]; done)), H', ⟨by have := HJ1.out; have := HK2.out; omega⟩, by repeat (first | exact Drawn0.refl _ | apply Drawn0.step)⟩
                      · rw [if_neg c16] at H
                        have c16b0 : ((bt a0 x25_2) == 45) = false := beq_eq_false_iff_ne.mpr c16
                        have c16b1 : ((bt a0 x25_2) != 45) = true := bne_iff_ne.mpr c16
                        obtain rfl := Option.some.inj H
                        have p13 : 0 ≤ (x25_2 : Int) := of_decide_eq_true (by first | (with_reducible assumption) | assumption)
                        have q13 : x25_2 < (a0.size : Int) := of_decide_eq_true (by first | (with_reducible assumption) | assumption)
                        have hx13 := bt_at a0 x25_2
                        replace p13 := eq_true p13
                        replace q13 := eq_true q13
                        go_wp2
                        go_ret
                        exact ⟨by first | rfl | (simp; done) | (simp [*]; done), by repeat (first | exact Drawn0.refl _ | apply Drawn0.step)⟩
                    · rw [if_neg c15] at H
                      have c15b0 : decide ((bt a0 x25_2) < 48) = false := decide_eq_false c15
                      clear c15
                      by_cases c17 : (bt a0 x25_2) > 57
                      · rw [if_pos c17] at H
                        have c17b0 : decide (57 < (bt a0 x25_2)) = true := decide_eq_true c17
                        clear c17
                        by_cases c18 : (bt a0 x25_2) = 45
                        · rw [if_pos c18] at H
                          have c18b0 : ((bt a0 x25_2) == 45) = true := beq_iff_eq.mpr c18
                          have c18b1 : ((bt a0 x25_2) != 45) = false := bne_eq_false_iff_eq.mpr c18
                          clear c18
                          have H' := Aside0.mk H
                          clear H
                          have p13 : 0 ≤ (x25_2 : Int) := of_decide_eq_true (by first | (with_reducible assumption) | assumption)
                          have q13 : x25_2 < (a0.size : Int) := of_decide_eq_true (by first | (with_reducible assumption) | assumption)
                          have hx13 := bt_at a0 x25_2
                          replace p13 := eq_true p13
                          replace q13 := eq_true q13
                          go_wp2
                          go_roundg k2
                          case measure => have := HJ1.out; have := HK2.out; omega
                          case rel => exact ⟨(wrap64 (x25_2 + 1)), (by first | rfl | (simp; done) | (simp [*]; done)), H', ⟨by have := HJ1.out; have := HK2.out; omega⟩, by repeat (first | exact Drawn0.refl _ | apply Drawn0.step)⟩
                        · rw [if_neg c18] at H
                          have c18b0 : ((bt a0 x25_2) == 45) = false := beq_eq_false_iff_ne.mpr c18
                          have c18b1 : ((bt a0 x25_2) != 45) = true := bne_iff_ne.mpr c18
                          obtain rfl := Option.some.inj H
                          have p13 : 0 ≤ (x25_2 : Int) := of_decide_eq_true (by first | (with_reducible assumption) | assumption)
                          have q13 : x25_2 < (a0.size : Int) := of_decide_eq_true (by first | (with_reducible assumption) | assumption)
                          have hx13 := bt_at a0 x25_2
                          replace p13 := eq_true p13
                          replace q13 := eq_true q13
                          go_wp2
                          go_ret
                          exact ⟨by first | rfl | (simp; done) | (simp [*]; done), by repeat (first | exact Drawn0.refl _ | apply Drawn0.step)⟩
                      · rw [if_neg c17] at H
                        have c17b0 : decide (57 < (bt a0 x25_2)) = false := decide_eq_false c17
                        clear c17
                        have H' := Aside0.mk H
                        clear H
                        have p13 : 0 ≤ (x25_2 : Int) := of_decide_eq_true (by first | (with_reducible assumption) | assumption)
                        have q13 : x25_2 < (a0.size : Int) := of_decide_eq_true (by first | (with_reducible assumption) | assumption)
                        have hx13 := bt_at a0 x25_2
                        replace p13 := eq_true p13
                        replace q13 := eq_true q13
                        go_wp2
                        go_roundg k2
                        case measure => have := HJ1.out; have := HK2.out; omega
                        case rel => exact ⟨(wrap64 (x25_2 + 1)), (by first | rfl | (simp; done) | (simp [*]; done)), H', ⟨by have := HJ1.out; have := HK2.out; omega⟩, by repeat (first | exact Drawn0.refl _ | apply Drawn0.step)⟩
                  · rw [if_neg c14] at H
                    have c14b0 : decide ((bt a0 x25_2) < 97) = false := decide_eq_false c14
                    clear c14
                    by_cases c19 : (bt a0 x25_2) > 122
                    · rw [if_pos c19] at H
                      have c19b0 : decide (122 < (bt a0 x25_2)) = true := decide_eq_true c19
                      clear c19
                      by_cases c20 : (bt a0 x25_2) < 48
                      · rw [if_pos c20] at H
                        have c20b0 : decide ((bt a0 x25_2) < 48) = true := decide_eq_true c20
                        clear c20
                        by_cases c21 : (bt a0 x25_2) = 45
                        · rw [if_pos c21] at H
                          have c21b0 : ((bt a0 x25_2) == 45) = true := beq_iff_eq.mpr c21
                          have c21b1 : ((bt a0 x25_2) != 45) = false := bne_eq_false_iff_eq.mpr c21
                          clear c21
                          have H' := Aside0.mk H
                          clear H
                          have p13 : 0 ≤ (x25_2 : Int) := of_decide_eq_true (by first | (with_reducible assumption) | assumption)
                          have q13 : x25_2 < (a0.size : Int) := of_decide_eq_true (by first | (with_reducible assumption) | assumption)
                          have hx13 := bt_at a0 x25_2
                          replace p13 := eq_true p13
                          replace q13 := eq_true q13
                          go_wp2
                          go_roundg k2
                          case measure => have := HJ1.out; have := HK2.out; omega
                          case rel => exact ⟨(wrap64 (x25_2 + 1)), (by first | rfl | (simp; done) | (simp [*]; done)), H', ⟨by have := HJ1.out; have := HK2.out; omega⟩, by repeat (first | exact Drawn0.refl _ | apply Drawn0.step)⟩
                        · rw [if_neg c21] at H
                          have c21b0 : ((bt a0 x25_2) == 45) = false := beq_eq_false_iff_ne.mpr c21
                          have c21b1 : ((bt a0 x25_2) != 45) = true := bne_iff_ne.mpr c21
                          obtain rfl := Option.some.inj H
                          have p13 : 0 ≤ (x25_2 : Int) := of_decide_eq_true (by first | (with_reducible assumption) | assumption)
                          have q13 : x25_2 < (a0.size : Int) := of_decide_eq_true (by first | (with_reducible assumption) | assumption)
                          have hx13 := bt_at a0 x25_2
                          replace p13 := eq_true p13
                          replace q13 := eq_true q13
                          go_wp2
                          go_ret
                          exact ⟨by first | rfl | (simp; done) | (simp [*]; done), by repeat (first | exact Drawn0.refl _ | apply Drawn0.step)⟩
                      · rw [if_neg c20] at H
                        have c20b0 : decide ((bt a0 x25_2) < 48) = false := decide_eq_false c20
                        clear c20
                        by_cases c22 : (bt a0 x25_2) > 57
                        · rw [if_pos c22] at H
                          have c22b0 : decide (57 < (bt a0 x25_2)) = true := decide_eq_true c22
                          clear c22
                          by_cases c23 : (bt a0 x25_2) = 45
                          · rw [if_pos c23] at H
                            have c23b0 : ((bt a0 x25_2) == 45) = true := beq_iff_eq.mpr c23
                            have c23b1 : ((bt a0 x25_2) != 45) = false := bne_eq_false_iff_eq.mpr c23
                            clear c23
                            have H' := Aside0.mk H
                            clear H
                            have p13 : 0 ≤ (x25_2 : Int) := of_decide_eq_true (by first | (with_reducible assumption) | assumption)
                            have q13 : x25_2 < (a0.size : Int) := of_decide_eq_true (by first | (with_reducible assumption) | assumption)
                            have hx13 := bt_at a0 x25_2
                            replace p13 := eq_true p13
                            replace q13 := eq_true q13
                            go_wp2
                            go_roundg k2
                            case measure => have := HJ1.out; have := HK2.out; omega
                            case rel => exact ⟨(wrap64 (x25_2 + 1)), (by first | rfl | (simp; done) | (simp [*]; done)), H', ⟨by have := HJ1.out; have := HK2.out; omega⟩, by repeat (first | exact Drawn0.refl _ | apply Drawn0.step)⟩
                          · rw [if_neg c23] at H
                            have c23b0 : ((bt a0 x25_2) == 45) = false := beq_eq_false_iff_ne.mpr c23
                            have c23b1 : ((bt a0 x25_2) != 45) = true := bne_iff_ne.mpr c23
                            obtain rfl := Option.some.inj H
                            have p13 : 0 ≤ (x25_2 : Int) := of_decide_eq_true (by first | (with_reducible assumption) | assumption)
                            have q13 : x25_2 < (a0.size : Int) := of_decide_eq_true (by first | (with_reducible assumption) | assumption)
                            have hx13 := bt_at a0 x25_2
                            replace p13 := eq_true p13
                            replace q13 := eq_true q13
                            go_wp2
                            go_ret
                            exact ⟨by first | rfl | (simp; done) | (simp [*]; done), by repeat (first | exact Drawn0.refl _ | apply Drawn0.step)⟩
                        · rw [if_neg c22] at H
                          have c22b0 : decide (57 < (bt a0 x25_2)) = false := decide_eq_false c22
                          clear c22
                          have H' := Aside0.mk H
                          clear H
                          have p13 : 0 ≤ (x25_2 : Int) := of_decide_eq_true (by first | (with_reducible assumption) | assumption)
                          have q13 : x25_2 < (a0.size : Int) := of_decide_eq_true (by first | (with_reducible assumption) | assumption)
                          have hx13 := bt_at a0 x25_2
                          replace p13 := eq_true p13
                          replace q13 := eq_true q13
                          go_wp2
                          go_roundg k2
                          case measure => have := HJ1.out; have := HK2.out; omega
                          case rel => exact ⟨(wrap64 (x25_2 + 1)), (by first | rfl | (simp; done) | (simp [*]; done)), H', ⟨by have := HJ1.out; have := HK2.out; omega⟩, by repeat (first | exact Drawn0.refl _ | apply Drawn0.step)⟩
                    · rw [if_neg c19] at H
                      have c19b0 : decide (122 < (bt a0 x25_2)) = false := decide_eq_false c19
                      clear c19
                      have H' := Aside0.mk H
                      clear H
                      have p13 : 0 ≤ (x25_2 : Int) := of_decide_eq_true (by first | (with_reducible assumption) | assumption)
                      have q13 : x25_2 < (a0.size : Int) := of_decide_eq_true (by first | (with_reducible assumption) | assumption)
                      have hx13 := bt_at a0 x25_2
                      replace p13 := eq_true p13
                      replace q13 := eq_true q13
                      go_wp2
                      go_roundg k2
                      case measure => have := HJ1.out; have := HK2.out; omega
                      case rel => exact ⟨(wrap64 (x25_2 + 1)), (by first | rfl | (simp; done) | (simp [*]; done)), H', ⟨by have := HJ1.out; have := HK2.out; omega⟩, by repeat (first | exact Drawn0.refl _ | apply Drawn0.step)⟩
                · rw [if_neg c12] at H
                  exact absurd H (by simp)
              · rw [if_neg c11] at H
                exact absurd H (by simp)
            · rw [if_neg c10] at H
              have c10b0 : decide (x25_2 < (a0.size : Int)) = false := decide_eq_false c10
              clear c10
              obtain rfl := Option.some.inj H
              go_wp2
              go_ret
              exact ⟨by first | rfl | (simp; done) | (simp [*]; done), by repeat (first | exact Drawn0.refl _ | apply Drawn0.step)⟩
end Go.Proofs.Ytnkbgimihikhoaa.PVt
namespace Go.Proofs.Ytnkbgimihikhoaa.PVt
open Go.RowKit Go.Proofs.YtnkbgimihikhoaaW.PrintWords Go.Proofs.YtnkbgimihikhoaaW.PrintLast Go.Proofs.YtnkbgimihikhoaaW.PrintMore
attribute [local go_sem] max2_int min2_int max_two min_two max_three min_three max_four min_four   -- for this text's walks alone
set_option linter.unusedVariables false
set_option linter.unusedSimpArgs false
attribute [local go_sem high] eqA23
def topiaryref01_Has.l0 : Nat → List (S23) → Int → Int → Int → Option (Bool)
  | 0, _, _, _, _ => none
  | k + 1, x0, x5, x136000, x136001 => if x5 < (x0.length : Int) then (if 0 ≤ x5 then (if (((rd_T23 x0 x5).f0) == x136000 && (((rd_T23 x0 x5).f1) == x136001)) = true then (some true) else (topiaryref01_Has.l0 k x0 (wrap64 (x5 + 1)) x136000 x136001)) else (none)) else (some false)
def topiaryref01_Has.f (k : Nat) (l0 : List (S23)) (a1_0 : Int) (a1_1 : Int) : Option (Bool) := topiaryref01_Has.l0 k l0 0 a1_0 a1_1
theorem topiaryref01_Has.mono_l : ∀ k, (∀ y0 y1 y2 y3, LeO (topiaryref01_Has.l0 k y0 y1 y2 y3) (topiaryref01_Has.l0 (k + 1) y0 y1 y2 y3))
  | 0 => fun _ _ _ _ r h => by simp [topiaryref01_Has.l0] at h
  | k + 1 => by
    have ih0 := topiaryref01_Has.mono_l k
    · intro y0 y1 y2 y3
      unfold topiaryref01_Has.l0
      repeat' first
      | (with_reducible exact ih0 _ _ _ _)
      | (with_reducible exact LeO.refl _)
      | (with_reducible exact LeO.none _)
      | (with_reducible refine LeO.ite ?_ ?_)
      | (with_reducible refine LeO.bind ?_ (fun _ => ?_))
      | exact ih0 _ _ _ _
      | exact LeO.none _
      | refine LeO.ite ?_ ?_
      | refine LeO.bind ?_ (fun _ => ?_)
theorem topiaryref01_Has.mono : ∀ a0 a1 a2 k, LeO (topiaryref01_Has.f k a0 a1 a2) (topiaryref01_Has.f (k + 1) a0 a1 a2) := by
  intro a0 a1 a2 k
  have ih0 := topiaryref01_Has.mono_l k
  unfold topiaryref01_Has.f
  repeat' first
      | (with_reducible exact ih0 _ _ _ _)
      | (with_reducible exact LeO.refl _)
      | (with_reducible exact LeO.none _)
      | (with_reducible refine LeO.ite ?_ ?_)
      | (with_reducible refine LeO.bind ?_ (fun _ => ?_))
      | exact ih0 _ _ _ _
      | exact LeO.none _
      | refine LeO.ite ?_ ?_
      | refine LeO.bind ?_ (fun _ => ?_)
end Go.Proofs.Ytnkbgimihikhoaa.PVt
namespace Go.Proofs.Ytnkbgimihikhoaa.PVt
open Go.RowKit Go.Proofs.YtnkbgimihikhoaaW.PrintWords Go.Proofs.YtnkbgimihikhoaaW.PrintLast Go.Proofs.YtnkbgimihikhoaaW.PrintMore
attribute [local go_sem] max2_int min2_int max_two min_two max_three min_three max_four min_four   -- for this text's walks alone
set_option linter.unusedVariables false
set_option linter.unusedSimpArgs false
def topiaryref01_Right.f (a0_0 : Int) (a0_1 : Int) : Option (Bool) := if a0_0 ≥ 1 then (if a0_0 ≤ 1099511627776 then (if a0_1 ≥ 0 then (some (decide (a0_1 < 64))) else (some false)) else (some false)) else (some false)
end Go.Proofs.Ytnkbgimihikhoaa.PVt
namespace Go.Proofs.Ytnkbgimihikhoaa.PVt
open Go.RowKit Go.Proofs.YtnkbgimihikhoaaW.PrintWords Go.Proofs.YtnkbgimihikhoaaW.PrintLast Go.Proofs.YtnkbgimihikhoaaW.PrintMore
attribute [local go_sem] max2_int min2_int max_two min_two max_three min_three max_four min_four   -- for this text's walks alone
set_option linter.unusedVariables false
set_option linter.unusedSimpArgs false
def topiaryref01_Node.f (a0_0 : Int) (a0_1 : Int) : Option (Bool) := (topiaryref01_Right.f a0_0 a0_1).bind fun t144 => (if t144 = true then (some true) else (if a0_0 = 0 then (if a0_1 = 0 then (some true) else (some (a0_1 == 1))) else (some false)))
end Go.Proofs.Ytnkbgimihikhoaa.PVt
namespace Go.Proofs.Ytnkbgimihikhoaa.PVt
open Go.RowKit Go.Proofs.YtnkbgimihikhoaaW.PrintWords Go.Proofs.YtnkbgimihikhoaaW.PrintLast Go.Proofs.YtnkbgimihikhoaaW.PrintMore
attribute [local go_sem] max2_int min2_int max_two min_two max_three min_three max_four min_four   -- for this text's walks alone
set_option linter.unusedVariables false
set_option linter.unusedSimpArgs false
def topiaryref05_Name.l0 : Nat → ByteArray → Int → Option (Bool)
  | 0, _, _ => none
  | k + 1, x0, x3 => if x3 < (x0.size : Int) then (if 0 ≤ x3 then (if (bt x0 x3) ≥ 97 then (if ((bt x0 x3) ≤ 122) then (topiaryref05_Name.l0 k x0 (wrap64 (x3 + 1))) else (if x3 = 0 then (some false) else (if (bt x0 x3) = 45 then (topiaryref05_Name.l0 k x0 (wrap64 (x3 + 1))) else (if (bt x0 x3) < 48 then (some false) else (if (bt x0 x3) > 57 then (some false) else (topiaryref05_Name.l0 k x0 (wrap64 (x3 + 1)))))))) else (if x3 = 0 then (some false) else (if (bt x0 x3) = 45 then (topiaryref05_Name.l0 k x0 (wrap64 (x3 + 1))) else (if (bt x0 x3) < 48 then (some false) else (if (bt x0 x3) > 57 then (some false) else (topiaryref05_Name.l0 k x0 (wrap64 (x3 + 1)))))))) else (none)) else (if (x0.size : Int) ≥ 1 then (some (decide ((x0.size : Int) ≤ 32))) else (some false))
def topiaryref05_Name.f (k : Nat) (a0 : ByteArray) : Option (Bool) := topiaryref05_Name.l0 k a0 0
theorem topiaryref05_Name.mono_l : ∀ k, (∀ y0 y1, LeO (topiaryref05_Name.l0 k y0 y1) (topiaryref05_Name.l0 (k + 1) y0 y1))
  | 0 => fun _ _ r h => by simp [topiaryref05_Name.l0] at h
  | k + 1 => by
    have ih0 := topiaryref05_Name.mono_l k
    · intro y0 y1
      unfold topiaryref05_Name.l0
      repeat' first
      | (with_reducible exact ih0 _ _)
      | (with_reducible exact LeO.refl _)
      | (with_reducible exact LeO.none _)
      | (with_reducible refine LeO.ite ?_ ?_)
      | (with_reducible refine LeO.bind ?_ (fun _ => ?_))
      | exact ih0 _ _
      | exact LeO.none _
      | refine LeO.ite ?_ ?_
      | refine LeO.bind ?_ (fun _ => ?_)
theorem topiaryref05_Name.mono : ∀ a0 k, LeO (topiaryref05_Name.f k a0) (topiaryref05_Name.f (k + 1) a0) := by
  intro a0 k
  have ih0 := topiaryref05_Name.mono_l k
  unfold topiaryref05_Name.f
  repeat' first
      | (with_reducible exact ih0 _ _)
      | (with_reducible exact LeO.refl _)
      | (with_reducible exact LeO.none _)
      | (with_reducible refine LeO.ite ?_ ?_)
      | (with_reducible refine LeO.bind ?_ (fun _ => ?_))
      | exact ih0 _ _
      | exact LeO.none _
      | refine LeO.ite ?_ ?_
      | refine LeO.bind ?_ (fun _ => ?_)
end Go.Proofs.Ytnkbgimihikhoaa.PVt
namespace Go.Proofs.Ytnkbgimihikhoaa.PVt
open Go.RowKit Go.Proofs.YtnkbgimihikhoaaW.PrintWords Go.Proofs.YtnkbgimihikhoaaW.PrintLast Go.Proofs.YtnkbgimihikhoaaW.PrintMore
attribute [local go_sem] max2_int min2_int max_two min_two max_three min_three max_four min_four   -- for this text's walks alone
set_option linter.unusedVariables false
set_option linter.unusedSimpArgs false
attribute [local go_sem high] eqA99
def topiaryref15_SameAttrs.l0 : Nat → List (S99) → List (S99) → Int → Option (Bool)
  | 0, _, _, _ => none
  | k + 1, x0, x1, x5 => if x5 < (x0.length : Int) then (if 0 ≤ x5 then (if x5 < (x1.length : Int) then (if (!((((rd_T99 x0 x5).f0).toList) == (((rd_T99 x1 x5).f0).toList)) || (!((((rd_T99 x0 x5).f1).toList) == (((rd_T99 x1 x5).f1).toList)))) = true then (some false) else (topiaryref15_SameAttrs.l0 k x0 x1 (wrap64 (x5 + 1)))) else (none)) else (none)) else (some true)
def topiaryref15_SameAttrs.f (k : Nat) (l0 : List (S99)) (l1 : List (S99)) : Option (Bool) := if (l0.length : Int) = (l1.length : Int) then (topiaryref15_SameAttrs.l0 k l0 l1 0) else (some false)
theorem topiaryref15_SameAttrs.mono_l : ∀ k, (∀ y0 y1 y2, LeO (topiaryref15_SameAttrs.l0 k y0 y1 y2) (topiaryref15_SameAttrs.l0 (k + 1) y0 y1 y2))
  | 0 => fun _ _ _ r h => by simp [topiaryref15_SameAttrs.l0] at h
  | k + 1 => by
    have ih0 := topiaryref15_SameAttrs.mono_l k
    · intro y0 y1 y2
      unfold topiaryref15_SameAttrs.l0
      repeat' first
      | (with_reducible exact ih0 _ _ _)
      | (with_reducible exact LeO.refl _)
      | (with_reducible exact LeO.none _)
      | (with_reducible refine LeO.ite ?_ ?_)
      | (with_reducible refine LeO.bind ?_ (fun _ => ?_))
      | exact ih0 _ _ _
      | exact LeO.none _
      | refine LeO.ite ?_ ?_
      | refine LeO.bind ?_ (fun _ => ?_)
theorem topiaryref15_SameAttrs.mono : ∀ a0 a1 k, LeO (topiaryref15_SameAttrs.f k a0 a1) (topiaryref15_SameAttrs.f (k + 1) a0 a1) := by
  intro a0 a1 k
  have ih0 := topiaryref15_SameAttrs.mono_l k
  unfold topiaryref15_SameAttrs.f
  repeat' first
      | (with_reducible exact ih0 _ _ _)
      | (with_reducible exact LeO.refl _)
      | (with_reducible exact LeO.none _)
      | (with_reducible refine LeO.ite ?_ ?_)
      | (with_reducible refine LeO.bind ?_ (fun _ => ?_))
      | exact ih0 _ _ _
      | exact LeO.none _
      | refine LeO.ite ?_ ?_
      | refine LeO.bind ?_ (fun _ => ?_)
set_option maxHeartbeats 8000000 in
set_option maxRecDepth 100000 in
theorem topiaryref15_SameAttrs.calls (k : Nat) (A0 : Option Addr) (c0 : Nat) (l0 : List (S99)) (A1 : Option Addr) (c1 : Nat) (l1 : List (S99)) (r : Bool) (w : World) (hr0 : Kd.C k99 w A0 l0.length l0) (hc0 : l0.length ≤ c0) (hr1 : Kd.C k99 w A1 l1.length l1) (hc1 : l1.length ≤ c1) (h : topiaryref15_SameAttrs.f k l0 l1 = some r) :
    Calls Try.prog 48 #[.slice A0 l0.length c0, .slice A1 l1.length c1] w fun e w' => e = .returned (.bool r) ∧ Drawn0 w w' := by
  have hu99 := Try.underlying99
  have HR0 := Aside0.mk hr0
  have HC0 := Aside0.mk hc0
  clear hr0 hc0
  have HR1 := Aside0.mk hr1
  have HC1 := Aside0.mk hc1
  clear hr1 hc1
  have H : (if (l0.length : Int) = (l1.length : Int) then (topiaryref15_SameAttrs.l0 k l0 l1 0) else (some false)) = some r := h
  clear h
  by_cases c3 : (l0.length : Int) = (l1.length : Int)
  · rw [if_pos c3] at H
    have c3b0 : ((l0.length : Int) == (l1.length : Int)) = true := beq_iff_eq.mpr c3
    have c3b1 : ((l0.length : Int) != (l1.length : Int)) = false := bne_eq_false_iff_eq.mpr c3
    have c3b2 : (l0.length == l1.length) = true := by first | simpa using c3 | (simp at c3 ⊢; omega)
    clear c3
    have H' := Aside0.mk H
    clear H
    go_enter Try.func48, Try.ntmps48
    go_wp2
    repeat (go_quiet (fail); try go_wp2)
    go_loopg [5] k (fun kq v5 w' => ∃ (x5_1 : Int), v5 = .int .i64 x5_1 ∧ Aside0 (topiaryref15_SameAttrs.l0 kq l0 l1 x5_1 = some r) ∧ Aside0 (kq ≤ k) ∧ Drawn0 w w')
    case atStart => exact ⟨(0), (by first | rfl | (simp; done) | (simp [*]; done)), H', ⟨Nat.le_refl _⟩, by repeat (first | exact Drawn0.refl _ | apply Drawn0.step)⟩
    case round =>
      clear H'
      try clear c1
      try clear p2
      try clear c3
      try clear c3b0
      try clear c3b1
      try clear c3b2
      obtain ⟨x5_1, rfl, HA, HK1, ⟨m1, rfl⟩⟩ := hrel
      cases gk with
      | zero => exact absurd HA.out (by simp [topiaryref15_SameAttrs.l0])
      | succ k1 =>
        have H := HA.out
        clear HA
        simp only [topiaryref15_SameAttrs.l0] at H
        by_cases c4 : x5_1 < (l0.length : Int)
        · rw [if_pos c4] at H
          have c4b0 : decide (x5_1 < (l0.length : Int)) = true := decide_eq_true c4
          clear c4
          by_cases c5 : 0 ≤ x5_1
          · rw [if_pos c5] at H
            have c5b0 : decide (0 ≤ x5_1) = true := decide_eq_true c5
            clear c5
            by_cases c6 : x5_1 < (l1.length : Int)
            · rw [if_pos c6] at H
              have c6b0 : decide (x5_1 < (l1.length : Int)) = true := decide_eq_true c6
              clear c6
              by_cases c7 : (!((((rd_T99 l0 x5_1).f0).toList) == (((rd_T99 l1 x5_1).f0).toList)) || (!((((rd_T99 l0 x5_1).f1).toList) == (((rd_T99 l1 x5_1).f1).toList)))) = true
              · rw [if_pos c7] at H
                have c7b0 : (!((((rd_T99 l0 x5_1).f0).toList) == (((rd_T99 l1 x5_1).f0).toList)) || (!((((rd_T99 l0 x5_1).f1).toList) == (((rd_T99 l1 x5_1).f1).toList)))) = true := c7
                clear c7
                obtain rfl := Option.some.inj H
                have p153 : 0 ≤ (x5_1 : Int) := of_decide_eq_true (by first | (with_reducible assumption) | assumption)
                have q153 : x5_1 < (l0.length : Int) := of_decide_eq_true (by first | (with_reducible assumption) | assumption)
                obtain ⟨ad153, e153, hx153_0, hx153_1⟩ := at_T99 HR0.out x5_1 p153 q153
                cases e153
                replace p153 := eq_true p153
                replace q153 := eq_true q153
                have p154 : 0 ≤ (x5_1 : Int) := of_decide_eq_true (by first | (with_reducible assumption) | assumption)
                have q154 : x5_1 < (l1.length : Int) := of_decide_eq_true (by first | (with_reducible assumption) | assumption)
                obtain ⟨ad154, e154, hx154_0, hx154_1⟩ := at_T99 HR1.out x5_1 p154 q154
                cases e154
                replace p154 := eq_true p154
                replace q154 := eq_true q154
                go_wp2
                repeat (go_quiet (fail); try go_wp2)
                go_ret
                exact ⟨by first | rfl | (simp; done) | (simp [*]; done), by repeat (first | exact Drawn0.refl _ | apply Drawn0.step)⟩
              · rw [if_neg c7] at H
                have c7b0 : (!((((rd_T99 l0 x5_1).f0).toList) == (((rd_T99 l1 x5_1).f0).toList)) || (!((((rd_T99 l0 x5_1).f1).toList) == (((rd_T99 l1 x5_1).f1).toList)))) = false := by simpa using c7
                clear c7
                have H' := Aside0.mk H
                clear H
                have p153 : 0 ≤ (x5_1 : Int) := of_decide_eq_true (by first | (with_reducible assumption) | assumption)
                have q153 : x5_1 < (l0.length : Int) := of_decide_eq_true (by first | (with_reducible assumption) | assumption)
                obtain ⟨ad153, e153, hx153_0, hx153_1⟩ := at_T99 HR0.out x5_1 p153 q153
                cases e153
                replace p153 := eq_true p153
                replace q153 := eq_true q153
                have p154 : 0 ≤ (x5_1 : Int) := of_decide_eq_true (by first | (with_reducible assumption) | assumption)
                have q154 : x5_1 < (l1.length : Int) := of_decide_eq_true (by first | (with_reducible assumption) | assumption)
                obtain ⟨ad154, e154, hx154_0, hx154_1⟩ := at_T99 HR1.out x5_1 p154 q154
                cases e154
                replace p154 := eq_true p154
                replace q154 := eq_true q154
                go_wp2
                repeat (go_quiet (fail); try go_wp2)
                go_roundg k1
                case measure => have := HK1.out; omega
                case rel => exact ⟨(wrap64 (x5_1 + 1)), (by first | rfl | (simp; done) | (simp [*]; done)), H', ⟨by have := HK1.out; omega⟩, by repeat (first | exact Drawn0.refl _ | apply Drawn0.step)⟩
            · rw [if_neg c6] at H
              exact absurd H (by simp)
          · rw [if_neg c5] at H
            exact absurd H (by simp)
        · rw [if_neg c4] at H
          have c4b0 : decide (x5_1 < (l0.length : Int)) = false := decide_eq_false c4
          clear c4
          obtain rfl := Option.some.inj H
          go_wp2
          repeat (go_quiet (fail); try go_wp2)
          go_ret
          exact ⟨by first | rfl | (simp; done) | (simp [*]; done), by repeat (first | exact Drawn0.refl _ | apply Drawn0.step)⟩
  · rw [if_neg c3] at H
    have c3b0 : ((l0.length : Int) == (l1.length : Int)) = false := beq_eq_false_iff_ne.mpr c3
    have c3b1 : ((l0.length : Int) != (l1.length : Int)) = true := bne_iff_ne.mpr c3
    have c3b2 : (l0.length == l1.length) = false := by first | simpa using c3 | (simp at c3 ⊢; omega)
    obtain rfl := Option.some.inj H
    go_enter Try.func48, Try.ntmps48
    go_wp2
    repeat (go_quiet (fail); try go_wp2)
    go_ret
    exact ⟨by first | rfl | (simp; done) | (simp [*]; done), by repeat (first | exact Drawn0.refl _ | apply Drawn0.step)⟩
end Go.Proofs.Ytnkbgimihikhoaa.PVt
namespace Go.Proofs.Ytnkbgimihikhoaa.PVt
open Go.RowKit Go.Proofs.YtnkbgimihikhoaaW.PrintWords Go.Proofs.YtnkbgimihikhoaaW.PrintLast Go.Proofs.YtnkbgimihikhoaaW.PrintMore
attribute [local go_sem] max2_int min2_int max_two min_two max_three min_three max_four min_four   -- for this text's walks alone
set_option linter.unusedVariables false
set_option linter.unusedSimpArgs false
attribute [local go_sem high] eqA99
def api_Attr.l0 : Nat → List (S99) → List (S99) → Int → Int → Option (Bool)
  | 0, _, _, _, _ => none
  | k + 1, x0, x1, x12, x13 => if x13 < x12 then (if 0 ≤ x13 then (if x13 < (x0.length : Int) then (if x13 < (x1.length : Int) then (if (!((((rd_T99 x0 x13).f0).toList) == (((rd_T99 x1 x13).f0).toList)) || (!((((rd_T99 x0 x13).f1).toList) == (((rd_T99 x1 x13).f1).toList)))) = true then (some false) else (api_Attr.l0 k x0 x1 x12 (wrap64 (x13 + 1)))) else (none)) else (none)) else (none)) else (some true)
def api_Attr.f (k : Nat) (l0 : List (S99)) (l1 : List (S99)) : Option (Bool) := if (l0.length : Int) = (l1.length : Int) then (api_Attr.l0 k l0 l1 (l0.length : Int) 0) else (some false)
theorem api_Attr.mono_l : ∀ k, (∀ y0 y1 y2 y3, LeO (api_Attr.l0 k y0 y1 y2 y3) (api_Attr.l0 (k + 1) y0 y1 y2 y3))
  | 0 => fun _ _ _ _ r h => by simp [api_Attr.l0] at h
  | k + 1 => by
    have ih0 := api_Attr.mono_l k
    · intro y0 y1 y2 y3
      unfold api_Attr.l0
      repeat' first
      | (with_reducible exact ih0 _ _ _ _)
      | (with_reducible exact LeO.refl _)
      | (with_reducible exact LeO.none _)
      | (with_reducible refine LeO.ite ?_ ?_)
      | (with_reducible refine LeO.bind ?_ (fun _ => ?_))
      | exact ih0 _ _ _ _
      | exact LeO.none _
      | refine LeO.ite ?_ ?_
      | refine LeO.bind ?_ (fun _ => ?_)
theorem api_Attr.mono : ∀ a0 a1 k, LeO (api_Attr.f k a0 a1) (api_Attr.f (k + 1) a0 a1) := by
  intro a0 a1 k
  have ih0 := api_Attr.mono_l k
  unfold api_Attr.f
  repeat' first
      | (with_reducible exact ih0 _ _ _ _)
      | (with_reducible exact LeO.refl _)
      | (with_reducible exact LeO.none _)
      | (with_reducible refine LeO.ite ?_ ?_)
      | (with_reducible refine LeO.bind ?_ (fun _ => ?_))
      | exact ih0 _ _ _ _
      | exact LeO.none _
      | refine LeO.ite ?_ ?_
      | refine LeO.bind ?_ (fun _ => ?_)
end Go.Proofs.Ytnkbgimihikhoaa.PVt
namespace Go.Proofs.Ytnkbgimihikhoaa.Mem
open Go.RowKit Go.Proofs.YtnkbgimihikhoaaW.PrintWords
theorem cell_of {w : World} {b : Nat} {c : Array Value} {e : TypeId} {fr : Nat × Nat} (h : w.heap[b]? = some (.cells c e fr)) (o : Nat) : w.cell? ⟨b, o, none⟩ = c[o]? := by
  unfold World.cell?
  dsimp only
  rw [h]
  rfl
theorem free_of {w : World} {b : Nat} {c : Array Value} {e : TypeId} (h : w.heap[b]? = some (.cells c e (0, 0))) (o : Nat) : w.frozen? ⟨b, o, none⟩ = false := by
  unfold World.frozen?
  dsimp only
  rw [h]
  simp
theorem alloc_old {w : World} {b : Nat} {x : Obj} (h : w.heap[b]? = some x) (o : Obj) : (w.alloc o).heap[b]? = some x := by
  have hb := (Array.getElem?_eq_some_iff.1 h).1
  show (w.heap.push o)[b]? = _
  rw [Array.getElem?_push, if_neg (by omega)]
  exact h
theorem alloc_new (w : World) (o : Obj) : (w.alloc o).heap[w.heap.size]? = some o := by
  show (w.heap.push o)[w.heap.size]? = _
  simp
theorem alloc_new_at (w : World) (o : Obj) (n : Nat) (h : n = w.heap.size) : (w.alloc o).heap[n]? = some o := by subst h; exact alloc_new w o
theorem alloc_size (w : World) (o : Obj) : (w.alloc o).heap.size = w.heap.size + 1 := by
  show (w.heap.push o).size = _
  simp
theorem cell_alloc {w : World} {a : Addr} {v : Value} (h : w.cell? a = some v) (o : Obj) : (w.alloc o).cell? a = some v := by
  have hb : a.block < w.heap.size := World.block_lt_of_cell? w _ h
  unfold World.cell? at h ⊢
  have e : (w.alloc o).heap[a.block]? = w.heap[a.block]? := by
    show (w.heap.push o)[a.block]? = _
    rw [Array.getElem?_push, if_neg (by omega)]
  rw [e]
  exact h
theorem set_heap {w : World} {b : Nat} {c : Array Value} {e : TypeId} {fr : Nat × Nat} (h : w.heap[b]? = some (.cells c e fr)) (o : Nat) (v : Value) : (w.setCell ⟨b, o, none⟩ v).heap[b]? = some (.cells (c.setIfInBounds o v) e fr) := by
  unfold World.setCell
  dsimp only
  rw [Array.getElem?_modify, if_pos rfl, h]
  rfl
theorem set_other (w : World) (a : Addr) (v : Value) (b : Nat) (h : b ≠ a.block) : (w.setCell a v).heap[b]? = w.heap[b]? := Below.heap_setCell w a v b h
theorem set_size (w : World) (a : Addr) (v : Value) : (w.setCell a v).heap.size = w.heap.size := by
  unfold World.setCell
  simp
end Go.Proofs.Ytnkbgimihikhoaa.Mem
namespace Go.Proofs.Ytnkbgimihikhoaa.PVt
open Go.RowKit Go.Proofs.YtnkbgimihikhoaaW.PrintWords Go.Proofs.YtnkbgimihikhoaaW.PrintLast Go.Proofs.YtnkbgimihikhoaaW.PrintMore
set_option linter.unusedVariables false
mutual
/-- A tree's nodes in its order, each with how many are above it. -/
def flatD : Nat → S27 → List (Nat × S27)
  | d, ⟨k, t, x, a, l⟩ => (d, ⟨k, t, x, a, l⟩) :: flatDs (d + 1) l
def flatDs : Nat → List S27 → List (Nat × S27)
  | _, [] => []
  | d, x :: l => flatD d x ++ flatDs d l
end
mutual
/-- How many nodes there are. -/
def szT : S27 → Nat
  | ⟨_, _, _, _, l⟩ => 1 + szTs l
def szTs : List S27 → Nat
  | [] => 0
  | x :: l => szT x + szTs l
end
theorem flatD_eq (d : Nat) (x : S27) : flatD d x = (d, x) :: flatDs (d + 1) x.f4 := by cases x; simp [flatD]
theorem szT_eq (x : S27) : szT x = 1 + szTs x.f4 := by cases x; simp [szT]
theorem flatDs_append (d : Nat) : ∀ l m : List S27, flatDs d (l ++ m) = flatDs d l ++ flatDs d m
  | [], m => by simp [flatDs]
  | x :: l, m => by simp [flatDs, flatDs_append d l m]
theorem szTs_append : ∀ l m : List S27, szTs (l ++ m) = szTs l + szTs m
  | [], m => by simp [szTs]
  | x :: l, m => by simp [szTs, szTs_append l m]; omega
theorem take_snoc27 (l : List S27) {k : Nat} (h : k < l.length) : l.take (k + 1) = l.take k ++ [l.getD k z27] := by
  rw [List.take_add_one, List.getD_eq_getElem?_getD, List.getElem?_eq_getElem h]; rfl
theorem flatDs_snoc (d : Nat) (l : List S27) {k : Nat} (h : k < l.length) : flatDs d (l.take (k + 1)) = flatDs d (l.take k) ++ flatD d (l.getD k z27) := by
  rw [take_snoc27 l h, flatDs_append]; simp [flatDs]
theorem szTs_snoc (l : List S27) {k : Nat} (h : k < l.length) : szTs (l.take (k + 1)) = szTs (l.take k) + szT (l.getD k z27) := by
  rw [take_snoc27 l h, szTs_append]; simp [szTs]
theorem szTs_take (l : List S27) (k : Nat) : szTs (l.take k) ≤ szTs l := by
  have h := szTs_append (l.take k) (l.drop k)
  rw [List.take_append_drop] at h
  omega
theorem szT_kid (l : List S27) {k : Nat} (h : k < l.length) : szT (l.getD k z27) ≤ szTs l := by
  have h1 := szTs_snoc l h
  have h2 := szTs_take l (k + 1)
  omega
mutual
theorem flatD_length : ∀ (d : Nat) (x : S27), (flatD d x).length = szT x
  | d, ⟨k, t, x, a, l⟩ => by simp [flatD, szT, flatDs_length (d + 1) l]; omega
theorem flatDs_length : ∀ (d : Nat) (l : List S27), (flatDs d l).length = szTs l
  | _, [] => by simp [flatDs, szTs]
  | d, x :: l => by simp [flatDs, szTs, flatD_length d x, flatDs_length d l]
end
theorem szT_pos (x : S27) : 0 < szT x := by rw [szT_eq]; omega
theorem szTs_len : ∀ l : List S27, l.length ≤ szTs l
  | [] => by simp
  | x :: l => by have h1 := szT_pos x; have h2 := szTs_len l; simp [szTs]; omega
theorem flatDs_prefix (d : Nat) (l : List S27) (k : Nat) : flatDs d (l.take k) <+: flatDs d l := ⟨flatDs d (l.drop k), by rw [← flatDs_append, List.take_append_drop]⟩
/-- The node x lies as the cells cs, with all beneath it in blocks below n0. -/
def TK (w : World) (n0 : Nat) (x : S27) (cs : List Value) : Prop := Kd.FK k27 w (fun k => k < n0) x cs
theorem TK.low {w w1 : World} {n0 : Nat} {x : S27} {cs : List Value} (h : TK w n0 x cs) (hb : ∀ i, i < n0 → w1.heap[i]? = w.heap[i]?) : TK w1 n0 x cs := Kd.FK_step h (fun k hk _ => hb k hk)
theorem TK.open {w : World} {n0 : Nat} {x : S27} {cs : List Value} (h : TK w n0 x cs) : ∃ A4 c4 A5 c5, cs = [.int .i64 x.f0.f0, .int .i64 x.f0.f1, .string x.f1, .string x.f2, .slice A4 x.f3.length c4, .slice A5 x.f4.length c5] ∧ x.f3.length ≤ c4 ∧ Kd.F k99 w (fun k => k < n0) A4 x.f3.length x.f3 ∧ x.f4.length ≤ c5 ∧ Kd.F k27 w (fun k => k < n0) A5 x.f4.length x.f4 := k27_openF h
theorem heap27 : Kd.Heap k27 := Kd.heap_fix (fun d hd => Kd.heap_iso _ (Kd.heap_pair (Kd.heap_iso _ (Kd.heap_pair (Kd.heap_int _) (Kd.heap_int _))) (Kd.heap_pair Kd.heap_string (Kd.heap_pair Kd.heap_string (Kd.heap_pair (Kd.heap_slice 99 (Kd.heap_iso _ (Kd.heap_pair Kd.heap_string Kd.heap_string))) (Kd.heap_slice 27 hd))))))
theorem TK.of {w : World} {x : S27} {cs : List Value} (h : k27.K w x cs) : TK w w.heap.size x cs := fun _ hW => heap27.K (fun k hlt => hW k hlt hlt) h
/-- The cells of a kid. -/
def cells27 (w : World) (p : Addr) (x : S27) (A4 : Option Addr) (c4 : Nat) (A5 : Option Addr) (c5 : Nat) : Prop :=
  w.cell? p = some (.int .i64 x.f0.f0) ∧ w.cell? ⟨p.block, p.off + 1, none⟩ = some (.int .i64 x.f0.f1) ∧ w.cell? ⟨p.block, p.off + 2, none⟩ = some (.string x.f1) ∧ w.cell? ⟨p.block, p.off + 3, none⟩ = some (.string x.f2) ∧ w.cell? ⟨p.block, p.off + 4, none⟩ = some (.slice A4 x.f3.length c4) ∧ w.cell? ⟨p.block, p.off + 5, none⟩ = some (.slice A5 x.f4.length c5)
theorem kid_at {w : World} {n0 n : Nat} {A : Option Addr} {xs : List S27} (h : Kd.F k27 w (fun k => k < n0) A n xs) (k : Nat) (hk : k < n) :
    ∃ ad A4 c4 A5 c5, A = some ad ∧ cells27 w (ad.add (k * 6)) (xs.getD k z27) A4 c4 A5 c5 ∧ TK w n0 (xs.getD k z27) [.int .i64 (xs.getD k z27).f0.f0, .int .i64 (xs.getD k z27).f0.f1, .string (xs.getD k z27).f1, .string (xs.getD k z27).f2, .slice A4 (xs.getD k z27).f3.length c4, .slice A5 (xs.getD k z27).f4.length c5] := by
  obtain ⟨ad, c, e, _, hK, hc0, _⟩ := Kd.F_get h z27 (k : Int) (Int.natCast_nonneg _) (Int.ofNat_lt.2 hk)
  rw [Int.toNat_natCast] at hK hc0
  have hc : ∀ j u, c[j]? = some u → w.cell? (ad.add (k * 6 + j)) = some u := hc0
  obtain ⟨A4, c4, A5, c5, rfl, _⟩ := k27_openF hK
  exact ⟨ad, A4, c4, A5, c5, e, ⟨hc 0 _ rfl, by rw [← add_field _ _ 1 (by omega)]; exact hc 1 _ rfl, by rw [← add_field _ _ 2 (by omega)]; exact hc 2 _ rfl, by rw [← add_field _ _ 3 (by omega)]; exact hc 3 _ rfl, by rw [← add_field _ _ 4 (by omega)]; exact hc 4 _ rfl, by rw [← add_field _ _ 5 (by omega)]; exact hc 5 _ rfl⟩, hK⟩
/-- All lies as it lay below n0, and all nodes' cells but those of T. -/
structure Kw (n0 : Nat) (T : Nat → Prop) (W W' : World) : Prop where
  size : W.heap.size ≤ W'.heap.size
  low : ∀ i, i < n0 → W'.heap[i]? = W.heap[i]?
  cells : ∀ i c fr, ¬ T i → W.heap[i]? = some (.cells c 27 fr) → W'.heap[i]? = some (.cells c 27 fr)
theorem Kw.refl (n0 : Nat) (T : Nat → Prop) (W : World) : Kw n0 T W W := ⟨Nat.le_refl _, fun _ _ => rfl, fun _ _ _ _ h => h⟩
theorem Kw.trans {n0 : Nat} {T : Nat → Prop} {A B C : World} (h : Kw n0 T A B) (k : Kw n0 T B C) : Kw n0 T A C := ⟨Nat.le_trans h.size k.size, fun i hi => (k.low i hi).trans (h.low i hi), fun i c fr hT hi => k.cells i c fr hT (h.cells i c fr hT hi)⟩
theorem Kw.below {n0 : Nat} {T : Nat → Prop} {W W' : World} (h : Below W.heap.size W W') (hn : n0 ≤ W.heap.size) : Kw n0 T W W' := ⟨h.size, fun i hi => h.block i (Nat.lt_of_lt_of_le hi hn), fun i c fr _ hi => (h.block i (Array.getElem?_eq_some_iff.1 hi).1).trans hi⟩
theorem Kw.set {n0 o : Nat} {T : Nat → Prop} (W : World) (b : Nat) (v : Value) (hb : T b) (hn : n0 ≤ b) : Kw n0 T W (W.setCell ⟨b, o, none⟩ v) :=
  ⟨by rw [Mem.set_size]; exact Nat.le_refl _, fun i hi => Mem.set_other _ _ _ _ (by show i ≠ b; omega), fun i c fr hT hi => (Mem.set_other _ _ _ _ (by intro e; exact hT (e ▸ hb))).trans hi⟩
theorem Kw.box {n0 o b t : Nat} {T : Nat → Prop} {W : World} {c : Array Value} {fr : Nat × Nat} (h : W.heap[b]? = some (.cells c t fr)) (ht : t ≠ 27) (v : Value) (hn : n0 ≤ b) : Kw n0 T W (W.setCell ⟨b, o, none⟩ v) :=
  ⟨by rw [Mem.set_size]; exact Nat.le_refl _, fun i hi => Mem.set_other _ _ _ _ (by show i ≠ b; omega), fun i c fr hT hi => (Mem.set_other _ _ _ _ (by rintro rfl; rw [h] at hi; cases hi; exact ht rfl)).trans hi⟩
theorem Kw.grown {n0 : Nat} {T : Nat → Prop} {W W' : World} {row : Option Nat} (hg : W.grownBy W' row) (hr : ∀ k, row = some k → n0 ≤ k ∧ ∀ c fr, W.heap[k]? ≠ some (.cells c 27 fr)) (hn : n0 ≤ W.heap.size) : Kw n0 T W W' :=
  ⟨hg.size, fun i hi => hg.block i (Nat.lt_of_lt_of_le hi hn) (fun e => by have := (hr i e.symm).1; omega), fun i c fr hT hi => (hg.block i (Array.getElem?_eq_some_iff.1 hi).1 (fun e => (hr i e.symm).2 c fr hi)).trans hi⟩
theorem Kw.put {n0 : Nat} {T : Nat → Prop} (W : World) (l : Nat) (o o' : Obj) (hn : n0 ≤ l) (h : W.heap[l]? = some o) (hc : o.isCells = false) : Kw n0 T W (W.putObj l o') :=
  ⟨by simp, fun i hi => World.putObj_heap_other (by omega), fun i c fr _ hi => (World.putObj_heap_other (by rintro rfl; rw [h] at hi; cases hi; cases hc)).trans hi⟩
theorem Kw.mono {n0 n1 : Nat} {T T' : Nat → Prop} {W W' : World} (h : Kw n0 T W W') (hn : n1 ≤ n0) (hT : ∀ i, T i → T' i) : Kw n1 T' W W' := ⟨h.size, fun i hi => h.low i (Nat.lt_of_lt_of_le hi hn), fun i c fr hi => h.cells i c fr (fun h_ => hi (hT i h_))⟩
end Go.Proofs.Ytnkbgimihikhoaa.PVt
namespace Go.Proofs.Ytnkbgimihikhoaa.PVt
open Go.RowKit Go.Shelf Go.Proofs.YtnkbgimihikhoaaW.PrintWords Go.Proofs.YtnkbgimihikhoaaW.PrintLast Go.Proofs.YtnkbgimihikhoaaW.PrintMore
attribute [local go_sem] Oper.semAt_some
set_option linter.unusedVariables false
set_option linter.unusedSimpArgs false
/-- A node that is handed to a round: how many are above it, what it is, its cells. -/
structure Nd (w0 : World) (n0 : Nat) where
  d : Nat
  x : S27
  cs : List Value
  ok : TK w0 n0 x cs
  hd : d ≤ 1099511627776
def pl {w0 : World} {n0 : Nat} (p : Nd w0 n0) : Nat × S27 := (p.d, p.x)
def encN {w0 : World} {n0 : Nat} (p : Nd w0 n0) : Array Value := #[.int .i64 (p.d : Int), .agg p.cs.toArray]
theorem room_of_none {F : Fence} (hd : F.depth = none) (k : Nat) : F.room k := fun d h => by rw [hd] at h; cases h
theorem round_any {F : Fence} (hd : F.depth = none) {m m' : Nat} {P : Program} {l : Nat} {f : FuncId} {tmps : Array Value} {assign body : Code} {w : World} {R : Ending → World → Prop}
    (h : RoundIn F m P l f tmps assign body w R) : RoundIn F m' P l f tmps assign body w R := ⟨h.1, fun c cs _ => h.2 c cs (room_of_none hd _)⟩
theorem wrap_next {d m : Nat} (h : d + m ≤ 1099511627776) : wrap64 ((d : Int) + 1) = ((d + 1 : Nat) : Int) := by unfold wrap64; omega
theorem dec_lt {i q : Nat} (h : i < q) (hw : wrap64 ((i : Int) + 1) = ((i + 1 : Nat) : Int)) : q - (intOf (Value.int .i64 (wrap64 ((i : Int) + 1)))).toNat < q - (intOf (Value.int .i64 (i : Int))).toNat := by
  rw [hw]
  show q - (((i + 1 : Nat) : Int)).toNat < q - (i : Int).toNat
  omega
theorem wrap_kid {k n s z d : Nat} (h1 : k < n) (h2 : n ≤ s) (h3 : z = 1 + s) (h4 : d + z ≤ 1099511627776) : wrap64 ((k : Int) + 1) = ((k + 1 : Nat) : Int) := by unfold wrap64; omega
set_option maxHeartbeats 8000000 in
set_option maxRecDepth 100000 in
theorem walk_in (l n0 N B : Nat) (T : Nat → Prop) (w0 : World) (J Jx : List (Nd w0 n0) → World → Prop) (hJ : AbidesFrom B J)
    (hY : ∀ pre x W, J pre W → pre.length < N → YieldAt Fence.wide 1 Try.prog l (encN x) W fun e W' => (e = .returned (.bool true) ∧ J (pre ++ [x]) W' ∧ Kw n0 T W W') ∨ (e = .returned (.bool false) ∧ Jx (pre ++ [x]) W')) :
    ∀ (q : Nat) (d : Nat) (x : S27) (cs : List Value) (pre : List (Nd w0 n0)) (W : World), szT x ≤ q → d + szT x ≤ 1099511627776 → TK w0 n0 x cs → (∀ i, i < n0 → W.heap[i]? = w0.heap[i]?) → n0 ≤ W.heap.size → (∀ i, T i → i < W.heap.size) → J pre W → pre.length + szT x ≤ N →
      CallsIn Fence.wide 1 Try.prog 59 #[.agg cs.toArray, .int .i64 (d : Int), .func (.yield l) #[] #[]] W fun e W' =>
        (e = .returned (.bool true) ∧ (∃ ys, ys.map pl = flatD d x ∧ J (pre ++ ys) W') ∧ Kw n0 T W W') ∨ (e = .returned (.bool false) ∧ ∃ ys, ys.map pl <+: flatD d x ∧ Jx (pre ++ ys) W') := by
  intro q
  induction q with
  | zero =>
    intro d x cs pre W hq
    have := szT_pos x
    omega
  | succ q ih =>
    intro d x cs pre W hq hd hT hb hn hTl hJ0 hN
    have hsz := szT_eq x
    obtain ⟨A4, c4, A5, c5, hcs, l4, g4, l5, g5⟩ := hT.open
    subst hcs
    have HB := Aside0.mk hb
    have HTL := Aside0.mk hTl
    have hlen := szTs_len x.f4
    obtain ⟨fn, tmps, assign, body, hy, hR⟩ := hY pre ⟨d, x, _, hT, by omega⟩ (W.alloc (.cells #[.int .i64 x.f0.f0, .int .i64 x.f0.f1, .string x.f1, .string x.f2, .slice A4 x.f3.length c4, .slice A5 x.f4.length c5] 27)) (hJ _ _ _ none hJ0 (World.grownBy_alloc _ _ none) (fun r e => by cases e)) (by omega)
    dsimp only [encN] at hy
    have HF := Aside0.mk g5
    have HFF : Aside0 (flatD d x = (d, x) :: flatDs (d + 1) x.f4) := ⟨flatD_eq d x⟩
    have HT := Aside0.mk hT
    obtain ⟨nd, hnd⟩ : ∃ nd : Nd w0 n0, nd = ⟨d, x, _, hT, by omega⟩ := ⟨_, rfl⟩
    have HND : Aside0 (pl nd = (d, x)) := ⟨by rw [hnd]; rfl⟩
    rw [← hnd] at hR
    clear hnd hT hb hTl g4 g5 hJ0
    refine callsIn_of_wp Try.func59 rfl trivial ?_ rfl
    simp only [Try.ntmps59, List.size_toArray, List.length_cons, List.length_nil, Nat.reduceAdd, Nat.reduceSub, Array.replicate_succ, Array.replicate_zero, List.push_toArray, List.append_toArray, List.nil_append, List.cons_append]
    gi_wp2
    refine (round_any rfl hR).mono ?_
    rintro e W1 (⟨rfl, hJ1, hk1⟩ | ⟨rfl, hx1⟩)
    · have HJ1 := Aside0.mk hJ1
      have HK1 : Aside0 (Kw n0 T W W1) := ⟨(Kw.below (below_alloc (Below.refl _ _) _) hn).trans hk1⟩
      have HBX : Aside0 (W1.heap[W.heap.size]? = some (.cells #[.int .i64 x.f0.f0, .int .i64 x.f0.f1, .string x.f1, .string x.f2, .slice A4 x.f3.length c4, .slice A5 x.f4.length c5] 27 (0, 0))) := ⟨hk1.cells _ _ _ (fun h => Nat.lt_irrefl _ (HTL.out _ h)) (Mem.alloc_new _ _)⟩
      have b5 : W1.cell? ⟨W.heap.size, 5, none⟩ = some (.slice A5 x.f4.length c5) := Mem.cell_of HBX.out 5
      clear hJ1 hk1
      gi_wp2
      gi_loopw [17] (fun i wr => ∃ k : Nat, i = .int .i64 (k : Int) ∧ Aside0 (k ≤ x.f4.length) ∧ Aside0 (∃ ys, ys.map pl = flatDs (d + 1) (x.f4.take k) ∧ J (pre ++ nd :: ys) wr) ∧ Aside0 (Kw n0 T W wr))
        (fun i _ => x.f4.length - (intOf i).toNat)
      case atStart => exact ⟨0, rfl, ⟨Nat.zero_le _⟩, ⟨[], by simp [flatDs], HJ1.out⟩, HK1⟩
      case round =>
        obtain ⟨k, rfl, HKL, HJS, HKW⟩ := hrel
        by_cases hlt : k < x.f4.length
        · obtain ⟨ad, B4, e4, B5, e5, rfl, hcl, hTk⟩ := kid_at (Kd.F_step HF.out (fun i hi _ => (HKW.out.low i hi).trans (HB.out i hi))) k hlt
          have hTk0 : TK w0 n0 _ _ := hTk.low (fun i hi => ((HKW.out.low i hi).trans (HB.out i hi)).symm)
          have HS := Aside0.mk (flatDs_snoc (d + 1) x.f4 hlt)
          have HZ : Aside0 (szTs (x.f4.take (k + 1)) = szTs (x.f4.take k) + szT (x.f4.getD k z27) ∧ szTs (x.f4.take (k + 1)) ≤ szTs x.f4) := ⟨szTs_snoc x.f4 hlt, szTs_take _ _⟩
          obtain ⟨y, hy'⟩ : ∃ y, x.f4.getD k z27 = y := ⟨_, rfl⟩
          rw [hy'] at hcl hTk hTk0 HS HZ
          obtain ⟨p, hp⟩ : ∃ p, ad.add (k * 6) = p := ⟨_, rfl⟩
          rw [hp] at hcl
          obtain ⟨c0, c1, c2, c3, c4', c5'⟩ := hcl
          obtain ⟨ys, hys, hJs⟩ := HJS.out
          have HYS := Aside0.mk hys
          have hyl : ys.length = szTs (x.f4.take k) := by have := congrArg List.length hys; rw [List.length_map, flatDs_length] at this; exact this
          have IH := Aside0.mk (ih (d + 1) y _ (pre ++ nd :: ys) (wr.alloc (.cells #[.int .i64 y.f0.f0, .int .i64 y.f0.f1, .string y.f1, .string y.f2, .slice B4 y.f3.length e4, .slice B5 y.f4.length e5] 27))
            (by have := HZ.out; omega) (by have := HZ.out; omega) hTk0 (fun i hi => by
              have h1 : i < wr.heap.size := Nat.lt_of_lt_of_le (Nat.lt_of_lt_of_le hi hn) HKW.out.size
              exact ((below_alloc (Below.refl wr.heap.size wr) _).block i h1).trans ((HKW.out.low i hi).trans (HB.out i hi))) (Nat.le_trans (Nat.le_trans hn HKW.out.size) (by rw [Mem.alloc_size]; omega)) (fun i hi => by have := HTL.out i hi; have := HKW.out.size; rw [Mem.alloc_size]; omega)
            (hJ _ _ _ none hJs (World.grownBy_alloc _ _ none) (fun r e => by cases e)) (by rw [List.length_append, List.length_cons, hyl]; have := HZ.out; omega))
          have hw_ := wrap_next hd
          have hw2 := wrap_kid hlt hlen hsz hd
          clear hTk hTk0 hy' hys hJs hyl
          have hkn : (k : Int).toNat = k := Int.toNat_natCast k
          have hkp : (0 : Int) ≤ (k : Int) := Int.natCast_nonneg k
          clear hd hN hq hsz hlen
          gi_wp2_with (fail)
          refine ⟨trivial, ?_⟩
          refine (callsIn_wide.2 ((callsIn_wide (n := 1)).1 IH.out)).mono ?_
          rintro e W3 (⟨rfl, ⟨zs, hzs, hJ3⟩, hk3⟩ | ⟨rfl, zs, hzs, hx3⟩)
          · have HZS := Aside0.mk hzs
            have HJ3 : Aside0 (J (pre ++ nd :: (ys ++ zs)) W3) := ⟨by rw [List.append_assoc] at hJ3; exact hJ3⟩
            have HK3 : Aside0 (Kw n0 T W W3) := ⟨HKW.out.trans ((Kw.below (below_alloc (Below.refl _ _) _) (Nat.le_trans hn HKW.out.size)).trans hk3)⟩
            clear hzs hJ3 hk3 IH
            gi_wp2_with (fail)
            go_roundw
            case rel => exact ⟨k + 1, congrArg (Value.int .i64) hw2, ⟨hlt⟩, ⟨ys ++ zs, by rw [List.map_append, HYS.out, HZS.out, HS.out], HJ3.out⟩, HK3⟩
            case measure => exact dec_lt hlt hw2
          · have HZS := Aside0.mk hzs
            have HX3 : Aside0 (Jx (pre ++ nd :: (ys ++ zs)) W3) := ⟨by rw [List.append_assoc] at hx3; exact hx3⟩
            clear hzs hx3 IH
            gi_wp2_with (fail)
            refine bodyPost_ret (results_tmp rfl _ _ _) rfl ?_
            refine .inr ⟨rfl, nd :: (ys ++ zs), ?_, HX3.out⟩
            rw [HFF.out, List.map_cons, HND.out, List.map_append, HYS.out]
            have h1 : flatDs (d + 1) (x.f4.take k) ++ zs.map pl <+: flatDs (d + 1) (x.f4.take (k + 1)) := by rw [HS.out]; exact (List.prefix_append_right_inj _).2 HZS.out
            exact (List.prefix_cons_inj _).2 (h1.trans (flatDs_prefix _ _ _))
        · obtain rfl : k = x.f4.length := by have := HKL.out; omega
          gi_wp2
          refine bodyPost_ret (results_tmp rfl _ _ _) rfl ?_
          obtain ⟨ys, hys, hJs⟩ := HJS.out
          rw [List.take_length] at hys
          exact .inl ⟨rfl, ⟨nd :: ys, by rw [HFF.out, List.map_cons, HND.out, hys], hJs⟩, HKW.out⟩
    · gi_wp2
      refine bodyPost_ret (results_tmp rfl _ _ _) rfl ?_
      exact .inr ⟨rfl, [nd], by rw [HFF.out, List.map_cons, HND.out]; exact ⟨_, rfl⟩, hx1⟩
def cellsOf (x : S27) (A4 : Option Addr) (c4 : Nat) (A5 : Option Addr) (c5 : Nat) : Array Value := #[.int .i64 x.f0.f0, .int .i64 x.f0.f1, .string x.f1, .string x.f2, .slice A4 x.f3.length c4, .slice A5 x.f4.length c5]
/-- nodes hands back a function over a box of the tree. -/
theorem nodes_calls (w : World) (a b : Int) (t u : ByteArray) (v4 v5 : Value) :
    Calls Try.prog 41 #[.agg #[.int .i64 a, .int .i64 b, .string t, .string u, v4, v5]] w fun e w' => e = .returned (.func (.func 65) #[] #[.pointer (some ⟨w.heap.size, 0, none⟩)]) ∧ w' = w.alloc (.cells #[.int .i64 a, .int .i64 b, .string t, .string u, v4, v5] 27) := by
  go_enter Try.func41, Try.ntmps41
  go_wp2
  go_ret
  exact ⟨rfl, rfl⟩
set_option maxHeartbeats 8000000 in
set_option maxRecDepth 100000 in
theorem nodes_stops {w w0 : World} {n0 bx : Nat} {T : Nat → Prop} {x : S27} {A4 : Option Addr} {c4 : Nat} {A5 : Option Addr} {c5 : Nat} (hd : szT x ≤ 1099511627776)
    (hT : TK w0 n0 x [.int .i64 x.f0.f0, .int .i64 x.f0.f1, .string x.f1, .string x.f2, .slice A4 x.f3.length c4, .slice A5 x.f4.length c5]) (hb : ∀ i, i < n0 → w.heap[i]? = w0.heap[i]?) (hn : n0 ≤ w.heap.size) (hTl : ∀ i, T i → i < w.heap.size)
    (hbx : w.heap[bx]? = some (.cells #[.int .i64 x.f0.f0, .int .i64 x.f0.f1, .string x.f1, .string x.f2, .slice A4 x.f3.length c4, .slice A5 x.f4.length c5] 27 (0, 0))) :
    SeqStopsK Fence.wide 2 Try.prog 65 #[.pointer (some ⟨bx, 0, none⟩)] (encN (w0 := w0) (n0 := n0)) (Kw n0 T) (fun ys => ys.map pl = flatD 0 x) (fun ys => ys.map pl <+: flatD 0 x) (szT x) w := fun l J Jx W hW hJ hJx hY h0 => by
  have hbl := (Array.getElem?_eq_some_iff.1 hbx).1
  have hbW := (hW.block bx hbl).trans hbx
  have HW := Aside0.mk (walk_in l n0 (szT x) W.heap.size T w0 J Jx hJ hY (szT x) 0 x _ [] W (Nat.le_refl _) (by rw [Nat.zero_add]; exact hd) hT (fun i hi => (hW.block i (Nat.lt_of_lt_of_le hi hn)).trans (hb i hi)) (Nat.le_trans hn hW.size) (fun i hi => Nat.lt_of_lt_of_le (hTl i hi) hW.size) h0 (by simp))
  have a0 := Mem.cell_of hbW 0
  have a1 := Mem.cell_of hbW 1
  have a2 := Mem.cell_of hbW 2
  have a3 := Mem.cell_of hbW 3
  have a4 := Mem.cell_of hbW 4
  have a5 := Mem.cell_of hbW 5
  clear hbl hbW hbx hd hT hb hn hTl hY h0
  refine callsIn_of_wp Try.func65 rfl trivial ?_ rfl
  simp only [Try.ntmps65, List.append_toArray, List.size_toArray, List.length_cons, List.length_nil, Nat.reduceAdd, Nat.reduceSub, Array.replicate_succ, Array.replicate_zero, List.push_toArray, List.append_toArray, List.nil_append, List.cons_append]
  gi_wp2_with (fail)
  refine ⟨trivial, ?_⟩
  refine (callsIn_wide.2 ((callsIn_wide (n := 1)).1 HW.out)).mono ?_
  rintro e W3 (⟨rfl, ⟨zs, hzs, hJ3⟩, hk3⟩ | ⟨rfl, zs, hzs, hx3⟩)
  · have HZ := Aside0.mk hzs
    clear hzs
    gi_wp2_with (fail)
    go_end0
    exact ⟨⟨_, rfl⟩, .inl ⟨zs, HZ.out, hJ3⟩⟩
  · have HZ := Aside0.mk hzs
    clear hzs
    gi_wp2_with (fail)
    go_end0
    exact ⟨⟨_, rfl⟩, .inr ⟨zs, HZ.out, hx3⟩⟩
end Go.Proofs.Ytnkbgimihikhoaa.PVt
namespace Go.Proofs.Ytnkbgimihikhoaa.PVt
open Go.RowKit Go.Shelf Go.Proofs.YtnkbgimihikhoaaW.PrintWords Go.Proofs.YtnkbgimihikhoaaW.PrintLast Go.Proofs.YtnkbgimihikhoaaW.PrintMore
attribute [local go_sem] Oper.semAt_some max2_int min2_int max_two min_two
set_option linter.unusedVariables false
set_option linter.unusedSimpArgs false
/-- All blocks of U but those of T lie as they lay. -/
structure KeptT (T : Nat → Prop) (U W : World) : Prop where
  size : U.heap.size ≤ W.heap.size
  block : ∀ i, i < U.heap.size → ¬ T i → W.heap[i]? = U.heap[i]?
theorem KeptT.refl (T : Nat → Prop) (U : World) : KeptT T U U := ⟨Nat.le_refl _, fun _ _ _ => rfl⟩
theorem KeptT.on {T : Nat → Prop} {U W W' : World} (h : KeptT T U W) (hb : Below W.heap.size W W') : KeptT T U W' := ⟨Nat.le_trans h.size hb.size, fun i hi hn => (hb.block i (Nat.lt_of_lt_of_le hi h.size)).trans (h.block i hi hn)⟩
theorem KeptT.set {T : Nat → Prop} {b o : Nat} {U W : World} (h : KeptT T U W) (v : Value) (hb : T b) : KeptT T U (W.setCell ⟨b, o, none⟩ v) := ⟨Nat.le_trans h.size (Nat.le_of_eq (Mem.set_size _ _ _).symm), fun i hi hn => (Mem.set_other _ _ _ _ (fun e => hn (by cases e; exact hb))).trans (h.block i hi hn)⟩
theorem blk_lt' {W : World} {k : Nat} {o : Obj} (h : W.heap[k]? = some o) : k < W.heap.size := (Array.getElem?_eq_some_iff.1 h).1
theorem KeptT.cells {T : Nat → Prop} {k : Nat} {U W : World} {o : Obj} (h : KeptT T U W) (hu : U.heap[k]? = some o) (hn : ¬ T k) : W.heap[k]? = some o := (h.block k (blk_lt' hu) hn).trans hu
/-- What a loop keeps beside its own cells. -/
def LK (T : Nat → Prop) (n0 : Nat) (Wb U W : World) : Prop := KeptT T U W ∧ Below n0 Wb W
theorem LK_own {β : Type} {T : Nat → Prop} {n0 : Nat} {Wb U : World} (h1 : n0 ≤ Wb.heap.size) (h2 : n0 ≤ U.heap.size) : OwnFrom U.heap.size (fun (_ : β) W => LK T n0 Wb U W) := fun s X Y row hs hg hr =>
  ⟨⟨Nat.le_trans hs.1.size hg.size, fun i hi hn => (hg.block i (Nat.lt_of_lt_of_le hi hs.1.size) (fun e' => by have := (hr i e'.symm).1; omega)).trans (hs.1.block i hi hn)⟩, ownFrom_below h1 h2 () X Y row hs.2 hg hr⟩
theorem cells_own {β : Type} (B : Nat) (t : TypeId) (f : β → Array Value) : Own (fun s W => W.heap[B]? = some (.cells (f s) t (0, 0))) := fun s X Y row hs hg hrow =>
  (hg.block B (blk_lt' hs) (fun e' => by obtain ⟨o, ho, hc⟩ := hrow B e'.symm; rw [hs] at ho; cases ho; cases hc)).trans hs
def maxD (l : List (Nat × S27)) : Nat := l.foldl (fun m p => max m (p.1 + 1)) 0
theorem maxD_snoc (l : List (Nat × S27)) (p : Nat × S27) : maxD (l ++ [p]) = max (maxD l) (p.1 + 1) := by simp [maxD]
set_option maxHeartbeats 8000000 in
set_option maxRecDepth 100000 in
theorem depth_calls (w : World) (x : S27) (A4 : Option Addr) (c4 : Nat) (A5 : Option Addr) (c5 : Nat) (hd : szT x ≤ 1099511627776)
    (hT : TK w w.heap.size x [.int .i64 x.f0.f0, .int .i64 x.f0.f1, .string x.f1, .string x.f2, .slice A4 x.f3.length c4, .slice A5 x.f4.length c5]) :
    Calls Try.prog 33 #[.agg #[.int .i64 x.f0.f0, .int .i64 x.f0.f1, .string x.f1, .string x.f2, .slice A4 x.f3.length c4, .slice A5 x.f4.length c5]] w fun e w' => e = .returned (.int .i64 ((maxD (flatD 0 x) : Nat) : Int)) ∧ Below w.heap.size w w' := by
  have HT := Aside0.mk hT
  clear hT
  refine (callsIn_wide (n := 3)).1 ?_
  refine callsIn_of_wp_marks Try.func33 rfl trivial ?_ rfl
  simp only [Try.ntmps33, List.size_toArray, List.length_cons, List.length_nil, Nat.reduceAdd, Nat.reduceSub, Array.replicate_succ, Array.replicate_zero, List.push_toArray, List.append_toArray, List.nil_append, List.cons_append]
  gi_wp2_with (fail)
  refine ⟨trivial, ?_⟩
  refine (callsIn_wide.2 (nodes_calls _ _ _ _ _ _ _)).mono ?_
  rintro e w1 ⟨rfl, rfl⟩
  gi_wp2_with (fail)
  have hBU : Below w.heap.size w (((w.alloc (.cells #[.int .i64 x.f0.f0, .int .i64 x.f0.f1, .string x.f1, .string x.f2, .slice A4 x.f3.length c4, .slice A5 x.f4.length c5] 27)).alloc (.cells #[.int .i64 0] 3)).alloc (.cells #[.int .i64 x.f0.f0, .int .i64 x.f0.f1, .string x.f1, .string x.f2, .slice A4 x.f3.length c4, .slice A5 x.f4.length c5] 27)) := below_alloc (below_alloc (below_alloc (Below.refl _ _) _) _) _
  have hB3 : (((w.alloc (.cells #[.int .i64 x.f0.f0, .int .i64 x.f0.f1, .string x.f1, .string x.f2, .slice A4 x.f3.length c4, .slice A5 x.f4.length c5] 27)).alloc (.cells #[.int .i64 0] 3)).alloc (.cells #[.int .i64 x.f0.f0, .int .i64 x.f0.f1, .string x.f1, .string x.f2, .slice A4 x.f3.length c4, .slice A5 x.f4.length c5] 27)).heap[w.heap.size + 1]? = some (.cells #[.int .i64 0] 3 (0, 0)) := Mem.alloc_old (Mem.alloc_new_at _ _ _ (by rw [Mem.alloc_size])) _
  have hBX : (((w.alloc (.cells #[.int .i64 x.f0.f0, .int .i64 x.f0.f1, .string x.f1, .string x.f2, .slice A4 x.f3.length c4, .slice A5 x.f4.length c5] 27)).alloc (.cells #[.int .i64 0] 3)).alloc (.cells #[.int .i64 x.f0.f0, .int .i64 x.f0.f1, .string x.f1, .string x.f2, .slice A4 x.f3.length c4, .slice A5 x.f4.length c5] 27)).heap[w.heap.size + 1 + 1]? = some (.cells #[.int .i64 x.f0.f0, .int .i64 x.f0.f1, .string x.f1, .string x.f2, .slice A4 x.f3.length c4, .slice A5 x.f4.length c5] 27 (0, 0)) := Mem.alloc_new_at _ _ _ (by rw [Mem.alloc_size, Mem.alloc_size])
  generalize ((w.alloc (.cells #[.int .i64 x.f0.f0, .int .i64 x.f0.f1, .string x.f1, .string x.f2, .slice A4 x.f3.length c4, .slice A5 x.f4.length c5] 27)).alloc (.cells #[.int .i64 0] 3)).alloc (.cells #[.int .i64 x.f0.f0, .int .i64 x.f0.f1, .string x.f1, .string x.f2, .slice A4 x.f3.length c4, .slice A5 x.f4.length c5] 27) = U at *
  refine wpIn_rangeFunc_ownH (F := Fence.wide) (n := 3) rfl (by decide) (gf := 65) (lb := #[.pointer (some ⟨w.heap.size + 1 + 1, 0, none⟩)]) rfl trivial (enters_of Try.func65 (by kernel_rfl) rfl)
    (nodes_stops (T := fun _ => False) hd HT.out (fun i hi => hBU.block i hi) hBU.size (fun _ h => h.elim) hBX) Kw.trans (fun W l o o' hl h1 h2 _ => Kw.put W l o o' (Nat.le_trans hBU.size hl) h1 h2) (Below.refl _ _) (fun _ => rfl)
    (fun pre W => W.heap[w.heap.size + 1]? = some (.cells #[.int .i64 ((maxD (pre.map pl) : Nat) : Int)] 3 (0, 0)) ∧ LK (fun i => i = w.heap.size + 1) w.heap.size w U W)
    (fun _ _ _ => False)
    (OwnFrom.and (Own.from (cells_own _ 3 (fun (pre : List (Nd w w.heap.size)) => #[.int .i64 ((maxD (pre.map pl) : Nat) : Int)])) _) (LK_own (Nat.le_refl _) hBU.size))
    (fun _ _ _ _ _ hs _ _ => hs)
    ⟨hB3, KeptT.refl _ _, hBU⟩
    (fun y a' _ => a' = { tmps := #[.agg #[.int .i64 x.f0.f0, .int .i64 x.f0.f1, .string x.f1, .string x.f2, .slice A4 x.f3.length c4, .slice A5 x.f4.length c5], .pointer (some ⟨w.heap.size, 0, none⟩), .int .i64 0, .pointer (some ⟨w.heap.size + 1, 0, none⟩), .int .i64 (y.d : Int), .agg #[.int .i64 x.f0.f0, .int .i64 x.f0.f1, .string x.f1, .string x.f2, .slice A4 x.f3.length c4, .slice A5 x.f4.length c5], .func (.func 65) #[] #[.pointer (some ⟨w.heap.size + 1 + 1, 0, none⟩)], .int .i64 (y.d : Int), .agg y.cs.toArray, undef, undef, undef, undef, undef], defers := [] })
    (fun y a' _ X Y row hs hg hr => hs)
    ?assign ?body ?done ?stop
  case assign =>
    rintro l pre y W K hI hK
    dsimp only [encN]
    gi_wp2
    exact hK _ _ ((KeepsOthers.refl _).from _) (Kw.refl _ _ _) hI rfl
  case body =>
    rintro l pre y a' W hl ⟨r, hr⟩ ⟨h3, hK, hB⟩ rfl hlt
    have hyd := y.hd
    have c3 := Mem.cell_of h3 0
    have f3 := Mem.free_of h3 0
    have hw_ := wrap_next (d := y.d) (m := 0) hyd
    have HI := Aside0.mk (And.intro h3 (And.intro hK hB))
    clear h3 hK hB hr hyd
    gi_wp2_with (fail)
    all_goals
      refine ⟨(KeepsOthers.setCell _ _ _).from _, Kw.box HI.out.1 (by decide) _ (Nat.le_succ _), ?_, HI.out.2.1.set _ rfl, HI.out.2.2.setCell (p := ⟨w.heap.size + 1, 0, none⟩) (Nat.le_succ _) _⟩
      rw [Mem.set_heap HI.out.1 0 _, List.map_append, List.map_singleton, maxD_snoc]
      refine congrArg (fun z => some (Obj.cells #[Value.int .i64 z] 3 (0, 0))) ?_
      show _ = ((max (maxD (pre.map pl)) (y.d + 1) : Nat) : Int)
      omega
  case done =>
    rintro D ys W hD hys ⟨h3, hK, hB⟩ hKD
    have c3 := Mem.cell_of h3 0
    rw [hys] at c3
    clear hys
    gi_wp2
    refine ⟨by simp, .inl ⟨_, _, rfl, run_takeDeferred hKD, ?_⟩⟩
    exact ⟨_, results_tmp rfl _ _ _, rfl, hB.trans (belowK_b (w := U) hBU.size W D _ _ hD hKD rfl rfl)⟩
  case stop =>
    rintro D c pre W _ _ h _
    exact h.elim
section
variable {P : Program} {ops : Array Oper} {rest : List Oper} {o : Oper} {a : Act} {Q : Exit → Act → World → Prop} {α : Type} {F : Fence} {nF : Nat}
/-- An append to a row of one's own, inside a fence. -/
theorem R_append_in (d : Kd α) {W : World} (base : Nat) (hgd : o.guard = none) (s x : Operand) (t e : TypeId) (z : Value) (bytes : Nat)
    (ho : o.op = .call { callee := .builtin .append, args := #[s, x], argTypes := #[t, t] })
    (ht : P.underlying t = some (.slice e)) (hinfo : (P.info? e).map (fun i => (i.zero, i.size, i.bytes)) = some (some z, d.sz, bytes)) (hz : z.cells.size = d.sz) (hs0 : 0 < d.sz) (hb0 : 0 < bytes)
    (v : Value) (xs : List α) (p : α) (cs : List Value) (ok okp : Nat → Prop) (hs : a.eval s = v) (hx : a.eval x = .slice (some ⟨W.heap.size, 0, none⟩) 1 1) (hp : d.M W base okp p cs) (hokp : ∀ k, okp k → ok k ∧ some k ≠ v.ownBlock) (hfresh : ∀ k, W.heap.size ≤ k → ok k)
    (HO : d.R e W base ok v xs) (hbase : base ≤ W.heap.size) (hl : (xs.length + 1) * bytes ≤ 140737488355328)
    (h : ∀ v1 w1, d.R e w1 base ok v1 (xs ++ [p]) → W.grownBy w1 v.ownBlock → wpListIn F nF P ops Q rest (a.put o.dst v1) w1) :
    wpListIn F nF P ops Q (o :: rest) a (W.alloc (.cells cs.toArray e)) := by
  obtain ⟨h0, inner, hown, hr⟩ := HO
  obtain ⟨i0, hi, hzz⟩ := Option.map_eq_some_iff.1 hinfo
  simp only [Prod.mk.injEq] at hzz
  obtain ⟨hz0, hz1, hz2⟩ := hzz
  have hlen : xs.length + 1 ≤ 140737488355328 := Nat.le_trans (Nat.le_mul_of_pos_right _ hb0) hl
  have hys := d.K_len (d.K_of_M hp)
  refine Go.wpListIn_append_own_at (w := W.alloc (.cells cs.toArray e)) hgd s x t ho base e i0 z d.sz bytes ht hi hz0 hz1 hz2 hz hs0 v xs.length inner hs (hown.alloc _) ⟨W.heap.size, 0, none⟩ 1 1 cs hx (by rw [hys]; simp)
    (by simpa using World.news_of_block (cs := cs.toArray) (t := e) (fr := (0, 0)) (heap_alloc_new W (.cells cs.toArray e))) (d.K_one (d.K_of_M hp)) (by simp only [maxLen]; omega) hl (by simp; omega) ?_
  intro v1 w1 hown1 hg _ hat
  have hg1 := World.grownBy.trans (World.grownBy_alloc W _ _) hg
  refine h v1 w1 (Kd.R_appended h0 hr hp hokp hfresh hown1 hg1 ?_) hg1
  rcases hat with hat | hat
  · exact .inl hat
  · exact .inr ⟨_, hat, by simp⟩
end
def keysP (l : List (Nat × S27)) : List S23 := l.map fun p => p.2.f0
theorem R_of_own_grown {α : Type} {d : Kd α} {e B : Nat} {base : Nat} {X Y : World} {v : Value} {xs : List α} {row : Option Nat} (h : d.R e X base (fun _ => True) v xs) (hg : X.grownBy Y row) (hr : ∀ r, row = some r → B ≤ r ∧ ∃ o : Obj, X.heap[r]? = some o ∧ o.isCells = false) : d.R e Y base (fun _ => True) v xs :=
  Kd.R_mono (Kd.R_grown (Kd.R_bound h) hg (fun k hk e' => by obtain ⟨_, _, _, q, _, cells, hc⟩ := hk; obtain ⟨_, o, ho, hn⟩ := hr k e'.symm; rw [hc] at ho; cases ho; cases hn)) (fun _ _ => trivial)
/-- Between two rounds: the keys that have come. -/
def KeysI (w0 : World) (n0 b3 : Nat) (Wb U : World) (pre : List (Nd w0 n0)) (W : World) : Prop :=
  (∃ v, W.heap[b3]? = some (.cells #[v] 48 (0, 0)) ∧ k23.R 23 W U.heap.size (fun _ => True) v (keysP (pre.map pl))) ∧ LK (fun i => i = b3) Wb.heap.size Wb U W
theorem KeysI_own {w0 : World} {n0 b3 : Nat} {Wb U : World} (h2 : Wb.heap.size ≤ U.heap.size) : OwnFrom U.heap.size (KeysI w0 n0 b3 Wb U) := fun s X Y row hs hg hr => by
  obtain ⟨⟨v, hb, hR⟩, hL⟩ := hs
  exact ⟨⟨v, (Own.from (cells_own b3 48 (fun (_ : Unit) => #[v])) U.heap.size) () X Y row hb hg hr, R_of_own_grown hR hg hr⟩, LK_own (β := Unit) (Nat.le_refl _) h2 () X Y row hL hg hr⟩
theorem LK.grown {T : Nat → Prop} {n0 : Nat} {Wb U W W' : World} {row : Option Nat} (h : LK T n0 Wb U W) (hg : W.grownBy W' row) (hr : ∀ k, row = some k → U.heap.size ≤ k) (hn : n0 ≤ U.heap.size) : LK T n0 Wb U W' :=
  ⟨⟨Nat.le_trans h.1.size hg.size, fun i hi hT => (hg.block i (Nat.lt_of_lt_of_le hi h.1.size) (fun e => by have := hr i e.symm; omega)).trans (h.1.block i hi hT)⟩, h.2.grown hg (Nat.le_trans hn h.1.size) (fun k e => Nat.le_trans hn (hr k e))⟩
theorem LK.on {T : Nat → Prop} {n0 : Nat} {Wb U W W' : World} (h : LK T n0 Wb U W) (hb : Below W.heap.size W W') (hn : n0 ≤ U.heap.size) : LK T n0 Wb U W' := ⟨h.1.on hb, h.2.trans (hb.mono (Nat.le_trans hn h.1.size))⟩
theorem LK.set {T : Nat → Prop} {n0 b o : Nat} {Wb U W : World} (h : LK T n0 Wb U W) (v : Value) (hT : T b) (hn : n0 ≤ b) : LK T n0 Wb U (W.setCell ⟨b, o, none⟩ v) := ⟨h.1.set v hT, h.2.setCell (p := ⟨b, o, none⟩) hn _⟩
set_option maxHeartbeats 8000000 in
set_option maxRecDepth 100000 in
theorem keys_calls (w : World) (x : S27) (A4 : Option Addr) (c4 : Nat) (A5 : Option Addr) (c5 : Nat) (hd : szT x ≤ 1099511627776)
    (hT : TK w w.heap.size x [.int .i64 x.f0.f0, .int .i64 x.f0.f1, .string x.f1, .string x.f2, .slice A4 x.f3.length c4, .slice A5 x.f4.length c5]) :
    Calls Try.prog 22 #[.agg #[.int .i64 x.f0.f0, .int .i64 x.f0.f1, .string x.f1, .string x.f2, .slice A4 x.f3.length c4, .slice A5 x.f4.length c5]] w fun e w' => ∃ v, e = .returned v ∧ k23.R 23 w' w.heap.size (fun _ => True) v (keysP (flatD 0 x)) ∧ Below w.heap.size w w' := by
  have HT := Aside0.mk hT
  clear hT
  refine (callsIn_wide (n := 3)).1 ?_
  refine callsIn_of_wp_marks Try.func22 rfl trivial ?_ rfl
  simp only [Try.ntmps22, List.size_toArray, List.length_cons, List.length_nil, Nat.reduceAdd, Nat.reduceSub, Array.replicate_succ, Array.replicate_zero, List.push_toArray, List.append_toArray, List.nil_append, List.cons_append]
  gi_wp2_with (fail)
  refine ⟨trivial, ?_⟩
  refine (callsIn_wide.2 (nodes_calls _ _ _ _ _ _ _)).mono ?_
  rintro e w1 ⟨rfl, rfl⟩
  gi_wp2_with (fail)
  have hBU : Below w.heap.size w (((w.alloc (.cells #[.int .i64 x.f0.f0, .int .i64 x.f0.f1, .string x.f1, .string x.f2, .slice A4 x.f3.length c4, .slice A5 x.f4.length c5] 27)).alloc (.cells #[.slice none 0 0] 48)).alloc (.cells #[.int .i64 x.f0.f0, .int .i64 x.f0.f1, .string x.f1, .string x.f2, .slice A4 x.f3.length c4, .slice A5 x.f4.length c5] 27)) := below_alloc (below_alloc (below_alloc (Below.refl _ _) _) _) _
  have hB3 : (((w.alloc (.cells #[.int .i64 x.f0.f0, .int .i64 x.f0.f1, .string x.f1, .string x.f2, .slice A4 x.f3.length c4, .slice A5 x.f4.length c5] 27)).alloc (.cells #[.slice none 0 0] 48)).alloc (.cells #[.int .i64 x.f0.f0, .int .i64 x.f0.f1, .string x.f1, .string x.f2, .slice A4 x.f3.length c4, .slice A5 x.f4.length c5] 27)).heap[w.heap.size + 1]? = some (.cells #[.slice none 0 0] 48 (0, 0)) := Mem.alloc_old (Mem.alloc_new_at _ _ _ (by rw [Mem.alloc_size])) _
  have hBX : (((w.alloc (.cells #[.int .i64 x.f0.f0, .int .i64 x.f0.f1, .string x.f1, .string x.f2, .slice A4 x.f3.length c4, .slice A5 x.f4.length c5] 27)).alloc (.cells #[.slice none 0 0] 48)).alloc (.cells #[.int .i64 x.f0.f0, .int .i64 x.f0.f1, .string x.f1, .string x.f2, .slice A4 x.f3.length c4, .slice A5 x.f4.length c5] 27)).heap[w.heap.size + 1 + 1]? = some (.cells #[.int .i64 x.f0.f0, .int .i64 x.f0.f1, .string x.f1, .string x.f2, .slice A4 x.f3.length c4, .slice A5 x.f4.length c5] 27 (0, 0)) := Mem.alloc_new_at _ _ _ (by rw [Mem.alloc_size, Mem.alloc_size])
  generalize ((w.alloc (.cells #[.int .i64 x.f0.f0, .int .i64 x.f0.f1, .string x.f1, .string x.f2, .slice A4 x.f3.length c4, .slice A5 x.f4.length c5] 27)).alloc (.cells #[.slice none 0 0] 48)).alloc (.cells #[.int .i64 x.f0.f0, .int .i64 x.f0.f1, .string x.f1, .string x.f2, .slice A4 x.f3.length c4, .slice A5 x.f4.length c5] 27) = U at *
  refine wpIn_rangeFunc_ownH (F := Fence.wide) (n := 3) rfl (by decide) (gf := 65) (lb := #[.pointer (some ⟨w.heap.size + 1 + 1, 0, none⟩)]) rfl trivial (enters_of Try.func65 (by kernel_rfl) rfl)
    (nodes_stops (T := fun _ => False) hd HT.out (fun i hi => hBU.block i hi) hBU.size (fun _ h => h.elim) hBX) Kw.trans (fun W l o o' hl h1 h2 _ => Kw.put W l o o' (Nat.le_trans hBU.size hl) h1 h2) (Below.refl _ _) (fun _ => rfl)
    (KeysI w w.heap.size (w.heap.size + 1) w U)
    (fun _ _ _ => False)
    (KeysI_own hBU.size)
    (fun _ _ _ _ _ hs _ _ => hs)
    ⟨⟨_, hB3, Kd.R_nil _ _ _ _ _⟩, KeptT.refl _ _, hBU⟩
    (fun y a' Wr => ∃ Bx, U.heap.size ≤ Bx ∧ Wr.heap[Bx]? = some (.cells y.cs.toArray 27 (0, 0)) ∧ a' = { tmps := #[.agg #[.int .i64 x.f0.f0, .int .i64 x.f0.f1, .string x.f1, .string x.f2, .slice A4 x.f3.length c4, .slice A5 x.f4.length c5], .pointer (some ⟨w.heap.size, 0, none⟩), .slice none 0 0, .pointer (some ⟨w.heap.size + 1, 0, none⟩), undef, .pointer (some ⟨Bx, 0, none⟩), .agg #[.int .i64 x.f0.f0, .int .i64 x.f0.f1, .string x.f1, .string x.f2, .slice A4 x.f3.length c4, .slice A5 x.f4.length c5], .func (.func 65) #[] #[.pointer (some ⟨w.heap.size + 1 + 1, 0, none⟩)], .int .i64 (y.d : Int), .agg y.cs.toArray, undef, undef, undef, undef, undef, undef], defers := [] })
    (fun y a' _ X Y row hs hg hr => by obtain ⟨Bx, h1, h2, h3⟩ := hs; exact ⟨Bx, h1, cells_own Bx 27 (fun (_ : Unit) => y.cs.toArray) () X Y row h2 hg (fun r e => (hr r e).2), h3⟩)
    ?assign ?body ?done ?stop
  case assign =>
    rintro l pre ⟨yd, y, ycs, yok, yhd⟩ W K hI hK
    obtain ⟨B4, e4, B5, e5, rfl, _⟩ := yok.open
    dsimp only [encN]
    gi_wp2
    have hbl : Below W.heap.size W (W.alloc (.cells #[.int .i64 y.f0.f0, .int .i64 y.f0.f1, .string y.f1, .string y.f2, .slice B4 y.f3.length e4, .slice B5 y.f4.length e5] 27)) := below_alloc (Below.refl _ _) _
    obtain ⟨⟨v, hv, hR⟩, hL⟩ := hI
    exact hK _ _ ((KeepsOthers.alloc _ _).from _) (Kw.below hbl hL.2.size) ⟨⟨v, Mem.alloc_old hv _, Kd.R_below hR hbl⟩, hL.on hbl hBU.size⟩ ⟨W.heap.size, hL.1.size, Mem.alloc_new _ _, rfl⟩
  case body =>
    rintro l pre ⟨yd, y, ycs, yok, yhd⟩ a' W hl ⟨r, hr⟩ ⟨⟨v, hv, hR⟩, hL⟩ ⟨Bx, hBx, bX, rfl⟩ hlt
    obtain ⟨B4, e4, B5, e5, rfl, _⟩ := yok.open
    have c3 := Mem.cell_of hv 0
    have x0 := Mem.cell_of bX 0
    have x1 := Mem.cell_of bX 1
    have HL := Aside0.mk hL
    have HV := Aside0.mk hv
    have HR := Aside0.mk hR
    clear hL hv bX hr
    gi_wp2_with (gi_at_builtin; refine R_append_in k23 (W := W) U.heap.size rfl _ _ 48 23 _ 16 rfl Try.underlying48 info23 rfl (by decide) (by decide) v (keysP (pre.map pl)) y.f0 [.int .i64 y.f0.f0, .int .i64 y.f0.f1] (fun _ => True) (fun _ => False) rfl rfl (k23_mkM _ _ _ _) (fun _ h => h.elim) (fun _ _ => trivial) HR.out HL.out.1.size ?len ?_; (case len => unfold keysP; rw [List.length_map, List.length_map]; omega); intro v1 w1 hR1 hg1; obtain ⟨A1, c1, rfl⟩ := Kd.R_slice hR1; have HR1 := Aside0.mk hR1; have HG1 := Aside0.mk hg1; have HV1 : Aside0 (w1.heap[w.heap.size + 1]? = some (.cells #[v] 48 (0, 0))) := ⟨(hg1.block _ (blk_lt' HV.out) (Kd.R_ne HR.out HV.out (by decide))).trans HV.out⟩; clear hR1 hg1 c3 x0 x1; have c3 := Mem.cell_of HV1.out 0; have f3 := Mem.free_of HV1.out 0)
    have hty := Kd.R_typed HR.out
    have hba := Kd.R_base HR.out
    refine ⟨((KeepsOthers.of_grownBy HG1.out (fun j o e ho => by obtain ⟨c_, hc_⟩ := hty j e; rw [hc_] at ho; cases ho; rfl)).trans (KeepsOthers.setCell _ _ _)).from _,
      (Kw.grown HG1.out (fun k e => ⟨Nat.le_trans hBU.size (hba k e), fun c_ fr_ hc_ => by obtain ⟨c2_, h2_⟩ := hty k e; rw [h2_] at hc_; cases hc_⟩) HL.out.2.size).trans (Kw.box HV1.out (by decide) _ (Nat.le_succ _)),
      ⟨_, Mem.set_heap HV1.out 0 _, ?_⟩, (HL.out.grown HG1.out hba hBU.size).set _ rfl (Nat.le_succ _)⟩
    rw [List.map_append]
    have hk : keysP (pre.map pl ++ [pl (⟨yd, y, _, yok, yhd⟩ : Nd w w.heap.size)]) = keysP (pre.map pl) ++ [y.f0] := by unfold keysP; rw [List.map_append]; rfl
    rw [List.map_singleton, hk]
    have h_ := Kd.R_set HR1.out HV1.out (by decide) 0 (.slice A1 ((keysP (pre.map pl)).length + 1) c1)
    rw [List.length_append] at h_
    exact h_
  case done =>
    rintro D ys W hD hys ⟨⟨v, hv, hR⟩, hL⟩ hKD
    have c3 := Mem.cell_of hv 0
    rw [hys] at hR
    clear hys
    gi_wp2
    refine ⟨by simp, .inl ⟨_, _, rfl, run_takeDeferred hKD, ?_⟩⟩
    exact ⟨_, results_tmp rfl _ _ _, v, rfl, Kd.R_lower (Kd.R_mono (Kd.R_move (Kd.R_bound hR) (fun k hk => World.putObj_heap_other (by rintro rfl; obtain ⟨_, _, _, q, _, cells, hc⟩ := hk; rw [hKD] at hc; cases hc))) (fun _ _ => trivial)) hBU.size, hL.2.trans (belowK_b (w := U) hBU.size W D _ _ hD hKD rfl rfl)⟩
  case stop =>
    rintro D c pre W _ _ h _
    exact h.elim
end Go.Proofs.Ytnkbgimihikhoaa.PVt
namespace Go.Proofs.Ytnkbgimihikhoaa.PVt
open Go.RowKit Go.Proofs.YtnkbgimihikhoaaW.PrintWords Go.Proofs.YtnkbgimihikhoaaW.PrintLast Go.Proofs.YtnkbgimihikhoaaW.PrintMore
set_option linter.unusedVariables false
def okB (c : Int) : Bool := decide (97 ≤ c ∧ c ≤ 122) || (decide (48 ≤ c ∧ c ≤ 57) || decide (c = 45))
/-- Do n bytes from i on stand in a name? -/
def okFrom (s : ByteArray) : Nat → Nat → Bool
  | 0, _ => true
  | n + 1, i => okB (bt s (i : Int)) && okFrom s n (i + 1)
def nameP (s : ByteArray) : Bool := decide (0 < s.size ∧ s.size ≤ 32) && (decide (97 ≤ bt s 0 ∧ bt s 0 ≤ 122) && okFrom s s.size 0)
theorem okFrom_succ (s : ByteArray) (n i : Nat) : okFrom s (n + 1) i = (okB (bt s (i : Int)) && okFrom s n (i + 1)) := rfl
theorem okB_t {c : Int} (h : (97 ≤ c ∧ c ≤ 122) ∨ (48 ≤ c ∧ c ≤ 57) ∨ c = 45) : okB c = true := by unfold okB; rcases h with h | h | h <;> simp [h]
theorem okB_f {c : Int} (h : ¬ ((97 ≤ c ∧ c ≤ 122) ∨ (48 ≤ c ∧ c ≤ 57) ∨ c = 45)) : okB c = false := by
  unfold okB
  rw [decide_eq_false (fun h1 => h (.inl h1)), decide_eq_false (fun h1 => h (.inr (.inl h1))), decide_eq_false (fun h1 => h (.inr (.inr h1)))]; rfl
theorem name_l (s : ByteArray) (hs : s.size ≤ 32) : ∀ (n i k : Nat), i + n = s.size → n + 1 ≤ k → change_Name.l0 k s (s.size : Int) (i : Int) = some (okFrom s n i)
  | 0, i, 0, h, hk => by omega
  | 0, i, k + 1, h, hk => by
    simp only [change_Name.l0]
    rw [if_neg (by omega)]
    rfl
  | n + 1, i, 0, h, hk => by omega
  | n + 1, i, k + 1, h, hk => by
    have go := name_l s hs n (i + 1) k (by omega) (by omega)
    have hw : wrap64 ((i : Int) + 1) = ((i + 1 : Nat) : Int) := by unfold wrap64; omega
    simp only [change_Name.l0]
    rw [if_pos (by omega), if_pos (by omega), if_pos (by omega), hw, go]
    rw [okFrom_succ]
    by_cases h1 : bt s (i : Int) < 97
    · rw [if_pos h1]
      by_cases h2 : bt s (i : Int) < 48
      · rw [if_pos h2]
        by_cases h3 : bt s (i : Int) = 45
        · rw [if_pos h3, okB_t (by omega), Bool.true_and]
        · rw [if_neg h3, okB_f (by omega), Bool.false_and]
      · rw [if_neg h2]
        by_cases h3 : bt s (i : Int) > 57
        · rw [if_pos h3, if_neg (by omega), okB_f (by omega), Bool.false_and]
        · rw [if_neg h3, okB_t (by omega), Bool.true_and]
    · rw [if_neg h1]
      by_cases h2 : bt s (i : Int) > 122
      · rw [if_pos h2, if_neg (by omega), if_pos (by omega), if_neg (by omega), okB_f (by omega), Bool.false_and]
      · rw [if_neg h2, okB_t (by omega), Bool.true_and]
theorem name_f (s : ByteArray) (k : Nat) (hk : 35 ≤ k) : change_Name.f k s = some (nameP s) := by
  obtain ⟨k, rfl⟩ : ∃ j, k = j + 1 := ⟨k - 1, by omega⟩
  unfold change_Name.f nameP
  simp only [change_Name.j0]
  by_cases h1 : s.size = 0
  · rw [if_pos (by omega), if_pos trivial, show decide (0 < s.size ∧ s.size ≤ 32) = false from decide_eq_false (by omega)]; rfl
  · rw [if_neg (by omega)]
    by_cases h2 : 32 < s.size
    · rw [if_pos (by omega), if_pos trivial, show decide (0 < s.size ∧ s.size ≤ 32) = false from decide_eq_false (by omega)]; rfl
    · rw [if_neg (by omega), if_pos (by omega), show decide (0 < s.size ∧ s.size ≤ 32) = true from decide_eq_true (by omega)]
      by_cases h3 : bt s 0 < 97
      · rw [if_pos h3, if_pos trivial, show decide (97 ≤ bt s 0 ∧ bt s 0 ≤ 122) = false from decide_eq_false (by omega)]; rfl
      · rw [if_neg h3]
        by_cases h4 : bt s 0 > 122
        · rw [show decide (bt s 0 > 122) = true from decide_eq_true h4, if_pos rfl, show decide (97 ≤ bt s 0 ∧ bt s 0 ≤ 122) = false from decide_eq_false (by omega)]; rfl
        · rw [show decide (bt s 0 > 122) = false from decide_eq_false h4, if_neg (by simp), show decide (97 ≤ bt s 0 ∧ bt s 0 ≤ 122) = true from decide_eq_true (by omega)]
          have h := name_l s (by omega) s.size 0 k (by omega) (by omega)
          rw [show ((0 : Nat) : Int) = 0 from rfl] at h
          rw [h]; rfl
/-- Why a node's attributes from i on are not right. -/
def attrsFrom (l : List S99) : Nat → Nat → Int
  | 0, _ => 0
  | n + 1, i => if nameP (l.getD i z99).f0 = true then (if (l.getD i z99).f1.size > 256 then 3 else if 0 < i ∧ ¬ Op.bytesLess (l.getD (i - 1) z99).f0.toList (l.getD i z99).f0.toList = true then 2 else attrsFrom l n (i + 1)) else 8
/-- Why a node's own fields are not right. -/
def nodeP (x : S27) : Int := if nameP x.f1 = true then (if x.f2.size > 256 then 3 else if x.f3.length > 4096 then 3 else attrsFrom x.f3 x.f3.length 0) else 8
theorem rd99 (l : List S99) (i : Nat) : rd_T99 l (i : Int) = l.getD i z99 := by unfold rd_T99; rw [Int.toNat_natCast]
end Go.Proofs.Ytnkbgimihikhoaa.PVt
namespace Go.Proofs.Ytnkbgimihikhoaa.PVt
open Go.RowKit Go.Proofs.YtnkbgimihikhoaaW.PrintWords Go.Proofs.YtnkbgimihikhoaaW.PrintLast Go.Proofs.YtnkbgimihikhoaaW.PrintMore
set_option linter.unusedVariables false
set_option linter.unusedSimpArgs false
theorem drawn_below {w w' : World} (h : Drawn0 w w') : Below w.heap.size w w' := by
  obtain ⟨n, rfl⟩ := h
  exact pw_below_drewN (Below.refl _ _) n
theorem name_calls (w : World) (s : ByteArray) : Calls Try.prog 67 #[.string s] w fun e w' => e = .returned (.bool (nameP s)) ∧ Below w.heap.size w w' :=
  (change_Name.calls 35 s (nameP s) w (name_f s 35 (Nat.le_refl _))).mono fun e w' ⟨h1, h2⟩ => ⟨h1, drawn_below h2⟩
theorem next_kid {k n : Nat} (h : k < n) (hn : n ≤ 4096) : wrap64 ((k : Int) + 1) = ((k + 1 : Nat) : Int) := by unfold wrap64; omega
theorem dec_kid {i q : Nat} (h : i < q) (hw : wrap64 ((i : Int) + 1) = ((i + 1 : Nat) : Int)) : q - (intOf (Value.int .i64 (wrap64 ((i : Int) + 1)))).toNat < q - (intOf (Value.int .i64 (i : Int))).toNat := by
  rw [hw]
  show q - (((i + 1 : Nat) : Int)).toNat < q - (i : Int).toNat
  omega
theorem wrap_pred {k n : Nat} (h0 : 0 < k) (h1 : k < n) (h2 : ¬ 4096 < n) : IntKind.i64.wrap ((k : Int) - 1) = ((k - 1 : Nat) : Int) := by rw [IntWalk.i64_in _ (by omega)]; omega
theorem ret_eq {v : Value} {r : Int} (h : v = .int .i64 r) : Ending.returned v = .returned (.int .i64 r) := by rw [h]
set_option maxHeartbeats 8000000 in
set_option maxRecDepth 100000 in
theorem node_calls (w : World) (x : S27) (A : Option Addr) (c : Nat) (v5 : Value) (hA : Kd.C k99 w A x.f3.length x.f3) :
    Calls Try.prog 44 #[.agg #[.int .i64 x.f0.f0, .int .i64 x.f0.f1, .string x.f1, .string x.f2, .slice A x.f3.length c, v5]] w fun e w' => e = .returned (.int .i64 (nodeP x)) ∧ Below w.heap.size w w' := by
  have HA := Aside0.mk hA
  have HN := Aside0.mk (name_calls (w.alloc (.cells #[.int .i64 x.f0.f0, .int .i64 x.f0.f1, .string x.f1, .string x.f2, .slice A x.f3.length c, v5] 27)) x.f1)
  clear hA
  by_cases h1 : nameP x.f1 = true
  · have HP : Aside0 (nodeP x = if x.f2.size > 256 then 3 else if x.f3.length > 4096 then 3 else attrsFrom x.f3 x.f3.length 0) := ⟨by unfold nodeP; rw [if_pos h1]⟩
    rw [h1] at HN
    clear h1
    go_enter Try.func44, Try.ntmps44
    go_wp2_with (fail)
    refine HN.out.mono ?_
    rintro e w1 ⟨rfl, hb1⟩
    have HB : Aside0 (Below w.heap.size w w1) := ⟨(below_alloc (Below.refl _ _) _).trans (hb1.mono (by rw [Mem.alloc_size]; omega))⟩
    have hx1 : Aside0 (w1.heap[w.heap.size]? = some (.cells #[.int .i64 x.f0.f0, .int .i64 x.f0.f1, .string x.f1, .string x.f2, .slice A x.f3.length c, v5] 27 (0, 0))) := ⟨(hb1.block _ (by rw [Mem.alloc_size]; omega)).trans (Mem.alloc_new _ _)⟩
    have b3 := Mem.cell_of hx1.out 3
    have b4 := Mem.cell_of hx1.out 4
    clear hb1 HN
    by_cases h2 : 256 < x.f2.size
    · rw [if_pos h2] at HP
      have e2 : ((256 : Int) < (x.f2.size : Int)) = True := eq_true (by omega)
      have e3 : (256 < x.f2.size) = True := eq_true h2
      clear h2
      go_wp2
      go_ret
      exact ⟨ret_eq (by rw [HP.out]; rfl), HB.out⟩
    · rw [if_neg h2] at HP
      have e2 : ((256 : Int) < (x.f2.size : Int)) = False := eq_false (by omega)
      have e3 : (256 < x.f2.size) = False := eq_false h2
      clear h2
      by_cases h3 : 4096 < x.f3.length
      · rw [if_pos h3] at HP
        have e4 : ((4096 : Int) < (x.f3.length : Int)) = True := eq_true (by omega)
        have e5 : (4096 < x.f3.length) = True := eq_true h3
        clear h3
        go_wp2
        go_ret
        exact ⟨ret_eq (by rw [HP.out]; rfl), HB.out⟩
      · rw [if_neg h3] at HP
        have e4 : ((4096 : Int) < (x.f3.length : Int)) = False := eq_false (by omega)
        have e5 : (4096 < x.f3.length) = False := eq_false h3
        have hlm := Aside0.mk h3
        clear h3
        go_wp2
        go_loopw [22] (fun i wr => ∃ k : Nat, i = .int .i64 (k : Int) ∧ Aside0 (k ≤ x.f3.length) ∧ Aside0 (attrsFrom x.f3 (x.f3.length - k) k = nodeP x) ∧ Aside0 (Below w1.heap.size w1 wr)) (fun i _ => x.f3.length - (intOf i).toNat)
        case atStart => exact ⟨0, rfl, ⟨Nat.zero_le _⟩, ⟨by rw [HP.out]; rfl⟩, ⟨Below.refl _ _⟩⟩
        case round =>
          obtain ⟨k, rfl, HK, HAT, HBW⟩ := hrel
          have HX2 := Aside0.mk ((HBW.out.block _ (blk_lt hx1.out)).trans hx1.out)
          by_cases hlt : k < x.f3.length
          · have HW := Aside0.mk (next_kid hlt (Nat.le_of_not_lt hlm.out))
            obtain ⟨n, hn⟩ : ∃ n, x.f3.length - k = n + 1 := ⟨x.f3.length - k - 1, by omega⟩
            have HN : Aside0 (x.f3.length - (k + 1) = n) := ⟨by omega⟩
            rw [hn] at HAT
            clear hn
            have HC := Aside0.mk (Kd.C_below HA.out (HB.out.trans (HBW.out.mono HB.out.size)))
            obtain ⟨ad, hA', x0, x1⟩ := at_T99 HC.out (k : Int) (Int.natCast_nonneg _) (Int.ofNat_lt.2 hlt)
            rw [Int.toNat_natCast, rd99] at x0 x1
            obtain ⟨y, hy⟩ : ∃ y, x.f3.getD k z99 = y := ⟨_, rfl⟩
            have HY := Aside0.mk hy
            rw [hy] at x0 x1
            obtain ⟨p, hp⟩ : ∃ p, ad.add (k * 2) = p := ⟨_, rfl⟩
            have HPA := Aside0.mk hp
            rw [hp] at x0 x1
            subst hA'
            have HNM := Aside0.mk (name_calls (wr.alloc (.cells #[.string y.f0, .string y.f1] 99)) y.f0)
            have e6 : ((k : Int) < (x.f3.length : Int)) = True := eq_true (Int.ofNat_lt.2 hlt)
            have e7 : (k < x.f3.length) = True := eq_true hlt
            have HLT := Aside0.mk hlt
            have hkn : (k : Int).toNat = k := Int.toNat_natCast k
            have hkp : (0 : Int) ≤ (k : Int) := Int.natCast_nonneg k
            have b3' := Mem.cell_of HX2.out 3
            clear hy hlt b3
            by_cases h4 : nameP y.f0 = true
            · rw [h4] at HNM
              have HA1 : Aside0 (nodeP x = if y.f1.size > 256 then 3 else if 0 < k ∧ ¬ Op.bytesLess (x.f3.getD (k - 1) z99).f0.toList y.f0.toList = true then 2 else attrsFrom x.f3 n (k + 1)) := ⟨by rw [← HAT.out]; show (if nameP (x.f3.getD k z99).f0 = true then _ else _) = _; rw [HY.out, if_pos h4]⟩
              clear h4
              go_wp2_with (fail)
              refine HNM.out.mono ?_
              rintro e w3 ⟨rfl, hb3⟩
              have HB3 : Aside0 (Below wr.heap.size wr w3) := ⟨(below_alloc (Below.refl _ _) _).trans (hb3.mono (by rw [Mem.alloc_size]; omega))⟩
              have HYB : Aside0 (w3.heap[wr.heap.size]? = some (.cells #[.string y.f0, .string y.f1] 99 (0, 0))) := ⟨(hb3.block _ (by rw [Mem.alloc_size]; omega)).trans (Mem.alloc_new _ _)⟩
              have HX3 : Aside0 (w3.heap[w.heap.size]? = some (.cells #[.int .i64 x.f0.f0, .int .i64 x.f0.f1, .string x.f1, .string x.f2, .slice (some ad) x.f3.length c, v5] 27 (0, 0))) := ⟨(HB3.out.block _ (blk_lt HX2.out)).trans HX2.out⟩
              have y0 : w3.cell? ⟨wr.heap.size, 0, none⟩ = some (.string y.f0) := Mem.cell_of HYB.out 0
              have y1 : w3.cell? ⟨wr.heap.size, 1, none⟩ = some (.string y.f1) := Mem.cell_of HYB.out 1
              have b3 : w3.cell? ⟨w.heap.size, 4, none⟩ = some (.slice (some ad) x.f3.length c) := Mem.cell_of HX3.out 4
              clear hb3 HNM x0 x1 b3' b4
              by_cases h5 : 256 < y.f1.size
              · rw [if_pos h5] at HA1
                have e8 : ((256 : Int) < (y.f1.size : Int)) = True := eq_true (by omega)
                have e9 : (256 < y.f1.size) = True := eq_true h5
                clear h5
                go_wp2
                go_ret
                exact ⟨ret_eq (by rw [HA1.out]; rfl), HB.out.trans ((HBW.out.trans (HB3.out.mono HBW.out.size)).mono HB.out.size)⟩
              · rw [if_neg h5] at HA1
                have e8 : ((256 : Int) < (y.f1.size : Int)) = False := eq_false (by omega)
                have e9 : (256 < y.f1.size) = False := eq_false h5
                clear h5
                by_cases h6 : 0 < k
                · have H6a := Aside0.mk h6
                  have e10 : ((0 : Int) < (k : Int)) = True := eq_true (by omega)
                  have e11 : (0 < k) = True := eq_true h6
                  have hw_ : wrap64 ((k : Int) - 1) = ((k - 1 : Nat) : Int) := by have h_ := HLT.out; have h2_ := hlm.out; clear e4 e5 e6 e7 e8 e9 e10 e11; unfold wrap64; omega
                  have hw3 := wrap_pred H6a.out HLT.out hlm.out
                  have HC3 := Aside0.mk (Kd.C_below HC.out HB3.out)
                  obtain ⟨ad2, hA2, z0, z1⟩ := at_T99 HC3.out ((k - 1 : Nat) : Int) (Int.natCast_nonneg _) (Int.ofNat_lt.2 (by have h_ := HLT.out; omega))
                  obtain rfl : ad = ad2 := by injection hA2
                  rw [Int.toNat_natCast, rd99] at z0 z1
                  obtain ⟨q, hq⟩ : ∃ q, ad.add ((k - 1) * 2) = q := ⟨_, rfl⟩
                  obtain ⟨u, hu⟩ : ∃ u, x.f3.getD (k - 1) z99 = u := ⟨_, rfl⟩
                  have HU := Aside0.mk hu
                  rw [hq, hu] at z0
                  rw [hu] at HA1
                  have HQ := Aside0.mk hq
                  have hk1 : ((k - 1 : Nat) : Int).toNat = k - 1 := Int.toNat_natCast _
                  have hk2 : (0 : Int) ≤ ((k - 1 : Nat) : Int) := Int.natCast_nonneg _
                  have hk3 : ((k - 1 : Nat) : Int) < (x.f3.length : Int) := Int.ofNat_lt.2 (by have h_ := HLT.out; omega)
                  clear hA2 z1
                  have H6 := Aside0.mk h6
                  clear h6
                  by_cases h7 : Op.bytesLess u.f0.toList y.f0.toList = true
                  · rw [if_neg (fun h => h.2 h7)] at HA1
                    go_wp2_with (fail)
                    go_quiet ((fail))
                    go_wp2_with (fail)
                    go_roundw
                    case rel => exact ⟨k + 1, congrArg (Value.int .i64) HW.out, ⟨HLT.out⟩, ⟨by rw [HN.out]; exact HA1.out.symm⟩, ⟨HBW.out.trans ((HB3.out.trans (pw_below_drewN (Below.refl _ _) _)).mono HBW.out.size)⟩⟩
                    case measure => exact dec_kid HLT.out HW.out
                  · rw [if_pos ⟨H6.out, h7⟩] at HA1
                    have h8 : Op.bytesLess u.f0.toList y.f0.toList = false := Bool.eq_false_iff.2 h7
                    clear h7
                    go_wp2_with (fail)
                    go_quiet ((fail))
                    go_wp2
                    go_ret
                    exact ⟨ret_eq (by rw [HA1.out]; rfl), HB.out.trans ((HBW.out.trans ((HB3.out.trans (pw_below_drewN (Below.refl _ _) _)).mono HBW.out.size)).mono HB.out.size)⟩
                · have e10 : ((0 : Int) < (k : Int)) = False := eq_false (by omega)
                  have e11 : (0 < k) = False := eq_false h6
                  rw [if_neg (fun h => h6 h.1)] at HA1
                  clear h6
                  go_wp2_with (fail)
                  go_quiet ((fail))
                  go_wp2_with (fail)
                  go_roundw
                  case rel => exact ⟨k + 1, congrArg (Value.int .i64) HW.out, ⟨HLT.out⟩, ⟨by rw [HN.out]; exact HA1.out.symm⟩, ⟨HBW.out.trans ((HB3.out.trans (pw_below_drewN (Below.refl _ _) _)).mono HBW.out.size)⟩⟩
                  case measure => exact dec_kid HLT.out HW.out
            · have HA1 : Aside0 (nodeP x = 8) := ⟨by rw [← HAT.out]; show (if nameP (x.f3.getD k z99).f0 = true then _ else _) = _; rw [HY.out, if_neg h4]⟩
              rw [Bool.eq_false_iff.2 h4] at HNM
              clear h4
              go_wp2_with (fail)
              refine HNM.out.mono ?_
              rintro e w3 ⟨rfl, hb3⟩
              have HB3 : Aside0 (Below wr.heap.size wr w3) := ⟨(below_alloc (Below.refl _ _) _).trans (hb3.mono (by rw [Mem.alloc_size]; omega))⟩
              clear hb3 HNM
              go_wp2
              go_ret
              exact ⟨ret_eq (by rw [HA1.out]; rfl), HB.out.trans ((HBW.out.trans (HB3.out.mono HBW.out.size)).mono HB.out.size)⟩
          · have e6 : ((k : Int) < (x.f3.length : Int)) = False := eq_false (by omega)
            have e7 : (k < x.f3.length) = False := eq_false hlt
            have hk : x.f3.length - k = 0 := by omega
            rw [hk] at HAT
            clear hk hlt
            go_wp2
            go_ret
            exact ⟨ret_eq (by rw [← HAT.out]; rfl), HB.out.trans (HBW.out.mono HB.out.size)⟩
  · have HP : Aside0 (nodeP x = 8) := ⟨by unfold nodeP; rw [if_neg h1]⟩
    rw [Bool.eq_false_iff.2 h1] at HN
    clear h1
    go_enter Try.func44, Try.ntmps44
    go_wp2_with (fail)
    refine HN.out.mono ?_
    rintro e w1 ⟨rfl, hb1⟩
    have HB : Aside0 (Below w.heap.size w w1) := ⟨(below_alloc (Below.refl _ _) _).trans (hb1.mono (by rw [Mem.alloc_size]; omega))⟩
    clear hb1 HN
    go_wp2
    go_ret
    exact ⟨ret_eq (by rw [HP.out]; rfl), HB.out⟩
end Go.Proofs.Ytnkbgimihikhoaa.PVt
namespace Go.Proofs.Ytnkbgimihikhoaa.PVt
open Go.RowKit Go.Proofs.YtnkbgimihikhoaaW.PrintWords Go.Proofs.YtnkbgimihikhoaaW.PrintLast Go.Proofs.YtnkbgimihikhoaaW.PrintMore
set_option linter.unusedVariables false
set_option linter.unusedSimpArgs false
def keyV (k : S23) : Value := .agg #[.int .i64 k.f0, .int .i64 k.f1]
theorem check_int (em : Bool) (n : Nat) (w : World) (a : Int) : (Instr.checkKey em (n + 1) 3 (.int .i64 a)).run Try.prog w = .ok () w := by
  unfold Instr.checkKey
  have hu := Try.underlying3
  go_simp
theorem check_key (em : Bool) (w : World) (k : S23) : (Instr.checkKey em 10000 23 (keyV k)).run Try.prog w = .ok () w := by
  unfold keyV
  rw [show (10000 : Nat) = 9999 + 1 from rfl]
  unfold Instr.checkKey
  have hu := Try.underlying23
  have h1 := fun w => check_int em 9998 w k.f0
  have h2 := fun w => check_int em 9998 w k.f1
  go_simp
theorem eqK23 (d : Nat) (w : World) (x0 y0 x1 y1 : Int) :
    (Op.equalIn (d + 2) 23 (.agg #[.int .i64 x0, .int .i64 x1]) (.agg #[.int .i64 y0, .int .i64 y1])).run Try.prog w = .ok (x0 == y0 && (x1 == y1)) w := by
  refine eqA_of Try.underlying23 (by kernel_rfl) ?_
  refine eqf_cons (by rfl) (by go_simp; rfl) (by go_simp; rfl) (by go_simp) ?_
  exact eqf_last (by rfl) (by go_simp; rfl) (by go_simp; rfl) (by go_simp)
def sameK (x y : S23) : Bool := x.f0 == y.f0 && (x.f1 == y.f1)
theorem sameK_iff {x y : S23} : sameK x y = true ↔ x = y := by
  cases x; cases y
  simp [sameK]
theorem equal_key (w : World) (x y : S23) : (Op.equal 23 (keyV x) (keyV y)).run Try.prog w = .ok (sameK x y) w :=
  eqK23 (Op.maxDepth - 2) w x.f0 y.f0 x.f1 y.f1
/-- The entries of a map: keys and how often, in the order in which they came. -/
def ents : Nat → List (S23 × Int) → List MapEntry
  | _, [] => []
  | n, (k, v) :: t => { key := keyV k, val := .int .i64 v, born := n } :: ents (n + 1) t
def findP : List (S23 × Int) → S23 → Nat → Option (Nat × Value)
  | [], _, _ => none
  | (k', v) :: t, k, i => if sameK k k' = true then some (i, .int .i64 v) else findP t k (i + 1)
theorem ask_run (w : World) (k : S23) : ∀ (l : List (S23 × Int)) (n i : Nat), (Instr.findAsking 23 (keyV k) (ents n l) i).run Try.prog w = .ok (findP l k i) w
  | [], n, i => by simp [ents, Instr.findAsking, findP, Sem.run_pure]
  | (k', v) :: t, n, i => by
    unfold ents Instr.findAsking findP
    rw [Sem.run_bind, equal_key, Result.andThen_ok]
    cases sameK k k' with
    | true => simp [Sem.run_pure]
    | false => simpa using ask_run w k t (n + 1) (i + 1)
theorem find_run (w : World) (k : S23) (l : List (S23 × Int)) : (Instr.findKey 23 (keyV k) (ents 0 l)).run Try.prog w = .ok (findP l k 0) w := by
  unfold Instr.findKey
  have hu := Try.underlying23
  cases l with
  | nil => simp [ents, Instr.findNow, findP, go_sem, hu]
  | cons a t =>
    obtain ⟨k', v⟩ := a
    have h := ask_run w k ((k', v) :: t) 0 0
    unfold ents at h ⊢
    simp only [Sem.run_bind]
    rw [show (underlying 23).run Try.prog w = .ok (TypeDesc.struct #[{ name := "Count", type := 3, offset := 0, embedded := false, tag := "", pkgPath := "", byteOffset := 0 }, { name := "Replica", type := 3, offset := 1, embedded := false, tag := "", pkgPath := "", byteOffset := 8 }]) w from by simp [go_sem, hu], Result.andThen_ok]
    simp only [Instr.findNow, Instr.sameNow, keyV]
    exact h
/-- A map of one's own: block b, with such entries. -/
def MapS (W : World) (b : Nat) (l : List (S23 × Int)) : Prop := W.heap[b]? = some (.map (ents 0 l).toArray l.length)
def valP (l : List (S23 × Int)) (k : S23) : Value := match findP l k 0 with | some (_, v) => v | none => .int .i64 0
theorem und_run (W : World) : (underlying 70).run Try.prog W = .ok (TypeDesc.map 23 3) W := by
  have hu := Try.underlying70
  simp [go_sem, hu]
theorem zero_run (W : World) : (zeroValue 3).run Try.prog W = .ok (.int .i64 0) W := by
  have hu := Try.underlying3
  go_simp
theorem get_run {W : World} {b c : Nat} {es : Array MapEntry} (h : W.heap[b]? = some (.map es c)) : (getObj b).run Try.prog W = .ok (.map es c) W := by simp [getObj, Sem.run, h]
theorem set_run {W : World} {b c : Nat} {es : Array MapEntry} {o' : Obj} (h : W.heap[b]? = some (.map es c)) : (setObj b o').run Try.prog W = .ok () (W.putObj b o') := by
  simp [setObj, Sem.run, h, World.putObj]
theorem look_run {W : World} {b : Nat} {l : List (S23 × Int)} (h : MapS W b l) (k : S23) : (Instr.lookup 70 (.map (some b)) (keyV k) false).run Try.prog W = .ok (valP l k) W := by
  have e2 := get_run h
  have hf := find_run W k l
  have hc := fun em => check_key em W k
  unfold Instr.lookup valP
  simp only [Sem.run_bind, und_run, Result.andThen_ok, e2, Sem.run_pure, hc, hf]
  cases findP l k 0 with
  | none => simp [Sem.run_bind, zero_run, Sem.run_pure, Result.andThen_ok]
  | some r => simp [Sem.run_bind, Sem.run_pure, Result.andThen_ok]
theorem ents_append (l m : List (S23 × Int)) : ∀ n, ents n (l ++ m) = ents n l ++ ents (n + l.length) m := by
  induction l with
  | nil => intro n; simp [ents]
  | cons a t ih => intro n; obtain ⟨k, v⟩ := a; simp only [List.cons_append, ents, ih (n + 1), List.length_cons]; rw [show n + 1 + t.length = n + (t.length + 1) from by omega]
theorem entry_run {W : World} {b : Nat} {l : List (S23 × Int)} (h : MapS W b l) (k : S23) (hn : findP l k 0 = none) :
    (Instr.mapEntry 70 (.map (some b)) (keyV k)).run Try.prog W = .ok (.tuple #[.int .i64 0, .int .i64 (l.length : Int)]) (W.putObj b (.map (ents 0 (l ++ [(k, 0)])).toArray (l ++ [(k, 0)]).length)) := by
  have e2 := get_run h
  have hf := find_run W k l
  rw [hn] at hf
  have hc := fun em => check_key em W k
  have hs := fun o' => set_run (o' := o') h
  unfold Instr.mapEntry
  simp only [Sem.run_bind, und_run, Result.andThen_ok, e2, Sem.run_pure, hc, hf, zero_run, hs]
  rw [ents_append]
  simp [ents, goInt]
theorem ents_born : ∀ (l : List (S23 × Int)) (n : Nat), ∀ e ∈ ents n l, e.born < n + l.length
  | [], n, e, he => by cases he
  | (k, v) :: t, n, e, he => by
    unfold ents at he
    rcases List.mem_cons.1 he with rfl | he
    · show n < n + (t.length + 1); omega
    · have := ents_born t (n + 1) e he; simp only [List.length_cons]; omega
theorem ents_length : ∀ (l : List (S23 × Int)) (n : Nat), (ents n l).length = l.length
  | [], n => rfl
  | (k, v) :: t, n => by simp [ents, ents_length t (n + 1)]
theorem modify_last_ {α : Type} {f : α → α} {a : α} : ∀ (l : List α), (l ++ [a]).modify l.length f = l ++ [f a]
  | [] => rfl
  | b :: l => by simp only [List.cons_append, List.length_cons, List.modify_succ_cons, modify_last_ l]
theorem store_run {W : World} {b : Nat} {l : List (S23 × Int)} (k : S23) (v : Int) (h : MapS W b (l ++ [(k, 0)])) :
    (Instr.entryStore 70 (.map (some b)) (.int .i64 (l.length : Int)) (.int .i64 v)).run Try.prog W = .ok () (W.putObj b (.map (ents 0 (l ++ [(k, v)])).toArray (l ++ [(k, v)]).length)) := by
  have e2 := get_run h
  have hs := fun o' => set_run (o' := o') h
  have hlen : (ents 0 l).length = l.length := ents_length l 0
  have hb : ents 0 (l ++ [(k, 0)]) = ents 0 l ++ [{ key := keyV k, val := .int .i64 0, born := l.length }] := by rw [ents_append, Nat.zero_add]; rfl
  have hb2 : ents 0 (l ++ [(k, v)]) = ents 0 l ++ [{ key := keyV k, val := .int .i64 v, born := l.length }] := by rw [ents_append, Nat.zero_add]; rfl
  have hi : (ents 0 (l ++ [(k, 0)])).toArray.findIdx? (fun e => (e.born : Int) == (l.length : Int)) = some (ents 0 l).length := by
    rw [List.findIdx?_toArray, hb, List.findIdx?_append]
    have h1 : (ents 0 l).findIdx? (fun e => (e.born : Int) == (l.length : Int)) = none := by
      rw [List.findIdx?_eq_none_iff]
      intro e he
      have := ents_born l 0 e he
      simp only [beq_eq_false_iff_ne, ne_eq]
      omega
    rw [h1]
    simp
  have hm : (ents 0 (l ++ [(k, 0)])).toArray.modify (ents 0 l).length (fun e => { e with val := .int .i64 v }) = (ents 0 (l ++ [(k, v)])).toArray := by
    rw [hb, hb2, List.modify_toArray, modify_last_ (ents 0 l)]
  unfold Instr.entryStore
  have ha : (asInt (.int .i64 (l.length : Int))).run Try.prog W = .ok (l.length : Int) W := by simp [asInt, asIntOf, Sem.run_bind, Sem.run_pure, Result.andThen]
  simp only [Sem.run_bind, Result.andThen_ok, e2, ha, hi, hs]
  rw [hm, List.length_append, List.length_append]
  rfl
end Go.Proofs.Ytnkbgimihikhoaa.PVt
namespace Go.Proofs.Ytnkbgimihikhoaa.PVt
open Go.RowKit Go.Shelf Go.Proofs.YtnkbgimihikhoaaW.PrintWords Go.Proofs.YtnkbgimihikhoaaW.PrintLast Go.Proofs.YtnkbgimihikhoaaW.PrintMore
attribute [local go_sem] Oper.semAt_some
set_option linter.unusedVariables false
set_option linter.unusedSimpArgs false
def rightK (k : S23) : Bool := decide (1 ≤ k.f0 ∧ k.f0 ≤ 1099511627776 ∧ 0 ≤ k.f1 ∧ k.f1 < 64)
def nodeK (k : S23) : Bool := rightK k || ((k.f0 == 0 && (k.f1 == 0)) || (k.f0 == 0 && (k.f1 == 1)))
theorem right_f (k : S23) : ident_Right.f k.f0 k.f1 = some (rightK k) := by
  unfold ident_Right.f ident_replica.f rightK
  by_cases h1 : 1 ≤ k.f0
  · rw [if_pos h1]
    by_cases h2 : k.f0 ≤ 1099511627776
    · rw [if_pos h2]
      by_cases h3 : 0 ≤ k.f1
      · simp [h1, h2, h3]
      · simp [h1, h2, h3]
    · rw [if_neg h2, decide_eq_false (fun h => h2 h.2.1)]
  · rw [if_neg h1, decide_eq_false (fun h => h1 h.1)]
theorem nodeK_f (k : S23) : ident_Node.f k.f0 k.f1 = some (nodeK k) := by
  unfold ident_Node.f nodeK
  rw [right_f, Option.bind_some]
  cases rightK k with
  | true => rfl
  | false =>
    by_cases h : (k.f0 == 0 && (k.f1 == 0)) = true
    · rw [if_neg (by simp), if_pos h, h]; rfl
    · rw [if_neg (by simp), if_neg h, Bool.eq_false_iff.2 h]; rfl
theorem right_calls (w : World) (k : S23) : Calls Try.prog 43 #[.agg #[.int .i64 k.f0, .int .i64 k.f1]] w fun e w' => e = .returned (.bool (rightK k)) ∧ Below w.heap.size w w' := ident_Right.calls _ _ _ w (right_f k)
theorem nodeK_calls (w : World) (k : S23) : Calls Try.prog 42 #[.agg #[.int .i64 k.f0, .int .i64 k.f1]] w fun e w' => e = .returned (.bool (nodeK k)) ∧ Below w.heap.size w w' := ident_Node.calls _ _ _ w (nodeK_f k)
/-- May a node so deep not have this key? -/
def badK (p : Nat × S27) : Bool := (p.1 == 0 && !nodeK p.2.f0) || (decide (0 < p.1) && !rightK p.2.f0)
/-- The first fault among nodes, such keys having come. -/
def goC : List S23 → List (Nat × S27) → Int
  | _, [] => 0
  | ks, p :: l => if badK p = true then 2 else if (ks.any (sameK p.2.f0)) = true then 5 else if nodeP p.2 = 0 then goC (ks ++ [p.2.f0]) l else nodeP p.2
def checkP (x : S27) : Int := if 8192 < szT x then 3 else goC [] (flatD 0 x)
theorem goC_zero : ∀ (a b : List (Nat × S27)) (ks : List S23), goC ks a = 0 → goC ks (a ++ b) = goC (ks ++ keysP a) b
  | [], b, ks, _ => by simp [keysP]
  | p :: a, b, ks, h => by
    unfold goC at h
    by_cases h1 : badK p = true
    · rw [if_pos h1] at h; cases h
    · rw [if_neg h1] at h
      by_cases h2 : (ks.any (sameK p.2.f0)) = true
      · rw [if_pos h2] at h; cases h
      · rw [if_neg h2] at h
        by_cases h3 : nodeP p.2 = 0
        · rw [if_pos h3] at h
          rw [List.cons_append, goC, if_neg h1, if_neg h2, if_pos h3, goC_zero a b _ h]
          simp [keysP]
        · rw [if_neg h3] at h; exact absurd h h3
theorem goC_stop : ∀ (a b : List (Nat × S27)) (ks : List S23), goC ks a ≠ 0 → goC ks (a ++ b) = goC ks a
  | [], b, ks, h => absurd rfl h
  | p :: a, b, ks, h => by
    rw [List.cons_append, goC, goC]
    rw [goC] at h
    by_cases h1 : badK p = true
    · rw [if_pos h1, if_pos h1]
    · rw [if_neg h1] at h ⊢
      rw [if_neg h1]
      by_cases h2 : (ks.any (sameK p.2.f0)) = true
      · rw [if_pos h2, if_pos h2]
      · rw [if_neg h2] at h ⊢
        rw [if_neg h2]
        by_cases h3 : nodeP p.2 = 0
        · rw [if_pos h3] at h ⊢
          rw [if_pos h3]
          exact goC_stop a b _ h
        · rw [if_neg h3, if_neg h3]
theorem goC_one (a : List (Nat × S27)) (p : Nat × S27) (h : goC [] a = 0) : goC [] (a ++ [p]) = if badK p = true then 2 else if ((keysP a).any (sameK p.2.f0)) = true then 5 else nodeP p.2 := by
  rw [goC_zero a [p] [] h, List.nil_append, goC]
  split
  · rfl
  · split
    · rfl
    · split
      · rename_i h3; rw [h3]; rfl
      · rfl
theorem goC_prefix {a l : List (Nat × S27)} (h : a <+: l) (hn : goC [] a ≠ 0) : goC [] l = goC [] a := by
  obtain ⟨b, rfl⟩ := h
  exact goC_stop a b [] hn
/-- Such keys have come, once each. -/
def seenL (l : List (Nat × S27)) : List (S23 × Int) := (keysP l).map fun k => (k, 1)
theorem seenL_snoc (l : List (Nat × S27)) (p : Nat × S27) : seenL (l ++ [p]) = seenL l ++ [(p.2.f0, 1)] := by simp [seenL, keysP]
theorem findP_none : ∀ (ks : List S23) (k : S23) (i : Nat), (ks.any (sameK k)) = false → findP (ks.map fun k => (k, (1 : Int))) k i = none
  | [], k, i, _ => rfl
  | a :: t, k, i, h => by
    rw [List.any_cons, Bool.or_eq_false_iff] at h
    rw [List.map_cons, findP, if_neg (by rw [h.1]; simp), findP_none t k (i + 1) h.2]
theorem findP_some : ∀ (ks : List S23) (k : S23) (i : Nat), (ks.any (sameK k)) = true → ∃ j, findP (ks.map fun k => (k, (1 : Int))) k i = some (j, .int .i64 1)
  | [], k, i, h => by cases h
  | a :: t, k, i, h => by
    rw [List.map_cons, findP]
    by_cases h1 : sameK k a = true
    · rw [if_pos h1]; exact ⟨i, rfl⟩
    · rw [if_neg h1]
      rw [List.any_cons, Bool.eq_false_iff.2 h1, Bool.false_or] at h
      exact findP_some t k (i + 1) h
theorem valP_one {l : List (Nat × S27)} {k : S23} (h : ((keysP l).any (sameK k)) = true) : valP (seenL l) k = .int .i64 1 := by
  obtain ⟨j, hj⟩ := findP_some (keysP l) k 0 h
  unfold valP seenL
  rw [hj]
theorem valP_zero {l : List (Nat × S27)} {k : S23} (h : ((keysP l).any (sameK k)) = false) : valP (seenL l) k = .int .i64 0 := by
  unfold valP seenL
  rw [findP_none _ _ _ h]
theorem findP_append_none : ∀ (l : List (S23 × Int)) (k : S23) (v : Int) (i : Nat), findP l k i = none → findP (l ++ [(k, v)]) k i = some (i + l.length, .int .i64 v)
  | [], k, v, i, _ => by
    rw [List.nil_append, findP, if_pos (sameK_iff.2 rfl)]; rfl
  | (a, u) :: t, k, v, i, h => by
    rw [findP] at h
    rw [List.cons_append, findP]
    by_cases h1 : sameK k a = true
    · rw [if_pos h1] at h; cases h
    · rw [if_neg h1] at h ⊢
      rw [findP_append_none t k v (i + 1) h, List.length_cons]
      congr 2; omega
theorem valP_new {l : List (S23 × Int)} {k : S23} (h : findP l k 0 = none) (v : Int) : valP (l ++ [(k, v)]) k = .int .i64 v := by
  unfold valP
  rw [findP_append_none l k v 0 h]
theorem MapS.put {W : World} {b : Nat} {l : List (S23 × Int)} (m : List (S23 × Int)) (h : MapS W b l) : MapS (W.putObj b (.map (ents 0 m).toArray m.length)) b m := by
  unfold MapS at h ⊢
  exact World.putObj_heap_same (blk_lt' h)
theorem MapS_own {β : Type} {B b : Nat} (hb : b < B) (f : β → List (S23 × Int)) : OwnFrom B (fun s W => MapS W b (f s)) := fun s X Y row hs hg hr => (hg.block b (blk_lt' hs) (fun e => by have := (hr b e.symm).1; omega)).trans hs
theorem wrap_one : IntKind.i64.wrap 1 = 1 := by decide
theorem below_others {W W' : World} (h : Below W.heap.size W W') : KeepsOthers W W' := ⟨h.size, fun k o hk _ => (h.block k (blk_lt' hk)).trans hk⟩
theorem KeepsFrom.put {B b : Nat} {W : World} {o : Obj} (hb : b < B) : KeepsFrom B W (W.putObj b o) := ⟨by simp, fun i o' hB hi ho => (World.putObj_heap_other (by omega)).trans hi⟩
theorem KeptT.put {T : Nat → Prop} {b : Nat} {U W : World} (h : KeptT T U W) (o : Obj) (hb : T b) : KeptT T U (W.putObj b o) := ⟨Nat.le_trans h.size (by simp), fun i hi hn => (World.putObj_heap_other (by rintro rfl; exact hn hb)).trans (h.block i hi hn)⟩
theorem below_put {n b : Nat} {w W : World} (h : Below n w W) (hb : n ≤ b) (o : Obj) : Below n w (W.putObj b o) := ⟨h.os, h.tape, h.output, Nat.le_trans h.size (by simp), fun i hi => (World.putObj_heap_other (by omega)).trans (h.block i hi)⟩
theorem next_small {k : Nat} (h : k ≤ 8192) : wrap64 ((k : Int) + 1) = ((k + 1 : Nat) : Int) := by unfold wrap64; omega
theorem results_ci {P : Program} {fn : Func} {p : Tmp} {ty : TypeId} {q : IntKind} (h : fn.results = #[.cell p ty]) (tmps : Array Value) (w : World) (g : Nat) (v : Int) (hp : tmps.getD p undef = .pointer (some ⟨g, 0, none⟩)) (hc : w.cell? ⟨g, 0, none⟩ = some (.int .i64 v)) (hu : P.underlying ty = some (.int q)) : (results fn tmps).run P w = .ok (.int .i64 v) w := by
  have hp' : tmps[p]?.getD undef = .pointer (some ⟨g, 0, none⟩) := by simpa using hp
  simp [results, h, hp', asAddr, loadVar, isAgg, underlying, hu, hc, load, Sem.run]
set_option maxHeartbeats 16000000 in
set_option maxRecDepth 100000 in
theorem check_calls (w : World) (x : S27) (A4 : Option Addr) (c4 : Nat) (A5 : Option Addr) (c5 : Nat) (hd : szT x ≤ 1099511627776)
    (hT : TK w w.heap.size x [.int .i64 x.f0.f0, .int .i64 x.f0.f1, .string x.f1, .string x.f2, .slice A4 x.f3.length c4, .slice A5 x.f4.length c5]) :
    Calls Try.prog 12 #[.agg #[.int .i64 x.f0.f0, .int .i64 x.f0.f1, .string x.f1, .string x.f2, .slice A4 x.f3.length c4, .slice A5 x.f4.length c5]] w fun e w' => e = .returned (.int .i64 (checkP x)) ∧ Below w.heap.size w w' := by
  have HT := Aside0.mk hT
  have HSZ := Aside0.mk (flatD_length 0 x)
  clear hT
  refine (callsIn_wide (n := 3)).1 ?_
  refine callsIn_of_wp_marks Try.func12 rfl trivial ?_ rfl
  simp only [Try.ntmps12, List.size_toArray, List.length_cons, List.length_nil, Nat.reduceAdd, Nat.reduceSub, Array.replicate_succ, Array.replicate_zero, List.push_toArray, List.append_toArray, List.nil_append, List.cons_append]
  refine wpIn_wide.2 ?_
  go_wp2_with (fail)
  refine (nodes_calls _ _ _ _ _ _ _).mono ?_
  rintro e w1 ⟨rfl, rfl⟩
  go_wp2_with (fail)
  have hBU : Below w.heap.size w ((((w.alloc (.cells #[.int .i64 x.f0.f0, .int .i64 x.f0.f1, .string x.f1, .string x.f2, .slice A4 x.f3.length c4, .slice A5 x.f4.length c5] 27)).alloc (.cells #[.int .i64 0] 29)).alloc (.cells #[.int .i64 0] 3)).alloc (.cells #[.int .i64 x.f0.f0, .int .i64 x.f0.f1, .string x.f1, .string x.f2, .slice A4 x.f3.length c4, .slice A5 x.f4.length c5] 27)) := below_alloc (below_alloc (below_alloc (below_alloc (Below.refl _ _) _) _) _) _
  have hB1 : ((((w.alloc (.cells #[.int .i64 x.f0.f0, .int .i64 x.f0.f1, .string x.f1, .string x.f2, .slice A4 x.f3.length c4, .slice A5 x.f4.length c5] 27)).alloc (.cells #[.int .i64 0] 29)).alloc (.cells #[.int .i64 0] 3)).alloc (.cells #[.int .i64 x.f0.f0, .int .i64 x.f0.f1, .string x.f1, .string x.f2, .slice A4 x.f3.length c4, .slice A5 x.f4.length c5] 27)).heap[w.heap.size]? = some (.cells #[.int .i64 x.f0.f0, .int .i64 x.f0.f1, .string x.f1, .string x.f2, .slice A4 x.f3.length c4, .slice A5 x.f4.length c5] 27 (0, 0)) := Mem.alloc_old (Mem.alloc_old (Mem.alloc_old (Mem.alloc_new _ _) _) _) _
  have hB2 : ((((w.alloc (.cells #[.int .i64 x.f0.f0, .int .i64 x.f0.f1, .string x.f1, .string x.f2, .slice A4 x.f3.length c4, .slice A5 x.f4.length c5] 27)).alloc (.cells #[.int .i64 0] 29)).alloc (.cells #[.int .i64 0] 3)).alloc (.cells #[.int .i64 x.f0.f0, .int .i64 x.f0.f1, .string x.f1, .string x.f2, .slice A4 x.f3.length c4, .slice A5 x.f4.length c5] 27)).heap[w.heap.size + 1]? = some (.cells #[.int .i64 0] 29 (0, 0)) := Mem.alloc_old (Mem.alloc_old (Mem.alloc_new_at _ _ _ (by rw [Mem.alloc_size])) _) _
  have hB3 : ((((w.alloc (.cells #[.int .i64 x.f0.f0, .int .i64 x.f0.f1, .string x.f1, .string x.f2, .slice A4 x.f3.length c4, .slice A5 x.f4.length c5] 27)).alloc (.cells #[.int .i64 0] 29)).alloc (.cells #[.int .i64 0] 3)).alloc (.cells #[.int .i64 x.f0.f0, .int .i64 x.f0.f1, .string x.f1, .string x.f2, .slice A4 x.f3.length c4, .slice A5 x.f4.length c5] 27)).heap[w.heap.size + 1 + 1]? = some (.cells #[.int .i64 0] 3 (0, 0)) := Mem.alloc_old (Mem.alloc_new_at _ _ _ (by rw [Mem.alloc_size, Mem.alloc_size])) _
  have hBX : ((((w.alloc (.cells #[.int .i64 x.f0.f0, .int .i64 x.f0.f1, .string x.f1, .string x.f2, .slice A4 x.f3.length c4, .slice A5 x.f4.length c5] 27)).alloc (.cells #[.int .i64 0] 29)).alloc (.cells #[.int .i64 0] 3)).alloc (.cells #[.int .i64 x.f0.f0, .int .i64 x.f0.f1, .string x.f1, .string x.f2, .slice A4 x.f3.length c4, .slice A5 x.f4.length c5] 27)).heap[w.heap.size + 1 + 1 + 1]? = some (.cells #[.int .i64 x.f0.f0, .int .i64 x.f0.f1, .string x.f1, .string x.f2, .slice A4 x.f3.length c4, .slice A5 x.f4.length c5] 27 (0, 0)) := Mem.alloc_new_at _ _ _ (by rw [Mem.alloc_size, Mem.alloc_size, Mem.alloc_size])
  have hUS : ((((w.alloc (.cells #[.int .i64 x.f0.f0, .int .i64 x.f0.f1, .string x.f1, .string x.f2, .slice A4 x.f3.length c4, .slice A5 x.f4.length c5] 27)).alloc (.cells #[.int .i64 0] 29)).alloc (.cells #[.int .i64 0] 3)).alloc (.cells #[.int .i64 x.f0.f0, .int .i64 x.f0.f1, .string x.f1, .string x.f2, .slice A4 x.f3.length c4, .slice A5 x.f4.length c5] 27)).heap.size = w.heap.size + 4 := by rw [Mem.alloc_size, Mem.alloc_size, Mem.alloc_size, Mem.alloc_size]
  generalize ((((w.alloc (.cells #[.int .i64 x.f0.f0, .int .i64 x.f0.f1, .string x.f1, .string x.f2, .slice A4 x.f3.length c4, .slice A5 x.f4.length c5] 27)).alloc (.cells #[.int .i64 0] 29)).alloc (.cells #[.int .i64 0] 3)).alloc (.cells #[.int .i64 x.f0.f0, .int .i64 x.f0.f1, .string x.f1, .string x.f2, .slice A4 x.f3.length c4, .slice A5 x.f4.length c5] 27)) = U at *
  refine (wpIn_wide (n := 3)).1 ?_
  refine wpIn_rangeFunc_ownH (F := Fence.wide) (n := 3) rfl (by decide) (gf := 65) (lb := #[.pointer (some ⟨w.heap.size + 1 + 1 + 1, 0, none⟩)]) rfl trivial (enters_of Try.func65 (by kernel_rfl) rfl)
    (nodes_stops (T := fun _ => False) hd HT.out (fun i hi => hBU.block i hi) hBU.size (fun _ h => h.elim) hBX) Kw.trans (fun W l o o' hl h1 h2 _ => Kw.put W l o o' (Nat.le_trans hBU.size hl) h1 h2) (Below.refl _ _) (fun _ => rfl)
    (fun pre W => (W.heap[w.heap.size + 1 + 1]? = some (.cells #[.int .i64 (pre.length : Int)] 3 (0, 0)) ∧ pre.length ≤ 8192) ∧ LK (fun i => i = w.heap.size + 1 + 1) w.heap.size w U W)
    (fun c pre W => ((c = .ret ∧ 8192 < pre.length) ∧ W.heap[w.heap.size + 1]? = some (.cells #[.int .i64 3] 29 (0, 0))) ∧ LK (fun i => i = w.heap.size + 1 + 1 ∨ i = w.heap.size + 1) w.heap.size w U W)
    (OwnFrom.and (OwnFrom.and (Own.from (cells_own _ 3 (fun (pre : List (Nd w w.heap.size)) => #[.int .i64 (pre.length : Int)])) _) (ownFrom_pure _ _)) (LK_own (Nat.le_refl _) hBU.size))
    (fun c => OwnFrom.and (OwnFrom.and (ownFrom_pure _ _) (Own.from (cells_own _ 29 (fun _ => #[.int .i64 3])) _)) (LK_own (Nat.le_refl _) hBU.size))
    ⟨⟨hB3, Nat.zero_le _⟩, KeptT.refl _ _, hBU⟩
    (fun y a' _ => a' = { tmps := #[.agg #[.int .i64 x.f0.f0, .int .i64 x.f0.f1, .string x.f1, .string x.f2, .slice A4 x.f3.length c4, .slice A5 x.f4.length c5], .pointer (some ⟨w.heap.size, 0, none⟩), .pointer (some ⟨w.heap.size + 1, 0, none⟩), .pointer (some ⟨w.heap.size + 1 + 1, 0, none⟩), undef, undef, undef, undef, .agg #[.int .i64 x.f0.f0, .int .i64 x.f0.f1, .string x.f1, .string x.f2, .slice A4 x.f3.length c4, .slice A5 x.f4.length c5], .func (.func 65) #[] #[.pointer (some ⟨w.heap.size + 1 + 1 + 1, 0, none⟩)], .int .i64 (y.d : Int), .agg y.cs.toArray, undef, undef, undef, undef, undef, undef, undef, undef, undef, undef, undef, undef, undef, undef, undef, undef, undef, undef, undef, undef, undef, undef, undef, undef, undef, undef, undef, undef, undef, undef, undef, undef, undef, undef, undef, undef, undef, undef, undef, undef, undef, undef, undef, undef], defers := [] })
    (fun y a' _ X Y row hs hg hr => hs)
    ?assign ?body ?done ?stop
  case assign =>
    rintro l pre y W K hI hK
    dsimp only [encN]
    gi_wp2
    exact hK _ _ ((KeepsOthers.refl _).from _) (Kw.refl _ _ _) hI rfl
  case body =>
    rintro l pre y a' W hl ⟨r, hr⟩ ⟨⟨h3, hle⟩, hK⟩ rfl hlt
    have c3 := Mem.cell_of h3 0
    have f3 := Mem.free_of h3 0
    have HB2 := Aside0.mk (hK.1.cells hB2 (by show ¬ (w.heap.size + 1 = w.heap.size + 1 + 1); omega))
    have c2 := Mem.cell_of HB2.out 0
    have f2 := Mem.free_of HB2.out 0
    have HK := Aside0.mk hK
    have H3 := Aside0.mk h3
    obtain ⟨k, hk⟩ : ∃ k, pre.length = k := ⟨_, rfl⟩
    rw [hk] at c3 hle H3
    have hw_ := next_small hle
    have HLE := Aside0.mk hle
    have HKN := Aside0.mk hk
    clear hK h3 hr hle hk hlt
    have HKW : Aside0 (Kw w.heap.size (fun _ => False) W (W.setCell ⟨w.heap.size + 1 + 1, 0, none⟩ (.int .i64 ((k + 1 : Nat) : Int)))) := ⟨Kw.box H3.out (by decide) _ (by omega)⟩
    by_cases h1 : 8192 < k + 1
    · have e1 : ((8192 : Int) < (k : Int) + 1) = True := eq_true (by omega)
      have e2 : ((8192 : Int) < ((k + 1 : Nat) : Int)) = True := eq_true (by omega)
      have e3 : (8192 < k + 1) = True := eq_true h1
      have H1 := Aside0.mk h1
      clear h1
      gi_wp2_with (fail)
      refine ⟨((KeepsOthers.setCell _ _ _).trans (KeepsOthers.setCell _ _ _)).from _, ⟨⟨rfl, by rw [List.length_append, HKN.out]; exact H1.out⟩, ?_⟩, ?_⟩
      · exact Mem.set_heap ((Mem.set_other _ _ _ _ (by show w.heap.size + 1 ≠ w.heap.size + 1 + 1; omega)).trans HB2.out) 0 _
      · exact ⟨((KeptT.set ⟨HK.out.1.size, fun i hi hn => HK.out.1.block i hi (fun h => hn (.inl h))⟩ _ (.inl rfl)).set _ (.inr rfl)), (HK.out.2.setCell (p := ⟨w.heap.size + 1 + 1, 0, none⟩) (by show w.heap.size ≤ w.heap.size + 1 + 1; omega) _).setCell (p := ⟨w.heap.size + 1, 0, none⟩) (by show w.heap.size ≤ w.heap.size + 1; omega) _⟩
    · have e1 : ((8192 : Int) < (k : Int) + 1) = False := eq_false (by omega)
      have e2 : ((8192 : Int) < ((k + 1 : Nat) : Int)) = False := eq_false (by omega)
      have e3 : (8192 < k + 1) = False := eq_false h1
      have H1 := Aside0.mk h1
      clear h1
      gi_wp2_with (fail)
      refine ⟨(KeepsOthers.setCell _ _ _).from _, HKW.out, ⟨?_, by rw [List.length_append, HKN.out]; have := H1.out; show k + 1 ≤ 8192; omega⟩, HK.out.set _ rfl (by omega)⟩
      rw [Mem.set_heap H3.out 0 _, List.length_append, HKN.out]; rfl
  case done =>
    rintro D ys W hD hys ⟨⟨h3, hle⟩, hK⟩ hKD
    have HL : Aside0 (szT x ≤ 8192) := ⟨by rw [← HSZ.out, ← hys, List.length_map]; exact hle⟩
    have HB2 := Aside0.mk (hK.1.cells hB2 (by show ¬ (w.heap.size + 1 = w.heap.size + 1 + 1); omega))
    have HB1 := Aside0.mk (hK.1.cells hB1 (by show ¬ (w.heap.size = w.heap.size + 1 + 1); omega))
    have HBW := Aside0.mk hK.2
    have HWS : Aside0 (w.heap.size + 4 ≤ W.heap.size) := ⟨by have := hK.1.size; omega⟩
    have HKD := Aside0.mk hKD
    have HDL : Aside0 (w.heap.size + 4 ≤ D ∧ D < W.heap.size) := ⟨by omega, blk_lt' hKD⟩
    have a0 : ((W.alloc (.map #[] 0)).alloc (.cells #[.map (some W.heap.size)] 70)).cell? ⟨w.heap.size, 0, none⟩ = some (.int .i64 x.f0.f0) := Mem.cell_alloc (Mem.cell_alloc (Mem.cell_of HB1.out 0) _) _
    have a1 : ((W.alloc (.map #[] 0)).alloc (.cells #[.map (some W.heap.size)] 70)).cell? ⟨w.heap.size, 1, none⟩ = some (.int .i64 x.f0.f1) := Mem.cell_alloc (Mem.cell_alloc (Mem.cell_of HB1.out 1) _) _
    have a2 : ((W.alloc (.map #[] 0)).alloc (.cells #[.map (some W.heap.size)] 70)).cell? ⟨w.heap.size, 2, none⟩ = some (.string x.f1) := Mem.cell_alloc (Mem.cell_alloc (Mem.cell_of HB1.out 2) _) _
    have a3 : ((W.alloc (.map #[] 0)).alloc (.cells #[.map (some W.heap.size)] 70)).cell? ⟨w.heap.size, 3, none⟩ = some (.string x.f2) := Mem.cell_alloc (Mem.cell_alloc (Mem.cell_of HB1.out 3) _) _
    have a4 : ((W.alloc (.map #[] 0)).alloc (.cells #[.map (some W.heap.size)] 70)).cell? ⟨w.heap.size, 4, none⟩ = some (.slice A4 x.f3.length c4) := Mem.cell_alloc (Mem.cell_alloc (Mem.cell_of HB1.out 4) _) _
    have a5 : ((W.alloc (.map #[] 0)).alloc (.cells #[.map (some W.heap.size)] 70)).cell? ⟨w.heap.size, 5, none⟩ = some (.slice A5 x.f4.length c5) := Mem.cell_alloc (Mem.cell_alloc (Mem.cell_of HB1.out 5) _) _
    have hmm := @run_makeMap Try.prog
    clear hys h3 hle hK hKD
    go_wp2_with (fail)
    refine (nodes_calls _ _ _ _ _ _ _).mono ?_
    rintro e w1 ⟨rfl, rfl⟩
    clear a0 a1 a2 a3 a4 a5 hmm
    go_wp2_with (fail)
    have hVB : Below W.heap.size W (((W.alloc (.map #[] 0)).alloc (.cells #[.map (some W.heap.size)] 70)).alloc (.cells #[.int .i64 x.f0.f0, .int .i64 x.f0.f1, .string x.f1, .string x.f2, .slice A4 x.f3.length c4, .slice A5 x.f4.length c5] 27)) := below_alloc (below_alloc (below_alloc (Below.refl _ _) _) _) _
    have hVM : (((W.alloc (.map #[] 0)).alloc (.cells #[.map (some W.heap.size)] 70)).alloc (.cells #[.int .i64 x.f0.f0, .int .i64 x.f0.f1, .string x.f1, .string x.f2, .slice A4 x.f3.length c4, .slice A5 x.f4.length c5] 27)).heap[W.heap.size]? = some (.map #[] 0) := Mem.alloc_old (Mem.alloc_old (Mem.alloc_new _ _) _) _
    have hV4 : (((W.alloc (.map #[] 0)).alloc (.cells #[.map (some W.heap.size)] 70)).alloc (.cells #[.int .i64 x.f0.f0, .int .i64 x.f0.f1, .string x.f1, .string x.f2, .slice A4 x.f3.length c4, .slice A5 x.f4.length c5] 27)).heap[W.heap.size + 1]? = some (.cells #[.map (some W.heap.size)] 70 (0, 0)) := Mem.alloc_old (Mem.alloc_new_at _ _ _ (by rw [Mem.alloc_size])) _
    have hVX : (((W.alloc (.map #[] 0)).alloc (.cells #[.map (some W.heap.size)] 70)).alloc (.cells #[.int .i64 x.f0.f0, .int .i64 x.f0.f1, .string x.f1, .string x.f2, .slice A4 x.f3.length c4, .slice A5 x.f4.length c5] 27)).heap[W.heap.size + 1 + 1]? = some (.cells #[.int .i64 x.f0.f0, .int .i64 x.f0.f1, .string x.f1, .string x.f2, .slice A4 x.f3.length c4, .slice A5 x.f4.length c5] 27 (0, 0)) := Mem.alloc_new_at _ _ _ (by rw [Mem.alloc_size, Mem.alloc_size])
    have hVS : (((W.alloc (.map #[] 0)).alloc (.cells #[.map (some W.heap.size)] 70)).alloc (.cells #[.int .i64 x.f0.f0, .int .i64 x.f0.f1, .string x.f1, .string x.f2, .slice A4 x.f3.length c4, .slice A5 x.f4.length c5] 27)).heap.size = W.heap.size + 3 := by rw [Mem.alloc_size, Mem.alloc_size, Mem.alloc_size]
    generalize (((W.alloc (.map #[] 0)).alloc (.cells #[.map (some W.heap.size)] 70)).alloc (.cells #[.int .i64 x.f0.f0, .int .i64 x.f0.f1, .string x.f1, .string x.f2, .slice A4 x.f3.length c4, .slice A5 x.f4.length c5] 27)) = V at *
    have hV2 := (hVB.block _ (blk_lt' HB2.out)).trans HB2.out
    have HVD := Aside0.mk ((hVB.block _ (blk_lt' HKD.out)).trans HKD.out)
    have hBV := HBW.out.trans (hVB.mono HBW.out.size)
    generalize hbm : W.heap.size = bm at *
    clear hbm HB2 HB1 HBW HKD hVB
    have hws := HWS.out
    refine (wpIn_wide (n := 3)).1 ?_
    refine wpIn_rangeFunc_ownH (F := Fence.wide) (n := 3) rfl (by decide) (gf := 65) (lb := #[.pointer (some ⟨bm + 1 + 1, 0, none⟩)]) rfl trivial (enters_of Try.func65 (by kernel_rfl) rfl)
      (nodes_stops (T := fun _ => False) hd HT.out (fun i hi => hBV.block i hi) hBV.size (fun _ h => h.elim) hVX) Kw.trans (fun W l o o' hl h1 h2 _ => Kw.put W l o o' (Nat.le_trans hBV.size hl) h1 h2) (Below.refl _ _) (fun _ => rfl)
      (fun pre W => (MapS W bm (seenL (pre.map pl)) ∧ goC [] (pre.map pl) = 0) ∧ LK (fun i => i = bm) w.heap.size w V W)
      (fun c pre W => ((c = .ret ∧ goC [] (pre.map pl) ≠ 0) ∧ W.heap[w.heap.size + 1]? = some (.cells #[.int .i64 (goC [] (pre.map pl))] 29 (0, 0))) ∧ LK (fun i => i = bm ∨ i = w.heap.size + 1) w.heap.size w V W)
      (OwnFrom.and (OwnFrom.and (MapS_own (by omega) (fun (pre : List (Nd w w.heap.size)) => seenL (pre.map pl))) (ownFrom_pure _ _)) (LK_own (Nat.le_refl _) hBV.size))
      (fun c => OwnFrom.and (OwnFrom.and (ownFrom_pure _ _) (Own.from (cells_own _ 29 (fun (pre : List (Nd w w.heap.size)) => #[.int .i64 (goC [] (pre.map pl))])) _)) (LK_own (Nat.le_refl _) hBV.size))
      ⟨⟨hVM, rfl⟩, KeptT.refl _ _, hBV⟩
      (fun y a' Wr => ∃ Bx, V.heap.size ≤ Bx ∧ Wr.heap[Bx]? = some (.cells y.cs.toArray 27 (0, 0)) ∧ a' = { tmps := #[.agg #[.int .i64 x.f0.f0, .int .i64 x.f0.f1, .string x.f1, .string x.f2, .slice A4 x.f3.length c4, .slice A5 x.f4.length c5], .pointer (some ⟨w.heap.size, 0, none⟩), .pointer (some ⟨w.heap.size + 1, 0, none⟩), .pointer (some ⟨w.heap.size + 1 + 1, 0, none⟩), .pointer (some ⟨bm + 1, 0, none⟩), .int .i64 (y.d : Int), .pointer (some ⟨Bx, 0, none⟩), undef, .agg #[.int .i64 x.f0.f0, .int .i64 x.f0.f1, .string x.f1, .string x.f2, .slice A4 x.f3.length c4, .slice A5 x.f4.length c5], .func (.func 65) #[] #[.pointer (some ⟨w.heap.size + 1 + 1 + 1, 0, none⟩)], undef, undef, undef, undef, undef, undef, .map (some bm), .agg #[.int .i64 x.f0.f0, .int .i64 x.f0.f1, .string x.f1, .string x.f2, .slice A4 x.f3.length c4, .slice A5 x.f4.length c5], .func (.func 65) #[] #[.pointer (some ⟨bm + 1 + 1, 0, none⟩)], .int .i64 (y.d : Int), .agg y.cs.toArray, undef, undef, undef, undef, undef, undef, undef, undef, undef, undef, undef, undef, undef, undef, undef, undef, undef, undef, undef, undef, undef, undef, undef, undef, undef, undef, undef, undef, undef, undef, undef, undef, undef, undef, undef], defers := [] })
      (fun y a' _ X Y row hs hg hr => by obtain ⟨Bx, h1, h2, h3⟩ := hs; exact ⟨Bx, h1, cells_own Bx 27 (fun (_ : Unit) => y.cs.toArray) () X Y row h2 hg (fun r e => (hr r e).2), h3⟩)
      ?assign2 ?body2 ?done2 ?stop2
    case assign2 =>
      rintro l pre ⟨yd, z, ycs, yok, yhd⟩ W K hI hK
      obtain ⟨B4, e4, B5, e5, rfl, _⟩ := yok.open
      dsimp only [encN]
      gi_wp2
      have hbl : Below W.heap.size W (W.alloc (.cells #[.int .i64 z.f0.f0, .int .i64 z.f0.f1, .string z.f1, .string z.f2, .slice B4 z.f3.length e4, .slice B5 z.f4.length e5] 27)) := below_alloc (Below.refl _ _) _
      obtain ⟨⟨hM, hg⟩, hL⟩ := hI
      exact hK _ _ ((KeepsOthers.alloc _ _).from _) (Kw.below hbl hL.2.size) ⟨⟨Mem.alloc_old hM _, hg⟩, hL.on hbl hBV.size⟩ ⟨W.heap.size, hL.1.size, Mem.alloc_new _ _, rfl⟩
    case body2 =>
      rintro l pre ⟨yd, z, ycs, yok, yhd⟩ a' Wr hl ⟨r, hr⟩ ⟨⟨hM, hg⟩, hK⟩ ⟨Bx, hBx, bX, rfl⟩ hlt
      obtain ⟨B4, e4, B5, e5, rfl, l4, g4, l5, g5⟩ := yok.open
      have HF := Aside0.mk g4
      have HMAP : Aside0 ((pre ++ [(⟨yd, z, _, yok, yhd⟩ : Nd w w.heap.size)]).map pl = pre.map pl ++ [(yd, z)]) := ⟨by rw [List.map_append]; rfl⟩
      have GO := Aside0.mk (goC_one (pre.map pl) (yd, z) hg)
      have HM := Aside0.mk hM
      have HK := Aside0.mk hK
      have HX := Aside0.mk bX
      have HB2 := Aside0.mk (hK.1.cells hV2 (by show ¬ (w.heap.size + 1 = bm); omega))
      have HB4 := Aside0.mk (hK.1.cells hV4 (by show ¬ (bm + 1 = bm); omega))
      have HBX := Aside0.mk hBx
      obtain ⟨ks, hks⟩ : ∃ ks, keysP (pre.map pl) = ks := ⟨_, rfl⟩
      have HKS := Aside0.mk hks
      have x0 := Mem.cell_of bX 0
      have x1 := Mem.cell_of bX 1
      clear hr hM hK bX l4 g4 l5 g5 hg hlt hks
      by_cases h0 : yd = 0
      · have e1 : ((yd : Int) = 0) = True := eq_true (by omega)
        have e2 : ((yd : Int) == 0) = true := beq_iff_eq.2 (by omega)
        have e3 : ((0 : Int) < (yd : Int)) = False := eq_false (by omega)
        have e3' : (0 < yd) = False := eq_false (by omega)
        have e3'' : (yd = 0) = True := eq_true h0
        have HC := Aside0.mk (nodeK_calls Wr z.f0)
        have HBAD : Aside0 (badK (yd, z) = !nodeK z.f0) := ⟨by unfold badK; rw [show ((yd, z).1 == 0) = true from beq_iff_eq.2 h0, show decide (0 < (yd, z).1) = false from decide_eq_false (by show ¬ 0 < yd; omega)]; simp⟩
        clear h0
        gi_wp2_with (fail)
        refine ⟨trivial, ?_⟩
        refine (CallsIn.inRound l (callsIn_wide.2 HC.out)).mono ?_
        rintro e w3 ⟨rfl, hb3⟩
        have HB3 := Aside0.mk hb3
        have HM3 := Aside0.mk (show MapS w3 bm _ from (hb3.block _ (blk_lt' HM.out)).trans HM.out)
        have HK3 := Aside0.mk (HK.out.on hb3 hBV.size)
        have HX3 := Aside0.mk ((hb3.block _ (blk_lt' HX.out)).trans HX.out)
        have HB23 := Aside0.mk ((hb3.block _ (blk_lt' HB2.out)).trans HB2.out)
        have HB43 := Aside0.mk ((hb3.block _ (blk_lt' HB4.out)).trans HB4.out)
        clear hb3 HC x0 x1
        have c2 : w3.cell? ⟨w.heap.size + 1, 0, none⟩ = some (.int .i64 0) := Mem.cell_of HB23.out 0
        have f2 := Mem.free_of HB23.out 0
        have c4 : w3.cell? ⟨bm + 1, 0, none⟩ = some (.map (some bm)) := Mem.cell_of HB43.out 0
        have x0 : w3.cell? ⟨Bx, 0, none⟩ = some (.int .i64 z.f0.f0) := Mem.cell_of HX3.out 0
        have x1 : w3.cell? ⟨Bx, 1, none⟩ = some (.int .i64 z.f0.f1) := Mem.cell_of HX3.out 1
        cases hk_ : nodeK z.f0 with
        | false =>
          rw [hk_] at HBAD
          have HE : Aside0 (goC [] ((pre ++ [(⟨yd, z, _, yok, yhd⟩ : Nd w w.heap.size)]).map pl) = 2) := ⟨by rw [HMAP.out, GO.out, if_pos (by rw [HBAD.out]; rfl)]⟩
          gi_wp2_with (fail)
          refine ⟨((below_others HB3.out).trans (KeepsOthers.setCell _ _ _)).from _, ⟨⟨rfl, by rw [HE.out]; decide⟩, ?_⟩, ?_⟩
          · rw [HE.out]; exact Mem.set_heap HB23.out 0 _
          · exact LK.set ⟨⟨HK3.out.1.size, fun i hi hn => HK3.out.1.block i hi (fun h => hn (.inl h))⟩, HK3.out.2⟩ _ (.inr rfl) (Nat.le_succ _)
        | true =>
          rw [hk_] at HBAD
          gi_wp2_with (fail)
          refine ⟨trivial, ?_⟩
          cases hs_ : ks.any (sameK z.f0) with
          | true =>
            have HE : Aside0 (goC [] ((pre ++ [(⟨yd, z, _, yok, yhd⟩ : Nd w w.heap.size)]).map pl) = 5) := ⟨by rw [HMAP.out, GO.out, if_neg (by rw [HBAD.out]; simp), HKS.out, if_pos hs_]⟩
            have r1 : Sem.run Try.prog (Instr.lookup 70 (.map (some bm)) (.agg #[.int .i64 z.f0.f0, .int .i64 z.f0.f1]) false) w3 = .ok (.int .i64 1) w3 := by
              have h_ := look_run HM3.out z.f0
              rw [valP_one (by rw [HKS.out]; exact hs_)] at h_
              exact h_
            gi_wp2_with (fail)
            refine ⟨((below_others HB3.out).trans (KeepsOthers.setCell _ _ _)).from _, ⟨⟨rfl, by rw [HE.out]; decide⟩, ?_⟩, ?_⟩
            · rw [HE.out]; exact Mem.set_heap HB23.out 0 _
            · exact LK.set ⟨⟨HK3.out.1.size, fun i hi hn => HK3.out.1.block i hi (fun h => hn (.inl h))⟩, HK3.out.2⟩ _ (.inr rfl) (Nat.le_succ _)
          | false =>
            have HE : Aside0 (goC [] ((pre ++ [(⟨yd, z, _, yok, yhd⟩ : Nd w w.heap.size)]).map pl) = nodeP z) := ⟨by rw [HMAP.out, GO.out, if_neg (by rw [HBAD.out]; simp), HKS.out, if_neg (by rw [hs_]; simp)]⟩
            have hfn : findP (seenL (pre.map pl)) z.f0 0 = none := findP_none _ _ _ (by rw [HKS.out]; exact hs_)
            have r1 : Sem.run Try.prog (Instr.lookup 70 (.map (some bm)) (.agg #[.int .i64 z.f0.f0, .int .i64 z.f0.f1]) false) w3 = .ok (.int .i64 0) w3 := by
              have h_ := look_run HM3.out z.f0
              rw [valP_zero (by rw [HKS.out]; exact hs_)] at h_
              exact h_
            have hMd : MapS w3.drew bm (seenL (pre.map pl)) := HM3.out
            have r1d : Sem.run Try.prog (Instr.lookup 70 (.map (some bm)) (.agg #[.int .i64 z.f0.f0, .int .i64 z.f0.f1]) false) w3.drew = .ok (.int .i64 0) w3.drew := by
              have h_ := look_run hMd z.f0
              rw [valP_zero (by rw [HKS.out]; exact hs_)] at h_
              exact h_
            have r2 : Sem.run Try.prog (Instr.mapEntry 70 (.map (some bm)) (.agg #[.int .i64 z.f0.f0, .int .i64 z.f0.f1])) w3.drew = _ := entry_run hMd z.f0 hfn
            have hM1 := MapS.put (seenL (pre.map pl) ++ [(z.f0, 0)]) hMd
            have hM2 := MapS.put (seenL (pre.map pl) ++ [(z.f0, 1)]) hM1
            have r3 : Sem.run Try.prog (Instr.lookup 70 (.map (some bm)) (.agg #[.int .i64 z.f0.f0, .int .i64 z.f0.f1]) false) (w3.drew.putObj bm (.map (ents 0 (seenL (pre.map pl) ++ [(z.f0, 0)])).toArray (seenL (pre.map pl) ++ [(z.f0, 0)]).length)) = .ok (.int .i64 0) (w3.drew.putObj bm (.map (ents 0 (seenL (pre.map pl) ++ [(z.f0, 0)])).toArray (seenL (pre.map pl) ++ [(z.f0, 0)]).length)) := by
              have h_ := look_run hM1 z.f0
              rw [valP_new hfn 0] at h_
              exact h_
            have r4 := store_run z.f0 1 hM1
            have hw1 : IntKind.i64.wrap 1 = 1 := wrap_one
            have HKP1 : Kw w.heap.size (fun _ => False) w3.drew (w3.drew.putObj bm (.map (ents 0 (seenL (pre.map pl) ++ [(z.f0, 0)])).toArray (seenL (pre.map pl) ++ [(z.f0, 0)]).length)) := Kw.put _ _ _ _ (by omega) hMd rfl
            have HKP2 := HKP1.trans (Kw.put _ _ _ (.map (ents 0 (seenL (pre.map pl) ++ [(z.f0, 1)])).toArray (seenL (pre.map pl) ++ [(z.f0, 1)]).length) (by omega) hM1 rfl)
            have HP2 := Aside0.mk ((Kw.below ((HB3.out.trans ((below_drew (Below.refl _ _)).mono HB3.out.size))) HK.out.2.size).trans HKP2)
            have HF2 : Aside0 (KeepsFrom V.heap.size Wr _) := ⟨((((below_others HB3.out).trans (KeepsOthers.drew _)).from _).trans (KeepsFrom.put (b := bm) (o := .map (ents 0 (seenL (pre.map pl) ++ [(z.f0, 0)])).toArray (seenL (pre.map pl) ++ [(z.f0, 0)]).length) (by omega))).trans (KeepsFrom.put (b := bm) (o := .map (ents 0 (seenL (pre.map pl) ++ [(z.f0, 1)])).toArray (seenL (pre.map pl) ++ [(z.f0, 1)]).length) (by omega))⟩
            have hkd := HK3.out.on (below_drew (Below.refl _ _)) hBV.size
            have HL2 : Aside0 (LK (fun i => i = bm) w.heap.size w V _) := ⟨(hkd.1.put (.map (ents 0 (seenL (pre.map pl) ++ [(z.f0, 0)])).toArray (seenL (pre.map pl) ++ [(z.f0, 0)]).length) rfl).put (.map (ents 0 (seenL (pre.map pl) ++ [(z.f0, 1)])).toArray (seenL (pre.map pl) ++ [(z.f0, 1)]).length) rfl, below_put (below_put hkd.2 (by omega) _) (by omega) _⟩
            have HMX := Aside0.mk hM2
            have HXX : Aside0 ((((w3.drew.putObj bm (.map (ents 0 (seenL (pre.map pl) ++ [(z.f0, 0)])).toArray (seenL (pre.map pl) ++ [(z.f0, 0)]).length)).putObj bm (.map (ents 0 (seenL (pre.map pl) ++ [(z.f0, 1)])).toArray (seenL (pre.map pl) ++ [(z.f0, 1)]).length))).heap[Bx]? = some (.cells #[.int .i64 z.f0.f0, .int .i64 z.f0.f1, .string z.f1, .string z.f2, .slice B4 z.f3.length e4, .slice B5 z.f4.length e5] 27 (0, 0))) := ⟨(World.putObj_heap_other (by have := HBX.out; omega)).trans ((World.putObj_heap_other (by have := HBX.out; omega)).trans HX3.out)⟩
            generalize hp1 : w3.drew.putObj bm (.map (ents 0 (seenL (pre.map pl) ++ [(z.f0, 0)])).toArray (seenL (pre.map pl) ++ [(z.f0, 0)]).length) = P1 at *
            generalize hp2 : P1.putObj bm (.map (ents 0 (seenL (pre.map pl) ++ [(z.f0, 1)])).toArray (seenL (pre.map pl) ++ [(z.f0, 1)]).length) = P2 at *
            clear hMd hM1 hM2 HKP1 HKP2 hkd hfn hp1 hp2
            gi_upto_region 15 with (fail)
            gi_cut [44] from 56 (fun v wr => Aside0 (wr = P2))
            case first =>
              gi_region
              all_goals
                gi_wp2_with (fail)
                gi_meet
                case rel => exact ⟨rfl⟩
            case rest =>
              obtain rfl := hcut.out
              clear r1 r1d r2 r3 r4 hw1 c2 f2 c4 x0 x1
              have HNC := Aside0.mk (node_calls wc z B4 e4 (.slice B5 z.f4.length e5) (Kd.F_now (Kd.F_step HF.out (fun i hi _ => HL2.out.2.block i hi))))
              have x0 : wc.cell? ⟨Bx, 0, none⟩ = some (.int .i64 z.f0.f0) := Mem.cell_of HXX.out 0
              have x1 : wc.cell? ⟨Bx, 1, none⟩ = some (.int .i64 z.f0.f1) := Mem.cell_of HXX.out 1
              have x2 : wc.cell? ⟨Bx, 2, none⟩ = some (.string z.f1) := Mem.cell_of HXX.out 2
              have x3 : wc.cell? ⟨Bx, 3, none⟩ = some (.string z.f2) := Mem.cell_of HXX.out 3
              have x4 : wc.cell? ⟨Bx, 4, none⟩ = some (.slice B4 z.f3.length e4) := Mem.cell_of HXX.out 4
              have x5 : wc.cell? ⟨Bx, 5, none⟩ = some (.slice B5 z.f4.length e5) := Mem.cell_of HXX.out 5
              gi_wp2_with (fail)
              refine ⟨trivial, ?_⟩
              refine (CallsIn.inRound l (callsIn_wide.2 HNC.out)).mono ?_
              rintro e w5 ⟨rfl, hb5⟩
              have HB5 := Aside0.mk hb5
              have HK5 := Aside0.mk (HL2.out.on hb5 hBV.size)
              have HB25 := Aside0.mk (HK5.out.1.cells hV2 (by show ¬ (w.heap.size + 1 = bm); omega))
              have HM5 := Aside0.mk (show MapS w5 bm _ from (hb5.block _ (blk_lt' HMX.out)).trans HMX.out)
              clear hb5 HNC x0 x1 x2 x3 x4 x5
              have c2 : w5.cell? ⟨w.heap.size + 1, 0, none⟩ = some (.int .i64 0) := Mem.cell_of HB25.out 0
              have f2 := Mem.free_of HB25.out 0
              by_cases hn_ : nodeP z = 0
              · have HN := Aside0.mk hn_
                have e4_ : (nodeP z == 0) = true := beq_iff_eq.2 hn_
                have e5_ : (nodeP z = 0) = True := eq_true hn_
                clear hn_
                gi_wp2_with (fail)
                refine ⟨HF2.out.trans ((below_others HB5.out).from _), HP2.out.trans (Kw.below HB5.out HL2.out.2.size), ⟨?_, by rw [HE.out, HN.out]⟩, HK5.out⟩
                rw [HMAP.out, seenL_snoc]
                exact HM5.out
              · have e4_ : (nodeP z == 0) = false := beq_eq_false_iff_ne.2 hn_
                have e5_ : (nodeP z = 0) = False := eq_false hn_
                have HN := Aside0.mk hn_
                clear hn_
                gi_wp2_with (fail)
                refine ⟨(HF2.out.trans ((below_others HB5.out).from _)).trans ((KeepsOthers.setCell _ _ _).from _), ⟨⟨rfl, by rw [HE.out]; exact HN.out⟩, ?_⟩, ?_⟩
                · rw [HE.out]; exact Mem.set_heap HB25.out 0 _
                · exact LK.set ⟨⟨HK5.out.1.size, fun i hi hn => HK5.out.1.block i hi (fun h => hn (.inl h))⟩, HK5.out.2⟩ _ (.inr rfl) (Nat.le_succ _)
      · have e1 : ((yd : Int) = 0) = False := eq_false (by omega)
        have e2 : ((yd : Int) == 0) = false := beq_eq_false_iff_ne.2 (by omega)
        have e3 : ((0 : Int) < (yd : Int)) = True := eq_true (by omega)
        have e3' : (0 < yd) = True := eq_true (by omega)
        have e3'' : (yd = 0) = False := eq_false h0
        have HC := Aside0.mk (right_calls Wr z.f0)
        have HBAD : Aside0 (badK (yd, z) = !rightK z.f0) := ⟨by unfold badK; rw [show ((yd, z).1 == 0) = false from beq_eq_false_iff_ne.2 h0, show decide (0 < (yd, z).1) = true from decide_eq_true (by show 0 < yd; omega)]; simp⟩
        clear h0
        gi_wp2_with (fail)
        refine ⟨trivial, ?_⟩
        gi_wp2_with (fail)
        refine ⟨trivial, ?_⟩
        refine (CallsIn.inRound l (callsIn_wide.2 HC.out)).mono ?_
        rintro e w3 ⟨rfl, hb3⟩
        have HB3 := Aside0.mk hb3
        have HM3 := Aside0.mk (show MapS w3 bm _ from (hb3.block _ (blk_lt' HM.out)).trans HM.out)
        have HK3 := Aside0.mk (HK.out.on hb3 hBV.size)
        have HX3 := Aside0.mk ((hb3.block _ (blk_lt' HX.out)).trans HX.out)
        have HB23 := Aside0.mk ((hb3.block _ (blk_lt' HB2.out)).trans HB2.out)
        have HB43 := Aside0.mk ((hb3.block _ (blk_lt' HB4.out)).trans HB4.out)
        clear hb3 HC x0 x1
        have c2 : w3.cell? ⟨w.heap.size + 1, 0, none⟩ = some (.int .i64 0) := Mem.cell_of HB23.out 0
        have f2 := Mem.free_of HB23.out 0
        have c4 : w3.cell? ⟨bm + 1, 0, none⟩ = some (.map (some bm)) := Mem.cell_of HB43.out 0
        have x0 : w3.cell? ⟨Bx, 0, none⟩ = some (.int .i64 z.f0.f0) := Mem.cell_of HX3.out 0
        have x1 : w3.cell? ⟨Bx, 1, none⟩ = some (.int .i64 z.f0.f1) := Mem.cell_of HX3.out 1
        cases hk_ : rightK z.f0 with
        | false =>
          rw [hk_] at HBAD
          have HE : Aside0 (goC [] ((pre ++ [(⟨yd, z, _, yok, yhd⟩ : Nd w w.heap.size)]).map pl) = 2) := ⟨by rw [HMAP.out, GO.out, if_pos (by rw [HBAD.out]; rfl)]⟩
          gi_wp2_with (fail)
          refine ⟨((below_others HB3.out).trans (KeepsOthers.setCell _ _ _)).from _, ⟨⟨rfl, by rw [HE.out]; decide⟩, ?_⟩, ?_⟩
          · rw [HE.out]; exact Mem.set_heap HB23.out 0 _
          · exact LK.set ⟨⟨HK3.out.1.size, fun i hi hn => HK3.out.1.block i hi (fun h => hn (.inl h))⟩, HK3.out.2⟩ _ (.inr rfl) (Nat.le_succ _)
        | true =>
          rw [hk_] at HBAD
          cases hs_ : ks.any (sameK z.f0) with
          | true =>
            have HE : Aside0 (goC [] ((pre ++ [(⟨yd, z, _, yok, yhd⟩ : Nd w w.heap.size)]).map pl) = 5) := ⟨by rw [HMAP.out, GO.out, if_neg (by rw [HBAD.out]; simp), HKS.out, if_pos hs_]⟩
            have r1 : Sem.run Try.prog (Instr.lookup 70 (.map (some bm)) (.agg #[.int .i64 z.f0.f0, .int .i64 z.f0.f1]) false) w3 = .ok (.int .i64 1) w3 := by
              have h_ := look_run HM3.out z.f0
              rw [valP_one (by rw [HKS.out]; exact hs_)] at h_
              exact h_
            gi_wp2_with (fail)
            refine ⟨((below_others HB3.out).trans (KeepsOthers.setCell _ _ _)).from _, ⟨⟨rfl, by rw [HE.out]; decide⟩, ?_⟩, ?_⟩
            · rw [HE.out]; exact Mem.set_heap HB23.out 0 _
            · exact LK.set ⟨⟨HK3.out.1.size, fun i hi hn => HK3.out.1.block i hi (fun h => hn (.inl h))⟩, HK3.out.2⟩ _ (.inr rfl) (Nat.le_succ _)
          | false =>
            have HE : Aside0 (goC [] ((pre ++ [(⟨yd, z, _, yok, yhd⟩ : Nd w w.heap.size)]).map pl) = nodeP z) := ⟨by rw [HMAP.out, GO.out, if_neg (by rw [HBAD.out]; simp), HKS.out, if_neg (by rw [hs_]; simp)]⟩
            have hfn : findP (seenL (pre.map pl)) z.f0 0 = none := findP_none _ _ _ (by rw [HKS.out]; exact hs_)
            have r1 : Sem.run Try.prog (Instr.lookup 70 (.map (some bm)) (.agg #[.int .i64 z.f0.f0, .int .i64 z.f0.f1]) false) w3 = .ok (.int .i64 0) w3 := by
              have h_ := look_run HM3.out z.f0
              rw [valP_zero (by rw [HKS.out]; exact hs_)] at h_
              exact h_
            have hMd : MapS w3.drew bm (seenL (pre.map pl)) := HM3.out
            have r1d : Sem.run Try.prog (Instr.lookup 70 (.map (some bm)) (.agg #[.int .i64 z.f0.f0, .int .i64 z.f0.f1]) false) w3.drew = .ok (.int .i64 0) w3.drew := by
              have h_ := look_run hMd z.f0
              rw [valP_zero (by rw [HKS.out]; exact hs_)] at h_
              exact h_
            have r2 : Sem.run Try.prog (Instr.mapEntry 70 (.map (some bm)) (.agg #[.int .i64 z.f0.f0, .int .i64 z.f0.f1])) w3.drew = _ := entry_run hMd z.f0 hfn
            have hM1 := MapS.put (seenL (pre.map pl) ++ [(z.f0, 0)]) hMd
            have hM2 := MapS.put (seenL (pre.map pl) ++ [(z.f0, 1)]) hM1
            have r3 : Sem.run Try.prog (Instr.lookup 70 (.map (some bm)) (.agg #[.int .i64 z.f0.f0, .int .i64 z.f0.f1]) false) (w3.drew.putObj bm (.map (ents 0 (seenL (pre.map pl) ++ [(z.f0, 0)])).toArray (seenL (pre.map pl) ++ [(z.f0, 0)]).length)) = .ok (.int .i64 0) (w3.drew.putObj bm (.map (ents 0 (seenL (pre.map pl) ++ [(z.f0, 0)])).toArray (seenL (pre.map pl) ++ [(z.f0, 0)]).length)) := by
              have h_ := look_run hM1 z.f0
              rw [valP_new hfn 0] at h_
              exact h_
            have r4 := store_run z.f0 1 hM1
            have hw1 : IntKind.i64.wrap 1 = 1 := wrap_one
            have HKP1 : Kw w.heap.size (fun _ => False) w3.drew (w3.drew.putObj bm (.map (ents 0 (seenL (pre.map pl) ++ [(z.f0, 0)])).toArray (seenL (pre.map pl) ++ [(z.f0, 0)]).length)) := Kw.put _ _ _ _ (by omega) hMd rfl
            have HKP2 := HKP1.trans (Kw.put _ _ _ (.map (ents 0 (seenL (pre.map pl) ++ [(z.f0, 1)])).toArray (seenL (pre.map pl) ++ [(z.f0, 1)]).length) (by omega) hM1 rfl)
            have HP2 := Aside0.mk ((Kw.below ((HB3.out.trans ((below_drew (Below.refl _ _)).mono HB3.out.size))) HK.out.2.size).trans HKP2)
            have HF2 : Aside0 (KeepsFrom V.heap.size Wr _) := ⟨((((below_others HB3.out).trans (KeepsOthers.drew _)).from _).trans (KeepsFrom.put (b := bm) (o := .map (ents 0 (seenL (pre.map pl) ++ [(z.f0, 0)])).toArray (seenL (pre.map pl) ++ [(z.f0, 0)]).length) (by omega))).trans (KeepsFrom.put (b := bm) (o := .map (ents 0 (seenL (pre.map pl) ++ [(z.f0, 1)])).toArray (seenL (pre.map pl) ++ [(z.f0, 1)]).length) (by omega))⟩
            have hkd := HK3.out.on (below_drew (Below.refl _ _)) hBV.size
            have HL2 : Aside0 (LK (fun i => i = bm) w.heap.size w V _) := ⟨(hkd.1.put (.map (ents 0 (seenL (pre.map pl) ++ [(z.f0, 0)])).toArray (seenL (pre.map pl) ++ [(z.f0, 0)]).length) rfl).put (.map (ents 0 (seenL (pre.map pl) ++ [(z.f0, 1)])).toArray (seenL (pre.map pl) ++ [(z.f0, 1)]).length) rfl, below_put (below_put hkd.2 (by omega) _) (by omega) _⟩
            have HMX := Aside0.mk hM2
            have HXX : Aside0 ((((w3.drew.putObj bm (.map (ents 0 (seenL (pre.map pl) ++ [(z.f0, 0)])).toArray (seenL (pre.map pl) ++ [(z.f0, 0)]).length)).putObj bm (.map (ents 0 (seenL (pre.map pl) ++ [(z.f0, 1)])).toArray (seenL (pre.map pl) ++ [(z.f0, 1)]).length))).heap[Bx]? = some (.cells #[.int .i64 z.f0.f0, .int .i64 z.f0.f1, .string z.f1, .string z.f2, .slice B4 z.f3.length e4, .slice B5 z.f4.length e5] 27 (0, 0))) := ⟨(World.putObj_heap_other (by have := HBX.out; omega)).trans ((World.putObj_heap_other (by have := HBX.out; omega)).trans HX3.out)⟩
            generalize hp1 : w3.drew.putObj bm (.map (ents 0 (seenL (pre.map pl) ++ [(z.f0, 0)])).toArray (seenL (pre.map pl) ++ [(z.f0, 0)]).length) = P1 at *
            generalize hp2 : P1.putObj bm (.map (ents 0 (seenL (pre.map pl) ++ [(z.f0, 1)])).toArray (seenL (pre.map pl) ++ [(z.f0, 1)]).length) = P2 at *
            clear hMd hM1 hM2 HKP1 HKP2 hkd hfn hp1 hp2
            gi_upto_region 15 with (fail)
            gi_cut [44] from 56 (fun v wr => Aside0 (wr = P2))
            case first =>
              gi_region
              all_goals
                gi_wp2_with (fail)
                gi_meet
                case rel => exact ⟨rfl⟩
            case rest =>
              obtain rfl := hcut.out
              clear r1 r1d r2 r3 r4 hw1 c2 f2 c4 x0 x1
              have HNC := Aside0.mk (node_calls wc z B4 e4 (.slice B5 z.f4.length e5) (Kd.F_now (Kd.F_step HF.out (fun i hi _ => HL2.out.2.block i hi))))
              have x0 : wc.cell? ⟨Bx, 0, none⟩ = some (.int .i64 z.f0.f0) := Mem.cell_of HXX.out 0
              have x1 : wc.cell? ⟨Bx, 1, none⟩ = some (.int .i64 z.f0.f1) := Mem.cell_of HXX.out 1
              have x2 : wc.cell? ⟨Bx, 2, none⟩ = some (.string z.f1) := Mem.cell_of HXX.out 2
              have x3 : wc.cell? ⟨Bx, 3, none⟩ = some (.string z.f2) := Mem.cell_of HXX.out 3
              have x4 : wc.cell? ⟨Bx, 4, none⟩ = some (.slice B4 z.f3.length e4) := Mem.cell_of HXX.out 4
              have x5 : wc.cell? ⟨Bx, 5, none⟩ = some (.slice B5 z.f4.length e5) := Mem.cell_of HXX.out 5
              gi_wp2_with (fail)
              refine ⟨trivial, ?_⟩
              refine (CallsIn.inRound l (callsIn_wide.2 HNC.out)).mono ?_
              rintro e w5 ⟨rfl, hb5⟩
              have HB5 := Aside0.mk hb5
              have HK5 := Aside0.mk (HL2.out.on hb5 hBV.size)
              have HB25 := Aside0.mk (HK5.out.1.cells hV2 (by show ¬ (w.heap.size + 1 = bm); omega))
              have HM5 := Aside0.mk (show MapS w5 bm _ from (hb5.block _ (blk_lt' HMX.out)).trans HMX.out)
              clear hb5 HNC x0 x1 x2 x3 x4 x5
              have c2 : w5.cell? ⟨w.heap.size + 1, 0, none⟩ = some (.int .i64 0) := Mem.cell_of HB25.out 0
              have f2 := Mem.free_of HB25.out 0
              by_cases hn_ : nodeP z = 0
              · have HN := Aside0.mk hn_
                have e4_ : (nodeP z == 0) = true := beq_iff_eq.2 hn_
                have e5_ : (nodeP z = 0) = True := eq_true hn_
                clear hn_
                gi_wp2_with (fail)
                refine ⟨HF2.out.trans ((below_others HB5.out).from _), HP2.out.trans (Kw.below HB5.out HL2.out.2.size), ⟨?_, by rw [HE.out, HN.out]⟩, HK5.out⟩
                rw [HMAP.out, seenL_snoc]
                exact HM5.out
              · have e4_ : (nodeP z == 0) = false := beq_eq_false_iff_ne.2 hn_
                have e5_ : (nodeP z = 0) = False := eq_false hn_
                have HN := Aside0.mk hn_
                clear hn_
                gi_wp2_with (fail)
                refine ⟨(HF2.out.trans ((below_others HB5.out).from _)).trans ((KeepsOthers.setCell _ _ _).from _), ⟨⟨rfl, by rw [HE.out]; exact HN.out⟩, ?_⟩, ?_⟩
                · rw [HE.out]; exact Mem.set_heap HB25.out 0 _
                · exact LK.set ⟨⟨HK5.out.1.size, fun i hi hn => HK5.out.1.block i hi (fun h => hn (.inl h))⟩, HK5.out.2⟩ _ (.inr rfl) (Nat.le_succ _)
    case done2 =>
      rintro D2 ys W hD2 hys ⟨⟨hM, hg⟩, hK⟩ hKD2
      have HG : Aside0 (checkP x = 0) := ⟨by unfold checkP; rw [if_neg (by have := HL.out; omega), ← hys]; exact hg⟩
      have HB2 := Aside0.mk (hK.1.cells hV2 (by show ¬ (w.heap.size + 1 = bm); omega))
      have HD1 := Aside0.mk (hK.1.cells HVD.out (by show ¬ (D = bm); have := HDL.out; omega))
      have HK := Aside0.mk hK
      have HD2 := Aside0.mk hKD2
      have c2 := Mem.cell_of HB2.out 0
      have f2 := Mem.free_of HB2.out 0
      clear hM hg hys hK hKD2
      go_wp2_with (fail)
      have h0 := HDL.out
      have he1 := (Mem.set_other W ⟨w.heap.size + 1, 0, none⟩ (.int .i64 0) D2 (by show D2 ≠ w.heap.size + 1; omega)).trans HD2.out
      have he2 := (Mem.set_other W ⟨w.heap.size + 1, 0, none⟩ (.int .i64 0) D (by show D ≠ w.heap.size + 1; omega)).trans HD1.out
      have he3 := Mem.set_heap HB2.out 0 (.int .i64 0)
      have he4 : ((W.setCell ⟨w.heap.size + 1, 0, none⟩ (.int .i64 0)).putObj D2 (.deferred none)).heap[D]? = _ := (World.putObj_heap_other (by omega)).trans he2
      have he5 : ((W.setCell ⟨w.heap.size + 1, 0, none⟩ (.int .i64 0)).putObj D2 (.deferred none)).heap[w.heap.size + 1]? = _ := (World.putObj_heap_other (by omega)).trans he3
      have he6 : (((W.setCell ⟨w.heap.size + 1, 0, none⟩ (.int .i64 0)).putObj D2 (.deferred none)).putObj D (.deferred none)).heap[w.heap.size + 1]? = some (.cells #[.int .i64 0] 29 (0, 0)) := (World.putObj_heap_other (by omega)).trans he5
      refine ⟨by simp, .inl ⟨_, _, rfl, run_takeDeferred he1, by simp, .inl ⟨_, _, rfl, run_takeDeferred he4, ?_⟩⟩⟩
      refine ⟨_, results_ci rfl _ _ (w.heap.size + 1) 0 rfl (Mem.cell_of he6 0) Try.underlying29, by rw [HG.out], ?_⟩
      exact ((below_set HK.out.2 (Nat.le_succ _)).trans (belowK_b (w := V) hBV.size _ D2 _ _ hD2 he1 rfl rfl)).trans (belowK_b (w := U) hBU.size _ D _ _ hD he4 rfl rfl)
    case stop2 =>
      rintro D2 c pre W hD2 hsp ⟨⟨⟨rfl, hl⟩, h2⟩, hK⟩ hKD2
      have HG : Aside0 (checkP x = goC [] (pre.map pl)) := ⟨by unfold checkP; rw [if_neg (by have := HL.out; omega)]; exact goC_prefix hsp hl⟩
      have HD1 := Aside0.mk (hK.1.cells HVD.out (by have := HDL.out; rintro (h | h) <;> omega))
      refine wpIn_wide.2 ?_
      go_wp2_with (fail)
      have h0 := HDL.out
      have he4 : (W.putObj D2 (.deferred none)).heap[D]? = _ := (World.putObj_heap_other (by omega)).trans HD1.out
      have he5 : (W.putObj D2 (.deferred none)).heap[w.heap.size + 1]? = _ := (World.putObj_heap_other (by omega)).trans h2
      have he6 : ((W.putObj D2 (.deferred none)).putObj D (.deferred none)).heap[w.heap.size + 1]? = some (.cells #[.int .i64 (goC [] (pre.map pl))] 29 (0, 0)) := (World.putObj_heap_other (by omega)).trans he5
      refine ⟨by simp, .inl ⟨_, _, rfl, run_takeDeferred hKD2, by simp, .inl ⟨_, _, rfl, run_takeDeferred he4, ?_⟩⟩⟩
      refine ⟨_, results_ci rfl _ _ (w.heap.size + 1) _ rfl (Mem.cell_of he6 0) Try.underlying29, by rw [HG.out], ?_⟩
      exact (hK.2.trans (belowK_b (w := V) hBV.size _ D2 _ _ hD2 hKD2 rfl rfl)).trans (belowK_b (w := U) hBU.size _ D _ _ hD he4 rfl rfl)
  case stop =>
    rintro D c pre W hD hsp ⟨⟨⟨rfl, hl⟩, h2⟩, hK⟩ hKD
    have HL : Aside0 (8192 < szT x) := ⟨by
      have := hsp.length_le
      rw [List.length_map, HSZ.out] at this
      omega⟩
    clear hsp hl
    refine wpIn_wide.2 ?_
    go_wp2_with (fail)
    refine ⟨by simp, .inl ⟨_, _, rfl, run_takeDeferred hKD, ?_⟩⟩
    have h2' : (W.putObj D (.deferred none)).heap[w.heap.size + 1]? = some (.cells #[.int .i64 3] 29 (0, 0)) := (World.putObj_heap_other (by omega)).trans h2
    refine ⟨_, results_ci rfl _ _ (w.heap.size + 1) 3 rfl (Mem.cell_of h2' 0) Try.underlying29, ?_, hK.2.trans (belowK_b (w := U) hBU.size W D _ _ hD hKD rfl rfl)⟩
    unfold checkP
    rw [if_pos HL.out]
end Go.Proofs.Ytnkbgimihikhoaa.PVt
