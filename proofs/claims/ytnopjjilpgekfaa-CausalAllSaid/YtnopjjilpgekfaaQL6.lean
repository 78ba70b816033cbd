/- What the statement's row needs of this session's texts, joined by program: part 7. -/
import Derived.Deep.DeepCutAuto
import Derived.Test.YtnopjjilpgekfaaQL5
namespace Go.Proofs.Ytnopjjilpgekfaa.PCa
open Go.RowKit Go.Proofs.YtnopjjilpgekfaaW.PrintWords Go.Proofs.YtnopjjilpgekfaaW.PrintLast Go.Proofs.YtnopjjilpgekfaaW.PrintMore
attribute [local go_sem] max2_int min2_int max_two min_two max_three min_three max_four min_four
set_option linter.unusedVariables false
set_option linter.unusedSimpArgs false
def sml.T6 : Bool × List (List Nat × List Nat) := (true, [([], []), ([], []), ([0, 1], [0, 1]), ([2], [2]), ([], []), ([], []), ([4, 5], [4, 5]), ([6], [6]), ([3, 7], [3, 7]), ([8], [8])])
def sml.B6 : List Nat := [0, 0, 3, 7, 0, 0, 48, 112, 255, 511]
theorem sml.tab6 : rtab .any (opsOf Try.f15 6) = sml.T6 := by kernel_rfl
theorem sml.bits6 : waitsOk sml.T6.2 sml.B6 = true := by kernel_rfl
theorem drawn_below {w w1 : World} {nd : Nat} (h : w1 = w.drewN nd) : Below w.heap.size w w1 := by rw [h]; exact pw_below_drewN (Below.refl _ _) nd
/-- An element of a list. -/
theorem elemS {w : World} {A1 : Option Addr} {l : List S32} (hl : Kd.C k32 w A1 l.length l) {i : Nat} (hi : i < l.length) :
  ∃ ad A3 c3, A1 = some ad ∧ (∀ W, Below w.heap.size w W → ∀ j u, (chL (rd_T32 l (i : Int)) (.slice A3 (rd_T32 l (i : Int)).f2.length c3))[j]? = some u → W.cell? ((ad.add (i * 13)).add j) = some u) ∧ (rd_T32 l (i : Int)).f2.length ≤ c3 ∧ (Kd.int .i64).C w A3 (rd_T32 l (i : Int)).f2.length (rd_T32 l (i : Int)).f2 := by
 obtain ⟨ad, c, e, hcl, hK, hcc⟩ := Kd.C_get hl z32 (i : Int) (by omega) (by omega)
 obtain ⟨A3, c3, rfl, l3, g3⟩ := k32_open hK
 rw [Int.toNat_natCast] at hcc
 refine ⟨ad, A3, c3, e, fun W hb j u hj => ?_, l3, g3⟩
 rw [add_add]
 have h := hcc j u hj
 exact (hb.cell (World.block_lt_of_cell? w _ h)).trans h
set_option maxHeartbeats 8000000 in
set_option maxRecDepth 100000 in
theorem same_self {w : World} (x : S32) (A3 : Option Addr) (c3 : Nat) (B3 : Option Addr) (d3 : Nat) (hx : Kd.C (Kd.int .i64) w A3 x.f2.length x.f2) (hx3 : x.f2.length ≤ c3) (hy : Kd.C (Kd.int .i64) w B3 x.f2.length x.f2) (hy3 : x.f2.length ≤ d3) (h64 : x.f2.length ≤ 64) :
  Calls Try.prog 45 #[(.agg #[.int .i64 x.f0.f0, .int .i64 x.f0.f1, .int .i64 x.f1, (.slice A3 x.f2.length c3), .int .i64 x.f3, .int .i64 x.f4.f0, .int .i64 x.f4.f1, .int .i64 x.f5.f0, .int .i64 x.f5.f1, .int .i64 x.f6.f0, .int .i64 x.f6.f1, .string x.f7, .string x.f8]), (.agg #[.int .i64 x.f0.f0, .int .i64 x.f0.f1, .int .i64 x.f1, (.slice B3 x.f2.length d3), .int .i64 x.f3, .int .i64 x.f4.f0, .int .i64 x.f4.f1, .int .i64 x.f5.f0, .int .i64 x.f5.f1, .int .i64 x.f6.f0, .int .i64 x.f6.f1, .string x.f7, .string x.f8])] w fun e w' => e = .returned (.bool true) ∧ Below w.heap.size w w' := by
 have hu32 := Try.underlying32
 have hu30 := Try.underlying30
 have HC3 := Aside0.mk hx
 have HL3 := Aside0.mk hx3
 have HD3 := Aside0.mk hy
 have HM3 := Aside0.mk hy3
 have HS2 : Aside0 (topiaryref02_Same.f 100 x.f2 x.f2 = some true) := ⟨by unfold topiaryref02_Same.f; rw [if_pos rfl]; exact same02_self x.f2 x.f2.length 0 100 (by omega) (by omega) (by omega)⟩
 have HB := Aside0.mk (Below.refl w.heap.size w)
 clear hx hx3 hy hy3 h64
 go_enter Try.func45, Try.ntmps45
 go_wp2_with (first | ((with_reducible refine gate_dst (N := 2) rfl ?_); refine boxE (N := 2) (cs := #[.int .i64 x.f0.f0, .int .i64 x.f0.f1, .int .i64 x.f1, (.slice A3 x.f2.length c3), .int .i64 x.f3, .int .i64 x.f4.f0, .int .i64 x.f4.f1, .int .i64 x.f5.f0, .int .i64 x.f5.f1, .int .i64 x.f6.f0, .int .i64 x.f6.f1, .string x.f7, .string x.f8]) (t := 32) ?_; intro ga hr_ w_ga hbox hb; have HXA := Aside0.mk hbox; obtain ⟨ha0, ha1, ha2, ha3, ha4, ha5, ha6, ha7, ha8, ha9, ha10, ha11, ha12⟩ := cells13 hbox; replace HB := Aside0.mk (HB.out.trans (hb.mono HB.out.size)); clear hb hr_) | ((with_reducible refine gate_dst (N := 3) rfl ?_); refine boxE (N := 3) (cs := #[.int .i64 x.f0.f0, .int .i64 x.f0.f1, .int .i64 x.f1, (.slice B3 x.f2.length d3), .int .i64 x.f3, .int .i64 x.f4.f0, .int .i64 x.f4.f1, .int .i64 x.f5.f0, .int .i64 x.f5.f1, .int .i64 x.f6.f0, .int .i64 x.f6.f1, .string x.f7, .string x.f8]) (t := 32) ?_; intro gb hr_ w_gb hbox hb; have hA := Aside0.mk (blk_below HXA.out hb); clear HXA ha0 ha1 ha2 ha3 ha4 ha5 ha6 ha7 ha8 ha9 ha10 ha11 ha12; obtain ⟨ha0, ha1, ha2, ha3, ha4, ha5, ha6, ha7, ha8, ha9, ha10, ha11, ha12⟩ := cells13 hA.out; have HXA := hA; clear hA; have HXB := Aside0.mk hbox; obtain ⟨hb0, hb1, hb2, hb3, hb4, hb5, hb6, hb7, hb8, hb9, hb10, hb11, hb12⟩ := cells13 hbox; replace HB := Aside0.mk (HB.out.trans (hb.mono HB.out.size)); clear hb hr_) | (go_at_call 24; refine (topiaryref02_Same.calls 100 A3 c3 x.f2 B3 d3 x.f2 true _ (Kd.C_below HC3.out HB.out) HL3.out (Kd.C_below HD3.out HB.out) HM3.out HS2.out).mono ?_; clear ha0 ha1 ha2 ha3 ha4 ha5 ha6 ha7 ha8 ha9 ha10 ha11 ha12 hb0 hb1 hb2 hb3 hb4 hb5 hb6 hb7 hb8 hb9 hb10 hb11 hb12; rintro e w1 ⟨rfl, ⟨nd, hnd⟩⟩; have hb_ := drawn_below hnd; clear hnd; obtain ⟨ha0, ha1, ha2, ha3, ha4, ha5, ha6, ha7, ha8, ha9, ha10, ha11, ha12⟩ := cells13 (blk_below HXA.out hb_); obtain ⟨hb0, hb1, hb2, hb3, hb4, hb5, hb6, hb7, hb8, hb9, hb10, hb11, hb12⟩ := cells13 (blk_below HXB.out hb_); replace HB := Aside0.mk (HB.out.trans (hb_.mono HB.out.size)); clear hb_))
 go_ret
 exact ⟨by simp, HB.out⟩
set_option maxHeartbeats 8000000 in
set_option maxRecDepth 100000 in
theorem sameAll_self {w : World} (A0 : Option Addr) (c0 : Nat) (A1 : Option Addr) (c1 : Nat) (l : List S32) (h0 : Kd.C k32 w A0 l.length l) (hc0 : l.length ≤ c0) (h1 : Kd.C k32 w A1 l.length l) (hc1 : l.length ≤ c1) (hx : ∀ x ∈ l, x.f2.length ≤ 64) (hl : l.length < 90000) :
  Calls Try.prog 15 #[.slice A0 l.length c0, .slice A1 l.length c1] w fun e w' => e = .returned (.bool true) ∧ Below w.heap.size w w' := by
 have H0 := Aside0.mk h0
 have H1 := Aside0.mk h1
 have H64 := Aside0.mk hx
 have HL := Aside0.mk hl
 have e0 : ((l.length : Int) != (l.length : Int)) = false := by rw [bne_eq_false_iff_eq]
 clear h0 h1 hc0 hc1 hx hl
 go_enter Try.func15, Try.ntmps15
 go_wp2_with (fail)
 go_loopw [5] (fun v5 wq => ∃ i : Nat, v5 = .int .i64 (i : Int) ∧ Aside0 (i ≤ l.length) ∧ Aside0 (Below w.heap.size w wq)) (fun v5 _ => l.length - (intOf v5).toNat)
 case atStart => exact ⟨0, rfl, ⟨Nat.zero_le _⟩, ⟨Below.refl _ _⟩⟩
 case round =>
  obtain ⟨i, rfl, HI, HBq⟩ := hrel
  by_cases hi : i < l.length
  case neg =>
   have b3 : decide (i < l.length) = false := decide_eq_false hi
   go_wp2_with (fail)
   go_ret
   exact ⟨rfl, HBq.out⟩
  obtain ⟨ad, A3, c3, rfl, hcc, hl3, hC3⟩ := elemS H0.out hi
  obtain ⟨ad', B3, d3, rfl, hcc', hl3', hC3'⟩ := elemS H1.out hi
  have hmem : rd_T32 l (i : Int) ∈ l := List.mem_of_getElem? (rd32_at hi)
  have HY := Aside0.mk (H64.out _ hmem)
  clear hmem
  generalize rd_T32 l (i : Int) = y at *
  have HCA := Aside0.mk hcc
  have HCB := Aside0.mk hcc'
  have HC3 := Aside0.mk hC3
  have HD3 := Aside0.mk hC3'
  have HL3 := Aside0.mk hl3
  have HM3 := Aside0.mk hl3'
  have HI' := Aside0.mk hi
  have b1 : (0 ≤ (i : Int)) = True := eq_true (by omega)
  have b2 : ((i : Int) < (l.length : Int)) = True := eq_true (by omega)
  have b3 : (i < l.length) = True := eq_true hi
  have b4 : decide (i < l.length) = true := decide_eq_true hi
  have hiw : wrap64 ((i : Int) + 1) = ((i + 1 : Nat) : Int) := by have h1_ := HL.out; exact w1s (by omega)
  have HIW := Aside0.mk hiw
  clear hcc hcc' hC3 hC3' hl3 hl3' hi hiw
  go_wp2_with (fail)
  refine startS (n := 10) (S := (fun w' => Below w.heap.size w w')) (ds := []) (below_drew HBq.out) (fun hHeld => ?_)
  refine with_tabW sml.tab6 sml.bits6 (fun HT_ HW_ => ?_)
  refine pureT (i := 0) (N := (some 17)) HT_ ?_
  refine pureT (i := 1) (N := (some 18)) HT_ ?_
  refine pureT (i := 2) (N := (some 19)) HT_ ?_
  refine pureT (i := 4) (N := (some 21)) HT_ ?_
  refine pureT (i := 5) (N := (some 22)) HT_ ?_
  refine pureT (i := 6) (N := (some 23)) HT_ ?_
  refine takeS (i := 3) (N := (some 20)) (v := ?_) HT_ HW_ hHeld ?_ ?_
  rotate_left
  ·rintro w' s0
   refine Eq.trans (load32_run (x := y) (v := (.slice A3 y.f2.length c3)) _ (p := .tmp 19) ?ho_ ?hp_ (HCA.out w' s0)) ?hr_
   case ho_ => rfl
   case hp_ => rfl
   case hr_ => rfl
  refine normS (N := (some 20)) ?_
  refine takeS (i := 7) (N := (some 24)) (v := ?_) HT_ HW_ hHeld ?_ ?_
  rotate_left
  ·rintro w' s0
   refine Eq.trans (load32_run (x := y) (v := (.slice B3 y.f2.length d3)) _ (p := .tmp 23) ?ho_ ?hp_ (HCB.out w' s0)) ?hr_
   case ho_ => rfl
   case hp_ => rfl
   case hr_ => rfl
  refine normS (N := (some 24)) ?_
  refine oneS (i := 8) (N := (some 25)) HT_ (fun K hK => ?_)
  refine goes_ Try.func45 (by kernel_rfl) rfl #[(.agg #[.int .i64 y.f0.f0, .int .i64 y.f0.f1, .int .i64 y.f1, (.slice A3 y.f2.length c3), .int .i64 y.f3, .int .i64 y.f4.f0, .int .i64 y.f4.f1, .int .i64 y.f5.f0, .int .i64 y.f5.f1, .int .i64 y.f6.f0, .int .i64 y.f6.f1, .string y.f7, .string y.f8]), (.agg #[.int .i64 y.f0.f0, .int .i64 y.f0.f1, .int .i64 y.f1, (.slice B3 y.f2.length d3), .int .i64 y.f3, .int .i64 y.f4.f0, .int .i64 y.f4.f1, .int .i64 y.f5.f0, .int .i64 y.f5.f1, .int .i64 y.f6.f0, .int .i64 y.f6.f1, .string y.f7, .string y.f8])] (by rfl) rfl rfl argS ?_
  refine (same_self y A3 c3 B3 d3 (Kd.C_below HC3.out hHeld) HL3.out (Kd.C_below HD3.out hHeld) HM3.out HY.out).mono ?_
  rintro e w1 ⟨rfl, hb1⟩
  refine ⟨_, rfl, ?_⟩
  refine hK.out _ _ ((hHeld.trans (hb1.mono hHeld.size))) (fun hHeld => ?_)
  clear hK K
  refine normS (N := (some 25)) ?_
  refine pureT (i := 9) (N := (some 26)) HT_ ?_
  refine done_ (done_of HT_.out (by kernel_rfl)) ?_
  go_wp2_with (fail)
  rw [HIW.out]
  exact ⟨⟨i + 1, rfl, ⟨HI'.out⟩, ⟨hHeld⟩⟩, dec_lt HI'.out⟩
/-- Cells of rows of whole numbers in O may have been written; all else is as it was, or new. -/
structure Sp (w W : World) (O : Nat → Prop) : Prop where
 kept : Kept w W O
 typ : ∀ (k : Nat) (cs : Array Value) (t : TypeId) (fr : Nat × Nat), w.heap[k]? = some (Obj.cells cs t fr) → t ≠ 3 → W.heap[k]? = some (Obj.cells cs t fr)
 row : ∀ (k : Nat) (cs : Array Value) (fr : Nat × Nat), w.heap[k]? = some (Obj.cells cs 3 fr) → ∃ cs' : Array Value, W.heap[k]? = some (Obj.cells cs' 3 fr) ∧ cs'.size = cs.size
theorem Sp.refl (w : World) (O : Nat → Prop) : Sp w w O := ⟨Kept.refl _ _, fun _ _ _ _ h _ => h, fun _ cs _ h => ⟨cs, h, rfl⟩⟩
theorem Sp.set {w W : World} {O : Nat → Prop} (h : Sp w W O) {g : Nat} (hO : O g) {cs : Array Value} (hg : W.heap[g]? = some (.cells cs 3 (0, 0))) (i : Nat) (u : Value) : Sp w (W.setCell ⟨g, i, none⟩ u) O := by
 refine ⟨h.kept.setCell (.inl hO) u, fun k cs' t fr hk ht => ?_, fun k cs' fr hk => ?_⟩
 ·have h1 := h.typ k cs' t fr hk ht
  have hne : k ≠ g := by
   rintro rfl
   rw [hg] at h1
   injection h1 with h1
   injection h1 with _ h2 _
   exact ht h2.symm
  rw [Mem.set_other _ _ _ _ hne]
  exact h1
 ·obtain ⟨c2, h1, h2⟩ := h.row k cs' fr hk
  by_cases hne : k = g
  ·subst hne
   refine ⟨c2.setIfInBounds i u, Mem.set_heap h1 i u, by rw [Array.size_setIfInBounds, h2]⟩
  ·exact ⟨c2, (Mem.set_other _ _ _ _ hne).trans h1, h2⟩
theorem BI.kept {w0 W W1 : World} {g : Nat} {room : Int} {L : List S32} {P S : Nat → Prop} (h : BI w0 W g room L P) (hk : Kept W W1 S) (hS : ∀ k, S k → ¬ P k) (hlo : ∀ k, S k → w0.heap.size ≤ k) : BI w0 W1 g room L P :=
 ⟨h.buf.step (fun k hp hlt => hk.block k hlt (fun hs => hS k hs hp)), h.lo, fun k hp => Nat.lt_of_lt_of_le (h.hi k hp) hk.size, h.good, h.len, h.rm, ((Kept.of_below h.bel S).then_ hk (fun k hs => .inl hs)).to_below hlo⟩
abbrev gA (room : Int) (v : Value) : Array Value := #[.int .i64 room, v]
abbrev gL (room : Int) (v : Value) : List Value := [.int .i64 room, v]
theorem info25 : (Try.prog.info? 25).map (fun i => (i.zero, i.size)) = some (some (.agg #[.int .i64 0, .slice none 0 0]), 2) := by kernel_rfl
section
variable {o : Oper} {ops : Array Oper} {rest : List Oper} {a : Act} {Q : Exit → Act → World → Prop} {W : World} {room : Int} {v : Value}
theorem load25_run (ρ : Operand → Value) {p : Operand} (ho : o.op = .load 25 p) {ad : Addr} (hp : ρ p = .pointer (some ad)) (hc : ∀ j u, (gL room v)[j]? = some u → W.cell? (ad.add j) = some u) :
  (execOp ρ o).run Try.prog W = .ok (.value (.agg (gA room v))) W := by
 have e : execOp ρ o = (do let v ← Instr.loadAt 25 (ρ p); pure (.value v)) := by
  unfold execOp
  rw [ho]
 obtain ⟨i0, hi0, hzz⟩ := Option.map_eq_some_iff.1 info25
 simp only [Prod.mk.injEq] at hzz
 have hl := run_loadCells_list (P := Try.prog) W ad (gL room v) hc
 have hl2 : (loadCells ad 2).run Try.prog W = .ok (gA room v) W := hl
 rw [e, hp]
 simp [Instr.loadAt, Instr.sureAddr, loadVar, isAgg, run_underlying Try.underlying25, sizeOf, typeInfo, hi0, hzz.2, hl2]
theorem store25_run (ρ : Operand → Value) {p q : Operand} (ho : o.op = .store 25 p q) {g : Nat} (hp : ρ p = .pointer (some ⟨g, 0, none⟩)) (hq : ρ q = .agg (gA room v)) (hv : v.oneCell' = true) {cs : Array Value} (hg : W.heap[g]? = some (.cells cs 25 (0, 0))) (hs : cs.size = 2) :
  (execOp ρ o).run Try.prog W = .ok .skip (W.setRow g (gA room v)) := by
 have e : execOp ρ o = (do Instr.storeAt 25 (ρ p) (ρ q); pure .skip) := by
  unfold execOp
  rw [ho]
 obtain ⟨i0, hi0, hzz⟩ := Option.map_eq_some_iff.1 info25
 simp only [Prod.mk.injEq] at hzz
 have hone : ∀ u ∈ gL room v, u.oneCell' = true := by
  intro u hu
  simp only [gL, List.mem_cons, List.not_mem_nil, or_false] at hu
  rcases hu with rfl | rfl <;> first | rfl | exact hv
 have hst := run_storeCells_at Try.prog g 0 25 (gL room v) 0 cs W hg (by rw [hs]; exact (Nat.le_refl 2 : 0 + 0 + 2 ≤ 2)) hone
 have hrow : (cs.toList.take (0 + 0) ++ gL room v ++ cs.toList.drop (0 + 0 + (gL room v).length)).toArray = gA room v := by
  rw [List.drop_of_length_le (by rw [Array.length_toList, hs]; exact (Nat.le_refl 2 : 2 ≤ 0 + 0 + 2))]
  rfl
 rw [hrow] at hst
 have hcl : v.cells = #[v] := by
  cases v <;> first | rfl | simp [Value.oneCell'] at hv
 have hcells : (Value.agg (gA room v)).cells = gA room v := by
  unfold Value.cells
  simp [hcl]
 rw [e, hp, hq]
 simp [Instr.storeAt, Instr.sureAddr, storeVar, sizeOf, typeInfo, hi0, hzz.2, hcells, hst]
theorem load25_ev (hgd : o.guard = none) {N : Tmp} (_hd : o.dst = some N) (room : Int) (v : Value) {p : Operand} (ho : o.op = .load 25 p) {ad : Addr} (hp : a.eval p = .pointer (some ad)) (hc : ∀ j u, (gL room v)[j]? = some u → W.cell? (ad.add j) = some u)
  (h : wpList Try.prog ops Q rest (a.put o.dst (.agg (gA room v))) W) : wpList Try.prog ops Q (o :: rest) a W :=
 Kd.event_run hgd (load25_run a.eval ho hp hc) h
theorem store25_ev (hgd : o.guard = none) (hN : o.dst = none) (room : Int) (v : Value) {p q : Operand} (ho : o.op = .store 25 p q) {g : Nat} (hp : a.eval p = .pointer (some ⟨g, 0, none⟩)) (hq : a.eval q = .agg (gA room v)) (hv : v.oneCell' = true) {cs : Array Value} (hg : W.heap[g]? = some (.cells cs 25 (0, 0))) (hs : cs.size = 2)
  (h : ∀ w1, w1.heap[g]? = some (.cells (gA room v) 25 (0, 0)) → W.grownBy w1 (some g) → wpList Try.prog ops Q rest a w1) : wpList Try.prog ops Q (o :: rest) a W := by
 refine wpList_plain hgd fun K hK => ?_
 unfold Oper.wp
 rw [store25_run a.eval ho hp hq hv hg hs]
 show K (a.put o.dst undef) _
 rw [hN]
 exact hK _ _ (h _ (setRow_heap W g cs _ 25 (0, 0) hg) ⟨rfl, rfl, rfl, by simp [World.setRow], fun k hk hne => setRow_other W g k _ (fun e => hne (by rw [e]))⟩)
theorem blk25 {w : World} {g : Nat} (h : w.heap[g]? = some (.cells (gA room v) 25 (0, 0))) : ∀ j u, (gL room v)[j]? = some u → w.cell? ((⟨g, 0, none⟩ : Addr).add j) = some u := fun j u hj => by
 rw [add_at, Nat.zero_add, blk_cell h, show (gA room v)[j]? = ((gL room v).toArray)[j]? from rfl, List.getElem?_toArray]
 exact hj
end
/-- The blocks that are neither the buffer's nor a log's box. -/
def AQ (P : Nat → Prop) (g5 g9 : Nat) (W : World) : Nat → Prop := fun k => ¬ P k ∧ k ≠ g5 ∧ k ≠ g9 ∧ k < W.heap.size
section
variable {w W W1 W2 : World} {P P' : Nat → Prop} {g5 g9 g b : Nat} {v : Value} {X L L1 Y Z Z1 : List S32} {Ay Az A1 : Option Addr} {cy cz c1 : Nat}
theorem AQ.below (h : Kd.V k32 32 W b (AQ P g5 g9 W) v X) (hb : Below W.heap.size W W1) : Kd.V k32 32 W1 b (AQ P g5 g9 W1) v X :=
 Kd.V_mono (Kd.V_below h hb) (fun k hk => ⟨hk.1, hk.2.1, hk.2.2.1, Nat.lt_of_lt_of_le hk.2.2.2 hb.size⟩)
theorem AQ.grown (h : Kd.V k32 32 W b (AQ P g5 g9 W) v X) (hg : W.grownBy W1 (some g9)) : Kd.V k32 32 W1 b (AQ P g5 g9 W1) v X :=
 Kd.V_mono (Kd.V_grown h hg (fun k hk e => hk.2.2.1 (by injection e))) (fun k hk => ⟨hk.1, hk.2.1, hk.2.2.1, Nat.lt_of_lt_of_le hk.2.2.2 hg.size⟩)
theorem AQ.turned (h : Kd.V k32 32 W b (AQ P g5 g9 W) v X) (hk : Kept W W1 P) (hp : ∀ k, P' k → P k ∨ W.heap.size ≤ k) : Kd.V k32 32 W1 b (AQ P' g5 g9 W1) v X :=
 Kd.V_mono (Kd.V_kept h hk (fun k h1 => h1.1)) (fun k h1 => ⟨fun h2 => by rcases hp k h2 with h3 | h3; exact h1.1 h3; have := h1.2.2.2; omega, h1.2.1, h1.2.2.1, Nat.lt_of_lt_of_le h1.2.2.2 hk.size⟩)
/-- A list of new memory. -/
theorem AQ.fresh (h : Kd.V k32 32 W1 b (fun k => AQ P g5 g9 W k ∨ W.heap.size ≤ k) v X) (hP : ∀ k, P k → k < W.heap.size) (h5 : g5 < W.heap.size) (h9 : g9 < W.heap.size) (hs : W.heap.size ≤ W1.heap.size) : Kd.V k32 32 W1 0 (AQ P g5 g9 W1) v X :=
 Kd.V_mono (Kd.V_bound h) (fun k hk => by
  rcases hk.1 with h1 | h1
  ·exact ⟨h1.1, h1.2.1, h1.2.2.1, hk.2⟩
  ·exact ⟨fun h2 => by have := hP k h2; omega, by omega, by omega, hk.2⟩)
/-- A log alone. -/
structure LI (w W : World) (g5 : Nat) (Y : List S32) (Ay : Option Addr) (cy : Nat) : Prop where
 bel : Below w.heap.size w W
 l5 : w.heap.size ≤ g5
 h5 : W.heap[g5]? = some (.cells (gA 256 (.slice Ay Y.length cy)) 25 (0, 0))
 hy : Kd.V k32 32 W 0 (fun k => k ≠ g5 ∧ k < W.heap.size) (.slice Ay Y.length cy) Y
 log : LogOk namesC Y
 len : Y.length ≤ 256
 sz : ∀ u ∈ Y, u.f7.size < 4611686018427387904
theorem LI.set (h : LI w W g5 Y Ay cy) (hb : Below W.heap.size W W1) (hv : Kd.V k32 32 W1 b (fun k => (k ≠ g5 ∧ k < W.heap.size) ∨ W.heap.size ≤ k) (.slice A1 Z.length c1) Z) (hl : LogOk namesC Z) (hn : Z.length ≤ 256) (hz : ∀ u ∈ Z, u.f7.size < 4611686018427387904)
  (hg : W1.grownBy W2 (some g5)) (h5 : W2.heap[g5]? = some (.cells (gA 256 (.slice A1 Z.length c1)) 25 (0, 0))) : LI w W2 g5 Z A1 c1 := by
 have h5' := blk_lt h.h5
 have hlb := h.l5
 have hsz := h.bel.size
 refine ⟨(h.bel.trans (hb.mono hsz)).grown hg (h.bel.trans (hb.mono hsz)).size (fun k hk => by injection hk with hk; omega), h.l5, h5, Kd.V_mono (Kd.V_grown (Kd.V_mono (Kd.V_bound hv) (ok' := fun k => k ≠ g5 ∧ k < W1.heap.size) (fun k hk => ⟨?_, hk.2⟩)) hg (fun k hk e => hk.1 (by injection e))) (fun k hk => ⟨hk.1, Nat.lt_of_lt_of_le hk.2 hg.size⟩), hl, hn, hz⟩
 rcases hk.1 with h1 | h1
 ·exact h1.1
 ·omega
theorem LI.below (h : LI w W g5 Y Ay cy) (hb : Below W.heap.size W W1) : LI w W1 g5 Y Ay cy :=
 ⟨h.bel.trans (hb.mono h.bel.size), h.l5, blk_below h.h5 hb, Kd.V_mono (Kd.V_below h.hy hb) (fun k hk => ⟨hk.1, Nat.lt_of_lt_of_le hk.2 hb.size⟩), h.log, h.len, h.sz⟩
/-- The law's memory: the buffer (list L, blocks P), the two logs (Y in the box g5, Z in the box g9). -/
structure AI (w W : World) (g5 g9 g : Nat) (L : List S32) (P : Nat → Prop) (Y : List S32) (Ay : Option Addr) (cy : Nat) (Z : List S32) (Az : Option Addr) (cz : Nat) : Prop where
 bi : BI w W g 256 L P
 p5 : ¬ P g5
 p9 : ¬ P g9
 l5 : w.heap.size ≤ g5
 l9 : w.heap.size ≤ g9
 ne : g5 ≠ g9
 h5 : W.heap[g5]? = some (.cells (gA 256 (.slice Ay Y.length cy)) 25 (0, 0))
 h9 : W.heap[g9]? = some (.cells (gA 256 (.slice Az Z.length cz)) 25 (0, 0))
 hy : Kd.V k32 32 W 0 (AQ P g5 g9 W) (.slice Ay Y.length cy) Y
 hz : Kd.V k32 32 W 0 (AQ P g5 g9 W) (.slice Az Z.length cz) Z
theorem AI.below (h : AI w W g5 g9 g L P Y Ay cy Z Az cz) (hb : Below W.heap.size W W1) : AI w W1 g5 g9 g L P Y Ay cy Z Az cz :=
 ⟨h.bi.below hb, h.p5, h.p9, h.l5, h.l9, h.ne, blk_below h.h5 hb, blk_below h.h9 hb, AQ.below h.hy hb, AQ.below h.hz hb⟩
theorem AI.turned (h : AI w W g5 g9 g L P Y Ay cy Z Az cz) (hbi : BI w W1 g 256 L1 P') (hk : Kept W W1 P) (hp : ∀ k, P' k → P k ∨ W.heap.size ≤ k) : AI w W1 g5 g9 g L1 P' Y Ay cy Z Az cz := by
 have old : ∀ k, k < W.heap.size → ¬ P k → ¬ P' k := fun k h1 h2 h3 => by rcases hp k h3 with h4 | h4; exact h2 h4; omega
 have a5 := blk_lt h.h5
 have a9 := blk_lt h.h9
 exact ⟨hbi, old _ a5 h.p5, old _ a9 h.p9, h.l5, h.l9, h.ne, (hk.block _ a5 h.p5).trans h.h5, (hk.block _ a9 h.p9).trans h.h9, AQ.turned h.hy hk hp, AQ.turned h.hz hk hp⟩
/-- The second log is another one. -/
theorem AI.setz (h : AI w W g5 g9 g L P Y Ay cy Z Az cz) (hg : W.grownBy W1 (some g9)) (hv : Kd.V k32 32 W b (AQ P g5 g9 W) (.slice A1 Z1.length c1) Z1) (h9 : W1.heap[g9]? = some (.cells (gA 256 (.slice A1 Z1.length c1)) 25 (0, 0))) : AI w W1 g5 g9 g L P Y Ay cy Z1 A1 c1 := by
 have hlb := h.l9
 have hk : Kept W W1 (fun k => k = g9) := ⟨hg.size, fun k hk hne => hg.block k hk (fun e => hne (by injection e)), hg.os, hg.tape, hg.output⟩
 exact ⟨h.bi.kept hk (fun k e hp => h.p9 (e ▸ hp)) (fun k e => by rw [e]; exact h.l9), h.p5, h.p9, h.l5, h.l9, h.ne, (hk.block _ (blk_lt h.h5) h.ne).trans h.h5, h9, AQ.grown h.hy hg, AQ.grown hv hg⟩
end
theorem ins_len (c : S32) (l : List S32) : (insS c l).length = l.length + 1 := by rw [(insS_perm c l).length_eq]; rfl
set_option maxHeartbeats 1000000 in
/-- The document's Add. -/
theorem add_calls {w : World} {b : Nat} {P0 : Nat → Prop} (A0 : Option Addr) (c0 : Nat) (l : List S32) (hl : Kd.V k32 32 w b P0 (.slice A0 l.length c0) l) (h : LogOk namesC l) (hn : l.length ≤ 256) (c : S32) (A3 : Option Addr) (c3 : Nat) (hc : Kd.C (Kd.int .i64) w A3 c.f2.length c.f2) (hc3 : c.f2.length ≤ c3) (hs : c.f7.size < 4611686018427387904) :
  Calls Try.prog 10 #[.agg #[.int .i64 256, .slice A0 l.length c0], (.agg #[.int .i64 c.f0.f0, .int .i64 c.f0.f1, .int .i64 c.f1, (.slice A3 c.f2.length c3), .int .i64 c.f3, .int .i64 c.f4.f0, .int .i64 c.f4.f1, .int .i64 c.f5.f0, .int .i64 c.f5.f1, .int .i64 c.f6.f0, .int .i64 c.f6.f1, .string c.f7, .string c.f8])] w fun e w' => ∃ (A1 : Option Addr) (c1 : Nat) (l' : List S32) (er : Int), e = .returned (.tuple #[.agg #[.int .i64 256, .slice A1 l'.length c1], .int .i64 er]) ∧ Kd.V k32 32 w' 0 (fun k => P0 k ∨ w.heap.size ≤ k) (.slice A1 l'.length c1) l' ∧ Below w.heap.size w w' ∧ (WhyOk namesC l 256 c → l' = insS c l ∧ er = 0) ∧ LogOk namesC l' ∧ l'.length ≤ 256 ∧ ∀ u ∈ l', u = c ∨ u ∈ l := by
 have hl' : Kd.V k32 32 w w.heap.size (fun k => P0 k) (.slice A0 l.length c0) l := hl
 rcases Add_is h hn 256 hs (c.f7.size + 7000) (by omega) (by omega) with ⟨hw, he⟩ | ⟨hw, e, he⟩
 ·refine (topiaryref07_Add.calls (c.f7.size + 7000) 256 P0 A0 c0 l c.f0.f0 c.f0.f1 c.f1 A3 c3 c.f2 c.f3 c.f4.f0 c.f4.f1 c.f5.f0 c.f5.f1 c.f6.f0 c.f6.f1 c.f7 c.f8 256 (insS c l) 0 w hl' hc hc3 hs (by omega) he).mono ?_
  rintro e w1 ⟨v, rfl, hv, hb⟩
  obtain ⟨A1, c1, rfl, h1, h2⟩ := hv
  have hlt : (l.length : Int) < 256 := hw.2.2.2.2.2.2
  refine ⟨A1, c1, _, 0, rfl, ⟨A1, c1, rfl, h1, h2⟩, hb, fun _ => ⟨rfl, rfl⟩, h.add hw, by rw [ins_len]; omega, fun u hu => ?_⟩
  exact List.mem_cons.1 ((insS_perm c l).mem_iff.1 hu)
 ·refine (topiaryref07_Add.calls (c.f7.size + 7000) 256 P0 A0 c0 l c.f0.f0 c.f0.f1 c.f1 A3 c3 c.f2 c.f3 c.f4.f0 c.f4.f1 c.f5.f0 c.f5.f1 c.f6.f0 c.f6.f1 c.f7 c.f8 256 l e w hl' hc hc3 hs (by omega) he).mono ?_
  rintro e2 w1 ⟨v, rfl, hv, hb⟩
  obtain ⟨A1, c1, rfl, h1, h2⟩ := hv
  exact ⟨A1, c1, _, e, rfl, ⟨A1, c1, rfl, h1, h2⟩, hb, fun q => absurd q hw, h, hn, fun u hu => .inr hu⟩
theorem w1t {n : Nat} (h : n + 1 ≤ 9223372036854775807) : wrap64 ((n : Int) + 1) = ((n + 1 : Nat) : Int) := by rw [← i64_w, IntKind.wrap_i64]; omega
end Go.Proofs.Ytnopjjilpgekfaa.PCa
namespace Go.Proofs.Ytnopjjilpgekfaa.PCa
open Go.RowKit Go.Proofs.YtnopjjilpgekfaaW.PrintWords Go.Proofs.YtnopjjilpgekfaaW.PrintLast Go.Proofs.YtnopjjilpgekfaaW.PrintMore
attribute [local go_sem] max2_int min2_int max_two min_two max_three min_three max_four min_four
set_option linter.unusedVariables false
set_option linter.unusedSimpArgs false
attribute [local go_sem high] eqA30
section
variable {o : Oper} {ops : Array Oper} {rest : List Oper} {a : Act} {Q : Exit → Act → World → Prop} {w0 W : World}
end
/-- An element of a list that is read. -/
theorem elemV {w : World} {b : Nat} {P0 : Nat → Prop} {A0 : Option Addr} {c0 : Nat} {l : List S32} (hl : Kd.V k32 32 w b P0 (.slice A0 l.length c0) l) {i : Nat} (hi : i < l.length) :
  ∃ ad A3 c3, A0 = some ad ∧ (∀ W, Below w.heap.size w W → ∀ j u, (chL (rd_T32 l (i : Int)) (.slice A3 (rd_T32 l (i : Int)).f2.length c3))[j]? = some u → W.cell? ((ad.add (i * 13)).add j) = some u) ∧ (rd_T32 l (i : Int)).f2.length ≤ c3 ∧ Kd.V (Kd.int .i64) 3 w 0 (fun k => P0 k ∧ k < w.heap.size) (.slice A3 (rd_T32 l (i : Int)).f2.length c3) (rd_T32 l (i : Int)).f2 := by
 obtain ⟨ad, _, rfl, _⟩ := Kd.C_get (Kd.V_reads' hl).2.2 z32 (i : Int) (by omega) (by omega)
 obtain ⟨cs, hcl, hK, hcc⟩ := Kd.V_get (Kd.V_bound hl) z32 (i : Int) (by omega) (by omega)
 obtain ⟨A3, c3, rfl, l3, g3⟩ := k32_openF hK
 rw [Int.toNat_natCast] at hcc
 refine ⟨ad, A3, c3, rfl, fun W hb j u hj => ?_, l3, Kd.V_mk l3 g3⟩
 rw [add_add]
 have h := hcc j u hj
 exact (hb.cell (World.block_lt_of_cell? w _ h)).trans h
end Go.Proofs.Ytnopjjilpgekfaa.PCa
namespace Go.Proofs.Ytnopjjilpgekfaa.PCa
open Go.RowKit Go.Proofs.YtnopjjilpgekfaaW.PrintWords Go.Proofs.YtnopjjilpgekfaaW.PrintLast Go.Proofs.YtnopjjilpgekfaaW.PrintMore
attribute [local go_sem] max2_int min2_int max_two min_two max_three min_three max_four min_four
set_option linter.unusedVariables false
set_option linter.unusedSimpArgs false
def alla.T5 : Bool × List (List Nat × List Nat) := (true, [([], []), ([], []), ([], []), ([1, 2], [1, 2]), ([3], [3]), ([0, 4], [0, 4]), ([5], [5]), ([6], [6]), ([6], [6]), ([7, 5, 0, 1, 2, 3, 4, 5, 6, 7], [7])])
def alla.B5 : List Nat := [0, 0, 0, 6, 14, 31, 63, 127, 127, 255]
theorem alla.tab5 : rtab .any (opsOf Try.f3 5) = alla.T5 := by kernel_rfl
theorem alla.bits5 : waitsOk alla.T5.2 alla.B5 = true := by kernel_rfl
def allb.T17 : Bool × List (List Nat × List Nat) := (true, [([], []), ([], []), ([1], [1]), ([2], [2]), ([], []), ([], []), ([4, 5], [4, 5]), ([6], [6]), ([0, 3, 7, 3], [0, 3, 7]), ([8], [8]), ([9], [9]), ([9], [9]), ([10, 8, 0, 1, 2, 3, 4, 5, 6, 7, 8, 9, 10], [10]), ([11, 12, 0, 1, 2, 3, 4, 5, 6, 7, 8, 9, 10, 11, 12], [11])])
def allb.B17 : List Nat := [0, 0, 2, 6, 0, 0, 48, 112, 255, 511, 1023, 1023, 2047, 8191]
theorem allb.tab17 : rtab .any (opsOf Try.f3 17) = allb.T17 := by kernel_rfl
theorem allb.bits17 : waitsOk allb.T17.2 allb.B17 = true := by kernel_rfl
def allc.T23 : Bool × List (List Nat × List Nat) := (true, [([], []), ([], []), ([], []), ([1, 2], [1, 2]), ([3], [3]), ([0, 4], [0, 4]), ([5], [5]), ([6], [6]), ([6], [6]), ([], []), ([9, 7, 5, 0, 1, 2, 3, 4, 5, 6, 7, 9], [7, 9]), ([8, 10, 0, 1, 2, 3, 4, 5, 6, 7, 8, 9, 10], [8])])
def allc.B23 : List Nat := [0, 0, 0, 6, 14, 31, 63, 127, 127, 0, 767, 2047]
theorem allc.tab23 : rtab .any (opsOf Try.f3 23) = allc.T23 := by kernel_rfl
theorem allc.bits23 : waitsOk allc.T23.2 allc.B23 = true := by kernel_rfl
section
variable {w1 w3 : World} {b b' nx n1 g6 : Nat} {Q Z : Nat → Prop} {v : Value} {Y : List S32}
theorem all_va (h : Kd.V k32 32 w1 b (fun k => Q k ∨ nx ≤ k) v Y) (hn : n1 ≤ nx) : Kd.V k32 32 w1 b' (fun k => (Q k ∨ n1 ≤ k) ∧ k < w1.heap.size) v Y :=
 Kd.V_mono (Kd.V_bound h) (fun k hk => ⟨hk.1.imp id (fun h => Nat.le_trans hn h), hk.2⟩)
theorem all_vb (h : Kd.V k32 32 w1 b (fun k => Q k ∨ nx ≤ k) v Y) (hQ : ∀ k, Q k → k < n1) (h9 : n1 ≤ g6) (h9x : g6 < nx) (hn : n1 ≤ nx) : Kd.V k32 32 w1 b' (fun k => (Q k ∨ n1 ≤ k) ∧ k ≠ g6) v Y :=
 Kd.V_mono h (fun k hk => ⟨hk.imp id (fun h => Nat.le_trans hn h), by rcases hk with h1 | h1; have := hQ k h1; omega; omega⟩)
theorem all_vc (h : Kd.V k32 32 w1 b (fun k => Z k ∧ k < w1.heap.size) v Y) (o : Obj) : Kd.V k32 32 (w1.alloc o) b (fun k => Z k ∧ k ≠ w1.heap.size) v Y :=
 Kd.V_mono (Kd.V_alloc h o) (fun k hk => ⟨hk.1, Nat.ne_of_lt hk.2⟩)
theorem all_vd (h : Kd.V k32 32 w3 b (fun k => Z k ∧ k ≠ g6) v Y) (ds : Array Value) : Kd.V k32 32 (w3.setRow g6 ds) b Z v Y :=
 Kd.V_mono (Kd.V_step h (fun k hk _ => setRow_other w3 g6 k _ hk.2)) (fun k hk => hk.1)
end
theorem Below.of_eq2 {w w' : World} (h : w' = w) : Below w.heap.size w w' := by rw [h]; exact Below.refl _ _
theorem idx_ok {wo : World} (x : Int) {n : Nat} (h : 0 < n) (hn : n ≤ 256) : ∃ i : Nat, Value.int .i64 (wrap64 ((IntKind.u64.wrap x).tmod (IntKind.u64.wrap (n : Int)))) = .int .i64 (i : Int) ∧ wo = wo ∧ Aside0 (i < n) := by
 have h1 : IntKind.u64.wrap (n : Int) = (n : Int) := by rw [IntKind.wrap_u64]; omega
 have h2 : 0 ≤ IntKind.u64.wrap x := by rw [IntKind.wrap_u64]; omega
 rw [h1]
 generalize IntKind.u64.wrap x = y at *
 have h3 : 0 ≤ y.tmod (n : Int) := Int.tmod_nonneg _ h2
 have h4 : y.tmod (n : Int) < (n : Int) := Int.tmod_lt_of_pos _ (by omega)
 refine ⟨(y.tmod (n : Int)).toNat, ?_, rfl, ⟨by omega⟩⟩
 congr 1
 rw [← i64_w, IntKind.wrap_i64]
 omega
def lenW : Value → Nat
 | .slice _ n _ => n
 | _ => 0
/-- The plain state: what has come is a log, what is held is not ready. -/
abbrev PI (Y Z L R : List S32) : Prop := LogOk namesC Z ∧ (Z ++ (L ++ R)).Perm Y ∧ (∀ x ∈ L, ¬ RipeZ Z x) ∧ Z.length ≤ 256
set_option maxHeartbeats 8000000 in
set_option maxRecDepth 100000 in
theorem all_law_calls (w : World) (A1 : Option Addr) (c1 : Nat) (l : List S32) (hl : Kd.C k32 w A1 l.length l) (hln : l.length < 4611686018427387904) (hs : ∀ x ∈ l, x.f7.size < 4611686018427387904) (A2 : Option Addr) (c2 : Nat) (od : List Int) (hod : Kd.C (Kd.int .i64) w A2 od.length od) :
  Calls Try.prog 3 #[.slice A1 l.length c1, .slice A2 od.length c2] w fun e w' => e = .returned (.bool true) ∧ Below w.heap.size w w' := by
 have HL := Aside0.mk hl
 have HLN := Aside0.mk hln
 have HS := Aside0.mk hs
 have HOD := Aside0.mk hod
 clear hl hln hs hod
 go_enter Try.func3, Try.ntmps3
 go_wp2_with (first | ((with_reducible refine gate_dst (N := 5) rfl ?_); refine boxE (N := 5) (cs := #[.int .i64 0, .slice none 0 0]) (t := 25) ?_; intro g5 hr_ w2 hbox hb; have HX5 := Aside0.mk hbox; have HB5 := Aside0.mk hb; have HN5 := Aside0.mk hr_; clear hbox hb hr_) | ((with_reducible refine gate_store (t := 25) (p := 5) (v := .tmp 19) rfl ?_); refine store25_ev rfl rfl 256 (.slice none 0 0) (p := .tmp 5) (q := .tmp 19) rfl (g := g5) rfl rfl rfl HX5.out rfl ?_; intro ws hb_ hg_; have HXs := Aside0.mk hb_; have HGs := Aside0.mk hg_; clear hb_ hg_))
 have HSTART : Aside0 (LI w ws g5 [] none 0) := ⟨(HB5.out.grown HGs.out HB5.out.size (fun k hk => by injection hk with hk; rw [← hk]; exact Nat.le_of_eq HN5.out.symm)), Nat.le_of_eq HN5.out.symm, HXs.out, Kd.V_nil _ _ _ _ _, LogOk.nil, Nat.zero_le _, fun _ h => absurd h List.not_mem_nil⟩
 clear HB5 HN5 HX5 HXs HGs
 go_loopw [6] (fun v6 wq => ∃ (i : Nat) (Y : List S32) (Ay : Option Addr) (cy : Nat), v6 = .int .i64 (i : Int) ∧ Aside0 (i ≤ l.length) ∧ Aside0 (LI w wq g5 Y Ay cy)) (fun v6 _ => l.length - (intOf v6).toNat)
 case atStart => exact ⟨0, [], none, 0, rfl, ⟨Nat.zero_le _⟩, HSTART⟩
 case round =>
  clear HSTART
  obtain ⟨i, Y, Ay, cy, rfl, HI, HT⟩ := hrel
  obtain ⟨wo, rfl⟩ : ∃ wo, wo = wr := ⟨wr, rfl⟩
  by_cases hi : i < l.length
  case pos =>
   have HI' := Aside0.mk hi
   obtain ⟨ad, A4, c4, rfl, hcc, hl4, hC4⟩ := elemS HL.out hi
   have hmem : rd_T32 l (i : Int) ∈ l := List.mem_of_getElem? (rd32_at hi)
   have HSZ := Aside0.mk (HS.out _ hmem)
   generalize rd_T32 l (i : Int) = y at *
   have HCC := Aside0.mk hcc
   have HL4 := Aside0.mk hl4
   have HC4 := Aside0.mk hC4
   have b1 : (0 ≤ (i : Int)) = True := eq_true (by omega)
   have b2 : ((i : Int) < (l.length : Int)) = True := eq_true (by omega)
   have b3 : (i < l.length) = True := eq_true hi
   have b4 : decide (i < l.length) = true := decide_eq_true hi
   have hiw : wrap64 ((i : Int) + 1) = ((i + 1 : Nat) : Int) := by have h1_ := HLN.out; exact w1s (by omega)
   have HIW := Aside0.mk hiw
   clear hcc hl4 hC4 hmem hi hiw
   go_upto_region 5 with (fail)
   refine startS (n := 10) (S := (fun w' => Below wo.heap.size wo w')) (ds := [9]) (below_drew (Below.refl _ _)) (fun hHeld => ?_)
   refine with_tabW alla.tab5 alla.bits5 (fun HT_ HW_ => ?_)
   refine pureT (i := 1) (N := (some 28)) HT_ ?_
   refine pureT (i := 2) (N := (some 29)) HT_ ?_
   refine pureT (i := 3) (N := (some 30)) HT_ ?_
   refine takeS (i := 0) (N := (some 27)) (v := ?_) HT_ HW_ hHeld ?_ ?_
   rotate_left
   ·intro w' s0
    refine Eq.trans (load25_run (room := 256) (v := .slice Ay Y.length cy) _ (p := .tmp 5) ?ho_ ?hp_ (blk25 (HT.out.below s0).h5)) ?hr_
    case ho_ => rfl
    case hp_ => rfl
    case hr_ => rfl
   refine normS (N := (some 27)) ?_
   refine takeS (i := 4) (N := (some 31)) (v := ?_) HT_ HW_ hHeld ?_ ?_
   rotate_left
   ·intro w' s0
    refine Eq.trans (load32_run (x := y) (v := (.slice A4 y.f2.length c4)) _ (p := .tmp 30) ?ho_ ?hp_ (fun j u hj => HCC.out w' (HT.out.below s0).bel j u hj)) ?hr_
    case ho_ => rfl
    case hp_ => rfl
    case hr_ => rfl
   refine normS (N := (some 31)) ?_
   refine oneS (i := 5) (N := (some 32)) HT_ (fun K hK => ?_)
   refine goes_ Try.func10 (by kernel_rfl) rfl #[.agg #[.int .i64 256, .slice Ay Y.length cy], (.agg #[.int .i64 y.f0.f0, .int .i64 y.f0.f1, .int .i64 y.f1, (.slice A4 y.f2.length c4), .int .i64 y.f3, .int .i64 y.f4.f0, .int .i64 y.f4.f1, .int .i64 y.f5.f0, .int .i64 y.f5.f1, .int .i64 y.f6.f0, .int .i64 y.f6.f1, .string y.f7, .string y.f8])] (by rfl) rfl rfl argS ?_
   have hH := hHeld
   refine (add_calls Ay cy Y (Kd.V_below HT.out.hy hH) HT.out.log HT.out.len y A4 c4 (Kd.C_below HC4.out (HT.out.below hH).bel) HL4.out HSZ.out).mono ?_
   rintro e w1 ⟨B1, d1, Y1, er, rfl, hv1, hb1, -, hlog, hlen, hmem⟩
   refine ⟨_, rfl, ?_⟩
   have hS : Below wo.heap.size wo w1 := hH.trans (hb1.mono hH.size)
   have HV1 := Aside0.mk (Kd.V_mono hv1 (ok' := fun k => (k ≠ g5 ∧ k < wo.heap.size) ∨ wo.heap.size ≤ k) (fun k hk => hk.imp id (fun h => Nat.le_trans hH.size h)))
   have HG1 := Aside0.mk hlog
   have HL1 := Aside0.mk hlen
   have HZ1 : Aside0 (∀ u ∈ Y1, u.f7.size < 4611686018427387904) := ⟨fun u hu => by rcases hmem u hu with h | h; (rw [h]; exact HSZ.out); exact HT.out.sz u h⟩
   clear hb1 hv1 hH hHeld hlog hlen hmem
   refine hK.out _ _ (hS) (fun hHeld => ?_)
   clear hK K
   refine normS (N := (some 32)) ?_
   refine pureT (i := 6) (N := (some 26)) HT_ ?_
   refine pureT (i := 7) (N := (some 33)) HT_ ?_
   refine pureT (i := 8) (N := (some 34)) HT_ ?_
   refine lastS (i := 9) (N := none) HT_ (fun K hK => ?_)
   have hS := hHeld
   have HX5 := Aside0.mk (blk_below HT.out.h5 hS)
   refine skip_ (w1 := _) (by rfl) rfl (store25_run (room := 256) (v := .slice B1 Y1.length d1) _ rfl rfl rfl rfl HX5.out rfl) ?_
   have HT2 := Aside0.mk (HT.out.set hS HV1.out HG1.out HL1.out HZ1.out (W2 := World.setRow _ g5 (gA 256 (.slice B1 Y1.length d1))) ⟨rfl, rfl, rfl, by simp [World.setRow], fun k hk hne => setRow_other _ g5 k _ (fun e => hne (by rw [e]))⟩ (setRow_heap _ g5 _ (gA 256 (.slice B1 Y1.length d1)) 25 (0, 0) HX5.out))
   clear hS hHeld HV1 HG1 HL1 HZ1 HX5
   refine hK.out _ _ ?_
   clear hK K
   refine done_ (done_of HT_.out (by kernel_rfl)) ?_
   go_wp2_with (fail)
   rw [HIW.out]
   exact ⟨⟨i + 1, Y1, B1, d1, rfl, ⟨HI'.out⟩, HT2⟩, dec_lt HI'.out⟩
  have e1 : decide (i < l.length) = false := decide_eq_false hi
  have HYL := Aside0.mk HT.out.len
  have HYG := Aside0.mk HT.out.log
  have HYS := Aside0.mk HT.out.sz
  have H64 : Aside0 (∀ u ∈ Y, u.f2.length ≤ 64) := ⟨fun u hu => (check_ok (HYG.out.ok u hu)).2.2.2.2.2⟩
  clear hi HI HL HS HLN
  go_wp2_with (fail)
  refine (new_calls _ 256 (by decide) (by decide)).mono ?_
  rintro e w1 ⟨g, rfl, hbn, hw0⟩
  have HBI := Aside0.mk (BI.new (w0 := w) (room := 256) (by decide) (by decide) hbn hw0 HT.out.bel)
  have HT1 := Aside0.mk (HT.out.below hw0)
  have HG5 : Aside0 (g5 < wo.heap.size) := ⟨blk_lt HT.out.h5⟩
  have HYV := Aside0.mk (Kd.V_below HT.out.hy hw0)
  have HW1 := Aside0.mk hw0.size
  clear hbn hw0
  go_upto_region 10 with (first | ((with_reducible refine gate_dst (N := 9) rfl ?_); refine boxE (N := 9) (cs := #[.int .i64 0, .slice none 0 0]) (t := 25) ?_; intro g9 hr_ w2 hbox hb; have HX9 := Aside0.mk hbox; have HB9 := Aside0.mk hb; have HN9 := Aside0.mk hr_; clear hbox hb hr_) | ((with_reducible refine gate_store (t := 25) (p := 9) (v := .tmp 39) rfl ?_); refine store25_ev rfl rfl 256 (.slice none 0 0) (p := .tmp 9) (q := .tmp 39) rfl (g := g9) rfl rfl rfl HX9.out rfl ?_; intro ws hb_ hg_; have HXs := Aside0.mk hb_; have HGs := Aside0.mk hg_; clear hb_ hg_))
  have hb2 : Below w1.heap.size w1 ws := HB9.out.grown HGs.out HB9.out.size (fun k hk => by injection hk with hk; rw [← hk]; exact Nat.le_of_eq HN9.out.symm)
  have HA : Aside0 (AI w ws g5 g9 g [] (fun k => wo.heap.size ≤ k ∧ k < w1.heap.size) Y Ay cy [] none 0) := ⟨HBI.out.below hb2, fun h => by have h1_ := HG5.out; have h2_ := h.1; omega, fun h => by have h1_ := HN9.out; have h2_ := h.2; omega, HT.out.l5, by have h1_ := HN9.out; have h2_ := HT1.out.bel.size; omega, fun e => by have h1_ := HN9.out; have h2_ := HG5.out; have h3_ := HW1.out; omega, blk_below HT1.out.h5 hb2, HXs.out, Kd.V_mono (Kd.V_below HYV.out hb2) (fun k hk => ⟨fun h => by have h1_ := hk.2; have h2_ := h.1; omega, hk.1, fun e => by have h1_ := hk.2; have h2_ := HN9.out; have h3_ := HW1.out; omega, by have h1_ := hk.2; have h2_ := HW1.out; have h3_ := hb2.size; omega⟩), Kd.V_nil _ _ _ _ _⟩
  clear hb2 HBI HT1 HYV HW1 HX9 HXs HGs HB9 HN9 HT HG5
  have q1 : ws.cell? ⟨g5, 1, none⟩ = some (.slice Ay Y.length cy) := (blk_cell HA.out.h5 1).trans rfl
  go_wp2_with (first | (go_at_call 12; refine (topiaryref05_CopyAll.calls 1000 Ay cy Y Y _ (Kd.V_reads' HA.out.hy).2.2 (Kd.V_reads' HA.out.hy).2.1 (CopyAll_is Y H64.out (by have h_ := HYL.out; omega) 1000 (by have h_ := HYL.out; omega))).mono ?_; rintro e w3 ⟨v3, rfl, hs3, hb3⟩; obtain ⟨Ar, cr, rfl⟩ := Kd.S_slice hs3; have HRS := Aside0.mk (AQ.fresh (P := (fun k => wo.heap.size ≤ k ∧ k < w1.heap.size)) (g5 := g5) (g9 := g9) (W := ws) (Kd.V_mono (Kd.S_V (base' := 0) (Kd.S_bound hs3)) (fun k hk => .inr hk.2.1)) (fun k hk => HA.out.bi.hi k hk) (blk_lt HA.out.h5) (blk_lt HA.out.h9) hb3.size); have HA0 := Aside0.mk (HA.out.below hb3); clear hs3 hb3 HA))
  clear q1
  go_loopw [10, 11] (fun v10 v11 wq => ∃ (tn : Nat) (R L Z : List S32) (P : Nat → Prop) (Ar Az : Option Addr) (cr cz : Nat), v10 = .slice Ar R.length cr ∧ v11 = .int .i64 (tn : Int) ∧ Aside0 (tn + R.length = Y.length) ∧ Aside0 (AI w wq g5 g9 g L P Y Ay cy Z Az cz) ∧ Aside0 (Kd.V k32 32 wq 0 (AQ P g5 g9 wq) (.slice Ar R.length cr) R) ∧ Aside0 (PI Y Z L R)) (fun v10 _ _ => lenW v10)
  case atStart => exact ⟨0, Y, [], [], _, Ar, none, cr, 0, rfl, rfl, ⟨Nat.zero_add _⟩, HA0, HRS, ⟨LogOk.nil, List.Perm.refl _, (fun _ h => absurd h List.not_mem_nil), Nat.zero_le _⟩⟩
  case round =>
   clear HA0 HRS
   obtain ⟨tn, R, L, Z, P, Ar, Az, cr, cz, rfl, rfl, HTR, HA, HR, HP⟩ := hrel
   obtain ⟨wo, rfl⟩ : ∃ wo, wo = wr := ⟨wr, rfl⟩
   by_cases hr : 0 < R.length
   case neg =>
    obtain rfl : R = [] := List.eq_nil_of_length_eq_zero (by omega)
    have hend := end_all HYG.out HP.out.1 HP.out.2.1 HA.out.bi.good HP.out.2.2.1
    obtain ⟨rfl, rfl⟩ := hend
    clear hr HTR
    have q1 : wo.cell? ⟨g9, 1, none⟩ = some (.slice Az Z.length cz) := (blk_cell HA.out.h9 1).trans rfl
    have q2 : wo.cell? ⟨g5, 1, none⟩ = some (.slice Ay Z.length cy) := (blk_cell HA.out.h5 1).trans rfl
    go_wp2_with (first | (go_at_call 15; refine (sameAll_self Az cz Ay cy Z (Kd.V_reads' HA.out.hz).2.2 (Kd.V_reads' HA.out.hz).2.1 (Kd.V_reads' HA.out.hy).2.2 (Kd.V_reads' HA.out.hy).2.1 H64.out (by have h_ := HYL.out; omega)).mono ?_; rintro e w3 ⟨rfl, hb_⟩; have HA2 := Aside0.mk (HA.out.below hb_); clear hb_) | (go_at_call 16; refine (len_calls HA2.out.bi.buf).mono ?_; rintro e w4 ⟨rfl, hw_⟩; have HB4 := Aside0.mk (HA2.out.bi.bel.trans ((Below.of_eq2 hw_).mono HA2.out.bi.bel.size)); clear hw_) | (go_at_call 17; refine (awake_calls _).mono ?_; rintro e w5 ⟨rfl, hb_⟩; have HB5 := Aside0.mk (HB4.out.trans (hb_.mono HB4.out.size)); clear hb_))
    go_ret
    exact ⟨rfl, HB5.out⟩
   have b5 : (0 < R.length) = True := eq_true hr
   have HR256 : Aside0 (R.length ≤ 256) := ⟨by have h1_ := HTR.out; have h2_ := HYL.out; omega⟩
   have b6 : (IntKind.u64.wrap (R.length : Int) = 0) = False := eq_false (by rw [IntKind.wrap_u64]; have h1_ := HR256.out; omega)
   have HRP := Aside0.mk hr
   clear hr
   go_upto_if 57 with (fail)
   generalize hbb : decide (tn < od.length) = bb at *
   go_cut [12] (fun v12 wc => ∃ i : Nat, v12 = .int .i64 (i : Int) ∧ wc = wo ∧ Aside0 (i < R.length))
   case first =>
    cases bb with
    | false =>
     clear hbb
     go_wp2_with (fail)
     go_meet
     case rel => exact ⟨0, rfl, rfl, HRP⟩
    | true =>
     have ht := of_decide_eq_true hbb
     obtain ⟨ado, e121, hx⟩ := Kd.at_int (Kd.C_below HOD.out HA.out.bi.bel) (tn : Int) (by omega) (by omega)
     cases e121
     have HXO := Aside0.mk hx
     have p1 : (0 ≤ (tn : Int)) = True := eq_true (by omega)
     have p2 : ((tn : Int) < (od.length : Int)) = True := eq_true (by omega)
     have p3 : (tn < od.length) = True := eq_true ht
     clear hbb ht hx
     generalize rd od (tn : Int) = x at *
     have q1 := HXO.out
     rw [Int.toNat_natCast] at q1
     go_wp2_with (fail)
     go_meet
     case rel => exact idx_ok x HRP.out HR256.out
   case rest =>
   obtain ⟨i, rfl, hw_, HIR⟩ := hcut
   replace hw_ := hw_.symm
   subst hw_
   clear b6
   obtain ⟨L', out, htk, hadd, hlog, hperm, hno⟩ := step_all HYG.out HYL.out HP.out.1 HP.out.2.1 (clock_agree HP.out.2.2.2) HA.out.bi.good HP.out.2.2.1 HIR.out
   have hsub := fun u => take_sub 256 L (clockL Z) (rd_T32 R (i : Int)) u
   rw [htk] at hsub
   obtain ⟨ad, A4, c4, rfl, hcc, hl4, hV4⟩ := elemV HR.out HIR.out
   have hry : ∀ u, u ∈ L ∨ u ∈ R → u.f7.size < 4611686018427387904 := fun u hu => HYS.out u (HP.out.2.1.mem_iff.1 (List.mem_append.2 (.inr (List.mem_append.2 hu))))
   have hSZ := hry _ (.inr (rd_mem HIR.out))
   have hOS : ∀ u ∈ out, u.f7.size < 4611686018427387904 := fun u hu => by rcases hsub u (.inr hu) with h | h; rw [h]; exact hSZ; exact hry u (.inl h)
   generalize rd_T32 R (i : Int) = y at *
   have HTF := Aside0.mk htk
   have HADD := Aside0.mk hadd
   have HP2 := Aside0.mk (And.intro hlog (And.intro hperm hno))
   have HOS := Aside0.mk hOS
   have HSZ := Aside0.mk hSZ
   have HCC := Aside0.mk hcc
   have HL4 := Aside0.mk hl4
   have HXV := Aside0.mk hV4
   have b1 : (0 ≤ (i : Int)) = True := eq_true (by omega)
   have b2 : ((i : Int) < (R.length : Int)) = True := eq_true (by have h_ := HIR.out; omega)
   have b3 : (i < R.length) = True := eq_true HIR.out
   have b4 : decide (i < R.length) = true := decide_eq_true HIR.out
   clear htk hadd hlog hperm hno hsub hry hSZ hOS hcc hl4 hV4
   go_upto_region 17 with (fail)
   refine startS (n := 14) (S := (fun w' => Below wo.heap.size wo w')) (ds := [8]) (below_drew (Below.refl _ _)) (fun hHeld => ?_)
   refine with_tabW allb.tab17 allb.bits17 (fun HT_ HW_ => ?_)
   refine pureT (i := 0) (N := (some 69)) HT_ ?_
   refine pureT (i := 1) (N := (some 70)) HT_ ?_
   refine pureT (i := 4) (N := (some 73)) HT_ ?_
   refine pureT (i := 5) (N := (some 74)) HT_ ?_
   refine pureT (i := 6) (N := (some 75)) HT_ ?_
   refine takeS (i := 2) (N := (some 71)) (v := ?_) HT_ HW_ hHeld ?_ ?_
   rotate_left
   ·intro w' s0
    have f : w'.cell? ⟨g9, 1, none⟩ = some (.slice Az Z.length cz) := (blk_cell (HA.out.below s0).h9 1).trans rfl
    go_simp
    with_reducible rfl
   refine normS (N := (some 71)) ?_
   refine takeS (i := 7) (N := (some 76)) (v := ?_) HT_ HW_ hHeld ?_ ?_
   rotate_left
   ·intro w' s0
    refine Eq.trans (load32_run (x := y) (v := (.slice A4 y.f2.length c4)) _ (p := .tmp 75) ?ho_ ?hp_ (fun j u hj => HCC.out w' s0 j u hj)) ?hr_
    case ho_ => rfl
    case hp_ => rfl
    case hr_ => rfl
   refine normS (N := (some 76)) ?_
   refine oneS (i := 3) (N := (some 72)) HT_ (fun K hK => ?_)
   refine goes_ Try.func14 (by kernel_rfl) rfl #[.slice Az Z.length cz] (by rfl) rfl rfl argS ?_
   have hH := hHeld
   refine (topiaryref07_Clock.calls 1000 Az cz Z (clockL Z) _ (Kd.V_reads' (HA.out.below hH).hz).2.2 (Kd.V_reads' HA.out.hz).2.1 (Clock_is Z (by have h_ := HP.out.2.2.2; omega) 1000 (by have h_ := HP.out.2.2.2; omega))).mono ?_
   rintro e w1 ⟨v1, rfl, hr1, hb1⟩
   obtain ⟨Ak, ck, rfl⟩ := Kd.R_slice hr1
   refine ⟨_, rfl, ?_⟩
   have HKR := Aside0.mk (Kd.R_reads' hr1)
   have hS : Below wo.heap.size wo w1 := hH.trans (hb1.mono hH.size)
   clear hb1 hr1 hH hHeld
   refine hK.out _ _ (hS) (fun hHeld => ?_)
   clear hK K
   refine normS (N := (some 72)) ?_
   refine lastS (i := 8) (N := (some 77)) HT_ (fun K hK => ?_)
   refine goes_ Try.func13 (by kernel_rfl) rfl #[.pointer (some ⟨g, 0, none⟩), .slice Ak (clockL Z).length ck, (.agg #[.int .i64 y.f0.f0, .int .i64 y.f0.f1, .int .i64 y.f1, (.slice A4 y.f2.length c4), .int .i64 y.f3, .int .i64 y.f4.f0, .int .i64 y.f4.f1, .int .i64 y.f5.f0, .int .i64 y.f5.f1, .int .i64 y.f6.f0, .int .i64 y.f6.f1, .string y.f7, .string y.f8])] (by rfl) rfl rfl argS ?_
   have HA2 := Aside0.mk (HA.out.below hHeld)
   have HR2 := Aside0.mk (AQ.below HR.out hHeld)
   refine (take13_calls HA2.out.bi.buf HA2.out.bi.good HA2.out.bi.len HA2.out.bi.rm Ak ck (clockL Z) HKR.out.2.2 HKR.out.2.1 y A4 c4 (Kd.V_F (Kd.V_below HXV.out hHeld)) (fun k hk => hk.1.1) HL4.out HSZ.out).mono ?_
   rw [HTF.out]
   intro e w2 ht_
   obtain ⟨P', O, v9, rfl, hbi, hs9, ho1, ho2, hp, hk⟩ := HA2.out.bi.of_take HTF.out ht_
   obtain ⟨A9, c9, rfl⟩ := Kd.S_slice hs9
   refine ⟨_, rfl, ?_⟩
   have HA3 := Aside0.mk (HA2.out.turned hbi hk hp)
   have HR3 := Aside0.mk (AQ.turned HR2.out hk hp)
   have HG3 : Aside0 (Kd.V k32 32 w2 0 (AQ P' g5 g9 w2) (.slice A9 out.length c9) out) := ⟨Kd.V_mono (Kd.S_V (base' := 0) (Kd.S_bound hs9)) (fun k h => by have h5_ := blk_lt HA2.out.h5; have h9_ := blk_lt HA2.out.h9; refine ⟨ho1 k h.1, fun e => ?_, fun e => ?_, h.2.2.1⟩; (rcases (ho2 k h.1).2 with h1 | h1; exact HA2.out.p5 (e ▸ h1); omega); (rcases (ho2 k h.1).2 with h1 | h1; exact HA2.out.p9 (e ▸ h1); omega))⟩
   clear hbi hs9 ho1 ho2 hp hk ht_ HA2 HR2 hHeld
   refine hK.out _ _ ?_
   clear hK K
   refine normS (N := (some 77)) ?_
   refine pureT (i := 9) (N := (some 68)) HT_ ?_
   refine pureT (i := 10) (N := (some 78)) HT_ ?_
   refine pureT (i := 11) (N := (some 79)) HT_ ?_
   refine pureT (i := 12) (N := (some 13)) HT_ ?_
   refine pureT (i := 13) (N := (some 14)) HT_ ?_
   refine done_ (done_of HT_.out (by kernel_rfl)) ?_
   have HA := HA3
   clear HA3
   go_wp2_with (fail)
   go_loopw [15] (fun v15 wq => ∃ (j : Nat) (Aj : Option Addr) (cj : Nat), v15 = .int .i64 (j : Int) ∧ Aside0 (j ≤ out.length) ∧ Aside0 (AI w wq g5 g9 g L' P' Y Ay cy (addAll Z (out.take j)) Aj cj) ∧ Aside0 (Kd.V k32 32 wq 0 (AQ P' g5 g9 wq) (.slice (some ad) R.length cr) R) ∧ Aside0 (Kd.V k32 32 wq 0 (AQ P' g5 g9 wq) (.slice A9 out.length c9) out) ∧ Aside0 (LogOk namesC (addAll Z (out.take j)) ∧ (addAll Z (out.take j)).length ≤ 256)) (fun v15 _ => out.length - (intOf v15).toNat)
   case atStart => exact ⟨0, _, _, rfl, ⟨Nat.zero_le _⟩, HA, HR3, HG3, ⟨HP.out.1, HP.out.2.2.2⟩⟩
   case round =>
    clear HA HR3 HG3
    obtain ⟨j, Aj, cj, rfl, HJ, HAk, HRk, HGk, HLG⟩ := hrel
    obtain ⟨wk, rfl⟩ : ∃ wk, wk = wr := ⟨wr, rfl⟩
    by_cases hj : j < out.length
    case neg =>
     have e1 : decide (j < out.length) = false := decide_eq_false hj
     have hjo : out.take j = out := List.take_of_length_le (by omega)
     rw [hjo] at HAk HLG
     have hi_ := HIR.out
     have HRL := Aside0.mk (Kd.V_reads' HRk.out).2.1
     have HIW := Aside0.mk (w1s (n := tn) (by have h1_ := HTR.out; have h2_ := HYL.out; omega))
     have hiw : wrap64 ((i : Int) + 1) = ((i + 1 : Nat) : Int) := w1s (by have h1_ := HTR.out; have h2_ := HYL.out; omega)
     obtain ⟨i0, hi0, _, hsz, _⟩ := info_parts info32
     have hcutT := cut_to (P := Try.prog) 22 32 .i64 Try.underlying22 hi0 (some ad) R.length cr (i : Int) (by omega) (by omega) HRL.out
     rw [Int.toNat_natCast] at hcutT
     obtain ⟨Af, hAf⟩ : ∃ A, (if cr = i + 1 then some ad else (some ad).map (·.add ((i + 1) * 13))) = A := ⟨_, rfl⟩
     have hcutF := cut_from (P := Try.prog) 22 32 .i64 Try.underlying22 hi0 13 hsz (some ad) R.length cr (wrap64 ((i : Int) + 1)) (by rw [hiw]; omega) (by rw [hiw]; omega)
     rw [show (wrap64 ((i : Int) + 1)).toNat = i + 1 from by rw [hiw, Int.toNat_natCast]] at hcutF
     rw [hAf] at hcutF
     have HAF := Aside0.mk hAf
     have HI2 := Aside0.mk hi_
     clear hj hjo hiw hi0 hsz hAf hi_ HIR
     go_wp2_with (first | ((with_reducible refine gate_dst (N := 100) rfl ?_); refine Kd.N_lit k32 wk.heap.size 32 ?hg (N' := 100) ?hd (w0 := wk) (xs := ([] : List S32)) (inner := []) (ok := (fun k => AQ P' g5 g9 wk k ∨ wk.heap.size ≤ k)) (okp := (fun k => AQ P' g5 g9 wk k ∨ wk.heap.size ≤ k)) ?hr ?hp (fun _ hk => hk) (.inr (Nat.le_refl _)) (Below.refl _ _) (Nat.le_refl _) (by simp) ?_; (case hd => rfl); (case hg => rfl); (case hr => first | (go_simp; done) | (go_simp; rfl)); (case hp => exact (Reps.none _ _)); intro v100 w2 hN hb hg_ hnew_; have HN := Aside0.mk hN; have HBn := Aside0.mk hb; clear hN hb hg_ hnew_) | ((with_reducible refine gate_builtin (b := .append) (xs := #[.tmp 100, .tmp 103]) rfl ?_); at_builtin; refine Kd.N_append_rows k32 (w0 := wk) wk.heap.size rfl (.tmp 100) (.tmp 103) 22 32 (.agg #[(.int .i64 0), (.int .i64 0), (.int .i64 0), (.slice none 0 0), (.int .i64 0), (.int .i64 0), (.int .i64 0), (.int .i64 0), (.int .i64 0), (.int .i64 0), (.int .i64 0), (.string ⟨#[]⟩), (.string ⟨#[]⟩)]) 136 rfl Try.underlying22 info32 rfl (by decide) (by omega) v100 ([] : List S32) (R.take i) _ _ _ (fun k => AQ P' g5 g9 wk k ∨ wk.heap.size ≤ k) (AQ P' g5 g9 wk) rfl rfl HN.out ?aF (fun k hk => ⟨.inl hk, fun e => by have h1_ := Kd.N_base HN.out k e.symm; have h2_ := hk.2.2.2; omega⟩) (fun k hk => .inr (Nat.le_trans HBn.out.size hk)) HBn.out HBn.out.size ?aL ?_; (case aF => exact (Kd.F_below (show Kd.F k32 wk (AQ P' g5 g9 wk) (some ad) i (R.take i) from by have hi_ := HI2.out; have h_ := Kd.F_take (m := i) (Kd.V_F HRk.out) (by omega); rw [List.length_take, Nat.min_eq_left (by omega)] at h_; exact h_) HBn.out)); (case aL => have hi_ := HI2.out; have h_ := HTR.out; have h2_ := HYL.out; simp only [List.nil_append, List.length_nil, List.length_append, List.length_take, List.length_drop]; omega); intro v104 w3 hN hb hg_ hat_; clear HN HBn; have HN := Aside0.mk hN; have HBn := Aside0.mk hb; clear hN hb hg_ hat_) | ((with_reducible refine gate_builtin (b := .append) (xs := #[.tmp 105, .tmp 109]) rfl ?_); at_builtin; refine Kd.N_append_rows k32 (w0 := wk) wk.heap.size rfl (.tmp 105) (.tmp 109) 22 32 (.agg #[(.int .i64 0), (.int .i64 0), (.int .i64 0), (.slice none 0 0), (.int .i64 0), (.int .i64 0), (.int .i64 0), (.int .i64 0), (.int .i64 0), (.int .i64 0), (.int .i64 0), (.string ⟨#[]⟩), (.string ⟨#[]⟩)]) 136 rfl Try.underlying22 info32 rfl (by decide) (by omega) v104 ([] ++ R.take i) (R.drop (i + 1)) _ _ _ (fun k => AQ P' g5 g9 wk k ∨ wk.heap.size ≤ k) (AQ P' g5 g9 wk) rfl rfl HN.out ?aF (fun k hk => ⟨.inl hk, fun e => by have h1_ := Kd.N_base HN.out k e.symm; have h2_ := hk.2.2.2; omega⟩) (fun k hk => .inr (Nat.le_trans HBn.out.size hk)) HBn.out HBn.out.size ?aL ?_; (case aF => exact (Kd.F_below (show Kd.F k32 wk (AQ P' g5 g9 wk) Af (R.length - (i + 1)) (R.drop (i + 1)) from by have hi_ := HI2.out; have h_ := Kd.F_cut (m := i + 1) (Kd.V_F HRk.out) (by omega) HRL.out; rw [List.length_drop] at h_; rw [← HAF.out]; exact h_) HBn.out)); (case aL => have hi_ := HI2.out; have h_ := HTR.out; have h2_ := HYL.out; simp only [List.nil_append, List.length_nil, List.length_append, List.length_take, List.length_drop]; omega); intro v110 w4 hN hb hg_ hat_; clear HN HBn; have HN := Aside0.mk hN; have HBn := Aside0.mk hb; clear hN hb hg_ hat_))
     rw [HIW.out]
     have hlen : ([] ++ R.take i ++ R.drop (i + 1)).length + 1 = R.length := by have h_ := HI2.out; simp only [List.nil_append, List.length_append, List.length_take, List.length_drop]; omega
     have her : R.eraseIdx i = [] ++ R.take i ++ R.drop (i + 1) := by rw [List.nil_append, List.eraseIdx_eq_take_drop_succ]
     rw [her] at HP2
     have HNV := Aside0.mk (AQ.fresh (Kd.N_V (base' := 0) HN.out) (fun k hk => HAk.out.bi.hi k hk) (blk_lt HAk.out.h5) (blk_lt HAk.out.h9) HBn.out.size)
     obtain ⟨Ar, cr2, rfl⟩ := Kd.N_slice HN.out
     generalize [] ++ R.take i ++ R.drop (i + 1) = R2 at *
     exact ⟨⟨tn + 1, R2, L', _, P', _, _, _, _, rfl, rfl, ⟨by have h1_ := HTR.out; omega⟩, ⟨HAk.out.below HBn.out⟩, HNV, ⟨HP2.out.1, HP2.out.2.1, HP2.out.2.2, HLG.out.2⟩⟩, by show R2.length < R.length; omega⟩
    have HWY := Aside0.mk (HADD.out.at hj)
    have hmore := addAll_more Z out hj
    have HSZ := Aside0.mk (HOS.out _ (rd_mem hj))
    obtain ⟨Zj, hzj⟩ : ∃ Zj, addAll Z (out.take j) = Zj := ⟨_, rfl⟩
    rw [hzj] at HAk HLG HWY hmore
    obtain ⟨ad9, A4, c4, rfl, hcc, hl4, hV4⟩ := elemV HGk.out hj
    generalize rd_T32 out (j : Int) = y at *
    have HNEXT : Aside0 (LogOk namesC (insS y Zj) ∧ (insS y Zj).length ≤ 256) := ⟨HLG.out.1.add HWY.out, by have h_ := HWY.out.2.2.2.2.2.2; rw [ins_len]; omega⟩
    have HMORE := Aside0.mk hmore
    have HCC := Aside0.mk hcc
    have HL4 := Aside0.mk hl4
    have HC4 := Aside0.mk (Kd.V_reads' hV4).2.2
    have HJ' := Aside0.mk hj
    have HJW := Aside0.mk (w1t (n := j) (by have h_ := Kd.C_max (Kd.V_reads' HGk.out).2.2; omega))
    have d1 : (0 ≤ (j : Int)) = True := eq_true (by omega)
    have d2 : ((j : Int) < (out.length : Int)) = True := eq_true (by omega)
    have d3 : (j < out.length) = True := eq_true hj
    have d4 : decide (j < out.length) = true := decide_eq_true hj
    clear hmore hzj hcc hl4 hV4 hj HJ
    go_upto_region 23 with (fail)
    go_cut [16, 17] (fun v16 v17 wc => ∃ (g6 : Nat) (B1 : Option Addr) (d1 : Nat), v16 = .pointer (some ⟨g6, 0, none⟩) ∧ v17 = .int .i64 0 ∧ Aside0 (wc.heap[g6]? = some (.cells (gA 256 (.slice B1 (insS y Zj).length d1)) 25 (0, 0))) ∧ Aside0 (Below wk.heap.size wk wc) ∧ Aside0 (Kd.V k32 32 wc 0 (fun k => AQ P' g5 g9 wk k ∨ wk.heap.size ≤ k) (.slice B1 (insS y Zj).length d1) (insS y Zj)))
    case first =>
     refine startS (n := 12) (S := (fun w' => Below wk.heap.size wk w')) (ds := []) (below_drew (Below.refl _ _)) (fun hHeld => ?_)
     refine with_tabW allc.tab23 allc.bits23 (fun HT_ HW_ => ?_)
     refine pureT (i := 1) (N := (some 90)) HT_ ?_
     refine pureT (i := 2) (N := (some 91)) HT_ ?_
     refine pureT (i := 3) (N := (some 92)) HT_ ?_
     refine takeS (i := 0) (N := (some 89)) (v := ?_) HT_ HW_ hHeld ?_ ?_
     rotate_left
     ·intro w' s0
      refine Eq.trans (load25_run (room := 256) (v := .slice Aj Zj.length cj) _ (p := .tmp 9) ?ho_ ?hp_ (blk25 (HAk.out.below s0).h9)) ?hr_
      case ho_ => rfl
      case hp_ => rfl
      case hr_ => rfl
     refine normS (N := (some 89)) ?_
     refine takeS (i := 4) (N := (some 93)) (v := ?_) HT_ HW_ hHeld ?_ ?_
     rotate_left
     ·intro w' s0
      refine Eq.trans (load32_run (x := y) (v := (.slice A4 y.f2.length c4)) _ (p := .tmp 92) ?ho_ ?hp_ (fun j u hj => HCC.out w' s0 j u hj)) ?hr_
      case ho_ => rfl
      case hp_ => rfl
      case hr_ => rfl
     refine normS (N := (some 93)) ?_
     refine two_ (i := 5) (j := 9) (Ni := (some 94)) (Nj := (some 16)) #[true, true, true, true, true, true, false, false, false, false, false, false] #[true, true, true, true, true, false, false, false, false, true, false, false] rfl rfl rfl rfl (two_of HT_.out (by kernel_rfl)) (by decide) (by decide) (fun K hK => ?_) (fun K hK => ?_)
     ·refine goes_ Try.func10 (by kernel_rfl) rfl #[.agg #[.int .i64 256, .slice Aj Zj.length cj], (.agg #[.int .i64 y.f0.f0, .int .i64 y.f0.f1, .int .i64 y.f1, (.slice A4 y.f2.length c4), .int .i64 y.f3, .int .i64 y.f4.f0, .int .i64 y.f4.f1, .int .i64 y.f5.f0, .int .i64 y.f5.f1, .int .i64 y.f6.f0, .int .i64 y.f6.f1, .string y.f7, .string y.f8])] (by rfl) rfl rfl argS ?_
      have hH := hHeld
      refine (add_calls Aj cj Zj (Kd.V_below HAk.out.hz hH) HLG.out.1 HLG.out.2 y A4 c4 (Kd.C_below HC4.out hH) HL4.out HSZ.out).mono ?_
      rintro e w1 ⟨B1, d1, Z1, er, rfl, hv1, hb1, hgood, -, -, -⟩
      obtain ⟨rfl, rfl⟩ := hgood HWY.out
      refine ⟨_, rfl, ?_⟩
      have hS : Below wk.heap.size wk w1 := hH.trans (hb1.mono hH.size)
      have HVY := Aside0.mk (all_va (b' := 0) hv1 hH.size)
      clear hb1 hv1 hH hHeld hgood
      refine hK.out _ _ (hS) (fun hHeld => ?_)
      clear hK K
      refine normS (N := (some 94)) ?_
      refine pureT (i := 6) (N := (some 88)) HT_ ?_
      refine pureT (i := 7) (N := (some 95)) HT_ ?_
      refine pureT (i := 8) (N := (some 96)) HT_ ?_
      refine oneS (i := 9) (N := (some 16)) HT_ (fun K hK => ?_)
      obtain ⟨g6, hgg⟩ : ∃ g6, w1.heap.size = g6 := ⟨_, rfl⟩
      refine value_ (w1 := (w1.alloc (.cells #[.int .i64 0, .slice none 0 0] 25 (0, 0)))) (v := .pointer (some ⟨g6, 0, none⟩)) (by rfl) rfl ?_ ?_
      ·rw [← hgg]; go_simp
      have hH := hHeld
      have hS : Below wk.heap.size wk (w1.alloc (.cells #[.int .i64 0, .slice none 0 0] 25 (0, 0))) := below_alloc hH _
      have HX6 : Aside0 ((w1.alloc (.cells #[.int .i64 0, .slice none 0 0] 25 (0, 0))).heap[g6]? = some (.cells #[.int .i64 0, .slice none 0 0] 25 (0, 0))) := ⟨by rw [← hgg]; exact blk_new w1 (.cells #[.int .i64 0, .slice none 0 0] 25 (0, 0))⟩
      have H6 : Aside0 (wk.heap.size ≤ g6 ∧ g6 < (w1.alloc (.cells #[.int .i64 0, .slice none 0 0] 25 (0, 0))).heap.size) := ⟨by rw [← hgg]; exact hH.size, by rw [Mem.alloc_size, ← hgg]; exact Nat.lt_succ_self _⟩
      have HVZ := Aside0.mk (all_vc HVY.out (.cells #[.int .i64 0, .slice none 0 0] 25 (0, 0)))
      rw [hgg] at HVZ
      clear HVY
      clear hHeld
      generalize hww : (w1.alloc (.cells #[.int .i64 0, .slice none 0 0] 25 (0, 0))) = w2 at *
      clear hH hww hgg
      refine hK.out _ _ (hS) (fun hHeld => ?_)
      clear hK K
      refine normS (N := (some 16)) ?_
      refine oneS (i := 10) (N := none) HT_ (fun K hK => ?_)
      have h6_ := hHeld
      refine skip_ (w1 := _) (by rfl) rfl (store25_run (room := 256) (v := .slice B1 (insS y Zj).length d1) _ rfl rfl rfl rfl HX6.out rfl) ?_
      have hS : Below wk.heap.size wk (World.setRow _ g6 (gA 256 (.slice B1 (insS y Zj).length d1))) := row_below h6_ H6.out.1 HX6.out _
      have HXZ := Aside0.mk (setRow_heap _ g6 _ (gA 256 (.slice B1 (insS y Zj).length d1)) 25 (0, 0) HX6.out)
      have HV9 := Aside0.mk (all_vd HVZ.out (gA 256 (.slice B1 (insS y Zj).length d1)))
      clear HVZ HX6 hHeld
      refine hK.out _ _ (hS) (fun hHeld => ?_)
      clear hK K
      refine pureT (i := 11) (N := (some 17)) HT_ ?_
      refine done_ (done_of HT_.out (by kernel_rfl)) ?_
      go_wp2_with (fail)
      go_meet
      case rel => exact ⟨g6, B1, d1, rfl, rfl, HXZ, ⟨hHeld⟩, HV9⟩
     ·obtain ⟨g6, hgg⟩ : ∃ g6, wk.heap.size = g6 := ⟨_, rfl⟩
      refine value_ (w1 := (wk.drew.alloc (.cells #[.int .i64 0, .slice none 0 0] 25 (0, 0)))) (v := .pointer (some ⟨g6, 0, none⟩)) (by rfl) rfl ?_ ?_
      ·rw [← hgg]; go_simp
      have hH := hHeld
      have hS : Below wk.heap.size wk (wk.drew.alloc (.cells #[.int .i64 0, .slice none 0 0] 25 (0, 0))) := below_alloc hH _
      have HX6 : Aside0 ((wk.drew.alloc (.cells #[.int .i64 0, .slice none 0 0] 25 (0, 0))).heap[g6]? = some (.cells #[.int .i64 0, .slice none 0 0] 25 (0, 0))) := ⟨by rw [← hgg]; exact blk_new wk.drew (.cells #[.int .i64 0, .slice none 0 0] 25 (0, 0))⟩
      have H6 : Aside0 (wk.heap.size ≤ g6 ∧ g6 < (wk.drew.alloc (.cells #[.int .i64 0, .slice none 0 0] 25 (0, 0))).heap.size) := ⟨by rw [← hgg]; exact hH.size, by rw [Mem.alloc_size, ← hgg]; exact Nat.lt_succ_self _⟩
      clear hHeld
      generalize hww : (wk.drew.alloc (.cells #[.int .i64 0, .slice none 0 0] 25 (0, 0))) = w2 at *
      clear hH hww hgg
      refine hK.out _ _ (hS) (fun hHeld => ?_)
      clear hK K
      refine normS (N := (some 16)) ?_
      refine oneS (i := 5) (N := (some 94)) HT_ (fun K hK => ?_)
      refine goes_ Try.func10 (by kernel_rfl) rfl #[.agg #[.int .i64 256, .slice Aj Zj.length cj], (.agg #[.int .i64 y.f0.f0, .int .i64 y.f0.f1, .int .i64 y.f1, (.slice A4 y.f2.length c4), .int .i64 y.f3, .int .i64 y.f4.f0, .int .i64 y.f4.f1, .int .i64 y.f5.f0, .int .i64 y.f5.f1, .int .i64 y.f6.f0, .int .i64 y.f6.f1, .string y.f7, .string y.f8])] (by rfl) rfl rfl argS ?_
      have hH := hHeld
      refine (add_calls Aj cj Zj (Kd.V_below HAk.out.hz hH) HLG.out.1 HLG.out.2 y A4 c4 (Kd.C_below HC4.out hH) HL4.out HSZ.out).mono ?_
      rintro e w1 ⟨B1, d1, Z1, er, rfl, hv1, hb1, hgood, -, -, -⟩
      obtain ⟨rfl, rfl⟩ := hgood HWY.out
      refine ⟨_, rfl, ?_⟩
      have hS : Below wk.heap.size wk w1 := hH.trans (hb1.mono hH.size)
      have HXa := Aside0.mk (blk_below HX6.out hb1)
      clear HX6
      have HX6 := HXa
      clear HXa
      have HVZ := Aside0.mk (all_vb (b' := 0) hv1 (fun k h => h.2.2.2) H6.out.1 H6.out.2 hH.size)
      clear hb1 hv1 hH hHeld hgood
      refine hK.out _ _ (hS) (fun hHeld => ?_)
      clear hK K
      refine normS (N := (some 94)) ?_
      refine pureT (i := 6) (N := (some 88)) HT_ ?_
      refine pureT (i := 7) (N := (some 95)) HT_ ?_
      refine pureT (i := 8) (N := (some 96)) HT_ ?_
      refine oneS (i := 10) (N := none) HT_ (fun K hK => ?_)
      have h6_ := hHeld
      refine skip_ (w1 := _) (by rfl) rfl (store25_run (room := 256) (v := .slice B1 (insS y Zj).length d1) _ rfl rfl rfl rfl HX6.out rfl) ?_
      have hS : Below wk.heap.size wk (World.setRow _ g6 (gA 256 (.slice B1 (insS y Zj).length d1))) := row_below h6_ H6.out.1 HX6.out _
      have HXZ := Aside0.mk (setRow_heap _ g6 _ (gA 256 (.slice B1 (insS y Zj).length d1)) 25 (0, 0) HX6.out)
      have HV9 := Aside0.mk (all_vd HVZ.out (gA 256 (.slice B1 (insS y Zj).length d1)))
      clear HVZ HX6 hHeld
      refine hK.out _ _ (hS) (fun hHeld => ?_)
      clear hK K
      refine pureT (i := 11) (N := (some 17)) HT_ ?_
      refine done_ (done_of HT_.out (by kernel_rfl)) ?_
      go_wp2_with (fail)
      go_meet
      case rel => exact ⟨g6, B1, d1, rfl, rfl, HXZ, ⟨hHeld⟩, HV9⟩
    case rest =>
     obtain ⟨g6, B1, d9, rfl, rfl, HX6, HB6, HV9⟩ := hcut
     have HA6 := Aside0.mk (HAk.out.below HB6.out)
     have HV6 := Aside0.mk (AQ.fresh HV9.out (fun k hk => HAk.out.bi.hi k hk) (blk_lt HAk.out.h5) (blk_lt HAk.out.h9) HB6.out.size)
     have HR6 := Aside0.mk (AQ.below HRk.out HB6.out)
     have HG6 := Aside0.mk (AQ.below HGk.out HB6.out)
     clear HV9 HAk HRk HGk HB6
     go_wp2_with (first | ((with_reducible refine gate_dst (N := 97) rfl ?_); refine load25_ev rfl (N := 97) rfl 256 (.slice B1 (insS y Zj).length d9) (p := .tmp 16) rfl (ad := ⟨g6, 0, none⟩) rfl (blk25 HX6.out) ?_) | ((with_reducible refine gate_store (t := 25) (p := 9) (v := .tmp 97) rfl ?_); refine store25_ev rfl rfl 256 (.slice B1 (insS y Zj).length d9) (p := .tmp 9) (q := .tmp 97) rfl (g := g9) rfl rfl rfl HA6.out.h9 rfl ?_; intro ws hb_ hg_; have HA7 := Aside0.mk (HA6.out.setz hg_ HV6.out hb_); have HR7 := Aside0.mk (AQ.grown HR6.out hg_); have HG7 := Aside0.mk (AQ.grown HG6.out hg_); clear hb_ hg_ HX6))
     rw [HJW.out]
     exact ⟨⟨j + 1, B1, d9, rfl, ⟨HJ'.out⟩, by rw [HMORE.out]; exact HA7, HR7, HG7, by rw [HMORE.out]; exact HNEXT⟩, dec_lt HJ'.out⟩
end Go.Proofs.Ytnopjjilpgekfaa.PCa
