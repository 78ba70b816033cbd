/- What the statement's row needs of this session's texts, joined by program: part 7. -/
import Derived.Test.YtnopjjilpgekfaaQW5
namespace Go.Proofs.Ytnopjjilpgekfaa.PCa
open Go.RowKit Go.Proofs.YtnopjjilpgekfaaW.PrintWords Go.Proofs.YtnopjjilpgekfaaW.PrintLast Go.Proofs.YtnopjjilpgekfaaW.PrintMore
attribute [local go_sem] max2_int min2_int max_two min_two max_three min_three max_four min_four
set_option linter.unusedVariables false
set_option linter.unusedSimpArgs false
def put.T6 : Bool × List (List Nat × List Nat) := (true, [([], []), ([0], [0]), ([1], [1]), ([2], [2]), ([2], [2]), ([2], [2]), ([4, 5, 2], [2, 4, 5]), ([6, 2], [2, 6]), ([3, 7, 2, 2], [2, 3, 7]), ([2, 8], [2, 8])])
def put.B6 : List Nat := [0, 1, 3, 7, 7, 7, 55, 119, 255, 511]
theorem put.tab6 : rtab .any (opsOf Try.f52 6) = put.T6 := by kernel_rfl
theorem put.bits6 : waitsOk put.T6.2 put.B6 = true := by kernel_rfl
theorem ck2 : ∀ (a b c : Bool), a = true ∨ (a = false ∧ b = false) ∨ (a = false ∧ b = true ∧ c = true) ∨ (a = false ∧ b = true ∧ c = false) := by
 intro a b c
 cases a <;> cases b <;> cases c <;> decide
theorem befX_eq (x y : S32) : befX x y = ((lessC x.f0.f0 x.f0.f1 y.f0.f0 y.f0.f1) || ((x.f0.f0 == y.f0.f0 && (x.f0.f1 == y.f0.f1)) && (decide (x.f1 < y.f1)))) := by
 unfold befX
 rfl
attribute [local go_sem high] eqA30
set_option maxHeartbeats 8000000 in
set_option maxRecDepth 100000 in
theorem before_calls {w : World} (x : S32) (A3 : Option Addr) (c3 : Nat) (y : S32) (A4 : Option Addr) (c4 : Nat) :
  Calls Try.prog 73 #[(.agg #[.int .i64 x.f0.f0, .int .i64 x.f0.f1, .int .i64 x.f1, (.slice A3 x.f2.length c3), .int .i64 x.f3, .int .i64 x.f4.f0, .int .i64 x.f4.f1, .int .i64 x.f5.f0, .int .i64 x.f5.f1, .int .i64 x.f6.f0, .int .i64 x.f6.f1, .string x.f7, .string x.f8]), (.agg #[.int .i64 y.f0.f0, .int .i64 y.f0.f1, .int .i64 y.f1, (.slice A4 y.f2.length c4), .int .i64 y.f3, .int .i64 y.f4.f0, .int .i64 y.f4.f1, .int .i64 y.f5.f0, .int .i64 y.f5.f1, .int .i64 y.f6.f0, .int .i64 y.f6.f1, .string y.f7, .string y.f8])] w fun e w' => e = .returned (.bool (befX x y)) ∧ Below w.heap.size w w' := by
 rw [befX_eq]
 rcases ck2 (lessC x.f0.f0 x.f0.f1 y.f0.f0 y.f0.f1) (x.f0.f0 == y.f0.f0 && (x.f0.f1 == y.f0.f1)) (decide (x.f1 < y.f1)) with h0 | ⟨h0, h1⟩ | ⟨h0, h1, h2⟩ | ⟨h0, h1, h2⟩
 all_goals
  simp only [*]
  go_enter Try.func73, Try.ntmps73
  go_wp2_with (first | ((with_reducible refine gate_dst (N := 2) rfl ?_); refine box_event ?hg (N := 2) ?hd (cs := #[.int .i64 x.f0.f0, .int .i64 x.f0.f1, .int .i64 x.f1, (.slice A3 x.f2.length c3), .int .i64 x.f3, .int .i64 x.f4.f0, .int .i64 x.f4.f1, .int .i64 x.f5.f0, .int .i64 x.f5.f1, .int .i64 x.f6.f0, .int .i64 x.f6.f1, .string x.f7, .string x.f8]) (t := 32) ?hr ?_; (case hd => rfl); (case hg => rfl); (case hr => first | (go_simp; done) | (go_simp; rfl)); intro ga hr_ w1 hbox hb; have HXA := Aside0.mk hbox; have HB := Aside0.mk hb; clear hbox hb hr_) | ((with_reducible refine gate_dst (N := 3) rfl ?_); refine box_event ?hg (N := 3) ?hd (cs := #[.int .i64 y.f0.f0, .int .i64 y.f0.f1, .int .i64 y.f1, (.slice A4 y.f2.length c4), .int .i64 y.f3, .int .i64 y.f4.f0, .int .i64 y.f4.f1, .int .i64 y.f5.f0, .int .i64 y.f5.f1, .int .i64 y.f6.f0, .int .i64 y.f6.f1, .string y.f7, .string y.f8]) (t := 32) ?hr ?_; (case hd => rfl); (case hg => rfl); (case hr => first | (go_simp; done) | (go_simp; rfl)); intro gb hr_ w2 hbox hb; have n_ := Aside0.mk (blk_below HXA.out hb); clear HXA; have HXA := n_; clear n_; have n_ := Aside0.mk (HB.out.trans (hb.mono HB.out.size)); clear HB; have HB := n_; clear n_; have HXB := Aside0.mk hbox; obtain ⟨u0, u1, u2, u3, u4, u5, u6, u7, u8, u9, u10, u11, u12⟩ := cells13 HXA.out; obtain ⟨z0, z1, z2, z3, z4, z5, z6, z7, z8, z9, z10, z11, z12⟩ := cells13 HXB.out; clear hbox hb hr_) | (go_at_call 60; refine (topiaryref01_Less.calls _ _ _ _ _ _ (ref_Less_is _ _ _ _)).mono ?_; clear z0 z1 z2 z3 z4 z5 z6 z7 z8 z9 z10 z11 z12 u0 u1 u2 u3 u4 u5 u6 u7 u8 u9 u10 u11 u12; rintro e w2 ⟨rfl, hb_⟩; obtain ⟨u0, u1, u2, u3, u4, u5, u6, u7, u8, u9, u10, u11, u12⟩ := cells13 (blk_below HXA.out hb_); obtain ⟨z0, z1, z2, z3, z4, z5, z6, z7, z8, z9, z10, z11, z12⟩ := cells13 (blk_below HXB.out hb_); have n_ := Aside0.mk (HB.out.trans (hb_.mono HB.out.size)); clear HB; have HB := n_; clear n_ hb_))
  go_ret
  exact ⟨rfl, HB.out⟩
section
variable {o : Oper} {ops : Array Oper} {rest : List Oper} {a : Act} {Q : Exit → Act → World → Prop} {w0 W : World}
/-- One change more behind a list. -/
theorem app32 (base : Nat) {b : Nat} (hgd : o.guard = none) (s x : Operand) (ho : o.op = .call { callee := .builtin .append, args := #[s, x], argTypes := #[22, 22] }) (v : Value) (xs : List S32) (p : S32) (A3 : Option Addr) (c3 : Nat) (ok : Nat → Prop) (hs : a.eval s = v) (hx : a.eval x = .slice (some ⟨W.heap.size, 0, none⟩) 1 1)
  (hp : Kd.V (Kd.int .i64) 3 W b (fun k => ok k ∧ some k ≠ v.ownBlock) (.slice A3 p.f2.length c3) p.f2) (hfresh : ∀ k, W.heap.size ≤ k → ok k) (HO : Kd.N k32 32 W base ok v xs) (HB : Below base w0 W) (hbase : base ≤ W.heap.size) (hl : xs.length < 1000000)
  (h : ∀ v1 w1, Kd.N k32 32 w1 base ok v1 (xs ++ [p]) → Below base w0 w1 → W.grownBy w1 v.ownBlock → (v1.ownBlock = v.ownBlock ∨ ∃ b, v1.ownBlock = some b ∧ W.heap.size ≤ b) → wpList Try.prog ops Q rest (a.put o.dst v1) w1) :
  wpList Try.prog ops Q (o :: rest) a (W.alloc (.cells (chA p (.slice A3 p.f2.length c3)) 32)) :=
 Kd.N_append k32 (w0 := w0) base hgd s x 22 32 (.agg #[(.int .i64 0), (.int .i64 0), (.int .i64 0), (.slice none 0 0), (.int .i64 0), (.int .i64 0), (.int .i64 0), (.int .i64 0), (.int .i64 0), (.int .i64 0), (.int .i64 0), (.string ⟨#[]⟩), (.string ⟨#[]⟩)]) 136 ho Try.underlying22 info32 rfl (by decide) (by omega) v xs p (chL p (.slice A3 p.f2.length c3)) ok (fun k => ok k ∧ some k ≠ v.ownBlock) hs hx (k32_mkF _ _ p (Kd.V_reads' hp).2.1 (Kd.V_F hp)) (fun _ hk => hk) hfresh HO HB hbase (by omega) h
end
/-- An element of a list that is read. -/
theorem elemV {w : World} {b : Nat} {P0 : Nat → Prop} {A0 : Option Addr} {c0 : Nat} {l : List S32} (hl : Kd.V k32 32 w b P0 (.slice A0 l.length c0) l) {i : Nat} (hi : i < l.length) :
  ∃ ad A3 c3, A0 = some ad ∧ (∀ W, Below w.heap.size w W → ∀ j u, (chL (rd_T32 l (i : Int)) (.slice A3 (rd_T32 l (i : Int)).f2.length c3))[j]? = some u → W.cell? ((ad.add (i * 13)).add j) = some u) ∧ (rd_T32 l (i : Int)).f2.length ≤ c3 ∧ Kd.V (Kd.int .i64) 3 w 0 (fun k => P0 k ∧ k < w.heap.size) (.slice A3 (rd_T32 l (i : Int)).f2.length c3) (rd_T32 l (i : Int)).f2 := by
 obtain ⟨ad, _, rfl, _⟩ := Kd.C_get (Kd.V_reads' hl).2.2 z32 (i : Int) (by omega) (by omega)
 obtain ⟨cs, hcl, hK, hcc⟩ := Kd.V_get (Kd.V_bound hl) z32 (i : Int) (by omega) (by omega)
 obtain ⟨A3, c3, rfl, l3, g3⟩ := k32_openF hK
 rw [Int.toNat_natCast] at hcc
 refine ⟨ad, A3, c3, rfl, fun W hb j u hj => ?_, l3, Kd.V_mk l3 g3⟩
 rw [add_add]
 have h := hcc j u hj
 exact (hb.cell (World.block_lt_of_cell? w _ h)).trans h
set_option maxHeartbeats 8000000 in
set_option maxRecDepth 100000 in
theorem put_calls {w : World} {b0 b1 : Nat} {P0 P1 : Nat → Prop} (A0 : Option Addr) (c0 : Nat) (l : List S32) (hl : Kd.V k32 32 w b0 P0 (.slice A0 l.length c0) l) (x : S32) (A3 : Option Addr) (c3 : Nat) (hx : Kd.V (Kd.int .i64) 3 w b1 P1 (.slice A3 x.f2.length c3) x.f2) (hn : l.length < 1000) :
  Calls Try.prog 52 #[.slice A0 l.length c0, (.agg #[.int .i64 x.f0.f0, .int .i64 x.f0.f1, .int .i64 x.f1, (.slice A3 x.f2.length c3), .int .i64 x.f3, .int .i64 x.f4.f0, .int .i64 x.f4.f1, .int .i64 x.f5.f0, .int .i64 x.f5.f1, .int .i64 x.f6.f0, .int .i64 x.f6.f1, .string x.f7, .string x.f8])] w fun e w' => ∃ v, e = .returned v ∧ Kd.N k32 32 w' w.heap.size (fun k => (P0 k ∨ P1 k) ∨ w.heap.size ≤ k) v (putC x l) ∧ Below w.heap.size w w' := by
 have HL := Aside0.mk hl
 have HXV := Aside0.mk (Kd.V_mono (Kd.V_bound hx) (ok' := fun k => (P0 k ∨ P1 k) ∧ k < w.heap.size) (fun k hk => ⟨.inr hk.1, hk.2⟩))
 have HNL := Aside0.mk hn
 clear hl hx hn
 go_enter Try.func52, Try.ntmps52
 go_wp2_with (first | ((with_reducible refine gate_dst (N := 3) rfl ?_); refine box_event ?hg (N := 3) ?hd (cs := #[.int .i64 x.f0.f0, .int .i64 x.f0.f1, .int .i64 x.f1, (.slice A3 x.f2.length c3), .int .i64 x.f3, .int .i64 x.f4.f0, .int .i64 x.f4.f1, .int .i64 x.f5.f0, .int .i64 x.f5.f1, .int .i64 x.f6.f0, .int .i64 x.f6.f1, .string x.f7, .string x.f8]) (t := 32) ?hr ?_; (case hd => rfl); (case hg => rfl); (case hr => first | (go_simp; done) | (go_simp; rfl)); intro gb hr_ w1 hbox hb; have HX := Aside0.mk hbox; have HB := Aside0.mk hb; have HG := Aside0.mk (Nat.le_of_eq hr_.symm); clear hbox hb hr_) | ((with_reducible refine gate_dst (N := 8) rfl ?_); refine Kd.N_lit k32 w.heap.size 32 ?hg (N' := 8) ?hd (xs := ([] : List S32)) (inner := []) (ok := (fun k => ((P0 k ∨ P1 k) ∨ w.heap.size ≤ k) ∧ k ≠ gb)) (okp := (fun k => ((P0 k ∨ P1 k) ∨ w.heap.size ≤ k) ∧ k ≠ gb)) ?hr ?hp (fun _ hk => hk) ⟨.inr HB.out.size, Nat.ne_of_gt (blk_lt HX.out)⟩ HB.out HB.out.size (by simp) ?_; (case hd => rfl); (case hg => rfl); (case hr => first | (go_simp; done) | (go_simp; rfl)); (case hp => exact (Reps.none _ _)); intro v5 w2 hN hb hg_ hnew_; have HN := Aside0.mk hN; have n_ := Aside0.mk ((hg_.block gb (blk_lt HX.out) (fun h => by cases h)).trans HX.out); clear HX HB; have HX := n_; clear n_; have HB := Aside0.mk hb; clear hN hb hg_ hnew_))
 go_loopw [5, 6, 7] (fun v5 v6 v7 wq => ∃ (i : Nat) (o : List S32) (done : Bool) (vo : Value), vo = v5 ∧ v6 = .bool done ∧ v7 = .int .i64 (i : Int) ∧ Aside0 (i ≤ l.length) ∧ Aside0 (Kd.N k32 32 wq w.heap.size (fun k => ((P0 k ∨ P1 k) ∨ w.heap.size ≤ k) ∧ k ≠ gb) vo o) ∧ Aside0 (wq.heap[gb]? = some (.cells #[.int .i64 x.f0.f0, .int .i64 x.f0.f1, .int .i64 x.f1, (.slice A3 x.f2.length c3), .int .i64 x.f3, .int .i64 x.f4.f0, .int .i64 x.f4.f1, .int .i64 x.f5.f0, .int .i64 x.f5.f1, .int .i64 x.f6.f0, .int .i64 x.f6.f1, .string x.f7, .string x.f8] 32 (0, 0))) ∧ Aside0 (Below w.heap.size w wq) ∧ Aside0 (o ++ (if done = true then l.drop i else putC x (l.drop i)) = putC x l) ∧ Aside0 (o.length ≤ i + done.toNat)) (fun _ _ v7 _ => l.length - (intOf v7).toNat)
 case atStart => exact ⟨0, [], false, _, rfl, rfl, rfl, ⟨Nat.zero_le _⟩, ⟨Kd.N_below HN.out (by repeat (first | exact Below.refl _ _ | apply below_drew))⟩, ⟨blk_below HX.out (by repeat (first | exact Below.refl _ _ | apply below_drew))⟩, ⟨HB.out.trans (Below.mono (by repeat (first | exact Below.refl _ _ | apply below_drew)) HB.out.size)⟩, ⟨by rw [List.nil_append, if_neg (by decide), List.drop_zero]⟩, ⟨Nat.zero_le _⟩⟩
 case round =>
  clear HN HX HB
  obtain ⟨i, o, done, vo, rfl, rfl, rfl, HI, HN, HX, HB, HE, HO⟩ := hrel
  obtain ⟨wo, rfl⟩ : ∃ wo, wo = wr := ⟨wr, rfl⟩
  have HON : Aside0 (o.length < 5000) := ⟨by have h1_ := HO.out; have h2_ := HI.out; have h3_ := HNL.out; have h4_ := Bool.toNat_le done; omega⟩
  by_cases hi : i < l.length
  case neg =>
   have e1 : decide (i < l.length) = false := decide_eq_false hi
   have he := HE.out
   rw [List.drop_of_length_le (by omega)] at he
   clear hi HE
   cases done with
   | true =>
    rw [if_pos rfl, List.append_nil] at he
    go_wp2_with (fail)
    go_ret
    exact ⟨_, rfl, by rw [← he]; exact Kd.N_mono HN.out (fun k hk => hk.1), HB.out⟩
   | false =>
    rw [if_neg (by decide)] at he
    have HE := Aside0.mk he
    clear he
    go_wp2_with (first | ((with_reducible refine gate_dst (N := 39) rfl ?_); refine load32_ev rfl (N := 39) rfl x (.slice A3 x.f2.length c3) (p := .tmp 3) rfl (ad := ⟨gb, 0, none⟩) rfl (blk_cells HX.out) ?_) | ((with_reducible refine gate_builtin (b := .append) (xs := #[.tmp 38, .tmp 40]) rfl ?_); at_builtin; refine app32 (w0 := w) w.heap.size rfl (.tmp 38) (.tmp 40) rfl vo o x A3 c3 (fun k => ((P0 k ∨ P1 k) ∨ w.heap.size ≤ k) ∧ k ≠ gb) rfl rfl (Kd.V_mono (Kd.V_below HXV.out HB.out) (fun k hk => ⟨⟨.inl hk.1, fun e => by have h1_ := HG.out; have h2_ := hk.2; omega⟩, fun e => by have h1_ := Kd.N_base HN.out k e.symm; have h2_ := hk.2; omega⟩)) (fun k hk => ⟨.inr (Nat.le_trans HB.out.size hk), fun e => by have h_ := blk_lt HX.out; omega⟩) HN.out HB.out HB.out.size (by have h_ := HON.out; (try simp only [List.length_append, List.length_singleton]); omega) ?_; intro v5 w2 hN hb hg_ hat_; have n_ := Aside0.mk ((hg_.block gb (blk_lt HX.out) (Kd.N_away HN.out (fun k hk => hk.2))).trans HX.out); clear HX HB HN; have HX := n_; clear n_; have HB := Aside0.mk hb; have HN := Aside0.mk hN; clear hN hb hg_ hat_))
    go_ret
    exact ⟨_, rfl, by rw [← HE.out]; exact Kd.N_mono HN.out (fun k hk => hk.1), HB.out⟩
  have HI' := Aside0.mk hi
  obtain ⟨ad, A4, c4, rfl, hcc, hl4, hV4⟩ := elemV HL.out hi
  have hd := rd32_drop hi
  generalize rd_T32 l (i : Int) = y at *
  have HYC := Aside0.mk hcc
  have HYV := Aside0.mk (Kd.V_mono hV4 (ok' := fun k => (P0 k ∨ P1 k) ∧ k < w.heap.size) (fun k hk => ⟨.inl hk.1, hk.2⟩))
  have HIW := Aside0.mk (w1s (n := i) (by have h1_ := HNL.out; omega))
  have b1 : (0 ≤ (i : Int)) = True := eq_true (by omega)
  have b2 : ((i : Int) < (l.length : Int)) = True := eq_true (by omega)
  have b3 : (i < l.length) = True := eq_true hi
  have b4 : decide (i < l.length) = true := decide_eq_true hi
  have he := HE.out
  rw [hd] at he
  clear hcc hl4 hV4 hi hd HE
  cases done with
  | true =>
   rw [if_pos rfl] at he
   have HE := Aside0.mk he
   clear he
   go_upto_region 6 with (fail)
   refine start_ (n := 10) (S := (fun w' => Below wo.heap.size wo w')) (ds := []) #[false, false, false, false, false, false, false, false, false, false] (by kernel_rfl) rfl rfl (below_drew (Below.refl _ _)) (fun hHeld => ?_)
   refine with_tabW put.tab6 put.bits6 (fun HT_ HW_ => ?_)
   refine pureS (i := 0) (N := (some 15)) #[true, false, false, false, false, false, false, false, false, false] HT_ ?_
   refine pureS (i := 1) (N := (some 16)) #[true, true, false, false, false, false, false, false, false, false] HT_ ?_
   refine pureS (i := 2) (N := (some 17)) #[true, true, true, false, false, false, false, false, false, false] HT_ ?_
   refine pure_ (i := 3) (N := (some 18)) (v := undef) (a' := ?_) #[true, true, true, true, false, false, false, false, false, false] rfl rfl (any_of HT_.out (by kernel_rfl)) (fun _ _ _ h => h) (Or.inr ⟨by rfl, rfl⟩) ?_ ?_
   rotate_left
   ·simp only [Act.put, List.setIfInBounds_toArray, List.set_cons_zero, List.set_cons_succ, i64_w, i32_w]
    rfl
   refine pure_ (i := 4) (N := (some 19)) (v := undef) (a' := ?_) #[true, true, true, true, true, false, false, false, false, false] rfl rfl (any_of HT_.out (by kernel_rfl)) (fun _ _ _ h => h) (Or.inr ⟨by rfl, rfl⟩) ?_ ?_
   rotate_left
   ·simp only [Act.put, List.setIfInBounds_toArray, List.set_cons_zero, List.set_cons_succ, i64_w, i32_w]
    rfl
   refine pure_ (i := 5) (N := (some 20)) (v := undef) (a' := ?_) #[true, true, true, true, true, true, false, false, false, false] rfl rfl (any_of HT_.out (by kernel_rfl)) (fun _ _ _ h => h) (Or.inr ⟨by rfl, rfl⟩) ?_ ?_
   rotate_left
   ·simp only [Act.put, List.setIfInBounds_toArray, List.set_cons_zero, List.set_cons_succ, i64_w, i32_w]
    rfl
   refine pure_ (i := 6) (N := (some 21)) (v := undef) (a' := ?_) #[true, true, true, true, true, true, true, false, false, false] rfl rfl (any_of HT_.out (by kernel_rfl)) (fun _ _ _ h => h) (Or.inr ⟨by rfl, rfl⟩) ?_ ?_
   rotate_left
   ·simp only [Act.put, List.setIfInBounds_toArray, List.set_cons_zero, List.set_cons_succ, i64_w, i32_w]
    rfl
   refine pure_ (i := 7) (N := (some 22)) (v := undef) (a' := ?_) #[true, true, true, true, true, true, true, true, false, false] rfl rfl (any_of HT_.out (by kernel_rfl)) (fun _ _ _ h => h) (Or.inr ⟨by rfl, rfl⟩) ?_ ?_
   rotate_left
   ·simp only [Act.put, List.setIfInBounds_toArray, List.set_cons_zero, List.set_cons_succ, i64_w, i32_w]
    rfl
   refine pure_ (i := 8) (N := (some 23)) (v := undef) (a' := ?_) #[true, true, true, true, true, true, true, true, true, false] rfl rfl (any_of HT_.out (by kernel_rfl)) (fun _ _ _ h => h) (Or.inr ⟨by rfl, rfl⟩) ?_ ?_
   rotate_left
   ·simp only [Act.put, List.setIfInBounds_toArray, List.set_cons_zero, List.set_cons_succ, i64_w, i32_w]
    rfl
   refine pureS (i := 9) (N := (some 24)) #[true, true, true, true, true, true, true, true, true, true] HT_ ?_
   refine done_ (done_of HT_.out (by kernel_rfl)) ?_
   have n_ := Aside0.mk (blk_below HX.out hHeld); clear HX; have HX := n_; clear n_; have n_ := Aside0.mk (Kd.N_below HN.out hHeld); clear HN; have HN := n_; clear n_; have n_ := Aside0.mk (HB.out.trans (hHeld.mono HB.out.size)); clear HB; have HB := n_; clear n_ hHeld
   go_wp2_with (first | ((with_reducible refine gate_dst (N := 33) rfl ?_); refine load32_ev rfl (N := 33) rfl y (.slice A4 y.f2.length c4) (p := .tmp 32) rfl rfl (fun j u hj => HYC.out _ HB.out j u hj) ?_) | ((with_reducible refine gate_builtin (b := .append) (xs := #[.tmp 29, .tmp 34]) rfl ?_); at_builtin; refine app32 (w0 := w) w.heap.size rfl (.tmp 29) (.tmp 34) rfl vo o y A4 c4 (fun k => ((P0 k ∨ P1 k) ∨ w.heap.size ≤ k) ∧ k ≠ gb) rfl rfl (Kd.V_mono (Kd.V_below HYV.out HB.out) (fun k hk => ⟨⟨.inl hk.1, fun e => by have h1_ := HG.out; have h2_ := hk.2; omega⟩, fun e => by have h1_ := Kd.N_base HN.out k e.symm; have h2_ := hk.2; omega⟩)) (fun k hk => ⟨.inr (Nat.le_trans HB.out.size hk), fun e => by have h_ := blk_lt HX.out; omega⟩) HN.out HB.out HB.out.size (by have h_ := HON.out; (try simp only [List.length_append, List.length_singleton]); omega) ?_; intro v5 w2 hN hb hg_ hat_; have n_ := Aside0.mk ((hg_.block gb (blk_lt HX.out) (Kd.N_away HN.out (fun k hk => hk.2))).trans HX.out); clear HX HB HN; have HX := n_; clear n_; have HB := Aside0.mk hb; have HN := Aside0.mk hN; clear hN hb hg_ hat_))
   rw [HIW.out]
   exact ⟨⟨i + 1, o ++ [y], true, _, rfl, rfl, rfl, ⟨HI'.out⟩, HN, HX, HB, ⟨by rw [if_pos rfl, List.append_assoc]; exact HE.out⟩, ⟨by rw [List.length_append]; exact Nat.succ_le_succ HO.out⟩⟩, dec_lt HI'.out⟩
  | false =>
   rw [if_neg (by decide), putC] at he
   obtain ⟨bq, hbq⟩ : ∃ bq, befX x y = bq := ⟨_, rfl⟩
   rw [hbq] at he
   have HBF := Aside0.mk hbq
   have HE := Aside0.mk he
   clear he hbq
   go_upto_region 6 with (fail)
   refine start_ (n := 10) (S := (fun w' => Below wo.heap.size wo w')) (ds := []) #[false, false, false, false, false, false, false, false, false, false] (by kernel_rfl) rfl rfl (below_drew (Below.refl _ _)) (fun hHeld => ?_)
   refine with_tabW put.tab6 put.bits6 (fun HT_ HW_ => ?_)
   refine pureS (i := 0) (N := (some 15)) #[true, false, false, false, false, false, false, false, false, false] HT_ ?_
   refine pureS (i := 1) (N := (some 16)) #[true, true, false, false, false, false, false, false, false, false] HT_ ?_
   refine pureS (i := 2) (N := (some 17)) #[true, true, true, false, false, false, false, false, false, false] HT_ ?_
   refine pureS (i := 4) (N := (some 19)) #[true, true, true, false, true, false, false, false, false, false] HT_ ?_
   refine pureS (i := 5) (N := (some 20)) #[true, true, true, false, true, true, false, false, false, false] HT_ ?_
   refine pureS (i := 6) (N := (some 21)) #[true, true, true, false, true, true, true, false, false, false] HT_ ?_
   refine take_ (i := 3) (N := (some 18)) (v := ?_) (a' := ?_) #[true, true, true, true, true, true, true, false, false, false] rfl rfl (take_ofW HT_.out HW_.out (by kernel_rfl)) (fun _ _ _ h => h) (Or.inl ⟨by rfl, ?_⟩) hHeld ?_ ?_
   rotate_left
   ·intro w' s0
    refine Eq.trans (load32_run (x := x) (v := (.slice A3 x.f2.length c3)) _ (p := .tmp 3) ?ho_ ?hp_ (blk_cells (blk_below HX.out s0))) ?hr_
    case ho_ => rfl
    case hp_ => rfl
    case hr_ => rfl
   rotate_left
   ·simp only [Act.put, List.setIfInBounds_toArray, List.set_cons_zero, List.set_cons_succ, i64_w, i32_w]
    rfl
   refine take_ (i := 7) (N := (some 22)) (v := ?_) (a' := ?_) #[true, true, true, true, true, true, true, true, false, false] rfl rfl (take_ofW HT_.out HW_.out (by kernel_rfl)) (fun _ _ _ h => h) (Or.inl ⟨by rfl, ?_⟩) hHeld ?_ ?_
   rotate_left
   ·intro w' s0
    refine Eq.trans (load32_run (x := y) (v := (.slice A4 y.f2.length c4)) _ (p := .tmp 21) ?ho_ ?hp_ (fun j u hj => HYC.out w' (HB.out.trans (s0.mono HB.out.size)) j u hj)) ?hr_
    case ho_ => rfl
    case hp_ => rfl
    case hr_ => rfl
   rotate_left
   ·simp only [Act.put, List.setIfInBounds_toArray, List.set_cons_zero, List.set_cons_succ, i64_w, i32_w]
    rfl
   refine one_ (i := 8) (N := (some 23)) #[true, true, true, true, true, true, true, true, true, false] rfl rfl (one_of HT_.out (by kernel_rfl)) (by decide) (fun K hK => ?_)
   refine goes_ Try.func73 (by kernel_rfl) rfl #[(.agg #[.int .i64 x.f0.f0, .int .i64 x.f0.f1, .int .i64 x.f1, (.slice A3 x.f2.length c3), .int .i64 x.f3, .int .i64 x.f4.f0, .int .i64 x.f4.f1, .int .i64 x.f5.f0, .int .i64 x.f5.f1, .int .i64 x.f6.f0, .int .i64 x.f6.f1, .string x.f7, .string x.f8]), (.agg #[.int .i64 y.f0.f0, .int .i64 y.f0.f1, .int .i64 y.f1, (.slice A4 y.f2.length c4), .int .i64 y.f3, .int .i64 y.f4.f0, .int .i64 y.f4.f1, .int .i64 y.f5.f0, .int .i64 y.f5.f1, .int .i64 y.f6.f0, .int .i64 y.f6.f1, .string y.f7, .string y.f8])] (by rfl) rfl rfl (by (try simp only [List.map_toArray, List.map_cons, List.map_nil]); first | done | rfl) ?_
   have hH := hHeld
   refine (before_calls x A3 c3 y A4 c4).mono ?_
   rw [HBF.out]
   rintro e w1 ⟨rfl, hb_⟩
   refine ⟨_, rfl, ?_⟩
   have hS : Below wo.heap.size wo w1 := hH.trans (hb_.mono hH.size)
   clear hb_ hH hHeld
   refine hK.out _ _ (hS) (fun hHeld => ?_)
   clear hK K
   refine norm_ (a' := ?_) ?_ ?_
   rotate_left
   ·show Act.put _ (some 23) _ = _
    simp only [Act.put, List.setIfInBounds_toArray, List.set_cons_zero, List.set_cons_succ, i64_w, i32_w]
    rfl
   refine pureS (i := 9) (N := (some 24)) #[true, true, true, true, true, true, true, true, true, true] HT_ ?_
   refine done_ (done_of HT_.out (by kernel_rfl)) ?_
   have n_ := Aside0.mk (blk_below HX.out hHeld); clear HX; have HX := n_; clear n_; have n_ := Aside0.mk (Kd.N_below HN.out hHeld); clear HN; have HN := n_; clear n_; have n_ := Aside0.mk (HB.out.trans (hHeld.mono HB.out.size)); clear HB; have HB := n_; clear n_ hHeld
   cases bq with
   | true =>
    go_wp2_with (first | ((with_reducible refine gate_dst (N := 26) rfl ?_); refine load32_ev rfl (N := 26) rfl x (.slice A3 x.f2.length c3) (p := .tmp 3) rfl (ad := ⟨gb, 0, none⟩) rfl (blk_cells HX.out) ?_) | ((with_reducible refine gate_builtin (b := .append) (xs := #[.tmp 25, .tmp 27]) rfl ?_); at_builtin; refine app32 (w0 := w) w.heap.size rfl (.tmp 25) (.tmp 27) rfl vo o x A3 c3 (fun k => ((P0 k ∨ P1 k) ∨ w.heap.size ≤ k) ∧ k ≠ gb) rfl rfl (Kd.V_mono (Kd.V_below HXV.out HB.out) (fun k hk => ⟨⟨.inl hk.1, fun e => by have h1_ := HG.out; have h2_ := hk.2; omega⟩, fun e => by have h1_ := Kd.N_base HN.out k e.symm; have h2_ := hk.2; omega⟩)) (fun k hk => ⟨.inr (Nat.le_trans HB.out.size hk), fun e => by have h_ := blk_lt HX.out; omega⟩) HN.out HB.out HB.out.size (by have h_ := HON.out; (try simp only [List.length_append, List.length_singleton]); omega) ?_; intro v5 w2 hN hb hg_ hat_; have n_ := Aside0.mk ((hg_.block gb (blk_lt HX.out) (Kd.N_away HN.out (fun k hk => hk.2))).trans HX.out); clear HX HB HN; have HX := n_; clear n_; have HB := Aside0.mk hb; have HN := Aside0.mk hN; clear hN hb hg_ hat_) | ((with_reducible refine gate_dst (N := 33) rfl ?_); refine load32_ev rfl (N := 33) rfl y (.slice A4 y.f2.length c4) (p := .tmp 32) rfl rfl (fun j u hj => HYC.out _ HB.out j u hj) ?_) | ((with_reducible refine gate_builtin (b := .append) (xs := #[.tmp 29, .tmp 34]) rfl ?_); at_builtin; refine app32 (w0 := w) w.heap.size rfl (.tmp 29) (.tmp 34) rfl _ (o ++ [x]) y A4 c4 (fun k => ((P0 k ∨ P1 k) ∨ w.heap.size ≤ k) ∧ k ≠ gb) rfl rfl (Kd.V_mono (Kd.V_below HYV.out HB.out) (fun k hk => ⟨⟨.inl hk.1, fun e => by have h1_ := HG.out; have h2_ := hk.2; omega⟩, fun e => by have h1_ := Kd.N_base HN.out k e.symm; have h2_ := hk.2; omega⟩)) (fun k hk => ⟨.inr (Nat.le_trans HB.out.size hk), fun e => by have h_ := blk_lt HX.out; omega⟩) HN.out HB.out HB.out.size (by have h_ := HON.out; (try simp only [List.length_append, List.length_singleton]); omega) ?_; intro v5 w2 hN hb hg_ hat_; have n_ := Aside0.mk ((hg_.block gb (blk_lt HX.out) (Kd.N_away HN.out (fun k hk => hk.2))).trans HX.out); clear HX HB HN; have HX := n_; clear n_; have HB := Aside0.mk hb; have HN := Aside0.mk hN; clear hN hb hg_ hat_))
    rw [HIW.out]
    exact ⟨⟨i + 1, (o ++ [x]) ++ [y], true, _, rfl, rfl, rfl, ⟨HI'.out⟩, HN, HX, HB, ⟨by rw [if_pos rfl, List.append_assoc, List.append_assoc]; exact HE.out⟩, ⟨by have h1_ : o.length ≤ i + 0 := HO.out; rw [List.length_append, List.length_append]; show o.length + 1 + 1 ≤ i + 1 + 1; omega⟩⟩, dec_lt HI'.out⟩
   | false =>
    go_wp2_with (first | ((with_reducible refine gate_dst (N := 33) rfl ?_); refine load32_ev rfl (N := 33) rfl y (.slice A4 y.f2.length c4) (p := .tmp 32) rfl rfl (fun j u hj => HYC.out _ HB.out j u hj) ?_) | ((with_reducible refine gate_builtin (b := .append) (xs := #[.tmp 29, .tmp 34]) rfl ?_); at_builtin; refine app32 (w0 := w) w.heap.size rfl (.tmp 29) (.tmp 34) rfl vo o y A4 c4 (fun k => ((P0 k ∨ P1 k) ∨ w.heap.size ≤ k) ∧ k ≠ gb) rfl rfl (Kd.V_mono (Kd.V_below HYV.out HB.out) (fun k hk => ⟨⟨.inl hk.1, fun e => by have h1_ := HG.out; have h2_ := hk.2; omega⟩, fun e => by have h1_ := Kd.N_base HN.out k e.symm; have h2_ := hk.2; omega⟩)) (fun k hk => ⟨.inr (Nat.le_trans HB.out.size hk), fun e => by have h_ := blk_lt HX.out; omega⟩) HN.out HB.out HB.out.size (by have h_ := HON.out; (try simp only [List.length_append, List.length_singleton]); omega) ?_; intro v5 w2 hN hb hg_ hat_; have n_ := Aside0.mk ((hg_.block gb (blk_lt HX.out) (Kd.N_away HN.out (fun k hk => hk.2))).trans HX.out); clear HX HB HN; have HX := n_; clear n_; have HB := Aside0.mk hb; have HN := Aside0.mk hN; clear hN hb hg_ hat_))
    rw [HIW.out]
    exact ⟨⟨i + 1, o ++ [y], false, _, rfl, rfl, rfl, ⟨HI'.out⟩, HN, HX, HB, ⟨by rw [if_neg (by decide), List.append_assoc]; exact HE.out⟩, ⟨by rw [List.length_append]; exact Nat.succ_le_succ HO.out⟩⟩, dec_lt HI'.out⟩
end Go.Proofs.Ytnopjjilpgekfaa.PCa
namespace Go.Proofs.Ytnopjjilpgekfaa.PCa
open Go.RowKit Go.Proofs.YtnopjjilpgekfaaW.PrintWords Go.Proofs.YtnopjjilpgekfaaW.PrintLast Go.Proofs.YtnopjjilpgekfaaW.PrintMore
attribute [local go_sem] max2_int min2_int max_two min_two max_three min_three max_four min_four
set_option linter.unusedVariables false
set_option linter.unusedSimpArgs false
def rtb.T2 : Bool × List (List Nat × List Nat) := (true, [([], []), ([], []), ([1], [1]), ([0, 2, 0], [0]), ([3, 0, 3], []), ([2, 4, 0, 1, 2, 3, 4], [2])])
def rtb.B2 : List Nat := [0, 0, 2, 7, 15, 31]
theorem rtb.tab2 : rtab .any (opsOf Try.f23 2) = rtb.T2 := by kernel_rfl
theorem rtb.bits2 : waitsOk rtb.T2.2 rtb.B2 = true := by kernel_rfl
def rtb.T4 : Bool × List (List Nat × List Nat) := (true, [([], []), ([], []), ([1], [1]), ([0, 2, 0], [0]), ([3, 0, 3], []), ([2, 4, 0, 1, 2, 3, 4], [2])])
def rtb.B4 : List Nat := [0, 0, 2, 7, 15, 31]
theorem rtb.tab4 : rtab .any (opsOf Try.f23 4) = rtb.T4 := by kernel_rfl
theorem rtb.bits4 : waitsOk rtb.T4.2 rtb.B4 = true := by kernel_rfl
def rtb.T10 : Bool × List (List Nat × List Nat) := (true, [([], []), ([0], [0]), ([], []), ([2], [2]), ([], []), ([4], [4]), ([3, 5, 5], [3, 5]), ([1, 6], [1, 6]), ([7, 6, 0, 1, 2, 3, 4, 5, 6, 7], [7]), ([8, 0, 1, 2, 3, 4, 5, 6, 7, 8], []), ([9, 0, 1, 2, 3, 4, 5, 6, 7, 8, 9], [])])
def rtb.B10 : List Nat := [0, 1, 0, 4, 0, 16, 60, 127, 255, 511, 1023]
theorem rtb.tab10 : rtab .any (opsOf Try.f23 10) = rtb.T10 := by kernel_rfl
theorem rtb.bits10 : waitsOk rtb.T10.2 rtb.B10 = true := by kernel_rfl
/-- The blocks of a Take: the buffer's box, the change's, the result's. -/
structure TB (w W : World) (ga gb gc : Nat) (ca cb cn : Array Value) : Prop where
 bel : Below w.heap.size w W
 xa : W.heap[ga]? = some (.cells ca 52 (0, 0))
 xb : W.heap[gb]? = some (.cells cb 32 (0, 0))
 xc : W.heap[gc]? = some (.cells cn 52 (0, 0))
 na : w.heap.size ≤ ga
 nb : w.heap.size ≤ gb
 nc : w.heap.size ≤ gc
 ab : ga < gb
 bc : gb < gc
section
variable {w W W1 : World} {ga gb gc : Nat} {ca cb cn : Array Value}
theorem TB.below (h : TB w W ga gb gc ca cb cn) (hb : Below W.heap.size W W1) : TB w W1 ga gb gc ca cb cn :=
 ⟨h.bel.trans (hb.mono h.bel.size), blk_below h.xa hb, blk_below h.xb hb, blk_below h.xc hb, h.na, h.nb, h.nc, h.ab, h.bc⟩
theorem TB.grown (h : TB w W ga gb gc ca cb cn) {row : Option Nat} (hg : W.grownBy W1 row) (h1 : some ga ≠ row) (h2 : some gb ≠ row) (h3 : some gc ≠ row) (hr : ∀ k, row = some k → w.heap.size ≤ k := by intro k hk; first | (cases hk; done) | exact Kd.N_base ‹Aside0 (Kd.N _ _ _ _ _ _ _)›.out k hk) : TB w W1 ga gb gc ca cb cn :=
 ⟨h.bel.grown hg h.bel.size hr, (hg.block ga (blk_lt h.xa) h1).trans h.xa, (hg.block gb (blk_lt h.xb) h2).trans h.xb, (hg.block gc (blk_lt h.xc) h3).trans h.xc, h.na, h.nb, h.nc, h.ab, h.bc⟩
theorem TB.fresh (h : TB w W ga gb gc ca cb cn) (k : Nat) (hk : W.heap.size ≤ k) : k ≠ ga ∧ k ≠ gb ∧ k ≠ gc := by
 have h1 := blk_lt h.xa
 have h2 := blk_lt h.xb
 have h3 := blk_lt h.xc
 omega
theorem TB.old (h : TB w W ga gb gc ca cb cn) (k : Nat) (hk : k < w.heap.size) : k ≠ ga ∧ k ≠ gb ∧ k ≠ gc := by
 have h1 := h.na
 have h2 := h.nb
 have h3 := h.nc
 omega
end
def lenV : Value → Nat
 | .slice _ n _ => n
 | _ => 0
theorem own_is' (l : List S32) (x : S32) (hl : l.length < 1000) : ∃ r, topiaryref07_Own.f 1200 l x.f0.f1 x.f1 = some r ∧ decide (0 ≤ r) = ownX l x := own_is l x (by omega) 1200 (by omega)
theorem RT.err {w w' : World} {b0 : Nat} {P0 P1 : Nat → Prop} {room : Int} {A0 : Option Addr} {c0 : Nat} {l : List S32} {c : Int} (hl : Kd.V k32 32 w b0 P0 (.slice A0 l.length c0) l) (hb : Below w.heap.size w w') : RT w P0 P1 room (l, [], c) (.returned (.tuple #[.agg #[.int .i64 room, .slice A0 l.length c0], .slice none 0 0, .int .i64 c])) w' :=
 ⟨A0, c0, none, 0, rfl, Kd.V_mono (Kd.V_below hl hb) (fun k hk => .inl (.inl hk)), Kd.V_nil _ _ _ _ _, hb⟩
abbrev putX (x : S32) (l : List S32) : List S32 := l.take (cntX x l) ++ x :: l.drop (cntX x l)
theorem relF_stop {now : List Int} {out left : List S32} (h : ¬ 0 ≤ nextI now left 0) : relF left.length now out left = (out, left) := by
 cases hl : left.length with
 | zero => rfl
 | succ n => rw [relF, if_neg h]
theorem relF_go {now : List Int} {out left : List S32} {j : Nat} (hj : j < left.length) (h : nextI now left 0 = (j : Int)) : relF left.length now out left = relF (left.eraseIdx j).length (tickC now (rd_T32 left (j : Int)).f0.f1).1 (out ++ [rd_T32 left (j : Int)]) (left.eraseIdx j) := by
 rw [List.length_eraseIdx_of_lt hj]
 cases hl : left.length with
 | zero => omega
 | succ n =>
  rw [relF, h, if_pos (by omega), Int.toNat_natCast]
  rfl
set_option maxHeartbeats 8000000 in
set_option maxRecDepth 100000 in
theorem rtake_calls {w : World} {b0 b1 : Nat} {P0 P1 : Nat → Prop} (room : Int) (A0 : Option Addr) (c0 : Nat) (l : List S32) (hl : Kd.V k32 32 w b0 P0 (.slice A0 l.length c0) l) (hg : Good l) (hn : l.length < 1000) (A1 : Option Addr) (c1 : Nat) (known : List Int) (hk : Kd.C (Kd.int .i64) w A1 known.length known) (hkc : known.length ≤ c1)
  (x : S32) (A3 : Option Addr) (c3 : Nat) (hx : Kd.V (Kd.int .i64) 3 w b1 P1 (.slice A3 x.f2.length c3) x.f2) (hs : x.f7.size < 4611686018427387904) :
  Calls Try.prog 23 #[.agg #[.int .i64 room, .slice A0 l.length c0], .slice A1 known.length c1, (.agg #[.int .i64 x.f0.f0, .int .i64 x.f0.f1, .int .i64 x.f1, (.slice A3 x.f2.length c3), .int .i64 x.f3, .int .i64 x.f4.f0, .int .i64 x.f4.f1, .int .i64 x.f5.f0, .int .i64 x.f5.f1, .int .i64 x.f6.f0, .int .i64 x.f6.f1, .string x.f7, .string x.f8])] w (RT w P0 P1 room (takeF room l known x)) := by
 have hu52 := Try.underlying52
 have HL := Aside0.mk hl
 have HVL := Aside0.mk (Kd.V_bound hl)
 have HLC := Aside0.mk (Kd.V_reads' hl).2.2
 have HLL := Aside0.mk (Kd.V_reads' hl).2.1
 have HXV := Aside0.mk (Kd.V_bound hx)
 have HC3 := Aside0.mk (Kd.V_reads' hx).2.2
 have HL3 := Aside0.mk (Kd.V_reads' hx).2.1
 have HK := Aside0.mk hk
 have HKC := Aside0.mk hkc
 have HSZ := Aside0.mk hs
 have HGD := Aside0.mk hg
 have HNL := Aside0.mk hn
 obtain ⟨r, ho1, ho2⟩ := own_is' l x hn
 have HOW := Aside0.mk ho1
 have HO2 := Aside0.mk ho2
 obtain ⟨tk, htk⟩ : ∃ tk, takeF room l known x = tk := ⟨_, rfl⟩
 rw [htk]
 have HV := Aside0.mk htk
 clear htk hl hx hk hkc hs hg hn ho1 ho2
 go_enter Try.func23, Try.ntmps23
 by_cases k1 : chkC known = 0
 case neg =>
  obtain rfl : tk = (l, [], chkC known) := by rw [← HV.out, takeF, if_neg k1]
  have e1 : (chkC known != 0) = true := bne_iff_ne.2 k1
  clear k1
  go_wp2_with (first | ((with_reducible refine gate_dst (N := 3) rfl ?_); refine box_event ?hg (N := 3) ?hd (cs := #[.int .i64 room, (.slice A0 l.length c0)]) (t := 52) ?hr ?_; (case hd => rfl); (case hg => rfl); (case hr => first | (go_simp; done) | (go_simp; rfl)); intro ga hr_ w1 hbox hb; have HXA := Aside0.mk hbox; have HB := Aside0.mk hb; have HNA := Aside0.mk (Nat.le_of_eq hr_.symm); clear hbox hb hr_) | ((with_reducible refine gate_dst (N := 5) rfl ?_); refine box_event ?hg (N := 5) ?hd (cs := #[.int .i64 x.f0.f0, .int .i64 x.f0.f1, .int .i64 x.f1, (.slice A3 x.f2.length c3), .int .i64 x.f3, .int .i64 x.f4.f0, .int .i64 x.f4.f1, .int .i64 x.f5.f0, .int .i64 x.f5.f1, .int .i64 x.f6.f0, .int .i64 x.f6.f1, .string x.f7, .string x.f8]) (t := 32) ?hr ?_; (case hd => rfl); (case hg => rfl); (case hr => first | (go_simp; done) | (go_simp; rfl)); intro gb hr_ w2 hbox hb; have HNB := Aside0.mk (Nat.le_trans (Nat.le_refl _) (Nat.le_of_eq hr_.symm)); have n_ := Aside0.mk (blk_below HXA.out hb); have HXB := Aside0.mk hbox; have HB2 := Aside0.mk hb; have HAB := Aside0.mk (Nat.lt_of_lt_of_le (blk_lt HXA.out) (Nat.le_of_eq hr_.symm)); clear HXA; have HXA := n_; clear n_; clear hbox hb hr_) | ((with_reducible refine gate_dst (N := 6) rfl ?_); refine box_event ?hg (N := 6) ?hd (cs := #[.int .i64 0, (.slice none 0 0)]) (t := 52) ?hr ?_; (case hd => rfl); (case hg => rfl); (case hr => first | (go_simp; done) | (go_simp; rfl)); intro gc hr_ w2 hbox hb; have HT : Aside0 (TB w w2 ga gb gc (bA room (.slice A0 l.length c0)) (chA x (.slice A3 x.f2.length c3)) (bA 0 (.slice none 0 0))) := ⟨(HB.out.trans (HB2.out.mono HB.out.size)).trans (hb.mono (Nat.le_trans HB.out.size HB2.out.size)), blk_below HXA.out hb, blk_below HXB.out hb, hbox, HNA.out, Nat.le_trans HNA.out (Nat.le_of_lt HAB.out), Nat.le_trans (Nat.le_trans HNA.out (Nat.le_of_lt HAB.out)) (Nat.le_of_lt (Nat.lt_of_lt_of_le (blk_lt HXB.out) (Nat.le_of_eq hr_.symm))), HAB.out, Nat.lt_of_lt_of_le (blk_lt HXB.out) (Nat.le_of_eq hr_.symm)⟩; clear HXA HXB HB HB2 HNA HNB HAB; clear hbox hb hr_) | (go_at_call 46; refine (topiaryref02_Check.calls 66 A1 c1 known _ _ (Kd.C_below HK.out HT.out.bel) HKC.out (ref_Check_is known 66 (by decide))).mono ?_; rintro e w2 ⟨rfl, ⟨nd, hnd⟩⟩; have hb_ := drew_below hnd; clear hnd; have n_ := Aside0.mk (HT.out.below hb_); clear HT; have HT := n_; clear n_ hb_))
  obtain ⟨wo, rfl⟩ : ∃ wo, wo = w2 := ⟨w2, rfl⟩
  refine start_ (n := 6) (S := (fun w' => Below wo.heap.size wo w')) (ds := [3]) #[false, false, false, false, false, false] (by kernel_rfl) rfl rfl (below_drew (Below.refl _ _)) (fun hHeld => ?_)
  refine with_tabW rtb.tab2 rtb.bits2 (fun HT_ HW_ => ?_)
  refine pureS (i := 1) (N := (some 17)) #[false, true, false, false, false, false] HT_ ?_
  refine take_ (i := 0) (N := (some 16)) (v := ?_) (a' := ?_) #[true, true, false, false, false, false] rfl rfl (take_ofW HT_.out HW_.out (by kernel_rfl)) (fun _ _ _ h => h) (Or.inl ⟨by rfl, ?_⟩) hHeld ?_ ?_
  rotate_left
  ·intro w' s0
   refine Eq.trans (load52_run (room := room) (v := (.slice A0 l.length c0)) _ (p := .tmp 3) ?ho_ ?hp_ (blk52 (HT.out.below s0).xa)) ?hr_
   case ho_ => rfl
   case hp_ => rfl
   case hr_ => rfl
  rotate_left
  ·simp only [Act.put, List.setIfInBounds_toArray, List.set_cons_zero, List.set_cons_succ, i64_w, i32_w]
   rfl
  refine one_ (i := 2) (N := (some 18)) #[true, true, true, false, false, false] rfl rfl (one_of HT_.out (by kernel_rfl)) (by decide) (fun K hK => ?_)
  refine goes_ Try.func46 (by kernel_rfl) rfl #[.slice A1 known.length c1] (by rfl) rfl rfl (by (try simp only [List.map_toArray, List.map_cons, List.map_nil]); first | done | rfl) ?_
  have hH := hHeld
  refine (topiaryref02_Check.calls 66 A1 c1 known _ _ (Kd.C_below HK.out (HT.out.below hH).bel) HKC.out (ref_Check_is known 66 (by decide))).mono ?_
  rintro e w1 ⟨rfl, ⟨nd, hnd⟩⟩
  have hb_ := drew_below hnd; clear hnd
  refine ⟨_, rfl, ?_⟩
  have hS : Below wo.heap.size wo w1 := hH.trans (hb_.mono hH.size)
  clear hb_ hH hHeld
  refine hK.out _ _ (hS) (fun hHeld => ?_)
  clear hK K
  refine norm_ (a' := ?_) ?_ ?_
  rotate_left
  ·show Act.put _ (some 18) _ = _
   simp only [Act.put, List.setIfInBounds_toArray, List.set_cons_zero, List.set_cons_succ, i64_w, i32_w]
   rfl
  refine last_ (i := 3) (N := none) #[true, true, true, true, false, false] rfl rfl (one_of HT_.out (by kernel_rfl)) (by decide) (fun K hK => ?_)
  have h6_ := hHeld
  refine skip_ (w1 := _) (by rfl) rfl (store52_run (room := room) (v := (.slice A0 l.length c0)) _ rfl rfl rfl rfl (HT.out.below h6_).xc rfl) ?_
  have HXs := Aside0.mk (setRow_heap _ gc _ (bA room (.slice A0 l.length c0)) 52 (0, 0) (HT.out.below h6_).xc)
  have HBs := Aside0.mk (row_below (HT.out.below h6_).bel HT.out.nc (HT.out.below h6_).xc (bA room (.slice A0 l.length c0)))
  have hS : Below w.heap.size w _ := HBs.out
  clear hHeld h6_
  refine hK.out _ _ ?_
  clear hK K
  refine pureS (i := 4) (N := (some 7)) #[true, true, true, true, true, false] HT_ ?_
  refine pureS (i := 5) (N := (some 8)) #[true, true, true, true, true, true] HT_ ?_
  refine done_ (done_of HT_.out (by kernel_rfl)) ?_
  try go_wp2
  refine bodyPost_ret (results_ctt rfl _ _ gc 52 (bA room (.slice A0 l.length c0)) (0, 0) _ rfl HXs.out hu52 rfl (by kernel_rfl)) rfl ?_
  exact RT.err HL.out HBs.out
 have HV1 : Aside0 (tk = if checkX x = 0 then (if (withinX known x || ownX l x) = true then (l, [], 5) else if ripeC known x = true then ((relF l.length (tickC known x.f0.f1).1 [x] l).2, (relF l.length (tickC known x.f0.f1).1 [x] l).1, 0) else if room ≤ l.length then (l, [], 6) else (putX x l, [], 0)) else (l, [], checkX x)) := ⟨by rw [← HV.out, takeF, if_pos k1]⟩
 clear HV
 have e1 : (chkC known != 0) = false := bne_eq_false_iff_eq.2 k1
 clear k1
 go_upto_if 21 with (first | ((with_reducible refine gate_dst (N := 3) rfl ?_); refine box_event ?hg (N := 3) ?hd (cs := #[.int .i64 room, (.slice A0 l.length c0)]) (t := 52) ?hr ?_; (case hd => rfl); (case hg => rfl); (case hr => first | (go_simp; done) | (go_simp; rfl)); intro ga hr_ w1 hbox hb; have HXA := Aside0.mk hbox; have HB := Aside0.mk hb; have HNA := Aside0.mk (Nat.le_of_eq hr_.symm); clear hbox hb hr_) | ((with_reducible refine gate_dst (N := 5) rfl ?_); refine box_event ?hg (N := 5) ?hd (cs := #[.int .i64 x.f0.f0, .int .i64 x.f0.f1, .int .i64 x.f1, (.slice A3 x.f2.length c3), .int .i64 x.f3, .int .i64 x.f4.f0, .int .i64 x.f4.f1, .int .i64 x.f5.f0, .int .i64 x.f5.f1, .int .i64 x.f6.f0, .int .i64 x.f6.f1, .string x.f7, .string x.f8]) (t := 32) ?hr ?_; (case hd => rfl); (case hg => rfl); (case hr => first | (go_simp; done) | (go_simp; rfl)); intro gb hr_ w2 hbox hb; have HNB := Aside0.mk (Nat.le_trans (Nat.le_refl _) (Nat.le_of_eq hr_.symm)); have n_ := Aside0.mk (blk_below HXA.out hb); have HXB := Aside0.mk hbox; have HB2 := Aside0.mk hb; have HAB := Aside0.mk (Nat.lt_of_lt_of_le (blk_lt HXA.out) (Nat.le_of_eq hr_.symm)); clear HXA; have HXA := n_; clear n_; clear hbox hb hr_) | ((with_reducible refine gate_dst (N := 6) rfl ?_); refine box_event ?hg (N := 6) ?hd (cs := #[.int .i64 0, (.slice none 0 0)]) (t := 52) ?hr ?_; (case hd => rfl); (case hg => rfl); (case hr => first | (go_simp; done) | (go_simp; rfl)); intro gc hr_ w2 hbox hb; have HT : Aside0 (TB w w2 ga gb gc (bA room (.slice A0 l.length c0)) (chA x (.slice A3 x.f2.length c3)) (bA 0 (.slice none 0 0))) := ⟨(HB.out.trans (HB2.out.mono HB.out.size)).trans (hb.mono (Nat.le_trans HB.out.size HB2.out.size)), blk_below HXA.out hb, blk_below HXB.out hb, hbox, HNA.out, Nat.le_trans HNA.out (Nat.le_of_lt HAB.out), Nat.le_trans (Nat.le_trans HNA.out (Nat.le_of_lt HAB.out)) (Nat.le_of_lt (Nat.lt_of_lt_of_le (blk_lt HXB.out) (Nat.le_of_eq hr_.symm))), HAB.out, Nat.lt_of_lt_of_le (blk_lt HXB.out) (Nat.le_of_eq hr_.symm)⟩; clear HXA HXB HB HB2 HNA HNB HAB; clear hbox hb hr_) | (go_at_call 46; refine (topiaryref02_Check.calls 66 A1 c1 known _ _ (Kd.C_below HK.out HT.out.bel) HKC.out (ref_Check_is known 66 (by decide))).mono ?_; rintro e w2 ⟨rfl, ⟨nd, hnd⟩⟩; have hb_ := drew_below hnd; clear hnd; have n_ := Aside0.mk (HT.out.below hb_); clear HT; have HT := n_; clear n_ hb_) | ((with_reducible refine gate_dst (N := 19) rfl ?_); refine load32_ev rfl (N := 19) rfl x (.slice A3 x.f2.length c3) (p := .tmp 5) rfl (ad := ⟨gb, 0, none⟩) rfl (blk_cells HT.out.xb) ?_) | (go_at_call 47; refine (check05_calls x.f0.f0 x.f0.f1 x.f1 A3 x.f2 c3 x.f3 x.f4.f0 x.f4.f1 x.f5.f0 x.f5.f1 x.f6.f0 x.f6.f1 x.f7 x.f8 (Kd.C_below HC3.out HT.out.bel) HL3.out HSZ.out).mono ?_; rintro e w2 ⟨rfl, hb_⟩; have n_ := Aside0.mk (HT.out.below hb_); clear HT; have HT := n_; clear n_ hb_))
 have hck : checkC x.f0.f0 x.f0.f1 x.f1 x.f2 x.f3 x.f4.f0 x.f4.f1 x.f5.f0 x.f5.f1 x.f6.f0 x.f6.f1 x.f7 x.f8 = checkX x := rfl
 rw [hck]
 clear hck
 obtain ⟨bb, hbb⟩ : ∃ bb, (checkX x != 0) = bb := ⟨_, rfl⟩
 rw [hbb]
 by_cases k2 : checkX x = 0
 case neg =>
  obtain rfl : tk = (l, [], checkX x) := by rw [HV1.out, if_neg k2]
  obtain rfl : bb = true := by rw [← hbb]; exact bne_iff_ne.2 k2
  clear k2
  go_wp2_with (fail)
  obtain ⟨wo, rfl⟩ : ∃ wo, wo = w2 := ⟨w2, rfl⟩
  refine start_ (n := 6) (S := (fun w' => Below wo.heap.size wo w')) (ds := [3]) #[false, false, false, false, false, false] (by kernel_rfl) rfl rfl (below_drew (Below.refl _ _)) (fun hHeld => ?_)
  refine with_tabW rtb.tab4 rtb.bits4 (fun HT_ HW_ => ?_)
  refine take_ (i := 0) (N := (some 22)) (v := ?_) (a' := ?_) #[true, false, false, false, false, false] rfl rfl (take_ofW HT_.out HW_.out (by kernel_rfl)) (fun _ _ _ h => h) (Or.inl ⟨by rfl, ?_⟩) hHeld ?_ ?_
  rotate_left
  ·intro w' s0
   refine Eq.trans (load52_run (room := room) (v := (.slice A0 l.length c0)) _ (p := .tmp 3) ?ho_ ?hp_ (blk52 (HT.out.below s0).xa)) ?hr_
   case ho_ => rfl
   case hp_ => rfl
   case hr_ => rfl
  rotate_left
  ·simp only [Act.put, List.setIfInBounds_toArray, List.set_cons_zero, List.set_cons_succ, i64_w, i32_w]
   rfl
  refine take_ (i := 1) (N := (some 23)) (v := ?_) (a' := ?_) #[true, true, false, false, false, false] rfl rfl (take_ofW HT_.out HW_.out (by kernel_rfl)) (fun _ _ _ h => h) (Or.inl ⟨by rfl, ?_⟩) hHeld ?_ ?_
  rotate_left
  ·intro w' s0
   refine Eq.trans (load32_run (x := x) (v := (.slice A3 x.f2.length c3)) _ (p := .tmp 5) ?ho_ ?hp_ (blk_cells (HT.out.below s0).xb)) ?hr_
   case ho_ => rfl
   case hp_ => rfl
   case hr_ => rfl
  rotate_left
  ·simp only [Act.put, List.setIfInBounds_toArray, List.set_cons_zero, List.set_cons_succ, i64_w, i32_w]
   rfl
  refine one_ (i := 2) (N := (some 24)) #[true, true, true, false, false, false] rfl rfl (one_of HT_.out (by kernel_rfl)) (by decide) (fun K hK => ?_)
  refine goes_ Try.func47 (by kernel_rfl) rfl #[(.agg #[.int .i64 x.f0.f0, .int .i64 x.f0.f1, .int .i64 x.f1, (.slice A3 x.f2.length c3), .int .i64 x.f3, .int .i64 x.f4.f0, .int .i64 x.f4.f1, .int .i64 x.f5.f0, .int .i64 x.f5.f1, .int .i64 x.f6.f0, .int .i64 x.f6.f1, .string x.f7, .string x.f8])] (by rfl) rfl rfl (by (try simp only [List.map_toArray, List.map_cons, List.map_nil]); first | done | rfl) ?_
  have hH := hHeld
  refine (check05_calls x.f0.f0 x.f0.f1 x.f1 A3 x.f2 c3 x.f3 x.f4.f0 x.f4.f1 x.f5.f0 x.f5.f1 x.f6.f0 x.f6.f1 x.f7 x.f8 (Kd.C_below HC3.out (HT.out.below hH).bel) HL3.out HSZ.out).mono ?_
  rintro e w1 ⟨rfl, hb_⟩
  refine ⟨_, rfl, ?_⟩
  have hS : Below wo.heap.size wo w1 := hH.trans (hb_.mono hH.size)
  clear hb_ hH hHeld
  refine hK.out _ _ (hS) (fun hHeld => ?_)
  clear hK K
  refine norm_ (a' := ?_) ?_ ?_
  rotate_left
  ·show Act.put _ (some 24) _ = _
   simp only [Act.put, List.setIfInBounds_toArray, List.set_cons_zero, List.set_cons_succ, i64_w, i32_w]
   rfl
  refine last_ (i := 3) (N := none) #[true, true, true, true, false, false] rfl rfl (one_of HT_.out (by kernel_rfl)) (by decide) (fun K hK => ?_)
  have h6_ := hHeld
  refine skip_ (w1 := _) (by rfl) rfl (store52_run (room := room) (v := (.slice A0 l.length c0)) _ rfl rfl rfl rfl (HT.out.below h6_).xc rfl) ?_
  have HXs := Aside0.mk (setRow_heap _ gc _ (bA room (.slice A0 l.length c0)) 52 (0, 0) (HT.out.below h6_).xc)
  have HBs := Aside0.mk (row_below (HT.out.below h6_).bel HT.out.nc (HT.out.below h6_).xc (bA room (.slice A0 l.length c0)))
  have hS : Below w.heap.size w _ := HBs.out
  clear hHeld h6_
  refine hK.out _ _ ?_
  clear hK K
  refine pureS (i := 4) (N := (some 7)) #[true, true, true, true, true, false] HT_ ?_
  refine pureS (i := 5) (N := (some 8)) #[true, true, true, true, true, true] HT_ ?_
  refine done_ (done_of HT_.out (by kernel_rfl)) ?_
  try go_wp2
  refine bodyPost_ret (results_ctt rfl _ _ gc 52 (bA room (.slice A0 l.length c0)) (0, 0) _ rfl HXs.out hu52 rfl (by kernel_rfl)) rfl ?_
  exact RT.err HL.out HBs.out
 have hv2 := HV1.out
 rw [if_pos k2] at hv2
 have HV2 := Aside0.mk hv2
 clear HV1 hv2
 obtain rfl : bb = false := by rw [← hbb]; exact bne_eq_false_iff_eq.2 k2
 have hq := check_ok k2
 have HRI := Aside0.mk (ripe_is (x := x) (known := known) hq.2.2.2.2.2 (by have := hq.1; omega) (by have h1_ := hq.2.1; have h2_ := hq.2.2.1; omega) 71 (by decide))
 have HCP := Aside0.mk (ref_copy_is x hq.2.2.2.2.2)
 clear k2 hq
 by_cases k3 : (withinX known x || ownX l x) = true
 case pos =>
  obtain rfl : tk = (l, [], 5) := by rw [HV2.out, if_pos k3]
  have k4 : withinX known x = true ∨ (withinX known x = false ∧ decide (0 ≤ r) = true) := by
   rw [HO2.out]
   revert k3
   cases withinX known x <;> cases ownX l x <;> decide
  clear k3
  rcases k4 with k5 | ⟨k5, k6⟩
  all_goals
   go_wp2_with (first | ((with_reducible refine gate_dst (N := 25) rfl ?_); refine load32_ev rfl (N := 25) rfl x (.slice A3 x.f2.length c3) (p := .tmp 5) rfl (ad := ⟨gb, 0, none⟩) rfl (blk_cells HT.out.xb) ?_) | (go_at_call 50; refine (topiaryref07_Within.calls x.f0.f0 x.f0.f1 x.f1 A3 c3 x.f2 x.f3 x.f4.f0 x.f4.f1 x.f5.f0 x.f5.f1 x.f6.f0 x.f6.f1 x.f7 x.f8 A1 c1 known _ _ (Kd.C_below HC3.out HT.out.bel) HL3.out (Kd.C_below HK.out HT.out.bel) HKC.out (within_is known x)).mono ?_; rintro e w2 ⟨rfl, hb_⟩; have n_ := Aside0.mk (HT.out.below hb_); clear HT; have HT := n_; clear n_ hb_; have q0 : w2.cell? ⟨ga, 0, none⟩ = some (.int .i64 room) := (blk_cell HT.out.xa 0).trans rfl; have q1 : w2.cell? ⟨ga, 1, none⟩ = some (.slice A0 l.length c0) := (blk_cell HT.out.xa 1).trans rfl; have q4 : w2.cell? ⟨gb, 1, none⟩ = some (.int .i64 x.f0.f1) := (blk_cell HT.out.xb 1).trans rfl; have q5 : w2.cell? ⟨gb, 2, none⟩ = some (.int .i64 x.f1) := (blk_cell HT.out.xb 2).trans rfl) | (go_at_call 51; refine (topiaryref07_Own.calls 1200 A0 c0 l x.f0.f1 x.f1 _ _ (Kd.C_below HLC.out HT.out.bel) HLL.out HOW.out).mono ?_; rintro e w2 ⟨rfl, ⟨nd, hnd⟩⟩; clear q0 q1 q4 q5; have hb_ := drew_below hnd; clear hnd; have n_ := Aside0.mk (HT.out.below hb_); clear HT; have HT := n_; clear n_ hb_) | ((with_reducible refine gate_dst (N := 39) rfl ?_); refine load52_ev rfl (N := 39) rfl room (.slice A0 l.length c0) (p := .tmp 3) rfl (ad := ⟨ga, 0, none⟩) rfl (blk52 HT.out.xa) ?_) | ((with_reducible refine gate_store (t := 52) (p := 6) (v := .tmp 39) rfl ?_); refine store52_ev rfl rfl room (.slice A0 l.length c0) (p := .tmp 6) (q := .tmp 39) rfl (g := gc) rfl rfl rfl HT.out.xc rfl ?_; intro ws hb_ hg_; have HXs := Aside0.mk hb_; have HGs := Aside0.mk hg_; have HBs := Aside0.mk (HT.out.bel.grown hg_ HT.out.bel.size (fun k hk => by injection hk with hk; rw [← hk]; exact HT.out.nc)); clear hb_ hg_))
   refine bodyPost_ret (results_ctt rfl _ _ gc 52 (bA room (.slice A0 l.length c0)) (0, 0) _ rfl HXs.out hu52 rfl (by kernel_rfl)) rfl ?_
   exact RT.err HL.out HBs.out
 have hv3 := HV2.out
 rw [if_neg k3] at hv3
 have HV3 := Aside0.mk hv3
 clear HV2 hv3
 have k5 : withinX known x = false := by
  revert k3
  cases withinX known x <;> simp
 have k6 : decide (0 ≤ r) = false := by
  rw [HO2.out]
  revert k3
  cases ownX l x <;> simp
 have HO3 : Aside0 (ownX l x = false) := ⟨by rw [← HO2.out]; exact k6⟩
 clear k3
 go_upto_if 43 with (first | ((with_reducible refine gate_dst (N := 25) rfl ?_); refine load32_ev rfl (N := 25) rfl x (.slice A3 x.f2.length c3) (p := .tmp 5) rfl (ad := ⟨gb, 0, none⟩) rfl (blk_cells HT.out.xb) ?_) | (go_at_call 50; refine (topiaryref07_Within.calls x.f0.f0 x.f0.f1 x.f1 A3 c3 x.f2 x.f3 x.f4.f0 x.f4.f1 x.f5.f0 x.f5.f1 x.f6.f0 x.f6.f1 x.f7 x.f8 A1 c1 known _ _ (Kd.C_below HC3.out HT.out.bel) HL3.out (Kd.C_below HK.out HT.out.bel) HKC.out (within_is known x)).mono ?_; rintro e w2 ⟨rfl, hb_⟩; have n_ := Aside0.mk (HT.out.below hb_); clear HT; have HT := n_; clear n_ hb_; have q0 : w2.cell? ⟨ga, 0, none⟩ = some (.int .i64 room) := (blk_cell HT.out.xa 0).trans rfl; have q1 : w2.cell? ⟨ga, 1, none⟩ = some (.slice A0 l.length c0) := (blk_cell HT.out.xa 1).trans rfl; have q4 : w2.cell? ⟨gb, 1, none⟩ = some (.int .i64 x.f0.f1) := (blk_cell HT.out.xb 1).trans rfl; have q5 : w2.cell? ⟨gb, 2, none⟩ = some (.int .i64 x.f1) := (blk_cell HT.out.xb 2).trans rfl) | (go_at_call 51; refine (topiaryref07_Own.calls 1200 A0 c0 l x.f0.f1 x.f1 _ _ (Kd.C_below HLC.out HT.out.bel) HLL.out HOW.out).mono ?_; rintro e w2 ⟨rfl, ⟨nd, hnd⟩⟩; clear q0 q1 q4 q5; have hb_ := drew_below hnd; clear hnd; have n_ := Aside0.mk (HT.out.below hb_); clear HT; have HT := n_; clear n_ hb_) | ((with_reducible refine gate_dst (N := 41) rfl ?_); refine load32_ev rfl (N := 41) rfl x (.slice A3 x.f2.length c3) (p := .tmp 5) rfl (ad := ⟨gb, 0, none⟩) rfl (blk_cells HT.out.xb) ?_) | (go_at_call 48; refine (topiaryref09_Ripe.calls 71 A1 c1 known x.f0.f0 x.f0.f1 x.f1 A3 c3 x.f2 x.f3 x.f4.f0 x.f4.f1 x.f5.f0 x.f5.f1 x.f6.f0 x.f6.f1 x.f7 x.f8 _ _ (Kd.C_below HK.out HT.out.bel) HKC.out (Kd.C_below HC3.out HT.out.bel) HL3.out HRI.out).mono ?_; rintro e w2 ⟨rfl, hb_⟩; have n_ := Aside0.mk (HT.out.below hb_); clear HT; have HT := n_; clear n_ hb_; have q0 : w2.cell? ⟨ga, 0, none⟩ = some (.int .i64 room) := (blk_cell HT.out.xa 0).trans rfl; have q1 : w2.cell? ⟨ga, 1, none⟩ = some (.slice A0 l.length c0) := (blk_cell HT.out.xa 1).trans rfl; have q4 : w2.cell? ⟨gb, 1, none⟩ = some (.int .i64 x.f0.f1) := (blk_cell HT.out.xb 1).trans rfl; have q5 : w2.cell? ⟨gb, 2, none⟩ = some (.int .i64 x.f1) := (blk_cell HT.out.xb 2).trans rfl))
 clear k5 k6
 obtain ⟨rp, hrp⟩ : ∃ rp, ripeC known x = rp := ⟨_, rfl⟩
 rw [hrp]
 have hv4 := HV3.out
 rw [hrp] at hv4
 clear hrp HRI HV3
 cases rp with
 | false =>
  rw [Bool.not_false]
  rw [if_neg Bool.false_ne_true] at hv4
  by_cases k7 : room ≤ (l.length : Int)
  ·obtain rfl : tk = (l, [], 6) := by rw [hv4, if_pos k7]
   have e7 : decide (room ≤ (l.length : Int)) = true := decide_eq_true k7
   clear k7 hv4
   go_wp2_with (first | ((with_reducible refine gate_dst (N := 50) rfl ?_); refine load52_ev rfl (N := 50) rfl room (.slice A0 l.length c0) (p := .tmp 3) rfl (ad := ⟨ga, 0, none⟩) rfl (blk52 HT.out.xa) ?_) | ((with_reducible refine gate_store (t := 52) (p := 6) (v := .tmp 50) rfl ?_); refine store52_ev rfl rfl room (.slice A0 l.length c0) (p := .tmp 6) (q := .tmp 50) rfl (g := gc) rfl rfl rfl HT.out.xc rfl ?_; intro ws hb_ hg_; have HXs := Aside0.mk hb_; have HGs := Aside0.mk hg_; have HBs := Aside0.mk (HT.out.bel.grown hg_ HT.out.bel.size (fun k hk => by injection hk with hk; rw [← hk]; exact HT.out.nc)); clear hb_ hg_))
   refine bodyPost_ret (results_ctt rfl _ _ gc 52 (bA room (.slice A0 l.length c0)) (0, 0) _ rfl HXs.out hu52 rfl (by kernel_rfl)) rfl ?_
   exact RT.err HL.out HBs.out
  ·obtain rfl : tk = (putC x l, [], 0) := by rw [hv4, if_neg k7, HGD.out.put HO3.out]
   have e7 : decide (room ≤ (l.length : Int)) = false := decide_eq_false k7
   clear k7 hv4
   go_wp2_with (fail)
   clear q0 q1 q4 q5
   obtain ⟨wo, rfl⟩ : ∃ wo, wo = w2 := ⟨w2, rfl⟩
   refine start_ (n := 11) (S := (fun w' => Below wo.heap.size wo w')) (ds := [8]) #[false, false, false, false, false, false, false, false, false, false, false] (by kernel_rfl) rfl rfl (below_drew (Below.refl _ _)) (fun hHeld => ?_)
   refine with_tabW rtb.tab10 rtb.bits10 (fun HT_ HW_ => ?_)
   refine pureS (i := 0) (N := (some 51)) #[true, false, false, false, false, false, false, false, false, false, false] HT_ ?_
   refine pureS (i := 2) (N := (some 53)) #[true, false, true, false, false, false, false, false, false, false, false] HT_ ?_
   refine take_ (i := 1) (N := (some 52)) (v := ?_) (a' := ?_) #[true, true, true, false, false, false, false, false, false, false, false] rfl rfl (take_ofW HT_.out HW_.out (by kernel_rfl)) (fun _ _ _ h => h) (Or.inl ⟨by rfl, ?_⟩) hHeld ?_ ?_
   rotate_left
   ·intro w' s0
    have f : w'.cell? ⟨ga, 0, none⟩ = some (.int .i64 room) := (blk_cell (HT.out.below s0).xa 0).trans rfl
    go_simp
    with_reducible rfl
   rotate_left
   ·simp only [Act.put, List.setIfInBounds_toArray, List.set_cons_zero, List.set_cons_succ, i64_w, i32_w]
    rfl
   refine take_ (i := 3) (N := (some 54)) (v := ?_) (a' := ?_) #[true, true, true, true, false, false, false, false, false, false, false] rfl rfl (take_ofW HT_.out HW_.out (by kernel_rfl)) (fun _ _ _ h => h) (Or.inl ⟨by rfl, ?_⟩) hHeld ?_ ?_
   rotate_left
   ·intro w' s0
    have f : w'.cell? ⟨ga, 1, none⟩ = some ((.slice A0 l.length c0)) := (blk_cell (HT.out.below s0).xa 1).trans rfl
    go_simp
    with_reducible rfl
   rotate_left
   ·simp only [Act.put, List.setIfInBounds_toArray, List.set_cons_zero, List.set_cons_succ, i64_w, i32_w]
    rfl
   refine take_ (i := 4) (N := (some 55)) (v := ?_) (a' := ?_) #[true, true, true, true, true, false, false, false, false, false, false] rfl rfl (take_ofW HT_.out HW_.out (by kernel_rfl)) (fun _ _ _ h => h) (Or.inl ⟨by rfl, ?_⟩) hHeld ?_ ?_
   rotate_left
   ·intro w' s0
    refine Eq.trans (load32_run (x := x) (v := (.slice A3 x.f2.length c3)) _ (p := .tmp 5) ?ho_ ?hp_ (blk_cells (HT.out.below s0).xb)) ?hr_
    case ho_ => rfl
    case hp_ => rfl
    case hr_ => rfl
   rotate_left
   ·simp only [Act.put, List.setIfInBounds_toArray, List.set_cons_zero, List.set_cons_succ, i64_w, i32_w]
    rfl
   refine one_ (i := 5) (N := (some 56)) #[true, true, true, true, true, true, false, false, false, false, false] rfl rfl (one_of HT_.out (by kernel_rfl)) (by decide) (fun K hK => ?_)
   refine goes_ Try.func19 (by kernel_rfl) rfl #[(.agg #[.int .i64 x.f0.f0, .int .i64 x.f0.f1, .int .i64 x.f1, (.slice A3 x.f2.length c3), .int .i64 x.f3, .int .i64 x.f4.f0, .int .i64 x.f4.f1, .int .i64 x.f5.f0, .int .i64 x.f5.f1, .int .i64 x.f6.f0, .int .i64 x.f6.f1, .string x.f7, .string x.f8])] (by rfl) rfl rfl (by (try simp only [List.map_toArray, List.map_cons, List.map_nil]); first | done | rfl) ?_
   have hH := hHeld
   refine (topiaryref05_Copy.calls x.f0.f0 x.f0.f1 x.f1 A3 c3 x.f2 x.f3 x.f4.f0 x.f4.f1 x.f5.f0 x.f5.f1 x.f6.f0 x.f6.f1 x.f7 x.f8 _ _ _ _ _ _ _ _ _ _ _ _ _ _ (Kd.C_below HC3.out (HT.out.below hH).bel) HL3.out HCP.out).mono ?_
   rintro e w1 ⟨v3, rfl, hr5, hb_⟩
   obtain ⟨A5, c5, rfl⟩ := Kd.R_slice hr5
   have HV5 := Aside0.mk (Kd.V_mono (Kd.R_V (base' := 0) (Kd.R_bound hr5)) (ok' := fun k => wo.heap.size ≤ k) (fun k hk => Nat.le_trans hH.size hk.2.1))
   clear hr5
   refine ⟨_, rfl, ?_⟩
   have hS : Below wo.heap.size wo w1 := hH.trans (hb_.mono hH.size)
   clear hb_ hH hHeld
   refine hK.out _ _ (hS) (fun hHeld => ?_)
   clear hK K
   refine norm_ (a' := ?_) ?_ ?_
   rotate_left
   ·show Act.put _ (some 56) _ = _
    simp only [Act.put, List.setIfInBounds_toArray, List.set_cons_zero, List.set_cons_succ, i64_w, i32_w]
    rfl
   refine one_ (i := 6) (N := (some 57)) #[true, true, true, true, true, true, true, false, false, false, false] rfl rfl (one_of HT_.out (by kernel_rfl)) (by decide) (fun K hK => ?_)
   refine goes_ Try.func52 (by kernel_rfl) rfl #[(.slice A0 l.length c0), (.agg #[.int .i64 x.f0.f0, .int .i64 x.f0.f1, .int .i64 x.f1, (.slice A5 x.f2.length c5), .int .i64 x.f3, .int .i64 x.f4.f0, .int .i64 x.f4.f1, .int .i64 x.f5.f0, .int .i64 x.f5.f1, .int .i64 x.f6.f0, .int .i64 x.f6.f1, .string x.f7, .string x.f8])] (by rfl) rfl rfl (by (try simp only [List.map_toArray, List.map_cons, List.map_nil]); first | done | rfl) ?_
   have hH := hHeld
   refine (put_calls A0 c0 l (Kd.V_below HVL.out (HT.out.below hH).bel) x A5 c5 HV5.out HNL.out).mono ?_
   rintro e w1 ⟨v4, rfl, hn4, hb_⟩
   have hv4 := Kd.N_V (base' := 0) hn4
   obtain ⟨A6, c6, rfl⟩ := Kd.V_slice hv4
   have HV6 := Aside0.mk (Kd.V_mono hv4 (ok' := fun k => (P0 k ∧ k < w.heap.size) ∨ wo.heap.size ≤ k) (fun k hk => by rcases hk with (h | h) | h; exact .inl h; exact .inr h; exact .inr (Nat.le_trans hH.size h)))
   clear hn4 hv4 HV5
   refine ⟨_, rfl, ?_⟩
   have hS : Below wo.heap.size wo w1 := hH.trans (hb_.mono hH.size)
   clear hb_ hH hHeld
   refine hK.out _ _ (hS) (fun hHeld => ?_)
   clear hK K
   refine norm_ (a' := ?_) ?_ ?_
   rotate_left
   ·show Act.put _ (some 57) _ = _
    simp only [Act.put, List.setIfInBounds_toArray, List.set_cons_zero, List.set_cons_succ, i64_w, i32_w]
    rfl
   refine pureS (i := 7) (N := (some 58)) #[true, true, true, true, true, true, true, true, false, false, false] HT_ ?_
   refine last_ (i := 8) (N := none) #[true, true, true, true, true, true, true, true, true, false, false] rfl rfl (one_of HT_.out (by kernel_rfl)) (by decide) (fun K hK => ?_)
   have h6_ := hHeld
   refine skip_ (w1 := _) (by rfl) rfl (store52_run (room := room) (v := (.slice A6 (putC x l).length c6)) _ rfl rfl rfl rfl (HT.out.below h6_).xc rfl) ?_
   have HXs := Aside0.mk (setRow_heap _ gc _ (bA room (.slice A6 (putC x l).length c6)) 52 (0, 0) (HT.out.below h6_).xc)
   have HBs := Aside0.mk (row_below (HT.out.below h6_).bel HT.out.nc (HT.out.below h6_).xc (bA room (.slice A6 (putC x l).length c6)))
   have HV7 := Aside0.mk (Kd.V_step (w1 := World.setRow _ gc (bA room (.slice A6 (putC x l).length c6))) HV6.out (fun k hk _ => setRow_other _ gc k _ (fun e => by have h1_ := HT.out.nc; have h2_ := blk_lt HT.out.xc; rcases hk with h | h; have h3_ := h.2; omega; omega)))
   clear HV6
   have hS : Below w.heap.size w _ := HBs.out
   clear hHeld h6_
   refine hK.out _ _ ?_
   clear hK K
   refine pureS (i := 9) (N := (some 7)) #[true, true, true, true, true, true, true, true, true, true, false] HT_ ?_
   refine pureS (i := 10) (N := (some 8)) #[true, true, true, true, true, true, true, true, true, true, true] HT_ ?_
   refine done_ (done_of HT_.out (by kernel_rfl)) ?_
   try go_wp2
   refine bodyPost_ret (results_ctt rfl _ _ gc 52 (bA room (.slice A6 (putC x l).length c6)) (0, 0) _ rfl HXs.out hu52 rfl (by kernel_rfl)) rfl ?_
   exact ⟨_, _, none, 0, rfl, Kd.V_mono HV7.out (fun k hk => by rcases hk with h | h; exact .inl (.inl h.1); exact .inr (Nat.le_trans HT.out.bel.size h)), Kd.V_nil _ _ _ _ _, HBs.out⟩
 | true =>
  rw [if_pos (rfl : true = true)] at hv4
  rw [Bool.not_true]
  have HV4 := Aside0.mk hv4
  clear hv4
  clear q0 q1 q4 q5
  go_wp2_with (first | ((with_reducible refine gate_dst (N := 59) rfl ?_); refine load32_ev rfl (N := 59) rfl x (.slice A3 x.f2.length c3) (p := .tmp 5) rfl (ad := ⟨gb, 0, none⟩) rfl (blk_cells HT.out.xb) ?_) | ((with_reducible refine gate_dst (N := 60) rfl ?_); refine Kd.N_lit k32 w.heap.size 32 ?hg (N' := 60) ?hd (xs := ([x] : List S32)) (inner := chL x (.slice A3 x.f2.length c3)) (ok := (fun k => ((P0 k ∨ P1 k) ∧ k < w.heap.size ∨ w.heap.size ≤ k) ∧ k ≠ ga ∧ k ≠ gb ∧ k ≠ gc)) (okp := (fun k => ((P0 k ∨ P1 k) ∧ k < w.heap.size ∨ w.heap.size ≤ k) ∧ k ≠ ga ∧ k ≠ gb ∧ k ≠ gc)) ?hr ?hp (fun _ hk => hk) ⟨.inr HT.out.bel.size, HT.out.fresh _ (Nat.le_refl _)⟩ HT.out.bel HT.out.bel.size (by simp) ?_; (case hd => rfl); (case hg => rfl); (case hr => first | (go_simp; done) | (go_simp; rfl)); (case hp => exact Reps.front (k32_mkF _ _ x HL3.out (Kd.V_F (Kd.V_mono (Kd.V_below HXV.out HT.out.bel) (fun k hk => ⟨.inl ⟨.inr hk.1, hk.2⟩, HT.out.old k hk.2⟩)))) rfl (Reps.none _ _) rfl); intro v9 w2 hN hb hg_ hnew_; have HN := Aside0.mk hN; have n_ := Aside0.mk (HT.out.grown hg_ (fun h => by cases h) (fun h => by cases h) (fun h => by cases h)); clear HT; have HT := n_; clear n_ hN hb hg_ hnew_; have q1 : w2.cell? ⟨ga, 1, none⟩ = some (.slice A0 l.length c0) := (blk_cell HT.out.xa 1).trans rfl) | ((with_reducible refine gate_dst (N := 64) rfl ?_); refine load32_ev rfl (N := 64) rfl x (.slice A3 x.f2.length c3) (p := .tmp 5) rfl (ad := ⟨gb, 0, none⟩) rfl (blk_cells HT.out.xb) ?_) | (go_at_call 53; refine (topiaryref09_tick.calls 301 A1 c1 known x.f0.f0 x.f0.f1 x.f1 A3 c3 x.f2 x.f3 x.f4.f0 x.f4.f1 x.f5.f0 x.f5.f1 x.f6.f0 x.f6.f1 x.f7 x.f8 _ _ (Kd.C_below HK.out HT.out.bel) HKC.out (Kd.C_below HC3.out HT.out.bel) HL3.out (ref_tick_is known x 301 (by decide))).mono ?_; rintro e w2 ⟨vt, rfl, ht_, hb_⟩; clear q1; obtain ⟨Ac, cc, rfl⟩ := Kd.R_slice ht_; have HC := Aside0.mk (Kd.V_mono (Kd.R_V (base' := 0) (Kd.R_bound ht_)) (ok' := fun k => True ∧ some k ≠ v9.ownBlock) (fun k hk => ⟨trivial, fun e => by have h1_ := Kd.N_lt HN.out k e.symm; have h2_ := hk.2.1; omega⟩)); clear ht_; have n_ := Aside0.mk (Kd.N_below HN.out hb_); clear HN; have HN := n_; clear n_; have n_ := Aside0.mk (HT.out.below hb_); clear HT; have HT := n_; clear n_ hb_))
  obtain ⟨wl, hwl⟩ : ∃ wl, wl = w2 := ⟨_, rfl⟩
  go_loopw [9, 10, 11, 12] (fun v9' v10 v11 v12 wq => ∃ (now : List Int) (out left : List S32) (vo : Value) (Al : Option Addr) (cl : Nat) (Ac : Option Addr) (cc : Nat), vo = v9' ∧ v10 = .slice Al left.length cl ∧ v11 = .slice Ac now.length cc ∧ Aside0 (TB w wq ga gb gc (bA room (.slice A0 l.length c0)) (chA x (.slice A3 x.f2.length c3)) (bA 0 (.slice none 0 0))) ∧ Aside0 (Kd.N k32 32 wq w.heap.size (fun k => ((P0 k ∨ P1 k) ∧ k < w.heap.size ∨ w.heap.size ≤ k) ∧ k ≠ ga ∧ k ≠ gb ∧ k ≠ gc) vo out) ∧ Aside0 (Kd.V k32 32 wq 0 (fun k => (fun k => ((P0 k ∨ P1 k) ∧ k < w.heap.size ∨ w.heap.size ≤ k) ∧ k ≠ ga ∧ k ≠ gb ∧ k ≠ gc) k ∧ some k ≠ vo.ownBlock) (.slice Al left.length cl) left) ∧ Aside0 (Kd.V (Kd.int .i64) 3 wq 0 (fun k => True ∧ some k ≠ vo.ownBlock) (.slice Ac now.length cc) now) ∧ Aside0 (relF left.length now out left = relF l.length (tickC known x.f0.f1).1 [x] l) ∧ Aside0 (Good left) ∧ Aside0 (out.length + left.length < 5000)) (fun _ v10 _ _ _ => lenV v10)
  case atStart => exact ⟨_, [x], l, _, A0, c0, Ac, cc, rfl, rfl, rfl, HT, HN, ⟨Kd.V_mono (Kd.V_below HVL.out HT.out.bel) (fun k hk => ⟨⟨.inl ⟨.inl hk.1, hk.2⟩, HT.out.old k hk.2⟩, fun e => by have h1_ := Kd.N_base HN.out k e.symm; have h2_ := hk.2; omega⟩)⟩, HC, ⟨rfl⟩, HGD, ⟨by have h1_ := HNL.out; rw [List.length_singleton]; omega⟩⟩
  case round =>
   clear HT HN HC
   obtain ⟨now, out, left, vo, Al, cl, Ac, cc, rfl, rfl, rfl, HT, HN, HLV, HC, HF, HGL, HLE⟩ := hrel
   obtain ⟨wo, rfl⟩ : ∃ wo, wo = wr := ⟨wr, rfl⟩
   have HNX := Aside0.mk (next_is HGL.out now (by have h_ := HLE.out; omega) 6000 (by have h_ := HLE.out; omega))
   obtain ⟨nx, hnx⟩ : ∃ nx, nextI now left 0 = nx := ⟨_, rfl⟩
   rw [hnx] at HNX
   by_cases h0 : 0 ≤ nx
   case neg =>
    have e8 : decide (0 ≤ nx) = false := decide_eq_false h0
    have hf := HF.out
    rw [relF_stop (by rw [hnx]; exact h0)] at hf
    have HF2 := Aside0.mk hf
    clear h0 hf hnx HF
    go_wp2_with (first | (go_at_call 54; refine (topiaryref09_next.calls 6000 Ac cc now Al cl left _ _ (Kd.V_reads' HC.out).2.2 (Kd.V_reads' HC.out).2.1 (Kd.V_reads' HLV.out).2.2 (Kd.V_reads' HLV.out).2.1 HNX.out).mono ?_; rintro e w2 ⟨rfl, hb_⟩; have n_ := Aside0.mk (Kd.N_below HN.out hb_); clear HN; have HN := n_; clear n_; have n_ := Aside0.mk (Kd.V_below HLV.out hb_); clear HLV; have HLV := n_; clear n_; have n_ := Aside0.mk (Kd.V_below HC.out hb_); clear HC; have HC := n_; clear n_; have n_ := Aside0.mk (HT.out.below hb_); clear HT; have HT := n_; clear n_ hb_; have q0 : w2.cell? ⟨ga, 0, none⟩ = some (.int .i64 room) := (blk_cell HT.out.xa 0).trans rfl) | ((with_reducible refine gate_store (t := 52) (p := 6) (v := .tmp 92) rfl ?_); refine store52_ev rfl rfl room (.slice Al left.length cl) (p := .tmp 6) (q := .tmp 92) rfl (g := gc) rfl rfl rfl HT.out.xc rfl ?_; intro ws hb_ hg_; have HXs := Aside0.mk hb_; have HGs := Aside0.mk hg_; have HBs := Aside0.mk (HT.out.bel.grown hg_ HT.out.bel.size (fun k hk => by injection hk with hk; rw [← hk]; exact HT.out.nc)); clear hb_ hg_))
    refine bodyPost_ret (results_ctt rfl _ _ gc 52 (bA room (.slice Al left.length cl)) (0, 0) _ rfl HXs.out hu52 rfl (by kernel_rfl)) rfl ?_
    rw [HV4.out, ← HF2.out]
    have HVN := Kd.N_V (base' := 0) HN.out
    obtain ⟨A7, c7, rfl⟩ := Kd.V_slice HVN
    exact ⟨Al, cl, A7, c7, rfl, Kd.V_mono (Kd.V_grown HLV.out HGs.out (fun k hk e => by injection e with e; exact hk.1.2.2.2 e)) (fun k hk => by rcases hk.1.1 with h | h; exact .inl h.1; exact .inr h), Kd.V_mono (Kd.V_grown HVN HGs.out (fun k hk e => by injection e with e; exact hk.2.2.2 e)) (fun k hk => by rcases hk.1 with h | h; exact .inl h.1; exact .inr h), HBs.out⟩
   have e8 : decide (0 ≤ nx) = true := decide_eq_true h0
   obtain ⟨j, hj, he⟩ := next_lt now left 0 (by rw [hnx]; exact h0)
   rw [Nat.zero_add, hnx] at he
   subst he
   have HF2 := Aside0.mk ((relF_go (out := out) hj hnx).symm.trans HF.out)
   have HJ := Aside0.mk hj
   have HLN : Aside0 (left.length < 90000) := ⟨by have h_ := HLE.out; omega⟩
   have HON : Aside0 (out.length < 5000) := ⟨by have h_ := HLE.out; omega⟩
   have b1 : (0 ≤ (j : Int)) = True := eq_true (by omega)
   have b2 : ((j : Int) < (left.length : Int)) = True := eq_true (by omega)
   have b3 : (j < left.length) = True := eq_true hj
   clear h0 hnx HF
   go_upto_region 16 with (first | (go_at_call 54; refine (topiaryref09_next.calls 6000 Ac cc now Al cl left _ _ (Kd.V_reads' HC.out).2.2 (Kd.V_reads' HC.out).2.1 (Kd.V_reads' HLV.out).2.2 (Kd.V_reads' HLV.out).2.1 HNX.out).mono ?_; rintro e w2 ⟨rfl, hb_⟩; have n_ := Aside0.mk (Kd.N_below HN.out hb_); clear HN; have HN := n_; clear n_; have n_ := Aside0.mk (Kd.V_below HLV.out hb_); clear HLV; have HLV := n_; clear n_; have n_ := Aside0.mk (Kd.V_below HC.out hb_); clear HC; have HC := n_; clear n_; have n_ := Aside0.mk (HT.out.below hb_); clear HT; have HT := n_; clear n_ hb_))
   obtain ⟨ad, A4, c4, rfl, hcc, hl4, hV4⟩ := elemV HLV.out hj
   generalize hy : rd_T32 left (j : Int) = y at *
   have HYC := Aside0.mk hcc
   have HYV := Aside0.mk hV4
   have HYE := Aside0.mk hy
   clear hcc hl4 hV4 hj hy
   go_wp2_with (first | ((with_reducible refine gate_dst (N := 77) rfl ?_); refine load32_ev rfl (N := 77) rfl y (.slice A4 y.f2.length c4) (p := .tmp 76) rfl rfl (fun j u hj => HYC.out _ (Below.refl _ _) j u hj) ?_) | ((with_reducible refine gate_builtin (b := .append) (xs := #[.tmp 73, .tmp 78]) rfl ?_); at_builtin; refine app32 (w0 := w) w.heap.size rfl (.tmp 73) (.tmp 78) rfl vo out y A4 c4 (fun k => ((P0 k ∨ P1 k) ∧ k < w.heap.size ∨ w.heap.size ≤ k) ∧ k ≠ ga ∧ k ≠ gb ∧ k ≠ gc) rfl rfl (Kd.V_mono HYV.out (fun k hk => hk.1)) (fun k hk => ⟨.inr (Nat.le_trans HT.out.bel.size hk), HT.out.fresh k hk⟩) HN.out HT.out.bel HT.out.bel.size (by have h_ := HON.out; omega) ?_; intro v9 w2 hN hb hg_ hat_; have n_ := Aside0.mk (HT.out.grown hg_ (Kd.N_away HN.out (fun k hk => hk.2.1)) (Kd.N_away HN.out (fun k hk => hk.2.2.1)) (Kd.N_away HN.out (fun k hk => hk.2.2.2))); clear HT; have HT := n_; clear n_; have n_ := Aside0.mk (Kd.V_after HLV.out hg_ hat_); clear HLV; have HLV := n_; clear n_; have n_ := Aside0.mk (Kd.V_after HC.out hg_ hat_); clear HC; have HC := n_; clear n_; obtain ⟨ad2, A5, c5, he_, hcc2, hl5, hV5⟩ := elemV HLV.out HJ.out; injection he_ with he_; subst he_; rw [HYE.out] at hcc2 hl5 hV5; have HYC2 := Aside0.mk hcc2; have HYV2 := Aside0.mk hV5; clear hcc2 hl5 hV5; clear HN; have HN := Aside0.mk hN; clear hN hb hg_ hat_) | ((with_reducible refine gate_dst (N := 84) rfl ?_); refine load32_ev rfl (N := 84) rfl y (.slice A5 y.f2.length c5) (p := .tmp 83) rfl rfl (fun j u hj => HYC2.out _ (Below.refl _ _) j u hj) ?_) | (go_at_call 53; refine (topiaryref09_tick.calls 301 Ac cc now y.f0.f0 y.f0.f1 y.f1 A5 c5 y.f2 y.f3 y.f4.f0 y.f4.f1 y.f5.f0 y.f5.f1 y.f6.f0 y.f6.f1 y.f7 y.f8 _ _ (Kd.V_reads' HC.out).2.2 (Kd.V_reads' HC.out).2.1 (Kd.V_reads' HYV2.out).2.2 (Kd.V_reads' HYV2.out).2.1 (ref_tick_is now y 301 (by decide))).mono ?_; rintro e w2 ⟨vt, rfl, ht_, hb_⟩; have HNB := Aside0.mk HN.out; have n_ := Aside0.mk (Kd.N_below HN.out hb_); clear HN; have HN := n_; clear n_; have n_ := Aside0.mk (Kd.V_below HLV.out hb_); clear HLV; have HLV := n_; clear n_; have n_ := Aside0.mk (Kd.V_below HC.out hb_); clear HC; have HC := n_; clear n_; clear HC; obtain ⟨Ac, cc, rfl⟩ := Kd.R_slice ht_; have HC := Aside0.mk (Kd.V_mono (Kd.R_V (base' := 0) (Kd.R_bound ht_)) (ok' := fun k => True ∧ some k ≠ v9.ownBlock) (fun k hk => ⟨trivial, fun e => by have h1_ := Kd.N_lt (HNB.out) k e.symm; have h2_ := hk.2.1; omega⟩)); clear ht_; have n_ := Aside0.mk (HT.out.below hb_); clear HT; have HT := n_; clear n_ hb_) | (go_at_call 55; refine (topiaryref09_without.calls _ _ cl left (j : Int) _ _ HLV.out (without_is left j HJ.out HLN.out)).mono ?_; rintro e w2 ⟨v8, rfl, hn8, hb_⟩; have hv8 := Kd.N_V (base' := 0) hn8; obtain ⟨A8, c8, rfl⟩ := Kd.V_slice hv8; have HL8 := Aside0.mk (Kd.V_mono hv8 (ok' := fun k => (fun k => ((P0 k ∨ P1 k) ∧ k < w.heap.size ∨ w.heap.size ≤ k) ∧ k ≠ ga ∧ k ≠ gb ∧ k ≠ gc) k ∧ some k ≠ v9.ownBlock) (fun k hk => by rcases hk with h | h; exact h; exact ⟨⟨.inr (Nat.le_trans HT.out.bel.size h), HT.out.fresh k h⟩, fun e => by have h1_ := Kd.N_lt HN.out k e.symm; omega⟩)); clear hn8 hv8; have n_ := Aside0.mk (Kd.N_below HN.out hb_); clear HN; have HN := n_; clear n_; have n_ := Aside0.mk (Kd.V_below HLV.out hb_); clear HLV; have HLV := n_; clear n_; have n_ := Aside0.mk (Kd.V_below HC.out hb_); clear HC; have HC := n_; clear n_; have n_ := Aside0.mk (HT.out.below hb_); clear HT; have HT := n_; clear n_ hb_))
   exact ⟨⟨_, out ++ [y], left.eraseIdx j, v9, A8, c8, Ac, cc, rfl, rfl, rfl, HT, HN, HL8, HC, HF2, ⟨HGL.out.erase j⟩, ⟨by have h_ := HLE.out; have h2_ := HJ.out; rw [List.length_append, List.length_singleton, List.length_eraseIdx_of_lt HJ.out]; omega⟩⟩, by show (left.eraseIdx j).length < left.length; rw [List.length_eraseIdx_of_lt HJ.out]; have h2_ := HJ.out; omega⟩
def sml.T6 : Bool × List (List Nat × List Nat) := (true, [([], []), ([], []), ([0, 1], [0, 1]), ([2], [2]), ([], []), ([], []), ([4, 5], [4, 5]), ([6], [6]), ([3, 7], [3, 7]), ([8], [8])])
def sml.B6 : List Nat := [0, 0, 3, 7, 0, 0, 48, 112, 255, 511]
theorem sml.tab6 : rtab .any (opsOf Try.f15 6) = sml.T6 := by kernel_rfl
theorem sml.bits6 : waitsOk sml.T6.2 sml.B6 = true := by kernel_rfl
theorem drawn_below {w w1 : World} {nd : Nat} (h : w1 = w.drewN nd) : Below w.heap.size w w1 := by rw [h]; exact pw_below_drewN (Below.refl _ _) nd
/-- An element of a list. -/
theorem elemS {w : World} {A1 : Option Addr} {l : List S32} (hl : Kd.C k32 w A1 l.length l) {i : Nat} (hi : i < l.length) :
  ∃ ad A3 c3, A1 = some ad ∧ (∀ W, Below w.heap.size w W → ∀ j u, (chL (rd_T32 l (i : Int)) (.slice A3 (rd_T32 l (i : Int)).f2.length c3))[j]? = some u → W.cell? ((ad.add (i * 13)).add j) = some u) ∧ (rd_T32 l (i : Int)).f2.length ≤ c3 ∧ (Kd.int .i64).C w A3 (rd_T32 l (i : Int)).f2.length (rd_T32 l (i : Int)).f2 := by
 obtain ⟨ad, c, e, hcl, hK, hcc⟩ := Kd.C_get hl z32 (i : Int) (by omega) (by omega)
 obtain ⟨A3, c3, rfl, l3, g3⟩ := k32_open hK
 rw [Int.toNat_natCast] at hcc
 refine ⟨ad, A3, c3, e, fun W hb j u hj => ?_, l3, g3⟩
 rw [add_add]
 have h := hcc j u hj
 exact (hb.cell (World.block_lt_of_cell? w _ h)).trans h
set_option maxHeartbeats 8000000 in
set_option maxRecDepth 100000 in
theorem same_self {w : World} (x : S32) (A3 : Option Addr) (c3 : Nat) (B3 : Option Addr) (d3 : Nat) (hx : Kd.C (Kd.int .i64) w A3 x.f2.length x.f2) (hx3 : x.f2.length ≤ c3) (hy : Kd.C (Kd.int .i64) w B3 x.f2.length x.f2) (hy3 : x.f2.length ≤ d3) (h64 : x.f2.length ≤ 64) :
  Calls Try.prog 45 #[(.agg #[.int .i64 x.f0.f0, .int .i64 x.f0.f1, .int .i64 x.f1, (.slice A3 x.f2.length c3), .int .i64 x.f3, .int .i64 x.f4.f0, .int .i64 x.f4.f1, .int .i64 x.f5.f0, .int .i64 x.f5.f1, .int .i64 x.f6.f0, .int .i64 x.f6.f1, .string x.f7, .string x.f8]), (.agg #[.int .i64 x.f0.f0, .int .i64 x.f0.f1, .int .i64 x.f1, (.slice B3 x.f2.length d3), .int .i64 x.f3, .int .i64 x.f4.f0, .int .i64 x.f4.f1, .int .i64 x.f5.f0, .int .i64 x.f5.f1, .int .i64 x.f6.f0, .int .i64 x.f6.f1, .string x.f7, .string x.f8])] w fun e w' => e = .returned (.bool true) ∧ Below w.heap.size w w' := by
 have hu32 := Try.underlying32
 have hu30 := Try.underlying30
 have HC3 := Aside0.mk hx
 have HL3 := Aside0.mk hx3
 have HD3 := Aside0.mk hy
 have HM3 := Aside0.mk hy3
 have HS2 : Aside0 (topiaryref02_Same.f 100 x.f2 x.f2 = some true) := ⟨by unfold topiaryref02_Same.f; rw [if_pos rfl]; exact same02_self x.f2 x.f2.length 0 100 (by omega) (by omega) (by omega)⟩
 have HB := Aside0.mk (Below.refl w.heap.size w)
 clear hx hx3 hy hy3 h64
 go_enter Try.func45, Try.ntmps45
 go_wp2_with (first | ((with_reducible refine gate_dst (N := 2) rfl ?_); refine box_event ?hg (N := 2) ?hd (cs := #[.int .i64 x.f0.f0, .int .i64 x.f0.f1, .int .i64 x.f1, (.slice A3 x.f2.length c3), .int .i64 x.f3, .int .i64 x.f4.f0, .int .i64 x.f4.f1, .int .i64 x.f5.f0, .int .i64 x.f5.f1, .int .i64 x.f6.f0, .int .i64 x.f6.f1, .string x.f7, .string x.f8]) (t := 32) ?hr ?_; (case hd => rfl); (case hg => rfl); (case hr => first | (go_simp; done) | (go_simp; rfl)); intro ga hr_ w_ga hbox hb; have HXA := Aside0.mk hbox; obtain ⟨ha0, ha1, ha2, ha3, ha4, ha5, ha6, ha7, ha8, ha9, ha10, ha11, ha12⟩ := cells13 hbox; have n0_ := Aside0.mk (HB.out.trans (hb.mono HB.out.size)); clear HB; have HB := n0_; clear n0_ hb hr_) | ((with_reducible refine gate_dst (N := 3) rfl ?_); refine box_event ?hg (N := 3) ?hd (cs := #[.int .i64 x.f0.f0, .int .i64 x.f0.f1, .int .i64 x.f1, (.slice B3 x.f2.length d3), .int .i64 x.f3, .int .i64 x.f4.f0, .int .i64 x.f4.f1, .int .i64 x.f5.f0, .int .i64 x.f5.f1, .int .i64 x.f6.f0, .int .i64 x.f6.f1, .string x.f7, .string x.f8]) (t := 32) ?hr ?_; (case hd => rfl); (case hg => rfl); (case hr => first | (go_simp; done) | (go_simp; rfl)); intro gb hr_ w_gb hbox hb; have hA := Aside0.mk (blk_below HXA.out hb); clear HXA ha0 ha1 ha2 ha3 ha4 ha5 ha6 ha7 ha8 ha9 ha10 ha11 ha12; obtain ⟨ha0, ha1, ha2, ha3, ha4, ha5, ha6, ha7, ha8, ha9, ha10, ha11, ha12⟩ := cells13 hA.out; have HXA := hA; clear hA; have HXB := Aside0.mk hbox; obtain ⟨hb0, hb1, hb2, hb3, hb4, hb5, hb6, hb7, hb8, hb9, hb10, hb11, hb12⟩ := cells13 hbox; have n0_ := Aside0.mk (HB.out.trans (hb.mono HB.out.size)); clear HB; have HB := n0_; clear n0_ hb hr_) | (go_at_call 24; refine (topiaryref02_Same.calls 100 A3 c3 x.f2 B3 d3 x.f2 true _ (Kd.C_below HC3.out HB.out) HL3.out (Kd.C_below HD3.out HB.out) HM3.out HS2.out).mono ?_; clear ha0 ha1 ha2 ha3 ha4 ha5 ha6 ha7 ha8 ha9 ha10 ha11 ha12 hb0 hb1 hb2 hb3 hb4 hb5 hb6 hb7 hb8 hb9 hb10 hb11 hb12; rintro e w1 ⟨rfl, ⟨nd, hnd⟩⟩; have hb_ := drawn_below hnd; clear hnd; obtain ⟨ha0, ha1, ha2, ha3, ha4, ha5, ha6, ha7, ha8, ha9, ha10, ha11, ha12⟩ := cells13 (blk_below HXA.out hb_); obtain ⟨hb0, hb1, hb2, hb3, hb4, hb5, hb6, hb7, hb8, hb9, hb10, hb11, hb12⟩ := cells13 (blk_below HXB.out hb_); have n0_ := Aside0.mk (HB.out.trans (hb_.mono HB.out.size)); clear HB; have HB := n0_; clear n0_ hb_))
 go_ret
 exact ⟨by simp, HB.out⟩
set_option maxHeartbeats 8000000 in
set_option maxRecDepth 100000 in
theorem sameAll_self {w : World} (A0 : Option Addr) (c0 : Nat) (A1 : Option Addr) (c1 : Nat) (l : List S32) (h0 : Kd.C k32 w A0 l.length l) (hc0 : l.length ≤ c0) (h1 : Kd.C k32 w A1 l.length l) (hc1 : l.length ≤ c1) (hx : ∀ x ∈ l, x.f2.length ≤ 64) (hl : l.length < 90000) :
  Calls Try.prog 15 #[.slice A0 l.length c0, .slice A1 l.length c1] w fun e w' => e = .returned (.bool true) ∧ Below w.heap.size w w' := by
 have H0 := Aside0.mk h0
 have H1 := Aside0.mk h1
 have H64 := Aside0.mk hx
 have HL := Aside0.mk hl
 have e0 : ((l.length : Int) != (l.length : Int)) = false := by rw [bne_eq_false_iff_eq]
 clear h0 h1 hc0 hc1 hx hl
 go_enter Try.func15, Try.ntmps15
 go_wp2_with (fail)
 go_loopw [5] (fun v5 wq => ∃ i : Nat, v5 = .int .i64 (i : Int) ∧ Aside0 (i ≤ l.length) ∧ Aside0 (Below w.heap.size w wq)) (fun v5 _ => l.length - (intOf v5).toNat)
 case atStart => exact ⟨0, rfl, ⟨Nat.zero_le _⟩, ⟨Below.refl _ _⟩⟩
 case round =>
  obtain ⟨i, rfl, HI, HBq⟩ := hrel
  by_cases hi : i < l.length
  case neg =>
   have b3 : decide (i < l.length) = false := decide_eq_false hi
   go_wp2_with (fail)
   go_ret
   exact ⟨rfl, HBq.out⟩
  obtain ⟨ad, A3, c3, rfl, hcc, hl3, hC3⟩ := elemS H0.out hi
  obtain ⟨ad', B3, d3, rfl, hcc', hl3', hC3'⟩ := elemS H1.out hi
  have hmem : rd_T32 l (i : Int) ∈ l := List.mem_of_getElem? (rd32_at hi)
  have HY := Aside0.mk (H64.out _ hmem)
  clear hmem
  generalize rd_T32 l (i : Int) = y at *
  have HCA := Aside0.mk hcc
  have HCB := Aside0.mk hcc'
  have HC3 := Aside0.mk hC3
  have HD3 := Aside0.mk hC3'
  have HL3 := Aside0.mk hl3
  have HM3 := Aside0.mk hl3'
  have HI' := Aside0.mk hi
  have b1 : (0 ≤ (i : Int)) = True := eq_true (by omega)
  have b2 : ((i : Int) < (l.length : Int)) = True := eq_true (by omega)
  have b3 : (i < l.length) = True := eq_true hi
  have b4 : decide (i < l.length) = true := decide_eq_true hi
  have hiw : wrap64 ((i : Int) + 1) = ((i + 1 : Nat) : Int) := by have h1_ := HL.out; exact w1s (by omega)
  have HIW := Aside0.mk hiw
  clear hcc hcc' hC3 hC3' hl3 hl3' hi hiw
  go_wp2_with (fail)
  refine start_ (n := 10) (S := (fun w' => Below w.heap.size w w')) (ds := []) #[false, false, false, false, false, false, false, false, false, false] (by kernel_rfl) rfl rfl (below_drew HBq.out) (fun hHeld => ?_)
  refine with_tabW sml.tab6 sml.bits6 (fun HT_ HW_ => ?_)
  refine pureS (i := 0) (N := (some 17)) #[true, false, false, false, false, false, false, false, false, false] HT_ ?_
  refine pureS (i := 1) (N := (some 18)) #[true, true, false, false, false, false, false, false, false, false] HT_ ?_
  refine pureS (i := 2) (N := (some 19)) #[true, true, true, false, false, false, false, false, false, false] HT_ ?_
  refine pureS (i := 4) (N := (some 21)) #[true, true, true, false, true, false, false, false, false, false] HT_ ?_
  refine pureS (i := 5) (N := (some 22)) #[true, true, true, false, true, true, false, false, false, false] HT_ ?_
  refine pureS (i := 6) (N := (some 23)) #[true, true, true, false, true, true, true, false, false, false] HT_ ?_
  refine take_ (i := 3) (N := (some 20)) (v := ?_) (a' := ?_) #[true, true, true, true, true, true, true, false, false, false] rfl rfl (take_ofW HT_.out HW_.out (by kernel_rfl)) (fun _ _ _ h => h) (Or.inl ⟨by rfl, ?_⟩) hHeld ?_ ?_
  rotate_left
  ·rintro w' s0
   refine Eq.trans (load32_run (x := y) (v := (.slice A3 y.f2.length c3)) _ (p := .tmp 19) ?ho_ ?hp_ (HCA.out w' s0)) ?hr_
   case ho_ => rfl
   case hp_ => rfl
   case hr_ => rfl
  rotate_left
  ·simp only [Act.put, List.setIfInBounds_toArray, List.set_cons_zero, List.set_cons_succ, i64_w, i32_w]
   rfl
  refine take_ (i := 7) (N := (some 24)) (v := ?_) (a' := ?_) #[true, true, true, true, true, true, true, true, false, false] rfl rfl (take_ofW HT_.out HW_.out (by kernel_rfl)) (fun _ _ _ h => h) (Or.inl ⟨by rfl, ?_⟩) hHeld ?_ ?_
  rotate_left
  ·rintro w' s0
   refine Eq.trans (load32_run (x := y) (v := (.slice B3 y.f2.length d3)) _ (p := .tmp 23) ?ho_ ?hp_ (HCB.out w' s0)) ?hr_
   case ho_ => rfl
   case hp_ => rfl
   case hr_ => rfl
  rotate_left
  ·simp only [Act.put, List.setIfInBounds_toArray, List.set_cons_zero, List.set_cons_succ, i64_w, i32_w]
   rfl
  refine one_ (i := 8) (N := (some 25)) #[true, true, true, true, true, true, true, true, true, false] rfl rfl (one_of HT_.out (by kernel_rfl)) (by decide) (fun K hK => ?_)
  refine goes_ Try.func45 (by kernel_rfl) rfl #[(.agg #[.int .i64 y.f0.f0, .int .i64 y.f0.f1, .int .i64 y.f1, (.slice A3 y.f2.length c3), .int .i64 y.f3, .int .i64 y.f4.f0, .int .i64 y.f4.f1, .int .i64 y.f5.f0, .int .i64 y.f5.f1, .int .i64 y.f6.f0, .int .i64 y.f6.f1, .string y.f7, .string y.f8]), (.agg #[.int .i64 y.f0.f0, .int .i64 y.f0.f1, .int .i64 y.f1, (.slice B3 y.f2.length d3), .int .i64 y.f3, .int .i64 y.f4.f0, .int .i64 y.f4.f1, .int .i64 y.f5.f0, .int .i64 y.f5.f1, .int .i64 y.f6.f0, .int .i64 y.f6.f1, .string y.f7, .string y.f8])] (by rfl) rfl rfl (by (try simp only [List.map_toArray, List.map_cons, List.map_nil]); first | done | rfl) ?_
  refine (same_self y A3 c3 B3 d3 (Kd.C_below HC3.out hHeld) HL3.out (Kd.C_below HD3.out hHeld) HM3.out HY.out).mono ?_
  rintro e w1 ⟨rfl, hb1⟩
  refine ⟨_, rfl, ?_⟩
  refine hK.out _ _ ((hHeld.trans (hb1.mono hHeld.size))) (fun hHeld => ?_)
  clear hK K
  refine norm_ (a' := ?_) ?_ ?_
  rotate_left
  ·show Act.put _ (some 25) _ = _
   simp only [Act.put, List.setIfInBounds_toArray, List.set_cons_zero, List.set_cons_succ, i64_w, i32_w]
   rfl
  refine pureS (i := 9) (N := (some 26)) #[true, true, true, true, true, true, true, true, true, true] HT_ ?_
  refine done_ (done_of HT_.out (by kernel_rfl)) ?_
  go_wp2_with (fail)
  rw [HIW.out]
  exact ⟨⟨i + 1, rfl, ⟨HI'.out⟩, ⟨hHeld⟩⟩, dec_lt HI'.out⟩
theorem w1t {n : Nat} (h : n + 1 ≤ 9223372036854775807) : wrap64 ((n : Int) + 1) = ((n + 1 : Nat) : Int) := by rw [← i64_w, IntKind.wrap_i64]; omega
def own.T8 : Bool × List (List Nat × List Nat) := (true, [([], []), ([], []), ([], []), ([1, 2], [1, 2]), ([3], [3]), ([0, 4], [0, 4]), ([5], [5]), ([6], [6]), ([6], [6]), ([6], [6]), ([], []), ([10, 7, 5, 0, 1, 2, 3, 4, 5, 6, 7, 10], [7, 10]), ([8, 11, 0, 1, 2, 3, 4, 5, 6, 7, 8, 10, 11], [8]), ([9, 12, 0, 1, 2, 3, 4, 5, 6, 7, 8, 9, 10, 11, 12], [9])])
def own.B8 : List Nat := [0, 0, 0, 6, 14, 31, 63, 127, 127, 127, 0, 1279, 3583, 8191]
theorem own.tab8 : rtab .any (opsOf Try.f7 8) = own.T8 := by kernel_rfl
theorem own.bits8 : waitsOk own.T8.2 own.B8 = true := by kernel_rfl
section
variable {w1 w3 : World} {b b' nx n0 n1 g9 : Nat} {Q Z : Nat → Prop} {v : Value} {Y : List S32}
theorem own_va (h : Kd.V k32 32 w1 b (fun k => (Q k ∨ k < n0) ∨ nx ≤ k) v Y) (hn : n1 ≤ nx) : Kd.V k32 32 w1 b' (fun k => ((Q k ∨ k < n0) ∨ n1 ≤ k) ∧ k < w1.heap.size) v Y :=
 Kd.V_mono (Kd.V_bound h) (fun k hk => ⟨hk.1.imp id (fun h => Nat.le_trans hn h), hk.2⟩)
theorem own_vb (h : Kd.V k32 32 w1 b (fun k => (Q k ∨ k < n0) ∨ nx ≤ k) v Y) (hQ : ∀ k, Q k → k < n1) (h0 : n0 ≤ n1) (h9 : n1 ≤ g9) (h9x : g9 < nx) (hn : n1 ≤ nx) : Kd.V k32 32 w1 b' (fun k => ((Q k ∨ k < n0) ∨ n1 ≤ k) ∧ k ≠ g9) v Y :=
 Kd.V_mono h (fun k hk => ⟨hk.imp id (fun h => Nat.le_trans hn h), by rcases hk with (h1 | h1) | h1; have := hQ k h1; omega; omega; omega⟩)
theorem own_vc (h : Kd.V k32 32 w1 b (fun k => Z k ∧ k < w1.heap.size) v Y) (o : Obj) : Kd.V k32 32 (w1.alloc o) b (fun k => Z k ∧ k ≠ w1.heap.size) v Y :=
 Kd.V_mono (Kd.V_alloc h o) (fun k hk => ⟨hk.1, Nat.ne_of_lt hk.2⟩)
theorem own_vd (h : Kd.V k32 32 w3 b (fun k => Z k ∧ k ≠ g9) v Y) (ds : Array Value) : Kd.V k32 32 (w3.setRow g9 ds) b Z v Y :=
 Kd.V_mono (Kd.V_step h (fun k hk _ => setRow_other w3 g9 k _ hk.2)) (fun k hk => hk.1)
end
set_option maxHeartbeats 8000000 in
set_option maxRecDepth 100000 in
theorem own_law_calls (w : World) (A1 : Option Addr) (c1 : Nat) (l : List S32) (hl : Kd.C k32 w A1 l.length l) (hln : l.length < 4611686018427387904) (hs : ∀ y ∈ l, y.f7.size < 4611686018427387904) (x : S32) (A3 : Option Addr) (c3 : Nat) (hx : Kd.C (Kd.int .i64) w A3 x.f2.length x.f2) (hx3 : x.f2.length ≤ c3) (hsx : x.f7.size < 4611686018427387904) :
  Calls Try.prog 7 #[.slice A1 l.length c1, (.agg #[.int .i64 x.f0.f0, .int .i64 x.f0.f1, .int .i64 x.f1, (.slice A3 x.f2.length c3), .int .i64 x.f3, .int .i64 x.f4.f0, .int .i64 x.f4.f1, .int .i64 x.f5.f0, .int .i64 x.f5.f1, .int .i64 x.f6.f0, .int .i64 x.f6.f1, .string x.f7, .string x.f8])] w fun e w' => e = .returned (.bool true) ∧ Below w.heap.size w w' := by
 have HL := Aside0.mk hl
 have HLN := Aside0.mk hln
 have HS := Aside0.mk hs
 have HXFX := Aside0.mk (Kd.C_F (Kd.heap_int .i64) hx)
 have HL3 := Aside0.mk hx3
 have HSX := Aside0.mk hsx
 clear hl hln hs hx hx3 hsx
 go_enter Try.func7, Try.ntmps7
 go_wp2_with (first | ((with_reducible refine gate_dst (N := 3) rfl ?_); refine box_event ?hg (N := 3) ?hd (cs := #[.int .i64 x.f0.f0, .int .i64 x.f0.f1, .int .i64 x.f1, (.slice A3 x.f2.length c3), .int .i64 x.f3, .int .i64 x.f4.f0, .int .i64 x.f4.f1, .int .i64 x.f5.f0, .int .i64 x.f5.f1, .int .i64 x.f6.f0, .int .i64 x.f6.f1, .string x.f7, .string x.f8]) (t := 32) ?hr ?_; (case hd => rfl); (case hg => rfl); (case hr => first | (go_simp; done) | (go_simp; rfl)); intro gb hr_ w0 hbox hb; have HXgb := Aside0.mk hbox; have HBgb := Aside0.mk hb; have HNgb := Aside0.mk (Nat.le_of_eq hr_.symm); clear hbox hb hr_))
 refine (new_calls _ 256 (by decide) (by decide)).mono ?_
 rintro e w1 ⟨g, rfl, hbn, hw0⟩
 have HBI := Aside0.mk (BI.new (w0 := w) (room := 256) (by decide) (by decide) hbn hw0 HBgb.out)
 have HXG := Aside0.mk (blk_below HXgb.out hw0)
 have HGL : Aside0 (gb < w0.heap.size) := ⟨blk_lt HXgb.out⟩
 clear hbn hw0 HXgb HBgb
 go_wp2_with (first | ((with_reducible refine gate_dst (N := 7) rfl ?_); refine box_event ?hg (N := 7) ?hd (cs := #[.int .i64 0, .slice none 0 0]) (t := 52) ?hr ?_; (case hd => rfl); (case hg => rfl); (case hr => first | (go_simp; done) | (go_simp; rfl)); intro g7 hr_ w2 hbox hb; have HX7 := Aside0.mk hbox; have HB7 := Aside0.mk hb; have HN7 := Aside0.mk hr_; clear hbox hb hr_) | ((with_reducible refine gate_store (t := 52) (p := 7) (v := .tmp 34) rfl ?_); refine store52_ev rfl rfl 256 (.slice none 0 0) (p := .tmp 7) (q := .tmp 34) rfl (g := g7) rfl rfl rfl HX7.out rfl ?_; intro ws hb_ hg_; have HXs := Aside0.mk hb_; have HGs := Aside0.mk hg_; clear hb_ hg_))
 have hb2 : Below w1.heap.size w1 ws := HB7.out.grown HGs.out HB7.out.size (fun k hk => by injection hk with hk; rw [← hk]; exact Nat.le_of_eq HN7.out.symm)
 have HSTART : Aside0 (OI w ws gb g7 g (chA x (.slice A3 x.f2.length c3)) [] (fun k => w0.heap.size ≤ k ∧ k < w1.heap.size) [] none 0) := ⟨HBI.out.below hb2, fun h => by have h1_ := h.1; have h2_ := HGL.out; omega, fun h => by have h1_ := h.2; have h2_ := HN7.out; omega, HNgb.out, by have h1_ := HBI.out.bel.size; have h2_ := HN7.out; omega, blk_below HXG.out hb2, HXs.out, Kd.V_nil _ _ _ _ _⟩
 clear hb2 HBI HXG HGL HB7 HN7 HX7 HXs HGs HNgb
 go_loopw [8] (fun v8 wq => ∃ (i : Nat) (L : List S32) (P : Nat → Prop) (Ay : Option Addr) (cy : Nat), v8 = .int .i64 (i : Int) ∧ Aside0 (i ≤ l.length) ∧ Aside0 (OI w wq gb g7 g (chA x (.slice A3 x.f2.length c3)) L P L Ay cy)) (fun v8 _ => l.length - (intOf v8).toNat)
 case atStart => exact ⟨0, [], _, _, _, rfl, ⟨Nat.zero_le _⟩, HSTART⟩
 case round =>
  clear HSTART
  obtain ⟨i, L, P, Ay, cy, rfl, HI, HO⟩ := hrel
  obtain ⟨wo, rfl⟩ : ∃ wo, wo = wr := ⟨wr, rfl⟩
  have HXP : Aside0 (∀ k, k < w.heap.size → ¬ P k) := ⟨fun k hk hp => by have h1_ := HO.out.bi.lo k hp; omega⟩
  by_cases hi : i < l.length
  case neg =>
   have e1 : decide (i < l.length) = false := decide_eq_false hi
   clear hi
   have h64 := take_out64 (room := 256) HO.out.bi.good (by have h1_ := HO.out.bi.len; omega) [] x
   obtain ⟨⟨Lr, out, er⟩, hr⟩ : ∃ r, takeF 256 L [] x = r := ⟨_, rfl⟩
   rw [hr] at h64
   have HTF := Aside0.mk hr
   have H64 := Aside0.mk h64
   have HXF := HXFX
   have HSZ := HSX
   have e2 : (er == er) = true := by rw [beq_iff_eq]
   clear hr h64
   go_wp2_with (first | ((with_reducible refine gate_dst (N := 110) rfl ?_); refine load52_ev rfl (N := 110) rfl 256 (.slice Ay L.length cy) (p := .tmp 7) rfl (ad := ⟨g7, 0, none⟩) rfl (blk52 HO.out.h7) ?_) | ((with_reducible refine gate_dst (N := 111) rfl ?_); refine load32_ev rfl (N := 111) rfl x (.slice A3 x.f2.length c3) (p := .tmp 3) rfl (ad := ⟨gb, 0, none⟩) rfl (blk_cells HO.out.hb) ?_) | (go_at_call 23; refine (rtake_calls 256 Ay cy L HO.out.hv HO.out.bi.good (by have h1_ := HO.out.bi.len; omega) none 0 [] (Kd.C_nil _ _) (Nat.le_refl _) x A3 c3 (P1 := fun k => k < w.heap.size) (Kd.V_mk (base := 0) (e := 3) HL3.out (Kd.F_below HXF.out HO.out.bi.bel)) HSZ.out).mono ?_; rw [HTF.out]; intro e w1 ht_; obtain ⟨B1, d1, B2, d2, rfl, hv1, hv2, hb1⟩ := ht_; have HV2 := Aside0.mk (own_va (b' := w.heap.size) hv2 (Nat.le_refl _)); have HB1 := Aside0.mk hb1; clear hv1 hv2 hb1) | ((with_reducible refine gate_dst (N := 19) rfl ?_); refine box_event ?hg (N := 19) ?hd (cs := #[.int .i64 0, .slice none 0 0]) (t := 52) ?hr ?_; (case hd => rfl); (case hg => rfl); (case hr => first | (go_simp; done) | (go_simp; rfl)); intro ga hr_ wa hbox hb; have HXa := Aside0.mk hbox; have HBa := Aside0.mk (HB1.out.trans (hb.mono HB1.out.size)); have HNa := Aside0.mk (Nat.le_trans HB1.out.size (Nat.le_of_eq hr_.symm)); have HVa := Aside0.mk (Kd.V_mono (Kd.V_below HV2.out hb) (ok' := fun k => ((¬ P k ∧ k ≠ g7 ∧ k < wo.heap.size) ∨ k < w.heap.size ∨ wo.heap.size ≤ k) ∧ k ≠ ga) (fun k h => ⟨(by rcases h.1 with (h1 | h1) | h1; exact .inl h1; exact .inr (.inl h1); exact .inr (.inr h1)), fun h2 => by have h3_ := h.2; omega⟩)); clear hbox hb hr_) | ((with_reducible refine gate_store (t := 52) (p := 19) (v := .tmp 113) rfl ?_); refine store52_ev rfl rfl 256 (.slice B1 Lr.length d1) (p := .tmp 19) (q := .tmp 113) rfl (g := ga) rfl rfl rfl HXa.out rfl ?_; intro ws hb_ hg_; have HBs := Aside0.mk (HBa.out.grown hg_ HBa.out.size (fun k hk => by injection hk with hk; rw [← hk]; exact HNa.out)); have HVs := Aside0.mk (Kd.V_grown HVa.out hg_ (fun k hk h2 => hk.2 (by injection h2))); have HO2 := Aside0.mk (HO.out.below HBs.out); clear hb_ hg_) | ((with_reducible refine gate_dst (N := 118) rfl ?_); refine load32_ev rfl (N := 118) rfl x (.slice A3 x.f2.length c3) (p := .tmp 3) rfl (ad := ⟨gb, 0, none⟩) rfl (blk_cells HO2.out.hb) ?_) | (go_at_call 13; refine (take13_calls HO2.out.bi.buf HO2.out.bi.good HO2.out.bi.len HO2.out.bi.rm none 0 [] (Kd.C_nil _ _) (Nat.le_refl _) x A3 c3 (Kd.F_below HXF.out HO2.out.bi.bel) HXP.out HL3.out HSZ.out).mono ?_; rw [HTF.out]; intro e w2 ht_; obtain ⟨P', O, v9, rfl, hbi, hs9, ho1, ho2, hp, hk⟩ := HO2.out.bi.of_take HTF.out ht_; obtain ⟨A9, c9, rfl⟩ := Kd.S_slice hs9; have HS9 := Aside0.mk (Kd.S_reads' hs9); have HVw := Aside0.mk (Kd.V_reads' (Kd.V_kept HVs.out hk (fun k h hp_ => by rcases h.1 with h1 | h1 | h1; exact h1.1 hp_; have h2_ := HO.out.bi.lo k hp_; omega; have h2_ := HO.out.bi.hi k hp_; omega))); have HB2 := Aside0.mk hbi.bel; clear hbi hs9 ho1 ho2 hp hk ht_) | (go_at_call 15; refine (sameAll_self A9 c9 B2 d2 out HS9.out.2.2 HS9.out.2.1 HVw.out.2.2 HVw.out.2.1 H64.out.1 H64.out.2).mono ?_; rintro e w3 ⟨rfl, hb3⟩; have HB3 := Aside0.mk (HB2.out.trans (hb3.mono HB2.out.size)); clear hb3) | (go_at_call 17; refine (awake_calls _).mono ?_; rintro e w4 ⟨rfl, hb4⟩; have HB4 := Aside0.mk (HB3.out.trans (hb4.mono HB3.out.size)); clear hb4))
   go_ret
   exact ⟨rfl, HB4.out⟩
  have HI' := Aside0.mk hi
  obtain ⟨ad, A4, c4, rfl, hcc, hl4, hC4⟩ := elemS HL.out hi
  have hmem : rd_T32 l (i : Int) ∈ l := List.mem_of_getElem? (rd32_at hi)
  have HSZ := Aside0.mk (HS.out _ hmem)
  generalize rd_T32 l (i : Int) = y at *
  have HCC := Aside0.mk hcc
  have HL4 := Aside0.mk hl4
  have HXF := Aside0.mk (Kd.C_F (Kd.heap_int .i64) hC4)
  have b1 : (0 ≤ (i : Int)) = True := eq_true (by omega)
  have b2 : ((i : Int) < (l.length : Int)) = True := eq_true (by omega)
  have b3 : (i < l.length) = True := eq_true hi
  have b4 : decide (i < l.length) = true := decide_eq_true hi
  have hiw : wrap64 ((i : Int) + 1) = ((i + 1 : Nat) : Int) := by have h1_ := HLN.out; exact w1s (by omega)
  have HIW := Aside0.mk hiw
  clear hcc hl4 hC4 hmem hi hiw
  obtain ⟨⟨Lr, out, er⟩, hr⟩ : ∃ r, takeF 256 L [] y = r := ⟨_, rfl⟩
  have HTF := Aside0.mk hr
  clear hr
  go_upto_region 8 with (fail)
  go_cut [9, 10, 11] (fun v9 v10 v11 wc => ∃ (g9 : Nat) (A1 : Option Addr) (c1 : Nat) (A2 : Option Addr) (c2 : Nat), v9 = .pointer (some ⟨g9, 0, none⟩) ∧ v10 = .slice A2 out.length c2 ∧ v11 = .int .i64 er ∧ Aside0 (wc.heap[g9]? = some (.cells (bA 256 (.slice A1 Lr.length c1)) 52 (0, 0))) ∧ Aside0 (Below wo.heap.size wo wc) ∧ Aside0 (Kd.V k32 32 wc w.heap.size (fun k => ((¬ P k ∧ k ≠ g7 ∧ k < wo.heap.size) ∨ k < w.heap.size) ∨ wo.heap.size ≤ k) (.slice A1 Lr.length c1) Lr))
  case first =>
   refine start_ (n := 14) (S := (fun w' => Below wo.heap.size wo w')) (ds := []) #[false, false, false, false, false, false, false, false, false, false, false, false, false, false] (by kernel_rfl) rfl rfl (below_drew (Below.refl _ _)) (fun hHeld => ?_)
   refine with_tabW own.tab8 own.bits8 (fun HT_ HW_ => ?_)
   refine pureS (i := 1) (N := (some 43)) #[false, true, false, false, false, false, false, false, false, false, false, false, false, false] HT_ ?_
   refine pureS (i := 2) (N := (some 44)) #[false, true, true, false, false, false, false, false, false, false, false, false, false, false] HT_ ?_
   refine pureS (i := 3) (N := (some 45)) #[false, true, true, true, false, false, false, false, false, false, false, false, false, false] HT_ ?_
   refine take_ (i := 0) (N := (some 42)) (v := ?_) (a' := ?_) #[true, true, true, true, false, false, false, false, false, false, false, false, false, false] rfl rfl (take_ofW HT_.out HW_.out (by kernel_rfl)) (fun _ _ _ h => h) (Or.inl ⟨by rfl, ?_⟩) hHeld ?_ ?_
   rotate_left
   ·intro w' s0
    refine Eq.trans (load52_run (room := 256) (v := .slice Ay L.length cy) _ (p := .tmp 7) ?ho_ ?hp_ (blk52 (HO.out.below s0).h7)) ?hr_
    case ho_ => rfl
    case hp_ => rfl
    case hr_ => rfl
   rotate_left
   ·simp only [Act.put, List.setIfInBounds_toArray, List.set_cons_zero, List.set_cons_succ, i64_w, i32_w]
    rfl
   refine take_ (i := 4) (N := (some 46)) (v := ?_) (a' := ?_) #[true, true, true, true, true, false, false, false, false, false, false, false, false, false] rfl rfl (take_ofW HT_.out HW_.out (by kernel_rfl)) (fun _ _ _ h => h) (Or.inl ⟨by rfl, ?_⟩) hHeld ?_ ?_
   rotate_left
   ·intro w' s0
    refine Eq.trans (load32_run (x := y) (v := (.slice A4 y.f2.length c4)) _ (p := .tmp 45) ?ho_ ?hp_ (fun j u hj => HCC.out w' (HO.out.below s0).bi.bel j u hj)) ?hr_
    case ho_ => rfl
    case hp_ => rfl
    case hr_ => rfl
   rotate_left
   ·simp only [Act.put, List.setIfInBounds_toArray, List.set_cons_zero, List.set_cons_succ, i64_w, i32_w]
    rfl
   refine two_ (i := 5) (j := 10) (Ni := (some 47)) (Nj := (some 9)) #[true, true, true, true, true, true, false, false, false, false, false, false, false, false] #[true, true, true, true, true, false, false, false, false, false, true, false, false, false] rfl rfl rfl rfl (two_of HT_.out (by kernel_rfl)) (by decide) (by decide) (fun K hK => ?_) (fun K hK => ?_)
   ·refine goes_ Try.func23 (by kernel_rfl) rfl #[.agg #[.int .i64 256, .slice Ay L.length cy], .slice none 0 0, (.agg #[.int .i64 y.f0.f0, .int .i64 y.f0.f1, .int .i64 y.f1, (.slice A4 y.f2.length c4), .int .i64 y.f3, .int .i64 y.f4.f0, .int .i64 y.f4.f1, .int .i64 y.f5.f0, .int .i64 y.f5.f1, .int .i64 y.f6.f0, .int .i64 y.f6.f1, .string y.f7, .string y.f8])] (by rfl) rfl rfl (by (try simp only [List.map_toArray, List.map_cons, List.map_nil]); first | done | rfl) ?_
    have hH := hHeld
    refine (rtake_calls 256 Ay cy L (Kd.V_below HO.out.hv hH) HO.out.bi.good (by have h1_ := HO.out.bi.len; omega) none 0 [] (Kd.C_nil _ _) (Nat.le_refl _) y A4 c4 (P1 := fun k => k < w.heap.size) (Kd.V_mk (base := 0) (e := 3) HL4.out (Kd.F_below HXF.out (HO.out.below hH).bi.bel)) HSZ.out).mono ?_
    rw [HTF.out]
    intro e w1 ht_
    obtain ⟨B1, d1, B2, d2, rfl, hv1, _, hb1⟩ := ht_
    refine ⟨_, rfl, ?_⟩
    have hS : Below wo.heap.size wo w1 := hH.trans (hb1.mono hH.size)
    have HVY := Aside0.mk (own_va (b' := w.heap.size) hv1 hH.size)
    clear hb1 hv1 hH hHeld
    refine hK.out _ _ (hS) (fun hHeld => ?_)
    clear hK K
    refine norm_ (a' := ?_) ?_ ?_
    rotate_left
    ·show Act.put _ (some 47) _ = _
     simp only [Act.put, List.setIfInBounds_toArray, List.set_cons_zero, List.set_cons_succ, i64_w, i32_w]
     rfl
    refine pureS (i := 6) (N := (some 41)) #[true, true, true, true, true, true, true, false, false, false, false, false, false, false] HT_ ?_
    refine pureS (i := 7) (N := (some 48)) #[true, true, true, true, true, true, true, true, false, false, false, false, false, false] HT_ ?_
    refine pureS (i := 8) (N := (some 49)) #[true, true, true, true, true, true, true, true, true, false, false, false, false, false] HT_ ?_
    refine pureS (i := 9) (N := (some 50)) #[true, true, true, true, true, true, true, true, true, true, false, false, false, false] HT_ ?_
    refine one_ (i := 10) (N := (some 9)) #[true, true, true, true, true, true, true, true, true, true, true, false, false, false] rfl rfl (one_of HT_.out (by kernel_rfl)) (by decide) (fun K hK => ?_)
    obtain ⟨g9, hgg⟩ : ∃ g9, w1.heap.size = g9 := ⟨_, rfl⟩
    refine value_ (w1 := (w1.alloc (.cells #[.int .i64 0, .slice none 0 0] 52 (0, 0)))) (v := .pointer (some ⟨g9, 0, none⟩)) (by rfl) rfl ?_ ?_
    ·rw [← hgg]; go_simp
    have hH := hHeld
    have hS : Below wo.heap.size wo (w1.alloc (.cells #[.int .i64 0, .slice none 0 0] 52 (0, 0))) := below_alloc hH _
    have HX9 : Aside0 ((w1.alloc (.cells #[.int .i64 0, .slice none 0 0] 52 (0, 0))).heap[g9]? = some (.cells #[.int .i64 0, .slice none 0 0] 52 (0, 0))) := ⟨by rw [← hgg]; exact blk_new w1 (.cells #[.int .i64 0, .slice none 0 0] 52 (0, 0))⟩
    have H9 : Aside0 (wo.heap.size ≤ g9 ∧ g9 < (w1.alloc (.cells #[.int .i64 0, .slice none 0 0] 52 (0, 0))).heap.size) := ⟨by rw [← hgg]; exact hH.size, by rw [Mem.alloc_size, ← hgg]; exact Nat.lt_succ_self _⟩
    have HVZ := Aside0.mk (own_vc HVY.out (.cells #[.int .i64 0, .slice none 0 0] 52 (0, 0)))
    rw [hgg] at HVZ
    clear HVY
    clear hHeld
    generalize hww : (w1.alloc (.cells #[.int .i64 0, .slice none 0 0] 52 (0, 0))) = w2 at *
    clear hH hww hgg
    refine hK.out _ _ (hS) (fun hHeld => ?_)
    clear hK K
    refine norm_ (a' := ?_) ?_ ?_
    rotate_left
    ·show Act.put _ (some 9) _ = _
     simp only [Act.put, List.setIfInBounds_toArray, List.set_cons_zero, List.set_cons_succ, i64_w, i32_w]
     rfl
    refine one_ (i := 11) (N := none) #[true, true, true, true, true, true, true, true, true, true, true, true, false, false] rfl rfl (one_of HT_.out (by kernel_rfl)) (by decide) (fun K hK => ?_)
    have h6_ := hHeld
    refine skip_ (w1 := _) (by rfl) rfl (store52_run (room := 256) (v := .slice B1 Lr.length d1) _ rfl rfl rfl rfl HX9.out rfl) ?_
    have hS : Below wo.heap.size wo (World.setRow _ g9 (bA 256 (.slice B1 Lr.length d1))) := row_below h6_ H9.out.1 HX9.out _
    have HXZ := Aside0.mk (setRow_heap _ g9 _ (bA 256 (.slice B1 Lr.length d1)) 52 (0, 0) HX9.out)
    have HV9 := Aside0.mk (own_vd HVZ.out (bA 256 (.slice B1 Lr.length d1)))
    clear HVZ HX9 hHeld
    refine hK.out _ _ (hS) (fun hHeld => ?_)
    clear hK K
    refine pureS (i := 12) (N := (some 10)) #[true, true, true, true, true, true, true, true, true, true, true, true, true, false] HT_ ?_
    refine pureS (i := 13) (N := (some 11)) #[true, true, true, true, true, true, true, true, true, true, true, true, true, true] HT_ ?_
    refine done_ (done_of HT_.out (by kernel_rfl)) ?_
    go_wp2_with (fail)
    go_meet
    case rel => exact ⟨g9, B1, d1, B2, d2, rfl, rfl, rfl, HXZ, ⟨hHeld⟩, HV9⟩
   ·obtain ⟨g9, hgg⟩ : ∃ g9, wo.heap.size = g9 := ⟨_, rfl⟩
    refine value_ (w1 := (wo.drew.alloc (.cells #[.int .i64 0, .slice none 0 0] 52 (0, 0)))) (v := .pointer (some ⟨g9, 0, none⟩)) (by rfl) rfl ?_ ?_
    ·rw [← hgg]; go_simp
    have hH := hHeld
    have hS : Below wo.heap.size wo (wo.drew.alloc (.cells #[.int .i64 0, .slice none 0 0] 52 (0, 0))) := below_alloc hH _
    have HX9 : Aside0 ((wo.drew.alloc (.cells #[.int .i64 0, .slice none 0 0] 52 (0, 0))).heap[g9]? = some (.cells #[.int .i64 0, .slice none 0 0] 52 (0, 0))) := ⟨by rw [← hgg]; exact blk_new wo.drew (.cells #[.int .i64 0, .slice none 0 0] 52 (0, 0))⟩
    have H9 : Aside0 (wo.heap.size ≤ g9 ∧ g9 < (wo.drew.alloc (.cells #[.int .i64 0, .slice none 0 0] 52 (0, 0))).heap.size) := ⟨by rw [← hgg]; exact hH.size, by rw [Mem.alloc_size, ← hgg]; exact Nat.lt_succ_self _⟩
    clear hHeld
    generalize hww : (wo.drew.alloc (.cells #[.int .i64 0, .slice none 0 0] 52 (0, 0))) = w2 at *
    clear hH hww hgg
    refine hK.out _ _ (hS) (fun hHeld => ?_)
    clear hK K
    refine norm_ (a' := ?_) ?_ ?_
    rotate_left
    ·show Act.put _ (some 9) _ = _
     simp only [Act.put, List.setIfInBounds_toArray, List.set_cons_zero, List.set_cons_succ, i64_w, i32_w]
     rfl
    refine one_ (i := 5) (N := (some 47)) #[true, true, true, true, true, true, false, false, false, false, true, false, false, false] rfl rfl (one_of HT_.out (by kernel_rfl)) (by decide) (fun K hK => ?_)
    refine goes_ Try.func23 (by kernel_rfl) rfl #[.agg #[.int .i64 256, .slice Ay L.length cy], .slice none 0 0, (.agg #[.int .i64 y.f0.f0, .int .i64 y.f0.f1, .int .i64 y.f1, (.slice A4 y.f2.length c4), .int .i64 y.f3, .int .i64 y.f4.f0, .int .i64 y.f4.f1, .int .i64 y.f5.f0, .int .i64 y.f5.f1, .int .i64 y.f6.f0, .int .i64 y.f6.f1, .string y.f7, .string y.f8])] (by rfl) rfl rfl (by (try simp only [List.map_toArray, List.map_cons, List.map_nil]); first | done | rfl) ?_
    have hH := hHeld
    refine (rtake_calls 256 Ay cy L (Kd.V_below HO.out.hv hH) HO.out.bi.good (by have h1_ := HO.out.bi.len; omega) none 0 [] (Kd.C_nil _ _) (Nat.le_refl _) y A4 c4 (P1 := fun k => k < w.heap.size) (Kd.V_mk (base := 0) (e := 3) HL4.out (Kd.F_below HXF.out (HO.out.below hH).bi.bel)) HSZ.out).mono ?_
    rw [HTF.out]
    intro e w1 ht_
    obtain ⟨B1, d1, B2, d2, rfl, hv1, _, hb1⟩ := ht_
    refine ⟨_, rfl, ?_⟩
    have hS : Below wo.heap.size wo w1 := hH.trans (hb1.mono hH.size)
    have HXa := Aside0.mk (blk_below HX9.out hb1)
    clear HX9
    have HX9 := HXa
    clear HXa
    have HVZ := Aside0.mk (own_vb (b' := w.heap.size) hv1 (fun k h => h.2.2) HO.out.bi.bel.size H9.out.1 H9.out.2 hH.size)
    clear hb1 hv1 hH hHeld
    refine hK.out _ _ (hS) (fun hHeld => ?_)
    clear hK K
    refine norm_ (a' := ?_) ?_ ?_
    rotate_left
    ·show Act.put _ (some 47) _ = _
     simp only [Act.put, List.setIfInBounds_toArray, List.set_cons_zero, List.set_cons_succ, i64_w, i32_w]
     rfl
    refine pureS (i := 6) (N := (some 41)) #[true, true, true, true, true, true, true, false, false, false, true, false, false, false] HT_ ?_
    refine pureS (i := 7) (N := (some 48)) #[true, true, true, true, true, true, true, true, false, false, true, false, false, false] HT_ ?_
    refine pureS (i := 8) (N := (some 49)) #[true, true, true, true, true, true, true, true, true, false, true, false, false, false] HT_ ?_
    refine pureS (i := 9) (N := (some 50)) #[true, true, true, true, true, true, true, true, true, true, true, false, false, false] HT_ ?_
    refine one_ (i := 11) (N := none) #[true, true, true, true, true, true, true, true, true, true, true, true, false, false] rfl rfl (one_of HT_.out (by kernel_rfl)) (by decide) (fun K hK => ?_)
    have h6_ := hHeld
    refine skip_ (w1 := _) (by rfl) rfl (store52_run (room := 256) (v := .slice B1 Lr.length d1) _ rfl rfl rfl rfl HX9.out rfl) ?_
    have hS : Below wo.heap.size wo (World.setRow _ g9 (bA 256 (.slice B1 Lr.length d1))) := row_below h6_ H9.out.1 HX9.out _
    have HXZ := Aside0.mk (setRow_heap _ g9 _ (bA 256 (.slice B1 Lr.length d1)) 52 (0, 0) HX9.out)
    have HV9 := Aside0.mk (own_vd HVZ.out (bA 256 (.slice B1 Lr.length d1)))
    clear HVZ HX9 hHeld
    refine hK.out _ _ (hS) (fun hHeld => ?_)
    clear hK K
    refine pureS (i := 12) (N := (some 10)) #[true, true, true, true, true, true, true, true, true, true, true, true, true, false] HT_ ?_
    refine pureS (i := 13) (N := (some 11)) #[true, true, true, true, true, true, true, true, true, true, true, true, true, true] HT_ ?_
    refine done_ (done_of HT_.out (by kernel_rfl)) ?_
    go_wp2_with (fail)
    go_meet
    case rel => exact ⟨g9, B1, d1, B2, d2, rfl, rfl, rfl, HXZ, ⟨hHeld⟩, HV9⟩
  case rest =>
   obtain ⟨g9, B1, d1, B2, d2, rfl, rfl, rfl, HX9, HB9, HV9⟩ := hcut
   go_wp2_with (first | ((with_reducible refine gate_dst (N := 51) rfl ?_); refine load52_ev rfl (N := 51) rfl 256 (.slice B1 Lr.length d1) (p := .tmp 9) rfl (ad := ⟨g9, 0, none⟩) rfl (blk52 HX9.out) ?_) | ((with_reducible refine gate_store (t := 52) (p := 7) (v := .tmp 51) rfl ?_); refine store52_ev rfl rfl 256 (.slice B1 Lr.length d1) (p := .tmp 7) (q := .tmp 51) rfl (g := g7) rfl rfl rfl (blk_below HO.out.h7 HB9.out) rfl ?_; intro ws hb_ hg_; have HO2 := Aside0.mk (HO.out.set HB9.out HV9.out hg_ hb_); clear hb_ hg_) | ((with_reducible refine gate_dst (N := 57) rfl ?_); refine load32_ev rfl (N := 57) rfl y (.slice A4 y.f2.length c4) (p := .tmp 56) rfl rfl (fun j u hj => HCC.out _ HO2.out.bi.bel j u hj) ?_) | (go_at_call 13; refine (take13_calls HO2.out.bi.buf HO2.out.bi.good HO2.out.bi.len HO2.out.bi.rm none 0 [] (Kd.C_nil _ _) (Nat.le_refl _) y A4 c4 (Kd.F_below HXF.out HO2.out.bi.bel) HXP.out HL4.out HSZ.out).mono ?_; rw [HTF.out]; intro e w2 ht_; obtain ⟨P', O, v9, rfl, hbi, hs9, ho1, ho2, hp, hk⟩ := HO2.out.bi.of_take HTF.out ht_; obtain ⟨A9, c9, rfl⟩ := Kd.S_slice hs9; have HS9 := Aside0.mk (Kd.S_R hs9); have HSP := Aside0.mk (fun wz (hz : Kept w2 wz O) => HO2.out.spoilt hbi hk hp ho1 ho2 hz); clear hbi hs9 ho1 ho2 hp hk ht_ HO2))
   go_loopw [14, 15] (fun v1 v2 wq => ∃ i : Nat, v1 = .int .i64 (i : Int) ∧ Aside0 (i ≤ out.length) ∧ Aside0 (Sp w2 wq O)) (fun v1 _ _ => out.length - (intOf v1).toNat)
   case atStart => exact ⟨0, rfl, ⟨Nat.zero_le _⟩, ⟨Sp.refl _ _⟩⟩
   case round =>
    obtain ⟨k, rfl, HIk, HYk⟩ := hrel
    obtain ⟨wyk, rfl⟩ : ∃ wy, wy = wr := ⟨wr, rfl⟩
    by_cases hi : k < out.length
    case neg =>
     have e1 : decide (k < out.length) = false := decide_eq_false hi
     clear hi
     have HO3 := Aside0.mk (HSP.out _ HYk.out.kept)
     clear HSP HS9
     go_wp2_with (first | (go_at_call 22; refine (held_calls HO3.out.bi.buf (by have h1_ := HO3.out.bi.len; omega) HO3.out.bi.good.len).mono ?_; rintro e w5 ⟨v10, rfl, hs10, hb10⟩; obtain ⟨A10, c10, rfl⟩ := Kd.S_slice hs10; have HS10 := Aside0.mk (Kd.S_R hs10); have HB5 := Aside0.mk hb10; clear hs10 hb10))
     go_loopw [17, 18] (fun v1 v2 wq => ∃ i : Nat, v1 = .int .i64 (i : Int) ∧ Aside0 (i ≤ Lr.length) ∧ Aside0 (Sp w5 wq (fun k => wyk.heap.size ≤ k))) (fun v1 _ _ => Lr.length - (intOf v1).toNat)
     case atStart => exact ⟨0, rfl, ⟨Nat.zero_le _⟩, ⟨Sp.refl _ _⟩⟩
     case round =>
      obtain ⟨m, rfl, HIm, HYm⟩ := hrel
      obtain ⟨wym, rfl⟩ : ∃ wy, wy = wr := ⟨wr, rfl⟩
      by_cases hi : m < Lr.length
      case neg =>
       have e1 : decide (m < Lr.length) = false := decide_eq_false hi
       clear hi
       go_wp2_with (fail)
       rw [HIW.out]
       have hbz : Below wyk.heap.size wyk wym := ((Kept.of_below HB5.out _).then_ HYm.out.kept (fun k h => .inl h)).to_below (fun k h => h)
       exact ⟨⟨i + 1, Lr, P', _, _, rfl, ⟨HI'.out⟩, ⟨HO3.out.below hbz⟩⟩, dec_lt HI'.out⟩
      have HJm := Aside0.mk hi
      have b11 : (0 ≤ (m : Int)) = True := eq_true (by omega)
      have b12 : ((m : Int) < (Lr.length : Int)) = True := eq_true (by omega)
      have b13 : (m < Lr.length) = True := eq_true hi
      have b14 : decide (m < Lr.length) = true := decide_eq_true hi
      have HWm := Aside0.mk (w1t (Nat.le_trans hi (Kd.C_max (Kd.R_reads' HS10.out).2.2)))
      obtain ⟨gr, A5, c5, rfl, hcell, hmx, hdep⟩ := own_elem HS10.out hi
      generalize (rd_T32 Lr (m : Int)).f2.length = n at *
      have HCE := Aside0.mk hcell
      have HDE := Aside0.mk hdep
      have HMX := Aside0.mk hmx
      clear hcell hdep hmx hi
      go_wp2_with (fail)
      go_loopw [18] (fun v1 wq => ∃ d : Nat, v1 = .int .i64 (d : Int) ∧ Aside0 (d ≤ n) ∧ Aside0 (Sp w5 wq (fun k => wyk.heap.size ≤ k))) (fun v1 _ => n - (intOf v1).toNat)
      case atStart => exact ⟨0, rfl, ⟨Nat.zero_le _⟩, HYm⟩
      case round =>
       obtain ⟨dd, rfl, HIdd, HZ⟩ := hrel
       obtain ⟨wz, rfl⟩ : ∃ wz, wz = wr := ⟨wr, rfl⟩
       have q1 : wz.cell? ⟨gr, m * 13 + 3, none⟩ = some (.slice A5 n c5) := HCE.out wz HZ.out
       by_cases hd : dd < n
       case neg =>
        have e1 : decide (dd < n) = false := decide_eq_false hd
        clear hd
        go_wp2_with (fail)
        rw [HWm.out]
        exact ⟨⟨m + 1, rfl, ⟨HJm.out⟩, HZ⟩, dec_lt HJm.out⟩
       have HJdd := Aside0.mk hd
       have d1 : (0 ≤ (dd : Int)) = True := eq_true (by omega)
       have d2 : ((dd : Int) < (n : Int)) = True := eq_true (by omega)
       have d3 : (dd < n) = True := eq_true hd
       have d4 : decide (dd < n) = true := decide_eq_true hd
       have HWdd := Aside0.mk (w1t (Nat.le_trans hd HMX.out))
       obtain ⟨g3, rfl, hO3, hrow⟩ := HDE.out dd hd
       obtain ⟨cs, v, hrw, q2, q3⟩ := hrow wz HZ.out
       have HZ2 := Aside0.mk (HZ.out.set hO3 hrw dd (.int .i64 (-7)))
       clear hd hO3 hrow hrw
       go_wp2_with (fail)
       rw [HWdd.out]
       exact ⟨⟨dd + 1, rfl, ⟨HJdd.out⟩, HZ2⟩, dec_lt HJdd.out⟩
    have HJk := Aside0.mk hi
    have b11 : (0 ≤ (k : Int)) = True := eq_true (by omega)
    have b12 : ((k : Int) < (out.length : Int)) = True := eq_true (by omega)
    have b13 : (k < out.length) = True := eq_true hi
    have b14 : decide (k < out.length) = true := decide_eq_true hi
    have HWk := Aside0.mk (w1t (Nat.le_trans hi (Kd.C_max (Kd.R_reads' HS9.out).2.2)))
    obtain ⟨gr, A5, c5, rfl, hcell, hmx, hdep⟩ := own_elem HS9.out hi
    generalize (rd_T32 out (k : Int)).f2.length = n at *
    have HCE := Aside0.mk hcell
    have HDE := Aside0.mk hdep
    have HMX := Aside0.mk hmx
    clear hcell hdep hmx hi
    go_wp2_with (fail)
    go_loopw [15] (fun v1 wq => ∃ d : Nat, v1 = .int .i64 (d : Int) ∧ Aside0 (d ≤ n) ∧ Aside0 (Sp w2 wq O)) (fun v1 _ => n - (intOf v1).toNat)
    case atStart => exact ⟨0, rfl, ⟨Nat.zero_le _⟩, HYk⟩
    case round =>
     obtain ⟨d, rfl, HId, HZ⟩ := hrel
     obtain ⟨wz, rfl⟩ : ∃ wz, wz = wr := ⟨wr, rfl⟩
     have q1 : wz.cell? ⟨gr, k * 13 + 3, none⟩ = some (.slice A5 n c5) := HCE.out wz HZ.out
     by_cases hd : d < n
     case neg =>
      have e1 : decide (d < n) = false := decide_eq_false hd
      clear hd
      go_wp2_with (fail)
      rw [HWk.out]
      exact ⟨⟨k + 1, rfl, ⟨HJk.out⟩, HZ⟩, dec_lt HJk.out⟩
     have HJd := Aside0.mk hd
     have d1 : (0 ≤ (d : Int)) = True := eq_true (by omega)
     have d2 : ((d : Int) < (n : Int)) = True := eq_true (by omega)
     have d3 : (d < n) = True := eq_true hd
     have d4 : decide (d < n) = true := decide_eq_true hd
     have HWd := Aside0.mk (w1t (Nat.le_trans hd HMX.out))
     obtain ⟨g3, rfl, hO3, hrow⟩ := HDE.out d hd
     obtain ⟨cs, v, hrw, q2, q3⟩ := hrow wz HZ.out
     have HZ2 := Aside0.mk (HZ.out.set hO3 hrw d (.int .i64 (-7)))
     clear hd hO3 hrow hrw
     go_wp2_with (fail)
     rw [HWd.out]
     exact ⟨⟨d + 1, rfl, ⟨HJd.out⟩, HZ2⟩, dec_lt HJd.out⟩
end Go.Proofs.Ytnopjjilpgekfaa.PCa
