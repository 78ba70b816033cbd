/- What the statement's row needs of this session's texts, joined by program: part 6. -/
import Derived.Test.YtnopjjilpgekfaaQW4
namespace Go.Proofs.Ytnopjjilpgekfaa.PCa
open Go.RowKit Go.Proofs.YtnopjjilpgekfaaW.PrintWords Go.Proofs.YtnopjjilpgekfaaW.PrintLast Go.Proofs.YtnopjjilpgekfaaW.PrintMore
attribute [local go_sem] max2_int min2_int max_two min_two max_three min_three max_four min_four
set_option linter.unusedVariables false
set_option linter.unusedSimpArgs false
theorem put_ne {w : World} {base : Nat} {P : Nat → Prop} {g : Nat} {room : Int} {l : List S32} {mb : Nat} {es : List ((Nat × KeyP) × Int)} {c : Nat} {A : Option Addr} {ch : Nat} (h : BufO w base P g room l mb es c A ch) : some g ≠ (Value.slice A l.length ch).ownBlock := fun e => ((Kd.S_R h.row).1 g e.symm).2.1 rfl
theorem put_ne2 {w : World} {base : Nat} {P : Nat → Prop} {g : Nat} {room : Int} {l : List S32} {mb : Nat} {es : List ((Nat × KeyP) × Int)} {c : Nat} {A : Option Addr} {ch gb : Nat} (h : BufO w base P g room l mb es c A ch) (hgb : w.heap.size ≤ gb) : some gb ≠ (Value.slice A l.length ch).ownBlock := fun e => by
 have := ((Kd.S_R h.row).1 gb e.symm).1.2
 omega
theorem put_blk {w w7 : World} {base : Nat} {P : Nat → Prop} {g : Nat} {room : Int} {l : List S32} {mb : Nat} {es : List ((Nat × KeyP) × Int)} {c : Nat} {A : Option Addr} {ch : Nat} (h : BufO w base P g room l mb es c A ch) (hb : Below w.heap.size w w7) {o : Obj} : (w7.alloc o).heap[g]? = some (.cells #[.int .i64 room, .slice A l.length ch, .map (some mb)] 71 (0, 0)) := Mem.alloc_old (blk_below h.blk hb) o
theorem findP_new {es : List ((Nat × KeyP) × Int)} {k : KeyP} {c : Nat} {v : Int} : ∀ {i : Nat}, findP es k i = none → findP (es ++ [((c, k), v)]) k i = some (i + es.length, .int .i64 v) := by
 induction es with
 | nil =>
  intro i _
  have hs : sameK k k = true := sameK_iff.2 rfl
  simp [findP, hs]
 | cons e t ih =>
  intro i h
  unfold findP at h
  rw [List.cons_append]
  unfold findP
  by_cases hs : sameK k e.1.2 = true
  ·rw [if_pos hs] at h; cases h
  ·rw [if_neg hs] at h ⊢
   rw [ih h, List.length_cons, show i + 1 + t.length = i + (t.length + 1) from by omega]
theorem valP_new {es : List ((Nat × KeyP) × Int)} {k : KeyP} {c : Nat} {v : Int} (h : findP es k 0 = none) : valP (es ++ [((c, k), v)]) k = .int .i64 v := by
 unfold valP
 rw [findP_new h]
/-- The buffer in the midst of put: the change is in the row, the map knows nothing of it. -/
structure PutM (w : World) (base : Nat) (P : Nat → Prop) (g : Nat) (room : Int) (l' : List S32) (mb : Nat) (es : List ((Nat × KeyP) × Int)) (c : Nat) (A9 : Option Addr) (c9 : Nat) (w10 : World) : Prop where
 blk : w10.heap[g]? = some (.cells #[.int .i64 room, .slice A9 l'.length c9, .map (some mb)] 71 (0, 0))
 map : MapE w10 mb es c
 row : Kd.S k32 32 w10 base (fun k => ((P k ∧ k < w.heap.size) ∧ k ≠ g ∧ k ≠ mb) ∨ w.heap.size ≤ k) (.slice A9 l'.length c9) l'
 kept : Kept w w10 P
theorem put_mid {w w7 w9 : World} {base : Nat} {P : Nat → Prop} {g : Nat} {room : Int} {l l' : List S32} {mb : Nat} {es : List ((Nat × KeyP) × Int)} {c : Nat} {A A9 : Option Addr} {ch c9 : Nat} {o : Obj} (h : BufO w base P g room l mb es c A ch) (hb7 : Below w.heap.size w w7)
  (hs : Kd.S k32 32 w9 base (fun k => ((P k ∧ k < w.heap.size) ∧ k ≠ g ∧ k ≠ mb) ∨ w.heap.size ≤ k) (.slice A9 l'.length c9) l') (hg : (w7.alloc o).grownBy w9 (Value.slice A l.length ch).ownBlock) :
  PutM w base P g room l' mb es c A9 c9 (w9.setCell ⟨g, 1, none⟩ (.slice A9 l'.length c9)) := by
 have hgw := blk_lt h.blk
 have hmw := blk_lt h.map
 have hmo : some mb ≠ (Value.slice A l.length ch).ownBlock := fun e => ((Kd.S_R h.row).1 mb e.symm).2.2 rfl
 refine ⟨blk_put (blk_grown (put_blk h hb7) hg (put_ne h)) 1 _ rfl, ?_, ?_, ?_⟩
 ·unfold MapE
  rw [Below.heap_setCell w9 ⟨g, 1, none⟩ _ mb (Ne.symm h.ne), hg.block mb (by rw [Mem.alloc_size]; have := hb7.size; omega) hmo]
  exact Mem.alloc_old (blk_below h.map hb7) o
 ·refine Kd.S_far hs (fun k hk => ?_) _
  rcases hk with hk | hk
  ·exact hk.2.1
  ·intro e
   have e' : k = g := e
   omega
 ·refine Kept.setCell (Kept.of_grown hg ((Kept.of_below hb7 P).alloc o) (fun k hk => .inl ((Kd.S_R h.row).1 k hk).1.1)) (.inl h.Pg) _
theorem put_fin {w w10 w11 : World} {base : Nat} {P : Nat → Prop} {g : Nat} {room : Int} {l : List S32} {i : Nat} {x : S32} {mb : Nat} {es : List ((Nat × KeyP) × Int)} {c : Nat} {A A9 : Option Addr} {ch c9 : Nat} {o : Obj} (h : BufO w base P g room l mb es c A ch) (hm : PutM w base P g room (l.take i ++ x :: l.drop i) mb es c A9 c9 w10) (hb : Below w10.heap.size w10 w11) (hno : keyOf x ∉ l.map keyOf) :
  TakeB w base P g room (l.take i ++ x :: l.drop i, [], 0) (.returned (.tuple #[.slice none 0 0, .int .i64 0])) ((w11.putObj mb o).putObj mb (.map ((es ++ [((c, keyOf x), 1)]).map entE).toArray (c + 1))) := by
 have hk : Kept w ((w11.putObj mb o).putObj mb (.map ((es ++ [((c, keyOf x), 1)]).map entE).toArray (c + 1))) P := ((hm.kept.below hb).putObj mb _ (.inl h.Pm)).putObj mb _ (.inl h.Pm)
 have hfar : ∀ k, k ≠ mb → k < w10.heap.size → ((w11.putObj mb o).putObj mb (.map ((es ++ [((c, keyOf x), 1)]).map entE).toArray (c + 1))).heap[k]? = w10.heap[k]? := fun k hk hlt => by
  rw [putObj_other _ _ _ _ hk, putObj_other _ _ _ _ hk, hb.block k hlt]
 have hmw := blk_lt h.map
 have hgw := blk_lt h.blk
 refine ⟨fun k => P k ∨ w.heap.size ≤ k, fun _ => False, .slice none 0 0, rfl, ?_, Kd.S_nil _ _ _ _ _, fun _ hk => hk, fun _ hk => hk.elim, fun _ hk => hk.elim, hk⟩
 refine ⟨mb, es ++ [((c, keyOf x), 1)], c + 1, A9, c9, (hfar g h.ne (blk_lt hm.blk)).trans hm.blk, h.bg, .inl h.Pg, h.bm, .inl h.Pm, ?_, h.ok.more hno (List.perm_middle.trans (by rw [List.take_append_drop])), ?_⟩
 ·refine putObj_at _ _ _ ?_
  have : (w11.putObj mb o).heap.size = w11.heap.size := by simp [World.putObj]
  rw [this]
  exact Nat.lt_of_lt_of_le (blk_lt hm.map) hb.size
 ·refine Kd.S_mono (Kd.S_step hm.row (fun k hk hlt => hfar k ?_ hlt)) (fun k hk => ?_)
  ·rcases hk with hk | hk
   ·exact hk.2.2
   ·omega
  ·rcases hk with hk | hk
   ·exact ⟨.inl hk.1.1, hk.2.1⟩
   ·exact ⟨.inr hk, by omega⟩
theorem put_insert {w w6 w7 : World} {base : Nat} {P : Nat → Prop} {g : Nat} {room : Int} {l : List S32} {mb : Nat} {es : List ((Nat × KeyP) × Int)} {c : Nat} {A : Option Addr} {ch : Nat} (h : BufO w base P g room l mb es c A ch) (hb6 : Below w.heap.size w w6) (hb7 : Below w.heap.size w w7) {x : S32} {A7 : Option Addr} {c7 : Nat}
  (hv : (Kd.int .i64).R 3 w7 w6.drew.heap.size (fun k => w6.drew.heap.size ≤ k ∧ k < w7.heap.size) (.slice A7 x.f2.length c7) x.f2) {i : Nat} (hi : i ≤ l.length) (hn : l.length < 1000) :
  Calls Try.prog 43 #[.slice A l.length ch, .int .i64 (i : Int), .slice (some ⟨w7.heap.size, 0, none⟩) 1 1] (w7.alloc (.cells (chA x (.slice A7 x.f2.length c7)) 32)) fun e w' => ∃ v', e = .returned v' ∧ Kd.S k32 32 w' base (fun k => ((P k ∧ k < w.heap.size) ∧ k ≠ g ∧ k ≠ mb) ∨ w.heap.size ≤ k) v' (l.take i ++ x :: l.drop i) ∧ (w7.alloc (.cells (chA x (.slice A7 x.f2.length c7)) 32)).grownBy w' (Value.slice A l.length ch).ownBlock := by
 have h6 : w.heap.size ≤ w6.drew.heap.size := hb6.size
 have h7 := hb7.size
 have hbs := h.shut.base_le
 have hrow := Kd.S_alloc (Kd.S_below (Kd.S_mono h.row (ok' := fun k => (((P k ∧ k < w.heap.size) ∧ k ≠ g ∧ k ≠ mb) ∨ w.heap.size ≤ k) ∧ ¬ (w6.drew.heap.size ≤ k ∧ k < w7.heap.size)) (fun k hk => ⟨.inl hk, fun h2 => by have := hk.1.2; omega⟩)) hb7) (.cells (chA x (.slice A7 x.f2.length c7)) 32)
 have hM := chMk (x := x) (Kd.R_lower (Kd.R_below hv (below_alloc (Below.refl _ _) (.cells (chA x (.slice A7 x.f2.length c7)) 32))) (Nat.le_trans hbs h6))
 refine (insert_S hrow hi (by omega) hM (fun k hk => .inr (by omega)) (fun k hk => .inr (by rw [Mem.alloc_size] at hk; omega)) w7.heap.size (put_ne2 h h7) (Mem.alloc_new _ _) (by rw [Mem.alloc_size]; omega)).mono ?_
 rintro e w' ⟨v', he, hs, hg, _⟩
 exact ⟨v', he, hs, hg⟩
set_option maxHeartbeats 8000000 in
set_option maxRecDepth 100000 in
theorem take_put {w : World} {base : Nat} {P : Nat → Prop} {g : Nat} {room : Int} {l : List S32} (hB : BufI w base P g room l) (A0 : Option Addr) (c0 : Nat) (known : List Int) (hk : Kd.C (Kd.int .i64) w A0 known.length known) (hkc : known.length ≤ c0)
  (x : S32) (A3 : Option Addr) (c3 : Nat) (hx : Kd.C (Kd.int .i64) w A3 x.f2.length x.f2) (hx3 : x.f2.length ≤ c3) (hs : x.f7.size < 4611686018427387904) (hc : chkC known = 0) (hc2 : checkX x = 0) (hw : withinX known x = false) (ho : ownX l x = false) (hr : ripeC known x = false) (hf : ¬ room ≤ l.length) (hn : l.length < 1000)
  (hbn : ∀ y ∈ l, 0 ≤ y.f1 ∧ y.f1 ≤ 1099511627776) (hmono : ∀ a b, a ≤ b → b < l.length → cmpX (rd_T32 l (b : Nat)) x < 0 → cmpX (rd_T32 l (a : Nat)) x < 0) {X : Nat → Prop} (hxF : Kd.F (Kd.int .i64) w X A3 x.f2.length x.f2) (hXP : ∀ k, X k → ¬ P k) :
  Calls Try.prog 13 #[.pointer (some ⟨g, 0, none⟩), .slice A0 known.length c0, (.agg #[.int .i64 x.f0.f0, .int .i64 x.f0.f1, .int .i64 x.f1, (.slice A3 x.f2.length c3), .int .i64 x.f3, .int .i64 x.f4.f0, .int .i64 x.f4.f1, .int .i64 x.f5.f0, .int .i64 x.f5.f1, .int .i64 x.f6.f0, .int .i64 x.f6.f1, .string x.f7, .string x.f8])] w (TakeB w base P g room (l.take (cntX x l) ++ x :: l.drop (cntX x l), [], 0)) := by
 have HBUF := Aside0.mk hB
 have HK := Aside0.mk hk
 have HKC := Aside0.mk hkc
 have HC3 := Aside0.mk hx
 have HL3 := Aside0.mk hx3
 have HCK := Aside0.mk (clock_Check_is known 66 (by decide))
 rw [hc] at HCK
 have HCE := Aside0.mk (change_Check_is (x.f7.size + 200) x.f0.f0 x.f0.f1 x.f1 x.f2 x.f3 x.f4.f0 x.f4.f1 x.f5.f0 x.f5.f1 x.f6.f0 x.f6.f1 x.f7 x.f8 hs (by omega) (by omega))
 rw [show checkC x.f0.f0 x.f0.f1 x.f1 x.f2 x.f3 x.f4.f0 x.f4.f1 x.f5.f0 x.f5.f1 x.f6.f0 x.f6.f1 x.f7 x.f8 = checkX x from rfl, hc2] at HCE
 have HX64 := Aside0.mk (check_ok hc2)
 have HCH := Aside0.mk hc
 obtain ⟨at_, hat_⟩ : ∃ a, atC known x.f0.f1 = a := ⟨_, rfl⟩
 have HAT := Aside0.mk (clock_At_is known x.f0.f1)
 rw [hat_] at HAT
 have hwx : withinX known x = decide (x.f1 ≤ at_) := by unfold withinX; rw [hat_]
 clear hat_

 rw [hw] at hwx
 have d1 : decide (x.f1 ≤ at_) = false := hwx.symm
 obtain ⟨mb, es, cc, A, ch, hO⟩ := HBUF.out.opened
 have HO := Aside0.mk hO
 clear hO

 have hown : valP es (keyOf x) = .int .i64 0 := by
  rw [HO.out.ok.val, if_neg (of_decide_eq_false ho)]
 have HOWN := Aside0.mk hown
 have HRD := Aside0.mk (ready_is (known := known) (x := x) hc (check_ok hc2).2.2.2.2.2 71 (by decide))

 rw [hr] at HRD
 have d3 : decide (room ≤ (l.length : Int)) = false := decide_eq_false hf
 have d4 : decide ((l.length : Int) ≥ room) = false := decide_eq_false hf
 have HXF := Aside0.mk hxF
 have HXP := Aside0.mk hXP
 have HN := Aside0.mk hn
 have HBN := Aside0.mk hbn
 have HMON := Aside0.mk hmono
 have HBX : Aside0 (0 ≤ x.f1 ∧ x.f1 ≤ 1099511627776) := ⟨by have h_ := check_ok hc2; omega⟩
 have HCP := Aside0.mk (copy_is x (check_ok hc2).2.2.2.2.2)
 have HIX : Aside0 (cntX x l ≤ l.length) := ⟨List.countP_le_length⟩
 have HNO : Aside0 (keyOf x ∉ l.map keyOf) := ⟨of_decide_eq_false ho⟩
 clear hB hk hkc hx hx3 hs hc hc2 hw hwx ho hown hr hf hn hbn hmono hxF hXP
 go_enter Try.func13, Try.ntmps13
 go_wp2_with (first | ((with_reducible refine gate_dst (N := 5) rfl ?_); refine box_event ?hg (N := 5) ?hd (cs := #[.int .i64 x.f0.f0, .int .i64 x.f0.f1, .int .i64 x.f1, (.slice A3 x.f2.length c3), .int .i64 x.f3, .int .i64 x.f4.f0, .int .i64 x.f4.f1, .int .i64 x.f5.f0, .int .i64 x.f5.f1, .int .i64 x.f6.f0, .int .i64 x.f6.f1, .string x.f7, .string x.f8]) (t := 32) ?hr ?_; (case hd => rfl); (case hg => rfl); (case hr => first | (go_simp; done) | (go_simp; rfl)); intro gb hr_ w0 hbox hb; have HXgb := Aside0.mk hbox; have HBgb := Aside0.mk hb; have HNgb := Aside0.mk (Nat.le_of_eq hr_.symm); clear hbox hb hr_) | (go_at_call 33; (with_reducible refine (clock_Check.calls 66 A0 c0 known _ _ (Kd.C_below HK.out HBgb.out) HKC.out HCK.out).mono ?_); rintro e w1 ⟨rfl, ⟨nd, hnd⟩⟩; have HB1 := Aside0.mk (show Below w.heap.size w w1 by rw [hnd]; exact pw_below_drewN HBgb.out nd); have HX1 := Aside0.mk (show w1.heap[gb]? = some (.cells (chA x (.slice A3 x.f2.length c3)) 32 (0, 0)) by rw [hnd]; exact HXgb.out); clear hnd nd) | ((with_reducible refine gate_dst (N := 17) rfl ?_); refine load32_ev rfl (N := 17) rfl x (.slice A3 x.f2.length c3) (p := .tmp 5) rfl (ad := ⟨gb, 0, none⟩) rfl (blk_cells HX1.out) ?_) | (go_at_call 34; (with_reducible refine (change_Check.calls (x.f7.size + 200) x.f0.f0 x.f0.f1 x.f1 A3 c3 x.f2 x.f3 x.f4.f0 x.f4.f1 x.f5.f0 x.f5.f1 x.f6.f0 x.f6.f1 x.f7 x.f8 _ _ (Kd.C_below HC3.out HB1.out) HL3.out HCE.out).mono ?_); rintro e w2 ⟨rfl, hb2⟩; have HB2 := Aside0.mk (HB1.out.trans (hb2.mono HB1.out.size)); have HX2 := Aside0.mk (blk_below HX1.out hb2); clear hb2))

 refine start_ (n := 22) (S := (fun w' => w'.heap[gb]? = some (.cells (chA x (.slice A3 x.f2.length c3)) 32 (0, 0)) ∧ w'.cell? ⟨g, 2, none⟩ = some (.map (some mb)) ∧ w'.heap[mb]? = some (.map (es.map entE).toArray cc))) (ds := []) #[false, false, false, false, false, false, false, false, false, false, false, false, false, false, false, false, false, false, false, false, false, false] (by kernel_rfl) rfl rfl (⟨HX2.out, (blk_cell (blk_below HO.out.blk HB2.out) 2).trans rfl, blk_below HO.out.map (below_drew HB2.out)⟩) (fun hHeld => ?_)
 refine with_tabW tka.tab7 tka.bits7 (fun HT_ HW_ => ?_)
 refine pureS (i := 0) (N := (some 22)) #[true, false, false, false, false, false, false, false, false, false, false, false, false, false, false, false, false, false, false, false, false, false] HT_ ?_
 refine pureS (i := 2) (N := (some 24)) #[true, false, true, false, false, false, false, false, false, false, false, false, false, false, false, false, false, false, false, false, false, false] HT_ ?_
 refine pureS (i := 3) (N := (some 25)) #[true, false, true, true, false, false, false, false, false, false, false, false, false, false, false, false, false, false, false, false, false, false] HT_ ?_
 refine pureS (i := 4) (N := (some 26)) #[true, false, true, true, true, false, false, false, false, false, false, false, false, false, false, false, false, false, false, false, false, false] HT_ ?_
 refine take_ (i := 1) (N := (some 23)) (v := ?_) (a' := ?_) #[true, true, true, true, true, false, false, false, false, false, false, false, false, false, false, false, false, false, false, false, false, false] rfl rfl (take_ofW HT_.out HW_.out (by kernel_rfl)) (fun _ _ _ h => h) (Or.inl ⟨by rfl, ?_⟩) hHeld ?_ ?_
 rotate_left
 ·rintro w' ⟨s0, s1, s2⟩; have f1 : w'.cell? ⟨gb, 2, none⟩ = some (.int .i64 x.f1) := (blk_cell s0 2).trans rfl; have f2 : w'.cell? ⟨gb, 1, none⟩ = some (.int .i64 x.f0.f1) := (blk_cell s0 1).trans rfl
  go_simp
  with_reducible rfl
 rotate_left
 ·simp only [Act.put, List.setIfInBounds_toArray, List.set_cons_zero, List.set_cons_succ, i64_w, i32_w]
  rfl
 refine take_ (i := 5) (N := (some 27)) (v := ?_) (a' := ?_) #[true, true, true, true, true, true, false, false, false, false, false, false, false, false, false, false, false, false, false, false, false, false] rfl rfl (take_ofW HT_.out HW_.out (by kernel_rfl)) (fun _ _ _ h => h) (Or.inl ⟨by rfl, ?_⟩) hHeld ?_ ?_
 rotate_left
 ·rintro w' ⟨s0, s1, s2⟩; have f1 : w'.cell? ⟨gb, 2, none⟩ = some (.int .i64 x.f1) := (blk_cell s0 2).trans rfl; have f2 : w'.cell? ⟨gb, 1, none⟩ = some (.int .i64 x.f0.f1) := (blk_cell s0 1).trans rfl
  go_simp
  with_reducible rfl
 rotate_left
 ·simp only [Act.put, List.setIfInBounds_toArray, List.set_cons_zero, List.set_cons_succ, i64_w, i32_w]
  rfl
 refine one_ (i := 6) (N := (some 28)) #[true, true, true, true, true, true, true, false, false, false, false, false, false, false, false, false, false, false, false, false, false, false] rfl rfl (one_of HT_.out (by kernel_rfl)) (by decide) (fun K hK => ?_)
 refine goes_ Try.func35 (by kernel_rfl) rfl #[.slice A0 known.length c0, .int .i64 x.f0.f1] (by rfl) rfl rfl (by (try simp only [List.map_toArray, List.map_cons, List.map_nil]); first | done | rfl) ?_
 refine (clock_At.calls A0 c0 known x.f0.f1 _ _ (Kd.C_drew (Kd.C_below HK.out HB2.out)) HKC.out HAT.out).mono ?_
 rintro e w3 ⟨rfl, ⟨nd2, hnd2⟩⟩
 refine ⟨_, rfl, ?_⟩
 have HB3 := Aside0.mk (show Below w.heap.size w w3 by rw [hnd2]; exact pw_below_drewN (below_drew HB2.out) nd2)
 have hS3 : (fun w' => w'.heap[gb]? = some (.cells (chA x (.slice A3 x.f2.length c3)) 32 (0, 0)) ∧ w'.cell? ⟨g, 2, none⟩ = some (.map (some mb)) ∧ w'.heap[mb]? = some (.map (es.map entE).toArray cc)) w3 := by rw [hnd2]; exact ⟨hHeld.1, hHeld.2.1, hHeld.2.2⟩
 clear hnd2
 refine hK.out _ _ (hS3) (fun hHeld => ?_)
 clear hK K
 refine norm_ (a' := ?_) ?_ ?_
 rotate_left
 ·show Act.put _ (some 28) _ = _
  simp only [Act.put, List.setIfInBounds_toArray, List.set_cons_zero, List.set_cons_succ, i64_w, i32_w]
  rfl
 refine pureS (i := 7) (N := (some 29)) #[true, true, true, true, true, true, true, true, false, false, false, false, false, false, false, false, false, false, false, false, false, false] HT_ ?_
 refine pureS (i := 8) (N := (some 30)) #[true, true, true, true, true, true, true, true, true, false, false, false, false, false, false, false, false, false, false, false, false, false] HT_ ?_
 refine pureS (i := 9) (N := (some 31)) #[true, true, true, true, true, true, true, true, true, true, false, false, false, false, false, false, false, false, false, false, false, false] HT_ ?_
 refine pureS (i := 10) (N := (some 32)) #[true, true, true, true, true, true, true, true, true, true, true, false, false, false, false, false, false, false, false, false, false, false] HT_ ?_
 refine pureS (i := 11) (N := (some 33)) #[true, true, true, true, true, true, true, true, true, true, true, true, false, false, false, false, false, false, false, false, false, false] HT_ ?_
 refine pureS (i := 12) (N := (some 34)) #[true, true, true, true, true, true, true, true, true, true, true, true, true, false, false, false, false, false, false, false, false, false] HT_ ?_
 refine pureS (i := 13) (N := (some 35)) #[true, true, true, true, true, true, true, true, true, true, true, true, true, true, false, false, false, false, false, false, false, false] HT_ ?_
 refine pureS (i := 14) (N := (some 36)) #[true, true, true, true, true, true, true, true, true, true, true, true, true, true, true, false, false, false, false, false, false, false] HT_ ?_
 refine take_ (i := 15) (N := (some 37)) (v := ?_) (a' := ?_) #[true, true, true, true, true, true, true, true, true, true, true, true, true, true, true, true, false, false, false, false, false, false] rfl rfl (take_ofW HT_.out HW_.out (by kernel_rfl)) (fun _ _ _ h => h) (Or.inl ⟨by rfl, ?_⟩) hHeld ?_ ?_
 rotate_left
 ·rintro w' ⟨s0, s1, s2⟩; have f1 : w'.cell? ⟨gb, 2, none⟩ = some (.int .i64 x.f1) := (blk_cell s0 2).trans rfl; have f2 : w'.cell? ⟨gb, 1, none⟩ = some (.int .i64 x.f0.f1) := (blk_cell s0 1).trans rfl
  go_simp
  with_reducible rfl
 rotate_left
 ·simp only [Act.put, List.setIfInBounds_toArray, List.set_cons_zero, List.set_cons_succ, i64_w, i32_w]
  rfl
 refine take_ (i := 16) (N := (some 38)) (v := ?_) (a' := ?_) #[true, true, true, true, true, true, true, true, true, true, true, true, true, true, true, true, true, false, false, false, false, false] rfl rfl (take_ofW HT_.out HW_.out (by kernel_rfl)) (fun _ _ _ h => h) (Or.inl ⟨by rfl, ?_⟩) hHeld ?_ ?_
 rotate_left
 ·rintro w' ⟨s0, s1, s2⟩
  refine Eq.trans (load32_run (x := x) (v := (.slice A3 x.f2.length c3)) _ (p := .tmp 5) ?ho_ ?hp_ (blk_cells s0)) ?hr_
  case ho_ => rfl
  case hp_ => rfl
  case hr_ => rfl
 rotate_left
 ·simp only [Act.put, List.setIfInBounds_toArray, List.set_cons_zero, List.set_cons_succ, i64_w, i32_w]
  rfl
 refine one_ (i := 17) (N := (some 39)) #[true, true, true, true, true, true, true, true, true, true, true, true, true, true, true, true, true, true, false, false, false, false] rfl rfl (one_of HT_.out (by kernel_rfl)) (by decide) (fun K hK => ?_)
 refine goes_ Try.func36 (by kernel_rfl) rfl #[(.agg #[.int .i64 x.f0.f0, .int .i64 x.f0.f1, .int .i64 x.f1, (.slice A3 x.f2.length c3), .int .i64 x.f3, .int .i64 x.f4.f0, .int .i64 x.f4.f1, .int .i64 x.f5.f0, .int .i64 x.f5.f1, .int .i64 x.f6.f0, .int .i64 x.f6.f1, .string x.f7, .string x.f8])] (by rfl) rfl rfl (by (try simp only [List.map_toArray, List.map_cons, List.map_nil]); first | done | rfl) ?_
 refine (causal_of.calls x.f0.f0 x.f0.f1 x.f1 A3 c3 x.f2 x.f3 x.f4.f0 x.f4.f1 x.f5.f0 x.f5.f1 x.f6.f0 x.f6.f1 x.f7 x.f8 x.f0.f1 x.f1 _ (Kd.C_below HC3.out HB3.out) HL3.out rfl).mono ?_
 rintro e w4 ⟨rfl, hb4⟩
 refine ⟨_, rfl, ?_⟩
 have hS4 : (fun w' => w'.heap[gb]? = some (.cells (chA x (.slice A3 x.f2.length c3)) 32 (0, 0)) ∧ w'.cell? ⟨g, 2, none⟩ = some (.map (some mb)) ∧ w'.heap[mb]? = some (.map (es.map entE).toArray cc)) w4 := ⟨blk_below hHeld.1 hb4, (hb4.cell (World.block_lt_of_cell? _ _ hHeld.2.1)).trans hHeld.2.1, blk_below hHeld.2.2 hb4⟩
 have HB4 := Aside0.mk (HB3.out.trans (hb4.mono HB3.out.size))
 clear hb4
 refine hK.out _ _ (hS4) (fun hHeld => ?_)
 clear hK K
 refine norm_ (a' := ?_) ?_ ?_
 rotate_left
 ·show Act.put _ (some 39) _ = _
  simp only [Act.put, List.setIfInBounds_toArray, List.set_cons_zero, List.set_cons_succ, i64_w, i32_w]
  rfl
 refine take_ (i := 18) (N := (some 40)) (v := ?_) (a' := ?_) #[true, true, true, true, true, true, true, true, true, true, true, true, true, true, true, true, true, true, true, false, false, false] rfl rfl (take_ofW HT_.out HW_.out (by kernel_rfl)) (fun _ _ _ h => h) (Or.inl ⟨by rfl, ?_⟩) hHeld ?_ ?_
 rotate_left
 ·rintro w' ⟨s0, s1, s2⟩
  have hl_ : (Instr.lookup 69 (.map (some mb)) (.agg #[.int .i64 x.f0.f1, .int .i64 x.f1]) false).run Try.prog w' = .ok (.int .i64 0) w' := by
   have h_ := look_run (show MapE w' mb es cc from s2) (keyOf x)
   rw [HOWN.out] at h_
   exact h_
  go_simp
  rfl
 rotate_left
 ·simp only [Act.put, List.setIfInBounds_toArray, List.set_cons_zero, List.set_cons_succ, i64_w, i32_w]
  rfl
 refine pureS (i := 19) (N := (some 41)) #[true, true, true, true, true, true, true, true, true, true, true, true, true, true, true, true, true, true, true, true, false, false] HT_ ?_
 refine pureS (i := 20) (N := (some 42)) #[true, true, true, true, true, true, true, true, true, true, true, true, true, true, true, true, true, true, true, true, true, false] HT_ ?_
 refine pureS (i := 21) (N := (some 43)) #[true, true, true, true, true, true, true, true, true, true, true, true, true, true, true, true, true, true, true, true, true, true] HT_ ?_
 refine done_ (done_of HT_.out (by kernel_rfl)) ?_
 have HX4 := Aside0.mk hS4.1
 clear hS4 hS3 hHeld

 go_wp2_with (first | ((with_reducible refine gate_dst (N := 45) rfl ?_); refine load32_ev rfl (N := 45) rfl x (.slice A3 x.f2.length c3) (p := .tmp 5) rfl (ad := ⟨gb, 0, none⟩) rfl (blk_cells HX4.out) ?_) | (go_at_call 37; (with_reducible refine (causal_ready.calls 71 A0 c0 known x.f0.f0 x.f0.f1 x.f1 A3 c3 x.f2 x.f3 x.f4.f0 x.f4.f1 x.f5.f0 x.f5.f1 x.f6.f0 x.f6.f1 x.f7 x.f8 _ _ (Kd.C_below HK.out HB4.out) HKC.out (Kd.C_below HC3.out HB4.out) HL3.out HRD.out).mono ?_); rintro e w5 ⟨rfl, hb5⟩; have HB5 := Aside0.mk (HB4.out.trans (hb5.mono HB4.out.size)); have HX5 := Aside0.mk (blk_below HX4.out hb5); clear hb5) | (go_at_call 16; (with_reducible refine (len_calls (HBUF.out.below HB5.out)).mono ?_); rintro e w6 ⟨rfl, rfl⟩) | (go_at_call 40; (with_reducible refine (room_calls (HBUF.out.below HB5.out)).mono ?_); rintro e w7 ⟨rfl, rfl⟩))
 refine start_ (n := 11) (S := (fun w' => w'.cell? ⟨g, 1, none⟩ = some (.slice A l.length ch) ∧ w'.heap[gb]? = some (.cells (chA x (.slice A3 x.f2.length c3)) 32 (0, 0)))) (ds := []) #[false, false, false, false, false, false, false, false, false, false, false] (by kernel_rfl) rfl rfl (⟨(blk_cell (blk_below HO.out.blk HB5.out) 1).trans rfl, HX5.out⟩) (fun hHeld => ?_)
 refine with_tabW tkb.tab13 tkb.bits13 (fun HT_ HW_ => ?_)
 refine pureS (i := 0) (N := (some 58)) #[true, false, false, false, false, false, false, false, false, false, false] HT_ ?_
 refine pureS (i := 1) (N := (some 59)) #[true, true, false, false, false, false, false, false, false, false, false] HT_ ?_
 refine pureS (i := 2) (N := (some 60)) #[true, true, true, false, false, false, false, false, false, false, false] HT_ ?_
 refine take_ (i := 3) (N := (some 61)) (v := ?_) (a' := ?_) #[true, true, true, true, false, false, false, false, false, false, false] rfl rfl (take_ofW HT_.out HW_.out (by kernel_rfl)) (fun _ _ _ h => h) (Or.inl ⟨by rfl, ?_⟩) hHeld ?_ ?_
 rotate_left
 ·rintro w' ⟨s0, s1⟩
  go_simp
  with_reducible rfl
 rotate_left
 ·simp only [Act.put, List.setIfInBounds_toArray, List.set_cons_zero, List.set_cons_succ, i64_w, i32_w]
  rfl
 refine take_ (i := 4) (N := (some 62)) (v := ?_) (a' := ?_) #[true, true, true, true, true, false, false, false, false, false, false] rfl rfl (take_ofW HT_.out HW_.out (by kernel_rfl)) (fun _ _ _ h => h) (Or.inl ⟨by rfl, ?_⟩) hHeld ?_ ?_
 rotate_left
 ·rintro w' ⟨s0, s1⟩
  refine Eq.trans (load32_run (x := x) (v := (.slice A3 x.f2.length c3)) _ (p := .tmp 5) ?ho_ ?hp_ (blk_cells s1)) ?hr_
  case ho_ => rfl
  case hp_ => rfl
  case hr_ => rfl
 rotate_left
 ·simp only [Act.put, List.setIfInBounds_toArray, List.set_cons_zero, List.set_cons_succ, i64_w, i32_w]
  rfl
 refine one_ (i := 5) (N := (some 63)) #[true, true, true, true, true, true, false, false, false, false, false] rfl rfl (one_of HT_.out (by kernel_rfl)) (by decide) (fun K hK => ?_)
 refine goes_ Try.func41 (by kernel_rfl) rfl #[.slice A l.length ch, (.agg #[.int .i64 x.f0.f0, .int .i64 x.f0.f1, .int .i64 x.f1, (.slice A3 x.f2.length c3), .int .i64 x.f3, .int .i64 x.f4.f0, .int .i64 x.f4.f1, .int .i64 x.f5.f0, .int .i64 x.f5.f1, .int .i64 x.f6.f0, .int .i64 x.f6.f1, .string x.f7, .string x.f8]), .func (.func 42) #[] #[]] (by rfl) rfl rfl (by (try simp only [List.map_toArray, List.map_cons, List.map_nil]); first | done | rfl) ?_
 refine (search_calls (Kd.S_below HO.out.row (below_drew HB5.out)) HN.out x A3 c3 (Kd.C_below HC3.out (below_drew HB5.out)) HL3.out HBN.out HBX.out HMON.out).mono ?_
 rintro e w6 ⟨bf, rfl, hb6⟩
 refine ⟨_, rfl, ?_⟩
 have hS6 : (fun w' => w'.cell? ⟨g, 1, none⟩ = some (.slice A l.length ch) ∧ w'.heap[gb]? = some (.cells (chA x (.slice A3 x.f2.length c3)) 32 (0, 0))) w6 := ⟨(hb6.cell (World.block_lt_of_cell? _ _ hHeld.1)).trans hHeld.1, blk_below hHeld.2 hb6⟩
 have HB6 := Aside0.mk ((below_drew HB5.out).trans (hb6.mono (below_drew HB5.out).size))
 clear hb6
 refine hK.out _ _ (hS6) (fun hHeld => ?_)
 clear hK K
 refine norm_ (a' := ?_) ?_ ?_
 rotate_left
 ·show Act.put _ (some 63) _ = _
  simp only [Act.put, List.setIfInBounds_toArray, List.set_cons_zero, List.set_cons_succ, i64_w, i32_w]
  rfl
 refine pureS (i := 6) (N := (some 57)) #[true, true, true, true, true, true, true, false, false, false, false] HT_ ?_
 refine pureS (i := 7) (N := (some 64)) #[true, true, true, true, true, true, true, true, false, false, false] HT_ ?_
 refine pureS (i := 8) (N := (some 65)) #[true, true, true, true, true, true, true, true, true, false, false] HT_ ?_
 refine pureS (i := 9) (N := (some 10)) #[true, true, true, true, true, true, true, true, true, true, false] HT_ ?_
 refine pureS (i := 10) (N := (some 11)) #[true, true, true, true, true, true, true, true, true, true, true] HT_ ?_
 refine done_ (done_of HT_.out (by kernel_rfl)) ?_
 go_wp2_with (fail)
 refine start_ (n := 13) (S := (fun w' => w'.cell? ⟨g, 1, none⟩ = some (.slice A l.length ch) ∧ w'.heap[gb]? = some (.cells (chA x (.slice A3 x.f2.length c3)) 32 (0, 0)))) (ds := [12]) #[false, false, false, false, false, false, false, false, false, false, false, false, false] (by kernel_rfl) rfl rfl (⟨hS6.1, hS6.2⟩) (fun hHeld => ?_)
 refine with_tabW tkc.tab14 tkc.bits14 (fun HT_ HW_ => ?_)
 refine pureS (i := 0) (N := (some 66)) #[true, false, false, false, false, false, false, false, false, false, false, false, false] HT_ ?_
 refine pureS (i := 1) (N := (some 67)) #[true, true, false, false, false, false, false, false, false, false, false, false, false] HT_ ?_
 refine pureS (i := 2) (N := (some 68)) #[true, true, true, false, false, false, false, false, false, false, false, false, false] HT_ ?_
 refine pureS (i := 3) (N := (some 69)) #[true, true, true, true, false, false, false, false, false, false, false, false, false] HT_ ?_
 refine pureS (i := 5) (N := (some 71)) #[true, true, true, true, false, true, false, false, false, false, false, false, false] HT_ ?_
 refine take_ (i := 4) (N := (some 70)) (v := ?_) (a' := ?_) #[true, true, true, true, true, true, false, false, false, false, false, false, false] rfl rfl (take_ofW HT_.out HW_.out (by kernel_rfl)) (fun _ _ _ h => h) (Or.inl ⟨by rfl, ?_⟩) hHeld ?_ ?_
 rotate_left
 ·rintro w' ⟨s0, s1⟩
  go_simp
  with_reducible rfl
 rotate_left
 ·simp only [Act.put, List.setIfInBounds_toArray, List.set_cons_zero, List.set_cons_succ, i64_w, i32_w]
  rfl
 refine take_ (i := 6) (N := (some 72)) (v := ?_) (a' := ?_) #[true, true, true, true, true, true, true, false, false, false, false, false, false] rfl rfl (take_ofW HT_.out HW_.out (by kernel_rfl)) (fun _ _ _ h => h) (Or.inl ⟨by rfl, ?_⟩) hHeld ?_ ?_
 rotate_left
 ·rintro w' ⟨s0, s1⟩
  refine Eq.trans (load32_run (x := x) (v := (.slice A3 x.f2.length c3)) _ (p := .tmp 5) ?ho_ ?hp_ (blk_cells s1)) ?hr_
  case ho_ => rfl
  case hp_ => rfl
  case hr_ => rfl
 rotate_left
 ·simp only [Act.put, List.setIfInBounds_toArray, List.set_cons_zero, List.set_cons_succ, i64_w, i32_w]
  rfl
 refine one_ (i := 7) (N := (some 73)) #[true, true, true, true, true, true, true, true, false, false, false, false, false] rfl rfl (one_of HT_.out (by kernel_rfl)) (by decide) (fun K hK => ?_)
 refine goes_ Try.func39 (by kernel_rfl) rfl #[(.agg #[.int .i64 x.f0.f0, .int .i64 x.f0.f1, .int .i64 x.f1, (.slice A3 x.f2.length c3), .int .i64 x.f3, .int .i64 x.f4.f0, .int .i64 x.f4.f1, .int .i64 x.f5.f0, .int .i64 x.f5.f1, .int .i64 x.f6.f0, .int .i64 x.f6.f1, .string x.f7, .string x.f8])] (by rfl) rfl rfl (by (try simp only [List.map_toArray, List.map_cons, List.map_nil]); first | done | rfl) ?_
 refine (change_Copy.calls x.f0.f0 x.f0.f1 x.f1 A3 c3 x.f2 x.f3 x.f4.f0 x.f4.f1 x.f5.f0 x.f5.f1 x.f6.f0 x.f6.f1 x.f7 x.f8 x.f0.f0 x.f0.f1 x.f1 x.f2 x.f3 x.f4.f0 x.f4.f1 x.f5.f0 x.f5.f1 x.f6.f0 x.f6.f1 x.f7 x.f8 _ (Kd.C_below HC3.out (below_drew HB6.out)) HL3.out HCP.out).mono ?_
 rintro e w7 ⟨v7, rfl, hv7, hb7⟩
 obtain ⟨A7, c7, rfl⟩ := Kd.R_slice hv7
 refine ⟨_, rfl, ?_⟩
 have hS7 : (fun w' => w'.cell? ⟨g, 1, none⟩ = some (.slice A l.length ch) ∧ w'.heap[gb]? = some (.cells (chA x (.slice A3 x.f2.length c3)) 32 (0, 0))) w7 := ⟨(hb7.cell (World.block_lt_of_cell? _ _ hHeld.1)).trans hHeld.1, blk_below hHeld.2 hb7⟩
 have HV7 := Aside0.mk (Kd.R_mono (Kd.R_bound hv7) (ok' := fun k => w6.drew.heap.size ≤ k ∧ k < w7.heap.size) (fun k hk => ⟨hk.2.1, hk.2.2.1⟩))
 have HB7 := Aside0.mk ((below_drew HB6.out).trans (hb7.mono (below_drew HB6.out).size))
 clear hv7 hb7
 refine hK.out _ _ (hS7) (fun hHeld => ?_)
 clear hK K
 refine norm_ (a' := ?_) ?_ ?_
 rotate_left
 ·show Act.put _ (some 73) _ = _
  simp only [Act.put, List.setIfInBounds_toArray, List.set_cons_zero, List.set_cons_succ, i64_w, i32_w]
  rfl
 refine one_ (i := 8) (N := (some 74)) #[true, true, true, true, true, true, true, true, true, false, false, false, false] rfl rfl (one_of HT_.out (by kernel_rfl)) (by decide) (fun K hK => ?_)
 refine value_ (w1 := ?_) (v := ?_) (by rfl) rfl ?_ ?_
 rotate_left 2
 ·go_simp
  constructor
  ·rfl
  ·rfl
 refine hK.out _ _ (⟨Mem.cell_alloc hHeld.1 _, Mem.alloc_old hHeld.2 _⟩) (fun hHeld => ?_)
 clear hK K
 refine norm_ (a' := ?_) ?_ ?_
 rotate_left
 ·show Act.put _ (some 74) _ = _
  simp only [Act.put, List.setIfInBounds_toArray, List.set_cons_zero, List.set_cons_succ, i64_w, i32_w]
  rfl
 refine one_ (i := 9) (N := (some 75)) #[true, true, true, true, true, true, true, true, true, true, false, false, false] rfl rfl (one_of HT_.out (by kernel_rfl)) (by decide) (fun K hK => ?_)
 refine goes_ Try.func43 (by kernel_rfl) rfl #[.slice A l.length ch, .int .i64 ((cntX x l : Nat) : Int), .slice (some ⟨w7.heap.size, 0, none⟩) 1 1] (by rfl) rfl rfl (by (try simp only [List.map_toArray, List.map_cons, List.map_nil]); first | done | rfl) ?_
 refine (put_insert HO.out HB6.out HB7.out HV7.out HIX.out HN.out).mono ?_
 rintro e w9 ⟨v9, rfl, hs9, hg9⟩
 refine ⟨_, rfl, ?_⟩
 obtain ⟨A9, c9, rfl⟩ := Kd.S_slice hs9
 have hgo := put_ne HO.out
 have hgbn := put_ne2 HO.out HNgb.out
 have hS9 : (fun w' => w'.cell? ⟨g, 1, none⟩ = some (.slice A l.length ch) ∧ w'.heap[gb]? = some (.cells (chA x (.slice A3 x.f2.length c3)) 32 (0, 0))) w9 := ⟨hg9.cell hHeld.1 hgo, blk_grown hHeld.2 hg9 hgbn⟩
 have HS9 := Aside0.mk hs9
 have HG9 := Aside0.mk hg9
 have cz := hS9.1
 have fz := blk_frozen (blk_grown (put_blk HO.out HB7.out) hg9 hgo) 1
 clear hs9 hg9 hgo hgbn
 refine hK.out _ _ (hS9) (fun hHeld => ?_)
 clear hK K
 refine norm_ (a' := ?_) ?_ ?_
 rotate_left
 ·show Act.put _ (some 75) _ = _
  simp only [Act.put, List.setIfInBounds_toArray, List.set_cons_zero, List.set_cons_succ, i64_w, i32_w]
  rfl
 refine pureS (i := 10) (N := (some 76)) #[true, true, true, true, true, true, true, true, true, true, true, false, false] HT_ ?_
 refine pureS (i := 11) (N := (some 77)) #[true, true, true, true, true, true, true, true, true, true, true, true, false] HT_ ?_
 refine last_ (i := 12) (N := none) #[true, true, true, true, true, true, true, true, true, true, true, true, true] rfl rfl (one_of HT_.out (by kernel_rfl)) (by decide) (fun K hK => ?_)
 refine skip_ (w1 := w9.setCell ⟨g, 1, none⟩ (.slice A9 (l.take (cntX x l) ++ x :: l.drop (cntX x l)).length c9)) (by rfl) rfl ?_ ?_
 ·go_simp
 refine hK.out _ _ ?_
 clear hK K
 refine done_ (done_of HT_.out (by kernel_rfl)) ?_
 have hmid := put_mid (A9 := A9) (c9 := c9) HO.out HB7.out HS9.out HG9.out
 have hX10 := blk_far (p := ⟨g, 1, none⟩) hS9.2 (fun e => by have h1_ := blk_lt HO.out.blk; have h2_ := HNgb.out; have h3_ : gb = g := e; omega) (.slice A9 (l.take (cntX x l) ++ x :: l.drop (cntX x l)).length c9)
 clear hHeld hS9 hS7 hS6 cz fz HS9 HG9
 generalize w9.setCell ⟨g, 1, none⟩ (.slice A9 (l.take (cntX x l) ++ x :: l.drop (cntX x l)).length c9) = w10 at *
 have HMID := Aside0.mk hmid
 have HX10 := Aside0.mk hX10
 have HC10 := Aside0.mk (Kd.C_drew (Kd.F_now (Kd.F_kept HXF.out hmid.kept.old HXP.out)))
 have hfp : findP es (keyOf x) 0 = none := findP_none (fun hm => HNO.out ((HO.out.ok.mem _).1 hm))
 have HFP := Aside0.mk hfp
 clear hmid hX10 hfp
 go_wp2_with (fail)
 refine start_ (n := 11) (S := (fun w' => w'.heap[gb]? = some (.cells (chA x (.slice A3 x.f2.length c3)) 32 (0, 0)) ∧ w'.cell? ⟨g, 2, none⟩ = some (.map (some mb)))) (ds := []) #[false, false, false, false, false, false, false, false, false, false, false] (by kernel_rfl) rfl rfl (⟨HX10.out, (blk_cell HMID.out.blk 2).trans rfl⟩) (fun hHeld => ?_)
 refine with_tabW tkd.tab15 tkd.bits15 (fun HT_ HW_ => ?_)
 refine pureS (i := 0) (N := (some 78)) #[true, false, false, false, false, false, false, false, false, false, false] HT_ ?_
 refine pureS (i := 1) (N := (some 79)) #[true, true, false, false, false, false, false, false, false, false, false] HT_ ?_
 refine pureS (i := 2) (N := (some 80)) #[true, true, true, false, false, false, false, false, false, false, false] HT_ ?_
 refine take_ (i := 3) (N := (some 81)) (v := ?_) (a' := ?_) #[true, true, true, true, false, false, false, false, false, false, false] rfl rfl (take_ofW HT_.out HW_.out (by kernel_rfl)) (fun _ _ _ h => h) (Or.inl ⟨by rfl, ?_⟩) hHeld ?_ ?_
 rotate_left
 ·rintro w' ⟨s0, s1⟩
  go_simp
  with_reducible rfl
 rotate_left
 ·simp only [Act.put, List.setIfInBounds_toArray, List.set_cons_zero, List.set_cons_succ, i64_w, i32_w]
  rfl
 refine take_ (i := 4) (N := (some 82)) (v := ?_) (a' := ?_) #[true, true, true, true, true, false, false, false, false, false, false] rfl rfl (take_ofW HT_.out HW_.out (by kernel_rfl)) (fun _ _ _ h => h) (Or.inl ⟨by rfl, ?_⟩) hHeld ?_ ?_
 rotate_left
 ·rintro w' ⟨s0, s1⟩
  refine Eq.trans (load32_run (x := x) (v := (.slice A3 x.f2.length c3)) _ (p := .tmp 5) ?ho_ ?hp_ (blk_cells s0)) ?hr_
  case ho_ => rfl
  case hp_ => rfl
  case hr_ => rfl
 rotate_left
 ·simp only [Act.put, List.setIfInBounds_toArray, List.set_cons_zero, List.set_cons_succ, i64_w, i32_w]
  rfl
 refine one_ (i := 5) (N := (some 83)) #[true, true, true, true, true, true, false, false, false, false, false] rfl rfl (one_of HT_.out (by kernel_rfl)) (by decide) (fun K hK => ?_)
 refine goes_ Try.func36 (by kernel_rfl) rfl #[(.agg #[.int .i64 x.f0.f0, .int .i64 x.f0.f1, .int .i64 x.f1, (.slice A3 x.f2.length c3), .int .i64 x.f3, .int .i64 x.f4.f0, .int .i64 x.f4.f1, .int .i64 x.f5.f0, .int .i64 x.f5.f1, .int .i64 x.f6.f0, .int .i64 x.f6.f1, .string x.f7, .string x.f8])] (by rfl) rfl rfl (by (try simp only [List.map_toArray, List.map_cons, List.map_nil]); first | done | rfl) ?_
 refine (causal_of.calls x.f0.f0 x.f0.f1 x.f1 A3 c3 x.f2 x.f3 x.f4.f0 x.f4.f1 x.f5.f0 x.f5.f1 x.f6.f0 x.f6.f1 x.f7 x.f8 x.f0.f1 x.f1 _ HC10.out HL3.out rfl).mono ?_
 rintro e w11 ⟨rfl, hb11⟩
 refine ⟨_, rfl, ?_⟩
 have hS11 : (fun w' => w'.heap[gb]? = some (.cells (chA x (.slice A3 x.f2.length c3)) 32 (0, 0)) ∧ w'.cell? ⟨g, 2, none⟩ = some (.map (some mb))) w11 := ⟨blk_below hHeld.1 hb11, (hb11.cell (World.block_lt_of_cell? _ _ hHeld.2)).trans hHeld.2⟩
 have HB11 := Aside0.mk ((below_drew (Below.refl w10.heap.size w10)).trans (hb11.mono (Nat.le_refl _)))
 have hM11 : MapE w11 mb es cc := blk_below (w := w10) HMID.out.map HB11.out
 have hl_ : (Instr.lookup 69 (.map (some mb)) (.agg #[.int .i64 x.f0.f1, .int .i64 x.f1]) false).run Try.prog w11 = .ok (.int .i64 0) w11 := by
  have h_ := look_run hM11 (keyOf x)
  rw [HOWN.out] at h_
  exact h_
 have he_ : (Instr.mapEntry 69 (.map (some mb)) (.agg #[.int .i64 x.f0.f1, .int .i64 x.f1])).run Try.prog w11 = .ok (.tuple #[.int .i64 0, .int .i64 (cc : Int)]) (w11.putObj mb (.map ((es ++ [((cc, keyOf x), 0)]).map entE).toArray (cc + 1))) := entry_run hM11 (keyOf x) HFP.out
 have hs_ : (Instr.entryStore 69 (.map (some mb)) (.int .i64 (cc : Int)) (.int .i64 1)).run Try.prog (w11.putObj mb (.map ((es ++ [((cc, keyOf x), 0)]).map entE).toArray (cc + 1))) = .ok () ((w11.putObj mb (.map ((es ++ [((cc, keyOf x), 0)]).map entE).toArray (cc + 1))).putObj mb (.map ((es ++ [((cc, keyOf x), 1)]).map entE).toArray (cc + 1))) := store_run (keyOf x) 1 HO.out.ok.born (putObj_at _ _ _ (blk_lt hM11))
 have hl2_ : (Instr.lookup 69 (.map (some mb)) (.agg #[.int .i64 x.f0.f1, .int .i64 x.f1]) false).run Try.prog (w11.putObj mb (.map ((es ++ [((cc, keyOf x), 0)]).map entE).toArray (cc + 1))) = .ok (.int .i64 0) (w11.putObj mb (.map ((es ++ [((cc, keyOf x), 0)]).map entE).toArray (cc + 1))) := by
  have h_ := look_run (show MapE _ mb (es ++ [((cc, keyOf x), 0)]) (cc + 1) from putObj_at _ _ _ (blk_lt hM11)) (keyOf x)
  rw [valP_new HFP.out] at h_
  exact h_
 obtain ⟨o1, ho1⟩ : ∃ o1, Obj.map ((es ++ [((cc, keyOf x), (0 : Int))]).map entE).toArray (cc + 1) = o1 := ⟨_, rfl⟩
 obtain ⟨o2, ho2⟩ : ∃ o2, Obj.map ((es ++ [((cc, keyOf x), (1 : Int))]).map entE).toArray (cc + 1) = o2 := ⟨_, rfl⟩
 rw [ho1] at he_ hs_ hl2_
 rw [ho2] at hs_
 have HO2 := Aside0.mk ho2
 have HX11 := Aside0.mk hS11
 have HM11 := Aside0.mk hM11
 have hw11 : wrap64 (1 : Int) = 1 := by rw [← i64_w]; rfl
 clear hb11 hM11 ho1 ho2
 refine hK.out _ _ (hS11) (fun hHeld => ?_)
 clear hK K
 refine norm_ (a' := ?_) ?_ ?_
 rotate_left
 ·show Act.put _ (some 83) _ = _
  simp only [Act.put, List.setIfInBounds_toArray, List.set_cons_zero, List.set_cons_succ, i64_w, i32_w]
  rfl
 refine two_ (i := 6) (j := 8) (Ni := (some 84)) (Nj := (some 86)) #[true, true, true, true, true, true, true, false, false, false, false] #[true, true, true, true, true, true, false, false, true, false, false] rfl rfl rfl rfl (two_of HT_.out (by kernel_rfl)) (by decide) (by decide) (fun K hK => ?_) (fun K hK => ?_)
 ·refine value_ (w1 := ?_) (v := ?_) (by rfl) rfl ?_ ?_
  rotate_left 2
  ·go_simp
   constructor
   ·rfl
   ·rfl
  refine hK.out _ _ (hS11) (fun hHeld => ?_)
  clear hK K
  refine norm_ (a' := ?_) ?_ ?_
  rotate_left
  ·show Act.put _ (some 84) _ = _
   simp only [Act.put, List.setIfInBounds_toArray, List.set_cons_zero, List.set_cons_succ, i64_w, i32_w]
   rfl
  refine pureS (i := 7) (N := (some 85)) #[true, true, true, true, true, true, true, true, false, false, false] HT_ ?_
  refine one_ (i := 8) (N := (some 86)) #[true, true, true, true, true, true, true, true, true, false, false] rfl rfl (one_of HT_.out (by kernel_rfl)) (by decide) (fun K hK => ?_)
  refine value_ (w1 := ?_) (v := ?_) (by rfl) rfl ?_ ?_
  rotate_left 2
  ·go_simp
   constructor
   ·rfl
   ·rfl
  refine hK.out _ _ (⟨(putObj_other _ _ _ _ (fun e => by have h1_ := blk_lt HO.out.map; have h2_ := HNgb.out; omega)).trans HX11.out.1, (World.cell?_of_block (putObj_other _ _ _ _ HO.out.ne)).trans HX11.out.2⟩) (fun hHeld => ?_)
  clear hK K
  refine norm_ (a' := ?_) ?_ ?_
  rotate_left
  ·show Act.put _ (some 86) _ = _
   simp only [Act.put, List.setIfInBounds_toArray, List.set_cons_zero, List.set_cons_succ, i64_w, i32_w]
   rfl
  refine pureS (i := 9) (N := (some 87)) #[true, true, true, true, true, true, true, true, true, true, false] HT_ ?_
  refine one_ (i := 10) (N := none) #[true, true, true, true, true, true, true, true, true, true, true] rfl rfl (one_of HT_.out (by kernel_rfl)) (by decide) (fun K hK => ?_)
  refine skip_ (w1 := ?_) (by rfl) rfl ?_ ?_
  rotate_left
  ·go_simp
   rfl
  refine hK.out _ _ (⟨(putObj_other _ _ _ _ (fun e => by have h1_ := blk_lt HO.out.map; have h2_ := HNgb.out; omega)).trans ((putObj_other _ _ _ _ (fun e => by have h1_ := blk_lt HO.out.map; have h2_ := HNgb.out; omega)).trans HX11.out.1), (World.cell?_of_block (putObj_other _ _ _ _ HO.out.ne)).trans ((World.cell?_of_block (putObj_other _ _ _ _ HO.out.ne)).trans HX11.out.2)⟩) (fun hHeld => ?_)
  clear hK K
  refine done_ (done_of HT_.out (by kernel_rfl)) ?_
  go_wp2_with (fail)
  go_ret2
  rw [← HO2.out]
  exact put_fin HO.out HMID.out HB11.out HNO.out
 ·refine value_ (w1 := ?_) (v := ?_) (by rfl) rfl ?_ ?_
  rotate_left 2
  ·go_simp
   constructor
   ·rfl
   ·rfl
  refine hK.out _ _ (⟨(putObj_other _ _ _ _ (fun e => by have h1_ := blk_lt HO.out.map; have h2_ := HNgb.out; omega)).trans HX11.out.1, (World.cell?_of_block (putObj_other _ _ _ _ HO.out.ne)).trans HX11.out.2⟩) (fun hHeld => ?_)
  clear hK K
  refine norm_ (a' := ?_) ?_ ?_
  rotate_left
  ·show Act.put _ (some 86) _ = _
   simp only [Act.put, List.setIfInBounds_toArray, List.set_cons_zero, List.set_cons_succ, i64_w, i32_w]
   rfl
  refine pureS (i := 9) (N := (some 87)) #[true, true, true, true, true, true, false, false, true, true, false] HT_ ?_
  refine one_ (i := 6) (N := (some 84)) #[true, true, true, true, true, true, true, false, true, true, false] rfl rfl (one_of HT_.out (by kernel_rfl)) (by decide) (fun K hK => ?_)
  refine value_ (w1 := ?_) (v := ?_) (by rfl) rfl ?_ ?_
  rotate_left 2
  ·go_simp
   constructor
   ·rfl
   ·rfl
  refine hK.out _ _ (⟨(putObj_other _ _ _ _ (fun e => by have h1_ := blk_lt HO.out.map; have h2_ := HNgb.out; omega)).trans HX11.out.1, (World.cell?_of_block (putObj_other _ _ _ _ HO.out.ne)).trans HX11.out.2⟩) (fun hHeld => ?_)
  clear hK K
  refine norm_ (a' := ?_) ?_ ?_
  rotate_left
  ·show Act.put _ (some 84) _ = _
   simp only [Act.put, List.setIfInBounds_toArray, List.set_cons_zero, List.set_cons_succ, i64_w, i32_w]
   rfl
  refine pureS (i := 7) (N := (some 85)) #[true, true, true, true, true, true, true, true, true, true, false] HT_ ?_
  refine one_ (i := 10) (N := none) #[true, true, true, true, true, true, true, true, true, true, true] rfl rfl (one_of HT_.out (by kernel_rfl)) (by decide) (fun K hK => ?_)
  refine skip_ (w1 := ?_) (by rfl) rfl ?_ ?_
  rotate_left
  ·go_simp
   rfl
  refine hK.out _ _ (⟨(putObj_other _ _ _ _ (fun e => by have h1_ := blk_lt HO.out.map; have h2_ := HNgb.out; omega)).trans ((putObj_other _ _ _ _ (fun e => by have h1_ := blk_lt HO.out.map; have h2_ := HNgb.out; omega)).trans HX11.out.1), (World.cell?_of_block (putObj_other _ _ _ _ HO.out.ne)).trans ((World.cell?_of_block (putObj_other _ _ _ _ HO.out.ne)).trans HX11.out.2)⟩) (fun hHeld => ?_)
  clear hK K
  refine done_ (done_of HT_.out (by kernel_rfl)) ?_
  go_wp2_with (fail)
  go_ret2
  rw [← HO2.out]
  exact put_fin HO.out HMID.out HB11.out HNO.out
def topiaryref05_Copy.f (a0_0 : Int) (a0_1 : Int) (a0_2 : Int) (l0_3 : List Int) (a0_4 : Int) (a0_5 : Int) (a0_6 : Int) (a0_7 : Int) (a0_8 : Int) (a0_9 : Int) (a0_10 : Int) (a0_11 : ByteArray) (a0_12 : ByteArray) : Option (Int × Int × Int × List Int × Int × Int × Int × Int × Int × Int × Int × ByteArray × ByteArray) := (some (([] : List Int) : List Int)).bind fun y236 => (if y236.length + l0_3.length < 17592186044416 then (some (a0_0, a0_1, a0_2, (y236 ++ l0_3), a0_4, a0_5, a0_6, a0_7, a0_8, a0_9, a0_10, a0_11, a0_12)) else (none))
set_option maxHeartbeats 8000000 in
set_option maxRecDepth 100000 in
theorem topiaryref05_Copy.calls (a0_0 : Int) (a0_1 : Int) (a0_2 : Int) (A0_3 : Option Addr) (c0_3 : Nat) (l0_3 : List Int) (a0_4 : Int) (a0_5 : Int) (a0_6 : Int) (a0_7 : Int) (a0_8 : Int) (a0_9 : Int) (a0_10 : Int) (a0_11 : ByteArray) (a0_12 : ByteArray) (r1 : Int) (r2 : Int) (r3 : Int) (r4 : List Int) (r5 : Int) (r6 : Int) (r7 : Int) (r8 : Int) (r9 : Int) (r10 : Int) (r11 : Int) (r12 : ByteArray) (r13 : ByteArray) (w : World) (hr0_3 : Kd.C (Kd.int .i64) w A0_3 l0_3.length l0_3) (hc0_3 : l0_3.length ≤ c0_3) (h : topiaryref05_Copy.f a0_0 a0_1 a0_2 l0_3 a0_4 a0_5 a0_6 a0_7 a0_8 a0_9 a0_10 a0_11 a0_12 = some (r1, r2, r3, r4, r5, r6, r7, r8, r9, r10, r11, r12, r13)) :
  Calls Try.prog 19 #[.agg #[.int .i64 a0_0, .int .i64 a0_1, .int .i64 a0_2, .slice A0_3 l0_3.length c0_3, .int .i64 a0_4, .int .i64 a0_5, .int .i64 a0_6, .int .i64 a0_7, .int .i64 a0_8, .int .i64 a0_9, .int .i64 a0_10, .string a0_11, .string a0_12]] w fun e w' => ∃ v3_ : Value, e = .returned (.agg #[.int .i64 r1, .int .i64 r2, .int .i64 r3, v3_, .int .i64 r5, .int .i64 r6, .int .i64 r7, .int .i64 r8, .int .i64 r9, .int .i64 r10, .int .i64 r11, .string r12, .string r13]) ∧ Kd.R (Kd.int .i64) 3 w' w.heap.size (fun _ => True) v3_ r4 ∧ Below w.heap.size w w' := by
 have hu32 := Try.underlying32
 have HR0_3 := Aside0.mk hr0_3
 have HC0_3 := Aside0.mk hc0_3
 clear hr0_3 hc0_3
 have HB := Aside0.mk (Below.refl w.heap.size w)
 have H : ((some (([] : List Int) : List Int)).bind fun y236 => (if y236.length + l0_3.length < 17592186044416 then (some (a0_0, a0_1, a0_2, (y236 ++ l0_3), a0_4, a0_5, a0_6, a0_7, a0_8, a0_9, a0_10, a0_11, a0_12)) else (none))) = some (r1, r2, r3, r4, r5, r6, r7, r8, r9, r10, r11, r12, r13) := h
 clear h
 obtain ⟨y236, hy236⟩ : ∃ y_ : List Int, y_ = (([] : List Int)) := ⟨_, rfl⟩
 replace H : (if y236.length + l0_3.length < 17592186044416 then (some (a0_0, a0_1, a0_2, (y236 ++ l0_3), a0_4, a0_5, a0_6, a0_7, a0_8, a0_9, a0_10, a0_11, a0_12)) else (none)) = some (r1, r2, r3, r4, r5, r6, r7, r8, r9, r10, r11, r12, r13) := by first | (rw [hy236]; with_reducible exact H) | (have H2_ := (Option.bind_some _ _).symm.trans H; rw [hy236]; with_reducible exact H2_) | (have H2_ := (Option.bind_some _ _).symm.trans H; with_reducible exact H2_) | with_reducible exact H | (rw [hy236]; exact H) | exact H
 have Ny236 := Aside0.mk hy236
 clear hy236
 by_cases c2 : y236.length + l0_3.length < 17592186044416
 ·rw [if_pos c2] at H
  have LMc2 := Aside0.mk c2
  clear c2
  obtain ⟨y239, hy239⟩ : ∃ y_ : List Int, y_ = (y236 ++ l0_3) := ⟨_, rfl⟩
  replace H : (some (a0_0, a0_1, a0_2, y239, a0_4, a0_5, a0_6, a0_7, a0_8, a0_9, a0_10, a0_11, a0_12)) = some (r1, r2, r3, r4, r5, r6, r7, r8, r9, r10, r11, r12, r13) := by first | (rw [hy239]; with_reducible exact H) | (have H2_ := (Option.bind_some _ _).symm.trans H; rw [hy239]; with_reducible exact H2_) | (have H2_ := (Option.bind_some _ _).symm.trans H; with_reducible exact H2_) | with_reducible exact H | (rw [hy239]; exact H) | exact H
  have Ny239 := Aside0.mk hy239
  clear hy239
  simp only [Option.some.injEq, Prod.mk.injEq] at H
  obtain ⟨rfl, rfl, rfl, rfl, rfl, rfl, rfl, rfl, rfl, rfl, rfl, rfl, rfl⟩ := H
  go_enter Try.func19, Try.ntmps19
  go_wp2_with (first | ((with_reducible refine gate_dst (N := 1) rfl ?_); refine box_event ?hg (N := 1) ?hd (cs := #[.int .i64 a0_0, .int .i64 a0_1, .int .i64 a0_2, .slice A0_3 l0_3.length c0_3, .int .i64 a0_4, .int .i64 a0_5, .int .i64 a0_6, .int .i64 a0_7, .int .i64 a0_8, .int .i64 a0_9, .int .i64 a0_10, .string a0_11, .string a0_12]) (t := 32) ?hr ?_; (case hd => rfl); (case hg => rfl); (case hr => first | (go_simp; done) | (go_simp; rfl)); intro gb234 hg w3 hbox hb; have n0_ := Aside0.mk (below_step (by repeat (first | (with_reducible first | exact HB.out | apply below_alloc | apply pw_below_drewN | apply below_drew1) | exact HB.out)) hb); have n1_ := Aside0.mk (hbox); have n2_ := Aside0.mk ((by rw [hg]; exact (below_size (by repeat (first | (with_reducible first | exact HB.out | apply below_alloc | apply pw_below_drewN | apply below_drew1) | exact HB.out))) : w.heap.size ≤ gb234)); have n3_ := Aside0.mk ((by rw [hg]; exact (below_size (by repeat (first | (with_reducible first | exact HB.out | apply below_alloc | apply pw_below_drewN | apply below_drew1) | exact HB.out))) : w.heap.size ≤ gb234)); clear HB; have HB := n0_; have BK234 := n1_; have GW234 := n2_; have GE234 := n3_; clear n0_ n1_ n2_ n3_; clear hb hbox hg) | ((with_reducible refine gate_dst (N := 2) rfl ?_); refine box_event ?hg (N := 2) ?hd (cs := #[.int .i64 0, .int .i64 0, .int .i64 0, .slice none 0 0, .int .i64 0, .int .i64 0, .int .i64 0, .int .i64 0, .int .i64 0, .int .i64 0, .int .i64 0, .string (⟨#[]⟩ : ByteArray), .string (⟨#[]⟩ : ByteArray)]) (t := 32) ?hr ?_; (case hd => rfl); (case hg => rfl); (case hr => first | (go_simp; done) | (go_simp; rfl)); intro gb235 hg w4 hbox hb; have n0_ := Aside0.mk (blk_below (g := gb234) (o := .cells #[.int .i64 a0_0, .int .i64 a0_1, .int .i64 a0_2, .slice A0_3 l0_3.length c0_3, .int .i64 a0_4, .int .i64 a0_5, .int .i64 a0_6, .int .i64 a0_7, .int .i64 a0_8, .int .i64 a0_9, .int .i64 a0_10, .string a0_11, .string a0_12] 32 (0, 0)) (by (with_reducible repeat (first | refine blk_drewN ?_ _ | refine blk_drew ?_ | refine blk_alloc ?_ _)); exact BK234.out) hb); have n1_ := Aside0.mk (below_step (by repeat (first | (with_reducible first | exact HB.out | apply below_alloc | apply pw_below_drewN | apply below_drew1 | refine below_set ?_ GE234.out) | exact HB.out)) hb); have n2_ := Aside0.mk (hbox); have n3_ := Aside0.mk ((by rw [hg]; exact (below_size (by repeat (first | (with_reducible first | exact HB.out | apply below_alloc | apply pw_below_drewN | apply below_drew1 | refine below_set ?_ GE234.out) | exact HB.out))) : w.heap.size ≤ gb235)); have n4_ := Aside0.mk ((by rw [hg]; exact (below_size (by repeat (first | (with_reducible first | exact HB.out | apply below_alloc | apply pw_below_drewN | apply below_drew1 | refine below_set ?_ GE234.out) | exact HB.out))) : w.heap.size ≤ gb235)); have n5_ := Aside0.mk ((by rw [hg]; exact Nat.ne_of_lt (blk_lt (g := gb234) (o := .cells #[.int .i64 a0_0, .int .i64 a0_1, .int .i64 a0_2, .slice A0_3 l0_3.length c0_3, .int .i64 a0_4, .int .i64 a0_5, .int .i64 a0_6, .int .i64 a0_7, .int .i64 a0_8, .int .i64 a0_9, .int .i64 a0_10, .string a0_11, .string a0_12] 32 (0, 0)) (by (with_reducible repeat (first | refine blk_drewN ?_ _ | refine blk_drew ?_ | refine blk_alloc ?_ _)); exact BK234.out)) : gb234 ≠ gb235)); have n6_ := Aside0.mk ((by rw [hg]; exact Nat.ne_of_gt (blk_lt (g := gb234) (o := .cells #[.int .i64 a0_0, .int .i64 a0_1, .int .i64 a0_2, .slice A0_3 l0_3.length c0_3, .int .i64 a0_4, .int .i64 a0_5, .int .i64 a0_6, .int .i64 a0_7, .int .i64 a0_8, .int .i64 a0_9, .int .i64 a0_10, .string a0_11, .string a0_12] 32 (0, 0)) (by (with_reducible repeat (first | refine blk_drewN ?_ _ | refine blk_drew ?_ | refine blk_alloc ?_ _)); exact BK234.out)) : gb235 ≠ gb234)); clear BK234; clear HB; have BK234 := n0_; have HB := n1_; have BK235 := n2_; have GW235 := n3_; have GE235 := n4_; have NB234_235 := n5_; have NB235_234 := n6_; clear n0_ n1_ n2_ n3_ n4_ n5_ n6_; clear hb hbox hg) | ((with_reducible refine gate_dst (N := 3) rfl ?_); refine Kd.R_lit (Kd.int .i64) _ 3 ?hg (N := 3) ?hd (xs := ([] : List Int)) (inner := []) (ok := fun _ => True) (okp := fun _ => True) ?hr ?hp (fun _ hk => hk) trivial (Below.refl _ _) (Nat.le_refl _) (by simp) ?_; (case hd => rfl); (case hg => rfl); (case hr => first | (go_simp; done) | (go_simp; rfl)); (case hp => exact (Reps.none _ _)); intro v237 w5 ho6 hb hg_ hnew_; clear hg_ hnew_; (first | rw [← Ny236.out] at ho6 | (simp only [Int.reduceToNat] at ho6; rw [← Ny236.out] at ho6)); have n0_ := Aside0.mk (Kd.R_lower ho6 (below_size (by repeat (first | (with_reducible first | exact HB.out | apply below_alloc | apply pw_below_drewN | apply below_drew1 | refine below_set ?_ GE234.out | refine below_set ?_ GE235.out) | exact HB.out)))); have n1_ := Aside0.mk (blk_below (g := gb234) (o := .cells #[.int .i64 a0_0, .int .i64 a0_1, .int .i64 a0_2, .slice A0_3 l0_3.length c0_3, .int .i64 a0_4, .int .i64 a0_5, .int .i64 a0_6, .int .i64 a0_7, .int .i64 a0_8, .int .i64 a0_9, .int .i64 a0_10, .string a0_11, .string a0_12] 32 (0, 0)) (by (with_reducible repeat (first | refine blk_drewN ?_ _ | refine blk_drew ?_ | refine blk_alloc ?_ _)); exact BK234.out) hb); have n2_ := Aside0.mk (blk_below (g := gb235) (o := .cells #[.int .i64 0, .int .i64 0, .int .i64 0, .slice none 0 0, .int .i64 0, .int .i64 0, .int .i64 0, .int .i64 0, .int .i64 0, .int .i64 0, .int .i64 0, .string (⟨#[]⟩ : ByteArray), .string (⟨#[]⟩ : ByteArray)] 32 (0, 0)) (by (with_reducible repeat (first | refine blk_drewN ?_ _ | refine blk_drew ?_ | refine blk_alloc ?_ _)); exact BK235.out) hb); have n3_ := Aside0.mk (below_step (by repeat (first | (with_reducible first | exact HB.out | apply below_alloc | apply pw_below_drewN | apply below_drew1 | refine below_set ?_ GE234.out | refine below_set ?_ GE235.out) | exact HB.out)) hb); clear BK234; clear BK235; clear HB; have HO238 := n0_; have BK234 := n1_; have BK235 := n2_; have HB := n3_; clear n0_ n1_ n2_ n3_; clear hb ho6; have hnb7 := NB234_235.out; have hnc7 := NB235_234.out; obtain ⟨hcz8_0, hcz8_1, hcz8_2, hcz8_3, hcz8_4, hcz8_5, hcz8_6, hcz8_7, hcz8_8, hcz8_9, hcz8_10, hcz8_11, hcz8_12⟩ := cells13 BK234.out; obtain ⟨hfz8_0, hfz8_1, hfz8_2, hfz8_3, hfz8_4, hfz8_5, hfz8_6, hfz8_7, hfz8_8, hfz8_9, hfz8_10, hfz8_11, hfz8_12⟩ := froz13 BK234.out) | ((with_reducible refine gate_builtin (b := .append) (xs := #[.tmp 3, .tmp 5]) rfl ?_); at_builtin; refine Kd.R_append_rows (Kd.int .i64) (w0 := w) w.heap.size rfl (.tmp 3) (.tmp 5) 23 3 (.int .i64 0) 8 rfl Try.underlying23 info3 rfl (by decide) (by omega) v237 y236 l0_3 _ _ _ (fun _ => True) (fun _ => False) rfl rfl ?aO ?aR (fun _ _ h => h) (fun _ h => h.elim) ?aF ?aB ?aS ?aL ?_; (case aR => repeat (first | exact (Kd.C_below HR0_3.out HB.out) | (with_reducible refine Kd.C_alloc ?_ _) | (with_reducible refine Kd.C_drewN ?_ _) | (with_reducible refine Kd.C_drew ?_))); (case aB => exact (by repeat (first | (with_reducible first | exact HB.out | apply below_alloc | apply pw_below_drewN | apply below_drew1 | refine below_set ?_ GE234.out | refine below_set ?_ GE235.out) | exact HB.out))); (case aF => exact (fun _ _ => trivial)); (case aO => exact (by (with_reducible repeat (first | apply Kd.R_alloc | apply Kd.R_drewN | apply Kd.R_drew)); exact HO238.out)); (case aS => exact (below_size (by repeat (first | (with_reducible first | exact HB.out | apply below_alloc | apply pw_below_drewN | apply below_drew1 | refine below_set ?_ GE234.out | refine below_set ?_ GE235.out) | exact HB.out)))); (case aL => have := LMc2.out; omega); intro v240 w9 ho hb hg hat; rw [← Ny239.out] at ho; have n0_ := Aside0.mk (blk_grown (g := gb234) (o := .cells #[.int .i64 a0_0, .int .i64 a0_1, .int .i64 a0_2, .slice A0_3 l0_3.length c0_3, .int .i64 a0_4, .int .i64 a0_5, .int .i64 a0_6, .int .i64 a0_7, .int .i64 a0_8, .int .i64 a0_9, .int .i64 a0_10, .string a0_11, .string a0_12] 32 (0, 0)) (by (with_reducible repeat (first | refine blk_drewN ?_ _ | refine blk_drew ?_ | refine blk_alloc ?_ _)); exact BK234.out) hg (Kd.R_ne HO238.out BK234.out (by decide))); have n1_ := Aside0.mk (blk_grown (g := gb235) (o := .cells #[.int .i64 0, .int .i64 0, .int .i64 0, .slice none 0 0, .int .i64 0, .int .i64 0, .int .i64 0, .int .i64 0, .int .i64 0, .int .i64 0, .int .i64 0, .string (⟨#[]⟩ : ByteArray), .string (⟨#[]⟩ : ByteArray)] 32 (0, 0)) (by (with_reducible repeat (first | refine blk_drewN ?_ _ | refine blk_drew ?_ | refine blk_alloc ?_ _)); exact BK235.out) hg (Kd.R_ne HO238.out BK235.out (by decide))); have n2_ := Aside0.mk (hb); have n3_ := Aside0.mk (ho); clear BK234; clear BK235; clear HB; clear HO238; have BK234 := n0_; have BK235 := n1_; have HB := n2_; have HO241 := n3_; clear n0_ n1_ n2_ n3_; clear ho hb hg hat; obtain ⟨Ao10, co10, eo10⟩ := Kd.R_slice HO241.out; subst eo10; obtain ⟨hcz11_0, hcz11_1, hcz11_2, hcz11_3, hcz11_4, hcz11_5, hcz11_6, hcz11_7, hcz11_8, hcz11_9, hcz11_10, hcz11_11, hcz11_12⟩ := cells13 BK234.out; obtain ⟨hfz11_0, hfz11_1, hfz11_2, hfz11_3, hfz11_4, hfz11_5, hfz11_6, hfz11_7, hfz11_8, hfz11_9, hfz11_10, hfz11_11, hfz11_12⟩ := froz13 BK234.out; obtain ⟨hcz12_0, hcz12_1, hcz12_2, hcz12_3, hcz12_4, hcz12_5, hcz12_6, hcz12_7, hcz12_8, hcz12_9, hcz12_10, hcz12_11, hcz12_12⟩ := cells13 BK235.out; obtain ⟨hfz12_0, hfz12_1, hfz12_2, hfz12_3, hfz12_4, hfz12_5, hfz12_6, hfz12_7, hfz12_8, hfz12_9, hfz12_10, hfz12_11, hfz12_12⟩ := froz13 BK235.out))
  refine bodyPost_ret (results_cell_row rfl _ _ gb235 32 #[.int .i64 a0_0, .int .i64 a0_1, .int .i64 a0_2, .slice Ao10 y239.length co10, .int .i64 a0_4, .int .i64 a0_5, .int .i64 a0_6, .int .i64 a0_7, .int .i64 a0_8, .int .i64 a0_9, .int .i64 a0_10, .string a0_11, .string a0_12] (0, 0) _ rfl (by (with_reducible repeat (first | refine blk_drewN ?_ _ | refine blk_drew ?_ | refine blk_alloc ?_ _)); refine blk_put (cs := #[.int .i64 a0_0, .int .i64 a0_1, .int .i64 a0_2, .slice Ao10 y239.length co10, .int .i64 a0_4, .int .i64 a0_5, .int .i64 a0_6, .int .i64 a0_7, .int .i64 a0_8, .int .i64 a0_9, .int .i64 a0_10, .string a0_11, .string (⟨#[]⟩ : ByteArray)]) ?_ 12 _ rfl; (with_reducible repeat (first | refine blk_drewN ?_ _ | refine blk_drew ?_ | refine blk_alloc ?_ _)); refine blk_put (cs := #[.int .i64 a0_0, .int .i64 a0_1, .int .i64 a0_2, .slice Ao10 y239.length co10, .int .i64 a0_4, .int .i64 a0_5, .int .i64 a0_6, .int .i64 a0_7, .int .i64 a0_8, .int .i64 a0_9, .int .i64 a0_10, .string (⟨#[]⟩ : ByteArray), .string (⟨#[]⟩ : ByteArray)]) ?_ 11 _ rfl; (with_reducible repeat (first | refine blk_drewN ?_ _ | refine blk_drew ?_ | refine blk_alloc ?_ _)); refine blk_put (cs := #[.int .i64 a0_0, .int .i64 a0_1, .int .i64 a0_2, .slice Ao10 y239.length co10, .int .i64 a0_4, .int .i64 a0_5, .int .i64 a0_6, .int .i64 a0_7, .int .i64 a0_8, .int .i64 a0_9, .int .i64 0, .string (⟨#[]⟩ : ByteArray), .string (⟨#[]⟩ : ByteArray)]) ?_ 10 _ rfl; (with_reducible repeat (first | refine blk_drewN ?_ _ | refine blk_drew ?_ | refine blk_alloc ?_ _)); refine blk_put (cs := #[.int .i64 a0_0, .int .i64 a0_1, .int .i64 a0_2, .slice Ao10 y239.length co10, .int .i64 a0_4, .int .i64 a0_5, .int .i64 a0_6, .int .i64 a0_7, .int .i64 a0_8, .int .i64 0, .int .i64 0, .string (⟨#[]⟩ : ByteArray), .string (⟨#[]⟩ : ByteArray)]) ?_ 9 _ rfl; (with_reducible repeat (first | refine blk_drewN ?_ _ | refine blk_drew ?_ | refine blk_alloc ?_ _)); refine blk_put (cs := #[.int .i64 a0_0, .int .i64 a0_1, .int .i64 a0_2, .slice Ao10 y239.length co10, .int .i64 a0_4, .int .i64 a0_5, .int .i64 a0_6, .int .i64 a0_7, .int .i64 0, .int .i64 0, .int .i64 0, .string (⟨#[]⟩ : ByteArray), .string (⟨#[]⟩ : ByteArray)]) ?_ 8 _ rfl; (with_reducible repeat (first | refine blk_drewN ?_ _ | refine blk_drew ?_ | refine blk_alloc ?_ _)); refine blk_put (cs := #[.int .i64 a0_0, .int .i64 a0_1, .int .i64 a0_2, .slice Ao10 y239.length co10, .int .i64 a0_4, .int .i64 a0_5, .int .i64 a0_6, .int .i64 0, .int .i64 0, .int .i64 0, .int .i64 0, .string (⟨#[]⟩ : ByteArray), .string (⟨#[]⟩ : ByteArray)]) ?_ 7 _ rfl; (with_reducible repeat (first | refine blk_drewN ?_ _ | refine blk_drew ?_ | refine blk_alloc ?_ _)); refine blk_put (cs := #[.int .i64 a0_0, .int .i64 a0_1, .int .i64 a0_2, .slice Ao10 y239.length co10, .int .i64 a0_4, .int .i64 a0_5, .int .i64 0, .int .i64 0, .int .i64 0, .int .i64 0, .int .i64 0, .string (⟨#[]⟩ : ByteArray), .string (⟨#[]⟩ : ByteArray)]) ?_ 6 _ rfl; (with_reducible repeat (first | refine blk_drewN ?_ _ | refine blk_drew ?_ | refine blk_alloc ?_ _)); refine blk_put (cs := #[.int .i64 a0_0, .int .i64 a0_1, .int .i64 a0_2, .slice Ao10 y239.length co10, .int .i64 a0_4, .int .i64 0, .int .i64 0, .int .i64 0, .int .i64 0, .int .i64 0, .int .i64 0, .string (⟨#[]⟩ : ByteArray), .string (⟨#[]⟩ : ByteArray)]) ?_ 5 _ rfl; (with_reducible repeat (first | refine blk_drewN ?_ _ | refine blk_drew ?_ | refine blk_alloc ?_ _)); refine blk_put (cs := #[.int .i64 a0_0, .int .i64 a0_1, .int .i64 a0_2, .slice Ao10 y239.length co10, .int .i64 0, .int .i64 0, .int .i64 0, .int .i64 0, .int .i64 0, .int .i64 0, .int .i64 0, .string (⟨#[]⟩ : ByteArray), .string (⟨#[]⟩ : ByteArray)]) ?_ 4 _ rfl; (with_reducible repeat (first | refine blk_drewN ?_ _ | refine blk_drew ?_ | refine blk_alloc ?_ _)); refine blk_put (cs := #[.int .i64 a0_0, .int .i64 a0_1, .int .i64 a0_2, .slice none 0 0, .int .i64 0, .int .i64 0, .int .i64 0, .int .i64 0, .int .i64 0, .int .i64 0, .int .i64 0, .string (⟨#[]⟩ : ByteArray), .string (⟨#[]⟩ : ByteArray)]) ?_ 3 _ rfl; (with_reducible repeat (first | refine blk_drewN ?_ _ | refine blk_drew ?_ | refine blk_alloc ?_ _)); refine blk_put (cs := #[.int .i64 a0_0, .int .i64 a0_1, .int .i64 0, .slice none 0 0, .int .i64 0, .int .i64 0, .int .i64 0, .int .i64 0, .int .i64 0, .int .i64 0, .int .i64 0, .string (⟨#[]⟩ : ByteArray), .string (⟨#[]⟩ : ByteArray)]) ?_ 2 _ rfl; (with_reducible repeat (first | refine blk_drewN ?_ _ | refine blk_drew ?_ | refine blk_alloc ?_ _)); refine blk_put (cs := #[.int .i64 a0_0, .int .i64 0, .int .i64 0, .slice none 0 0, .int .i64 0, .int .i64 0, .int .i64 0, .int .i64 0, .int .i64 0, .int .i64 0, .int .i64 0, .string (⟨#[]⟩ : ByteArray), .string (⟨#[]⟩ : ByteArray)]) ?_ 1 _ rfl; (with_reducible repeat (first | refine blk_drewN ?_ _ | refine blk_drew ?_ | refine blk_alloc ?_ _)); refine blk_put (cs := #[.int .i64 0, .int .i64 0, .int .i64 0, .slice none 0 0, .int .i64 0, .int .i64 0, .int .i64 0, .int .i64 0, .int .i64 0, .int .i64 0, .int .i64 0, .string (⟨#[]⟩ : ByteArray), .string (⟨#[]⟩ : ByteArray)]) ?_ 0 _ rfl; (with_reducible repeat (first | refine blk_drewN ?_ _ | refine blk_drew ?_ | refine blk_alloc ?_ _)); refine blk_far ?_ NB235_234.out _; (with_reducible repeat (first | refine blk_drewN ?_ _ | refine blk_drew ?_ | refine blk_alloc ?_ _)); exact BK235.out) Try.underlying32 rfl (by kernel_rfl)) rfl ?_
  exact ⟨_, by first | rfl | (simp [errW_none, errW_some] <;> rfl) | (simp [*, errW_none, errW_some] <;> rfl), by (with_reducible repeat (first | apply Kd.R_alloc | apply Kd.R_drewN | apply Kd.R_drew)); exact Kd.R_mono (Kd.R_far (p := ⟨gb235, 12, none⟩) (Kd.R_far (p := ⟨gb235, 11, none⟩) (Kd.R_far (p := ⟨gb235, 10, none⟩) (Kd.R_far (p := ⟨gb235, 9, none⟩) (Kd.R_far (p := ⟨gb235, 8, none⟩) (Kd.R_far (p := ⟨gb235, 7, none⟩) (Kd.R_far (p := ⟨gb235, 6, none⟩) (Kd.R_far (p := ⟨gb235, 5, none⟩) (Kd.R_far (p := ⟨gb235, 4, none⟩) (Kd.R_far (p := ⟨gb235, 3, none⟩) (Kd.R_far (p := ⟨gb235, 2, none⟩) (Kd.R_far (p := ⟨gb235, 1, none⟩) (Kd.R_far (p := ⟨gb235, 0, none⟩) (Kd.R_far (p := ⟨gb234, 3, none⟩) (Kd.R_types (Kd.R_types HO241.out BK234.out (by decide)) BK235.out (by decide)) (fun _ hk => hk.1.2) (.slice Ao10 y239.length co10)) (fun _ hk => hk.2) (.int .i64 a0_0)) (fun _ hk => hk.2) (.int .i64 a0_1)) (fun _ hk => hk.2) (.int .i64 a0_2)) (fun _ hk => hk.2) (.slice Ao10 y239.length co10)) (fun _ hk => hk.2) (.int .i64 a0_4)) (fun _ hk => hk.2) (.int .i64 a0_5)) (fun _ hk => hk.2) (.int .i64 a0_6)) (fun _ hk => hk.2) (.int .i64 a0_7)) (fun _ hk => hk.2) (.int .i64 a0_8)) (fun _ hk => hk.2) (.int .i64 a0_9)) (fun _ hk => hk.2) (.int .i64 a0_10)) (fun _ hk => hk.2) (.string a0_11)) (fun _ hk => hk.2) (.string a0_12)) (fun _ hk => trivial), by repeat (first | (with_reducible first | exact HB.out | apply below_alloc | apply pw_below_drewN | apply below_drew1 | refine below_set ?_ GE234.out | refine below_set ?_ GE235.out) | exact HB.out)⟩
 ·rw [if_neg c2] at H
  exact absurd H (by simp)
def topiaryref09_tick.f (k : Nat) (l0 : List Int) (a1_0 : Int) (a1_1 : Int) (a1_2 : Int) (l1_3 : List Int) (a1_4 : Int) (a1_5 : Int) (a1_6 : Int) (a1_7 : Int) (a1_8 : Int) (a1_9 : Int) (a1_10 : Int) (a1_11 : ByteArray) (a1_12 : ByteArray) : Option (List Int) := (topiaryref02_Tick.f k l0 a1_1).bind fun bt491 => (some bt491.1)
theorem topiaryref09_tick.mono : ∀ a0 a1 a2 a3 a4 a5 a6 a7 a8 a9 a10 a11 a12 a13 k, LeO (topiaryref09_tick.f k a0 a1 a2 a3 a4 a5 a6 a7 a8 a9 a10 a11 a12 a13) (topiaryref09_tick.f (k + 1) a0 a1 a2 a3 a4 a5 a6 a7 a8 a9 a10 a11 a12 a13) := by
 intro a0 a1 a2 a3 a4 a5 a6 a7 a8 a9 a10 a11 a12 a13 k
 unfold topiaryref09_tick.f
 repeat' first
   | (with_reducible exact topiaryref02_Tick.mono _ _ _)
   | (with_reducible exact LeO.refl _)
   | (with_reducible exact LeO.none _)
   | (with_reducible refine LeO.ite ?_ ?_)
   | (with_reducible refine LeO.bind ?_ (fun _ => ?_))
   | exact topiaryref02_Tick.mono _ _ _
   | exact LeO.none _
   | refine LeO.ite ?_ ?_
   | refine LeO.bind ?_ (fun _ => ?_)
set_option maxHeartbeats 8000000 in
set_option maxRecDepth 100000 in
theorem topiaryref09_tick.calls (k : Nat) (A0 : Option Addr) (c0 : Nat) (l0 : List Int) (a1_0 : Int) (a1_1 : Int) (a1_2 : Int) (A1_3 : Option Addr) (c1_3 : Nat) (l1_3 : List Int) (a1_4 : Int) (a1_5 : Int) (a1_6 : Int) (a1_7 : Int) (a1_8 : Int) (a1_9 : Int) (a1_10 : Int) (a1_11 : ByteArray) (a1_12 : ByteArray) (r : List Int) (w : World) (hr0 : Kd.C (Kd.int .i64) w A0 l0.length l0) (hc0 : l0.length ≤ c0) (hr1_3 : Kd.C (Kd.int .i64) w A1_3 l1_3.length l1_3) (hc1_3 : l1_3.length ≤ c1_3) (h : topiaryref09_tick.f k l0 a1_0 a1_1 a1_2 l1_3 a1_4 a1_5 a1_6 a1_7 a1_8 a1_9 a1_10 a1_11 a1_12 = some r) :
  Calls Try.prog 53 #[.slice A0 l0.length c0, .agg #[.int .i64 a1_0, .int .i64 a1_1, .int .i64 a1_2, .slice A1_3 l1_3.length c1_3, .int .i64 a1_4, .int .i64 a1_5, .int .i64 a1_6, .int .i64 a1_7, .int .i64 a1_8, .int .i64 a1_9, .int .i64 a1_10, .string a1_11, .string a1_12]] w fun e w' => ∃ v0_ : Value, e = .returned (v0_) ∧ Kd.R (Kd.int .i64) 3 w' w.heap.size (fun _ => True) v0_ r ∧ Below w.heap.size w w' := by
 have hu32 := Try.underlying32
 have HR0 := Aside0.mk hr0
 have HC0 := Aside0.mk hc0
 clear hr0 hc0
 have HR1_3 := Aside0.mk hr1_3
 have HC1_3 := Aside0.mk hc1_3
 clear hr1_3 hc1_3
 have HB := Aside0.mk (Below.refl w.heap.size w)
 have H : ((topiaryref02_Tick.f k l0 a1_1).bind fun bt491 => (some bt491.1)) = some r := h
 clear h
 replace H := Option.bind_eq_some_iff.mp H
 obtain ⟨⟨t491, t492⟩, A30, H⟩ := H
 replace H : (some t491) = some r := H
 have A3 := Aside0.mk A30
 clear A30
 obtain rfl := Option.some.inj H
 go_enter Try.func53, Try.ntmps53
 go_wp2_with (first | ((with_reducible refine gate_dst (N := 3) rfl ?_); refine box_event ?hg (N := 3) ?hd (cs := #[.int .i64 a1_0, .int .i64 a1_1, .int .i64 a1_2, .slice A1_3 l1_3.length c1_3, .int .i64 a1_4, .int .i64 a1_5, .int .i64 a1_6, .int .i64 a1_7, .int .i64 a1_8, .int .i64 a1_9, .int .i64 a1_10, .string a1_11, .string a1_12]) (t := 32) ?hr ?_; (case hd => rfl); (case hg => rfl); (case hr => first | (go_simp; done) | (go_simp; rfl)); intro gb490 hg w4 hbox hb; have n0_ := Aside0.mk (below_step (by repeat (first | (with_reducible first | exact HB.out | apply below_alloc | apply pw_below_drewN | apply below_drew1) | exact HB.out)) hb); have n1_ := Aside0.mk (hbox); have n2_ := Aside0.mk ((by rw [hg]; exact (below_size (by repeat (first | (with_reducible first | exact HB.out | apply below_alloc | apply pw_below_drewN | apply below_drew1) | exact HB.out))) : w.heap.size ≤ gb490)); have n3_ := Aside0.mk ((by rw [hg]; exact (below_size (by repeat (first | (with_reducible first | exact HB.out | apply below_alloc | apply pw_below_drewN | apply below_drew1) | exact HB.out))) : w.heap.size ≤ gb490)); clear HB; have HB := n0_; have BK490 := n1_; have GW490 := n2_; have GE490 := n3_; clear n0_ n1_ n2_ n3_; clear hb hbox hg; obtain ⟨hcz5_0, hcz5_1, hcz5_2, hcz5_3, hcz5_4, hcz5_5, hcz5_6, hcz5_7, hcz5_8, hcz5_9, hcz5_10, hcz5_11, hcz5_12⟩ := cells13 BK490.out) | ((with_reducible refine gate_callee (f := 21) rfl ?_); refine goesL_ (some 12) rfl rfl Try.func21 (by kernel_rfl) rfl #[.slice A0 l0.length c0, .int .i64 a1_1] rfl (by (try simp only [List.map_toArray, List.map_cons, List.map_nil]); first | done | rfl | (simp only [List.length_drop, List.length_take]; rfl)) ?_; (with_reducible refine (topiaryref02_Tick.calls k _ _ l0 a1_1 t491 t492 _ ?side1 ?side2 A3.out).mono ?_); (case side1 => repeat (first | exact (Kd.C_below HR0.out HB.out) | (with_reducible refine Kd.C_alloc ?_ _) | (with_reducible refine Kd.C_drewN ?_ _) | (with_reducible refine Kd.C_drew ?_))); (case side2 => exact HC0.out); rintro e w6 ⟨v493, rfl, ho0, hb⟩; refine ⟨_, rfl, ?_⟩; have n0_ := Aside0.mk (Kd.R_lower ho0 (below_size (by repeat (first | (with_reducible first | exact HB.out | apply below_alloc | apply pw_below_drewN | apply below_drew1 | refine below_set ?_ GE490.out) | exact HB.out)))); have n1_ := Aside0.mk (blk_below (g := gb490) (o := .cells #[.int .i64 a1_0, .int .i64 a1_1, .int .i64 a1_2, .slice A1_3 l1_3.length c1_3, .int .i64 a1_4, .int .i64 a1_5, .int .i64 a1_6, .int .i64 a1_7, .int .i64 a1_8, .int .i64 a1_9, .int .i64 a1_10, .string a1_11, .string a1_12] 32 (0, 0)) (by (with_reducible repeat (first | refine blk_drewN ?_ _ | refine blk_drew ?_ | refine blk_alloc ?_ _)); exact BK490.out) hb); have n2_ := Aside0.mk (below_step (by repeat (first | (with_reducible first | exact HB.out | apply below_alloc | apply pw_below_drewN | apply below_drew1 | refine below_set ?_ GE490.out) | exact HB.out)) hb); clear BK490; clear HB; have HO494 := n0_; have BK490 := n1_; have HB := n2_; clear n0_ n1_ n2_; (try clear hb); (try clear hb2); (try clear hk); (try clear hi); (try clear ho0)))
 go_ret
 exact ⟨_, by first | rfl | (simp [errW_none, errW_some] <;> rfl) | (simp [*, errW_none, errW_some] <;> rfl), by (with_reducible repeat (first | apply Kd.R_alloc | apply Kd.R_drewN | apply Kd.R_drew)); exact HO494.out, by repeat (first | (with_reducible first | exact HB.out | apply below_alloc | apply pw_below_drewN | apply below_drew1 | refine below_set ?_ GE490.out) | exact HB.out)⟩
mutual
def topiaryref09_Take.j0 : Nat → List Int → Bool → Int → List (S32) → Int → Int → Int → List Int → Int → Int → Int → Int → Int → Int → Int → ByteArray → ByteArray → Option (Int × (List (S32)) × (List (S32)) × Int)
 | 0, _, _, _, _, _, _, _, _, _, _, _, _, _, _, _, _, _ => none
 | k + 1, x1, x38, x517000, x517001, x518000, x518001, x518002, x518003, x518004, x518005, x518006, x518007, x518008, x518009, x518010, x518011, x518012 => if x38 = true then (some (x517000, x517001, ([] : List (S32)), 5)) else ((topiaryref09_Ripe.f k x1 x518000 x518001 x518002 x518003 x518004 x518005 x518006 x518007 x518008 x518009 x518010 x518011 x518012).bind fun t525 => (if t525 = true then ((topiaryref09_tick.f k x1 x518000 x518001 x518002 x518003 x518004 x518005 x518006 x518007 x518008 x518009 x518010 x518011 x518012).bind fun t547 => (topiaryref09_Take.l0 k (([(⟨(⟨x518000, x518001⟩ : S30), x518002, x518003, x518004, (⟨x518005, x518006⟩ : S30), (⟨x518007, x518008⟩ : S30), (⟨x518009, x518010⟩ : S30), x518011, x518012⟩ : S32)] : List (S32))) x517001 t547 x517000 x517001)) else (if (x517001.length : Int) ≥ x517000 then (some (x517000, x517001, ([] : List (S32)), 6)) else ((topiaryref05_Copy.f x518000 x518001 x518002 x518003 x518004 x518005 x518006 x518007 x518008 x518009 x518010 x518011 x518012).bind fun bt526 => ((topiaryref09_put.f k x517001 bt526.1 bt526.2.1 bt526.2.2.1 bt526.2.2.2.1 bt526.2.2.2.2.1 bt526.2.2.2.2.2.1 bt526.2.2.2.2.2.2.1 bt526.2.2.2.2.2.2.2.1 bt526.2.2.2.2.2.2.2.2.1 bt526.2.2.2.2.2.2.2.2.2.1 bt526.2.2.2.2.2.2.2.2.2.2.1 bt526.2.2.2.2.2.2.2.2.2.2.2.1 bt526.2.2.2.2.2.2.2.2.2.2.2.2).bind fun t541 => (some (x517000, t541, ([] : List (S32)), 0)))))))
def topiaryref09_Take.l0 : Nat → List (S32) → List (S32) → List Int → Int → List (S32) → Option (Int × (List (S32)) × (List (S32)) × Int)
 | 0, _, _, _, _, _ => none
 | k + 1, x9, x10, x11, x517000, x517001 => (topiaryref09_next.f k x11 x10).bind fun t550 => (if t550 ≥ 0 then ((topiaryref09_next.f k x11 x10).bind fun t551 => (if 0 ≤ t551 then (if t551 < (x10.length : Int) then (if x9.length < 1034834473200 then ((topiaryref09_tick.f k x11 ((rd_T32 x10 t551).f0.f0) ((rd_T32 x10 t551).f0.f1) ((rd_T32 x10 t551).f1) ((rd_T32 x10 t551).f2) ((rd_T32 x10 t551).f3) ((rd_T32 x10 t551).f4.f0) ((rd_T32 x10 t551).f4.f1) ((rd_T32 x10 t551).f5.f0) ((rd_T32 x10 t551).f5.f1) ((rd_T32 x10 t551).f6.f0) ((rd_T32 x10 t551).f6.f1) ((rd_T32 x10 t551).f7) ((rd_T32 x10 t551).f8)).bind fun t557 => ((topiaryref09_without.f x10 t551).bind fun t560 => (topiaryref09_Take.l0 k (x9 ++ [(⟨(⟨(rd_T32 x10 t551).f0.f0, (rd_T32 x10 t551).f0.f1⟩ : S30), (rd_T32 x10 t551).f1, (rd_T32 x10 t551).f2, (rd_T32 x10 t551).f3, (⟨(rd_T32 x10 t551).f4.f0, (rd_T32 x10 t551).f4.f1⟩ : S30), (⟨(rd_T32 x10 t551).f5.f0, (rd_T32 x10 t551).f5.f1⟩ : S30), (⟨(rd_T32 x10 t551).f6.f0, (rd_T32 x10 t551).f6.f1⟩ : S30), (rd_T32 x10 t551).f7, (rd_T32 x10 t551).f8⟩ : S32)]) t560 t557 x517000 x517001))) else (none)) else (none)) else (none))) else (some (x517000, x10, x9, 0)))
end
def topiaryref09_Take.f (k : Nat) (a0_0 : Int) (l0_1 : List (S32)) (l1 : List Int) (a2_0 : Int) (a2_1 : Int) (a2_2 : Int) (l2_3 : List Int) (a2_4 : Int) (a2_5 : Int) (a2_6 : Int) (a2_7 : Int) (a2_8 : Int) (a2_9 : Int) (a2_10 : Int) (a2_11 : ByteArray) (a2_12 : ByteArray) : Option (Int × (List (S32)) × (List (S32)) × Int) := (topiaryref02_Check.f k l1).bind fun t519 => (if t519 = 0 then ((topiaryref05_Check.f k a2_0 a2_1 a2_2 l2_3 a2_4 a2_5 a2_6 a2_7 a2_8 a2_9 a2_10 a2_11 a2_12).bind fun t521 => (if t521 = 0 then ((topiaryref07_Within.f a2_0 a2_1 a2_2 l2_3 a2_4 a2_5 a2_6 a2_7 a2_8 a2_9 a2_10 a2_11 a2_12 l1).bind fun t523 => (if t523 = true then (topiaryref09_Take.j0 k l1 true a0_0 l0_1 a2_0 a2_1 a2_2 l2_3 a2_4 a2_5 a2_6 a2_7 a2_8 a2_9 a2_10 a2_11 a2_12) else ((topiaryref07_Own.f k l0_1 a2_1 a2_2).bind fun t524 => (topiaryref09_Take.j0 k l1 (decide (t524 ≥ 0)) a0_0 l0_1 a2_0 a2_1 a2_2 l2_3 a2_4 a2_5 a2_6 a2_7 a2_8 a2_9 a2_10 a2_11 a2_12)))) else ((topiaryref05_Check.f k a2_0 a2_1 a2_2 l2_3 a2_4 a2_5 a2_6 a2_7 a2_8 a2_9 a2_10 a2_11 a2_12).bind fun t522 => (some (a0_0, l0_1, ([] : List (S32)), t522))))) else ((topiaryref02_Check.f k l1).bind fun t520 => (some (a0_0, l0_1, ([] : List (S32)), t520))))
theorem topiaryref09_Take.mono_l : ∀ k, (∀ y0 y1 y2 y3 y4 y5 y6 y7 y8 y9 y10 y11 y12 y13 y14 y15 y16, LeO (topiaryref09_Take.j0 k y0 y1 y2 y3 y4 y5 y6 y7 y8 y9 y10 y11 y12 y13 y14 y15 y16) (topiaryref09_Take.j0 (k + 1) y0 y1 y2 y3 y4 y5 y6 y7 y8 y9 y10 y11 y12 y13 y14 y15 y16)) ∧ (∀ y0 y1 y2 y3 y4, LeO (topiaryref09_Take.l0 k y0 y1 y2 y3 y4) (topiaryref09_Take.l0 (k + 1) y0 y1 y2 y3 y4))
 | 0 => ⟨fun _ _ _ _ _ _ _ _ _ _ _ _ _ _ _ _ _ r h => by simp [topiaryref09_Take.j0] at h, fun _ _ _ _ _ r h => by simp [topiaryref09_Take.l0] at h⟩
 | k + 1 => by
  obtain ⟨ih0, ih1⟩ := topiaryref09_Take.mono_l k
  refine ⟨?_, ?_⟩
  ·intro y0 y1 y2 y3 y4 y5 y6 y7 y8 y9 y10 y11 y12 y13 y14 y15 y16
   unfold topiaryref09_Take.j0
   repeat' first
   | (with_reducible exact ih0 _ _ _ _ _ _ _ _ _ _ _ _ _ _ _ _ _)
   | (with_reducible exact ih1 _ _ _ _ _)
   | (with_reducible exact topiaryref02_Check.mono _ _)
   | (with_reducible exact topiaryref05_Check.mono _ _ _ _ _ _ _ _ _ _ _ _ _ _)
   | (with_reducible exact topiaryref07_Own.mono _ _ _ _)
   | (with_reducible exact topiaryref09_Ripe.mono _ _ _ _ _ _ _ _ _ _ _ _ _ _ _)
   | (with_reducible exact topiaryref09_next.mono _ _ _)
   | (with_reducible exact topiaryref09_put.mono _ _ _ _ _ _ _ _ _ _ _ _ _ _ _)
   | (with_reducible exact topiaryref09_tick.mono _ _ _ _ _ _ _ _ _ _ _ _ _ _ _)
   | (with_reducible exact LeO.refl _)
   | (with_reducible exact LeO.none _)
   | (with_reducible refine LeO.ite ?_ ?_)
   | (with_reducible refine LeO.bind ?_ (fun _ => ?_))
   | exact ih0 _ _ _ _ _ _ _ _ _ _ _ _ _ _ _ _ _
   | exact ih1 _ _ _ _ _
   | exact topiaryref02_Check.mono _ _
   | exact topiaryref05_Check.mono _ _ _ _ _ _ _ _ _ _ _ _ _ _
   | exact topiaryref07_Own.mono _ _ _ _
   | exact topiaryref09_Ripe.mono _ _ _ _ _ _ _ _ _ _ _ _ _ _ _
   | exact topiaryref09_next.mono _ _ _
   | exact topiaryref09_put.mono _ _ _ _ _ _ _ _ _ _ _ _ _ _ _
   | exact topiaryref09_tick.mono _ _ _ _ _ _ _ _ _ _ _ _ _ _ _
   | exact LeO.none _
   | refine LeO.ite ?_ ?_
   | refine LeO.bind ?_ (fun _ => ?_)
  ·intro y0 y1 y2 y3 y4
   unfold topiaryref09_Take.l0
   repeat' first
   | (with_reducible exact ih0 _ _ _ _ _ _ _ _ _ _ _ _ _ _ _ _ _)
   | (with_reducible exact ih1 _ _ _ _ _)
   | (with_reducible exact topiaryref02_Check.mono _ _)
   | (with_reducible exact topiaryref05_Check.mono _ _ _ _ _ _ _ _ _ _ _ _ _ _)
   | (with_reducible exact topiaryref07_Own.mono _ _ _ _)
   | (with_reducible exact topiaryref09_Ripe.mono _ _ _ _ _ _ _ _ _ _ _ _ _ _ _)
   | (with_reducible exact topiaryref09_next.mono _ _ _)
   | (with_reducible exact topiaryref09_put.mono _ _ _ _ _ _ _ _ _ _ _ _ _ _ _)
   | (with_reducible exact topiaryref09_tick.mono _ _ _ _ _ _ _ _ _ _ _ _ _ _ _)
   | (with_reducible exact LeO.refl _)
   | (with_reducible exact LeO.none _)
   | (with_reducible refine LeO.ite ?_ ?_)
   | (with_reducible refine LeO.bind ?_ (fun _ => ?_))
   | exact ih0 _ _ _ _ _ _ _ _ _ _ _ _ _ _ _ _ _
   | exact ih1 _ _ _ _ _
   | exact topiaryref02_Check.mono _ _
   | exact topiaryref05_Check.mono _ _ _ _ _ _ _ _ _ _ _ _ _ _
   | exact topiaryref07_Own.mono _ _ _ _
   | exact topiaryref09_Ripe.mono _ _ _ _ _ _ _ _ _ _ _ _ _ _ _
   | exact topiaryref09_next.mono _ _ _
   | exact topiaryref09_put.mono _ _ _ _ _ _ _ _ _ _ _ _ _ _ _
   | exact topiaryref09_tick.mono _ _ _ _ _ _ _ _ _ _ _ _ _ _ _
   | exact LeO.none _
   | refine LeO.ite ?_ ?_
   | refine LeO.bind ?_ (fun _ => ?_)
theorem topiaryref09_Take.mono : ∀ a0 a1 a2 a3 a4 a5 a6 a7 a8 a9 a10 a11 a12 a13 a14 a15 k, LeO (topiaryref09_Take.f k a0 a1 a2 a3 a4 a5 a6 a7 a8 a9 a10 a11 a12 a13 a14 a15) (topiaryref09_Take.f (k + 1) a0 a1 a2 a3 a4 a5 a6 a7 a8 a9 a10 a11 a12 a13 a14 a15) := by
 intro a0 a1 a2 a3 a4 a5 a6 a7 a8 a9 a10 a11 a12 a13 a14 a15 k
 obtain ⟨ih0, ih1⟩ := topiaryref09_Take.mono_l k
 unfold topiaryref09_Take.f
 repeat' first
   | (with_reducible exact ih0 _ _ _ _ _ _ _ _ _ _ _ _ _ _ _ _ _)
   | (with_reducible exact ih1 _ _ _ _ _)
   | (with_reducible exact topiaryref02_Check.mono _ _)
   | (with_reducible exact topiaryref05_Check.mono _ _ _ _ _ _ _ _ _ _ _ _ _ _)
   | (with_reducible exact topiaryref07_Own.mono _ _ _ _)
   | (with_reducible exact topiaryref09_Ripe.mono _ _ _ _ _ _ _ _ _ _ _ _ _ _ _)
   | (with_reducible exact topiaryref09_next.mono _ _ _)
   | (with_reducible exact topiaryref09_put.mono _ _ _ _ _ _ _ _ _ _ _ _ _ _ _)
   | (with_reducible exact topiaryref09_tick.mono _ _ _ _ _ _ _ _ _ _ _ _ _ _ _)
   | (with_reducible exact LeO.refl _)
   | (with_reducible exact LeO.none _)
   | (with_reducible refine LeO.ite ?_ ?_)
   | (with_reducible refine LeO.bind ?_ (fun _ => ?_))
   | exact ih0 _ _ _ _ _ _ _ _ _ _ _ _ _ _ _ _ _
   | exact ih1 _ _ _ _ _
   | exact topiaryref02_Check.mono _ _
   | exact topiaryref05_Check.mono _ _ _ _ _ _ _ _ _ _ _ _ _ _
   | exact topiaryref07_Own.mono _ _ _ _
   | exact topiaryref09_Ripe.mono _ _ _ _ _ _ _ _ _ _ _ _ _ _ _
   | exact topiaryref09_next.mono _ _ _
   | exact topiaryref09_put.mono _ _ _ _ _ _ _ _ _ _ _ _ _ _ _
   | exact topiaryref09_tick.mono _ _ _ _ _ _ _ _ _ _ _ _ _ _ _
   | exact LeO.none _
   | refine LeO.ite ?_ ?_
   | refine LeO.bind ?_ (fun _ => ?_)
end Go.Proofs.Ytnopjjilpgekfaa.PCa
namespace Go.Proofs.Ytnopjjilpgekfaa.PCa
open Go.RowKit Go.Proofs.YtnopjjilpgekfaaW.PrintWords Go.Proofs.YtnopjjilpgekfaaW.PrintLast Go.Proofs.YtnopjjilpgekfaaW.PrintMore
set_option linter.unusedVariables false
set_option linter.unusedSimpArgs false
/-- What is held is right, and in order. -/
structure Good (l : List S32) : Prop where
 ok : ∀ y ∈ l, checkX y = 0
 ord : l.Pairwise (fun a b => befX a b = true)
theorem bef_iff (a b : S32) : befX a b = true ↔ a.f0.f0 < b.f0.f0 ∨ (a.f0.f0 = b.f0.f0 ∧ (a.f0.f1 < b.f0.f1 ∨ (a.f0.f1 = b.f0.f1 ∧ a.f1 < b.f1))) := by
 unfold befX lessC
 simp only [Bool.or_eq_true, Bool.and_eq_true, decide_eq_true_eq, beq_iff_eq]
 omega
theorem bef_trans {a b c : S32} (h1 : befX a b = true) (h2 : befX b c = true) : befX a c = true := by
 rw [bef_iff] at *
 omega
theorem bef_asymm {a b : S32} (h1 : befX a b = true) : befX b a = false := by
 rw [Bool.eq_false_iff]
 intro h2
 rw [bef_iff] at *
 omega
theorem bef_total {a b : S32} (h : befX a b = false) (hk : keyOf a ≠ keyOf b) : befX b a = true := by
 have h' : ¬ (befX a b = true) := by rw [h]; decide
 rw [bef_iff] at h' ⊢
 have : ¬ (a.f0.f1 = b.f0.f1 ∧ a.f1 = b.f1) := fun e => hk (by unfold keyOf; rw [e.1, e.2])
 omega
theorem Good.nil : Good [] := ⟨(fun _ h => nomatch h), List.Pairwise.nil⟩
theorem Good.erase {l : List S32} (h : Good l) (i : Nat) : Good (l.eraseIdx i) := ⟨fun y hy => h.ok y (List.mem_of_mem_eraseIdx hy), h.ord.sublist (List.eraseIdx_sublist _ _)⟩
theorem Good.filter {l : List S32} (h : Good l) (p : S32 → Bool) : Good (l.filter p) := ⟨fun y hy => h.ok y (List.mem_filter.1 hy).1, h.ord.sublist List.filter_sublist⟩
theorem Good.len {l : List S32} (h : Good l) : ∀ y ∈ l, y.f2.length ≤ 64 := fun y hy => (check_ok (h.ok y hy)).2.2.2.2.2
theorem Good.seq {l : List S32} (h : Good l) : ∀ y ∈ l, 0 ≤ y.f1 ∧ y.f1 ≤ 1099511627776 := fun y hy => by
 have := check_ok (h.ok y hy)
 omega
theorem Good.mono {l : List S32} (h : Good l) (x : S32) : ∀ a b, a ≤ b → b < l.length → cmpX (rd_T32 l (b : Nat)) x < 0 → cmpX (rd_T32 l (a : Nat)) x < 0 := fun a b hab hb hc => by
 rcases Nat.lt_or_eq_of_le hab with hlt | rfl
 ·have h1 := List.pairwise_iff_getElem.1 h.ord a b (by omega) hb hlt
  have ea : l[a]'(by omega) = rd_T32 l (a : Nat) := by
   have := rd32_at (l := l) (j := a) (by omega)
   rw [List.getElem?_eq_getElem (by omega)] at this
   exact Option.some.inj this
  have eb : l[b] = rd_T32 l (b : Nat) := by
   have := rd32_at hb
   rw [List.getElem?_eq_getElem hb] at this
   exact Option.some.inj this
  rw [ea, eb] at h1
  rw [cmp_neg] at hc ⊢
  exact bef_trans h1 hc
 ·exact hc
/-- Those ahead of x are the first ones. -/
theorem Good.split {l : List S32} (h : Good l) (x : S32) : (∀ y ∈ l.take (cntX x l), befX y x = true) ∧ ∀ y ∈ l.drop (cntX x l), befX y x = false := by
 induction l with
 | nil => exact ⟨fun _ h => (by simp at h), fun _ h => (by simp at h)⟩
 | cons a t ih =>
  have ht : Good t := ⟨fun y hy => h.ok y (List.mem_cons_of_mem _ hy), (List.pairwise_cons.1 h.ord).2⟩
  obtain ⟨i1, i2⟩ := ih ht
  by_cases ha : befX a x = true
  ·have hc : cntX x (a :: t) = cntX x t + 1 := by
    unfold cntX
    rw [List.countP_cons_of_pos (by rw [decide_eq_true_eq, cmp_neg]; exact ha)]
   rw [hc]
   refine ⟨fun y hy => ?_, fun y hy => i2 y (by simpa using hy)⟩
   rw [List.take_succ_cons] at hy
   rcases List.mem_cons.1 hy with rfl | hy
   ·exact ha
   ·exact i1 y hy
  ·have hall : ∀ y ∈ t, befX y x = false := fun y hy => by
    rw [Bool.eq_false_iff]
    intro hb
    exact ha (bef_trans ((List.pairwise_cons.1 h.ord).1 y hy) hb)
   have hc : cntX x (a :: t) = 0 := by
    unfold cntX
    rw [List.countP_eq_zero]
    intro y hy
    rw [decide_eq_true_eq, cmp_neg]
    rcases List.mem_cons.1 hy with rfl | hy
    ·exact ha
    ·rw [hall y hy]; decide
   rw [hc]
   refine ⟨fun y hy => (by simp at hy), fun y hy => ?_⟩
   rcases List.mem_cons.1 (by simpa using hy) with rfl | hy
   ·simpa using ha
   ·exact hall y hy
theorem putC_at (x : S32) : ∀ (l1 l2 : List S32), (∀ y ∈ l1, befX x y = false) → (∀ y ∈ l2, befX x y = true) → putC x (l1 ++ l2) = l1 ++ x :: l2
 | [], [], _, _ => rfl
 | [], y :: t, _, h2 => by
  rw [List.nil_append, putC, if_pos (h2 y List.mem_cons_self)]
  rfl
 | a :: l1, l2, h1, h2 => by
  rw [List.cons_append, putC, if_neg (by rw [h1 a List.mem_cons_self]; decide), putC_at x l1 l2 (fun y hy => h1 y (List.mem_cons_of_mem _ hy)) h2]
  rfl
theorem ownX_no {l : List S32} {x : S32} (h : ownX l x = false) : ∀ y ∈ l, keyOf y ≠ keyOf x := fun y hy e => of_decide_eq_false h (e ▸ List.mem_map_of_mem hy)
theorem Good.put {l : List S32} (h : Good l) {x : S32} (ho : ownX l x = false) : putC x l = l.take (cntX x l) ++ x :: l.drop (cntX x l) := by
 obtain ⟨h1, h2⟩ := h.split x
 have := putC_at x (l.take (cntX x l)) (l.drop (cntX x l)) (fun y hy => bef_asymm (h1 y hy)) (fun y hy => bef_total (h2 y hy) (ownX_no ho y (List.mem_of_mem_drop hy)))
 rwa [List.take_append_drop] at this
theorem Good.more {l : List S32} (h : Good l) {x : S32} (hx : checkX x = 0) (ho : ownX l x = false) : Good (l.take (cntX x l) ++ x :: l.drop (cntX x l)) := by
 obtain ⟨h1, h2⟩ := h.split x
 refine ⟨fun y hy => ?_, ?_⟩
 ·rcases List.mem_append.1 hy with hy | hy
  ·exact h.ok y (List.mem_of_mem_take hy)
  ·rcases List.mem_cons.1 hy with rfl | hy
   ·exact hx
   ·exact h.ok y (List.mem_of_mem_drop hy)
 ·have ht := h.ord.sublist (List.take_sublist (cntX x l) l)
  have hd := h.ord.sublist (List.drop_sublist (cntX x l) l)
  refine List.pairwise_append.2 ⟨ht, List.pairwise_cons.2 ⟨fun y hy => bef_total (h2 y hy) (ownX_no ho y (List.mem_of_mem_drop hy)), hd⟩, fun a ha b hb => ?_⟩
  rcases List.mem_cons.1 hb with rfl | hb
  ·exact h1 a ha
  ·have := h.ord
   rw [← List.take_append_drop (cntX x l) l] at this
   exact (List.pairwise_append.1 this).2.2 a ha b hb
theorem relF_good : ∀ (n : Nat) {now : List Int} {out left : List S32}, Good left → Good (relF n now out left).2
 | 0, _, _, _, h => h
 | n + 1, now, out, left, h => by
  rw [relF]
  split
  ·exact relF_good n (h.erase _)
  ·exact h
theorem relF_len : ∀ (n : Nat) {now : List Int} {out left : List S32}, (relF n now out left).2.length ≤ left.length
 | 0, _, _, _ => Nat.le_refl _
 | n + 1, now, out, left => by
  rw [relF]
  split
  ·exact Nat.le_trans (relF_len n) (List.length_eraseIdx_le _ _)
  ·exact Nat.le_refl _
theorem take_good {room : Int} {l : List S32} (h : Good l) (known : List Int) (x : S32) : Good (takeF room l known x).1 := by
 unfold takeF
 split
 ·split
  ·rename_i hx
   split
   ·exact h
   ·rename_i hw
    split
    ·exact relF_good _ h
    ·split
     ·exact h
     ·refine h.more hx ?_
      simp only [Bool.or_eq_true, not_or, Bool.not_eq_true] at hw
      exact hw.2
  ·exact h
 ·exact h
theorem take_room {room : Int} {l : List S32} (h : (l.length : Int) ≤ room) (known : List Int) (x : S32) : ((takeF room l known x).1.length : Int) ≤ room := by
 unfold takeF
 split
 ·split
  ·split
   ·exact h
   ·split
    ·have := relF_len l.length (now := (tickC known x.f0.f1).1) (out := [x]) (left := l)
     show ((relF l.length (tickC known x.f0.f1).1 [x] l).2.length : Int) ≤ room
     omega
    ·split
     ·exact h
     ·simp only [List.length_append, List.length_take, List.length_cons, List.length_drop]
      omega
  ·exact h
 ·exact h
/-- Take of the program. -/
theorem take13_calls {w : World} {base : Nat} {P : Nat → Prop} {g : Nat} {room : Int} {l : List S32} (hB : BufI w base P g room l) (hG : Good l) (hroom : (l.length : Int) ≤ room) (hr2 : room ≤ 256) (A0 : Option Addr) (c0 : Nat) (known : List Int) (hk : Kd.C (Kd.int .i64) w A0 known.length known) (hkc : known.length ≤ c0)
  (x : S32) (A3 : Option Addr) (c3 : Nat) {X : Nat → Prop} (hxF : Kd.F (Kd.int .i64) w X A3 x.f2.length x.f2) (hXP : ∀ k, X k → ¬ P k) (hx3 : x.f2.length ≤ c3) (hs : x.f7.size < 4611686018427387904) :
  Calls Try.prog 13 #[.pointer (some ⟨g, 0, none⟩), .slice A0 known.length c0, .agg (chA x (.slice A3 x.f2.length c3))] w (TakeB w base P g room (takeF room l known x)) := by
 have hn : l.length < 1000 := by omega
 unfold takeF
 by_cases c1 : chkC known = 0
 ·rw [if_pos c1]
  by_cases c2 : checkX x = 0
  ·rw [if_pos c2]
   cases hw : withinX known x with
   | true =>
    rw [Bool.true_or, if_pos rfl]
    exact take_within hB A0 c0 known hk hkc x A3 c3 (Kd.F_now hxF) hx3 hs c1 c2 hw
   | false =>
    rw [Bool.false_or]
    cases ho : ownX l x with
    | true =>
     rw [if_pos rfl]
     exact take_own hB A0 c0 known hk hkc x A3 c3 (Kd.F_now hxF) hx3 hs c1 c2 hw ho
    | false =>
     rw [if_neg (by decide)]
     cases hr : ripeC known x with
     | true =>
      rw [if_pos rfl]
      exact take_ripe hB A0 c0 known hk hkc x A3 c3 (Kd.F_now hxF) hx3 hs c1 c2 hw ho hr hn hG.len
     | false =>
      rw [if_neg (by decide)]
      by_cases hf : room ≤ l.length
      ·rw [if_pos hf]
       exact take_full hB A0 c0 known hk hkc x A3 c3 (Kd.F_now hxF) hx3 hs c1 c2 hw ho hr hf
      ·rw [if_neg hf]
       exact take_put hB A0 c0 known hk hkc x A3 c3 (Kd.F_now hxF) hx3 hs c1 c2 hw ho hr hf hn hG.seq (hG.mono x) hxF hXP
  ·rw [if_neg c2]
   exact take_bad hB A0 c0 known hk hkc x A3 c3 (Kd.F_now hxF) hx3 hs c1 c2 _
 ·rw [if_neg c1]
  exact take_chk hB A0 c0 known hk hkc x A3 c3 (Kd.F_now hxF) hx3 c1 _
theorem ref_tick_is (l : List Int) (x : S32) (k : Nat) (hk : 300 < k) : topiaryref09_tick.f k l x.f0.f0 x.f0.f1 x.f1 x.f2 x.f3 x.f4.f0 x.f4.f1 x.f5.f0 x.f5.f1 x.f6.f0 x.f6.f1 x.f7 x.f8 = some (tickC l x.f0.f1).1 := by
 unfold topiaryref09_tick.f
 rw [ref_Tick_is l _ k hk, Option.bind_some]
theorem ref_copy_is (y : S32) (h : y.f2.length ≤ 64) : topiaryref05_Copy.f y.f0.f0 y.f0.f1 y.f1 y.f2 y.f3 y.f4.f0 y.f4.f1 y.f5.f0 y.f5.f1 y.f6.f0 y.f6.f1 y.f7 y.f8 = some (y.f0.f0, y.f0.f1, y.f1, y.f2, y.f3, y.f4.f0, y.f4.f1, y.f5.f0, y.f5.f1, y.f6.f0, y.f6.f1, y.f7, y.f8) := by
 unfold topiaryref05_Copy.f
 rw [Option.bind_some, if_pos (by simp only [List.length_nil]; omega), List.nil_append]
theorem next_is {l : List S32} (h : Good l) (known : List Int) (hl : l.length < 90000) (k : Nat) (hk : l.length + 80 < k) : topiaryref09_next.f k known l = some (nextI known l 0) := by
 unfold topiaryref09_next.f
 have := next_loop l known hl (fun x hx => ⟨h.len x hx, h.seq x hx⟩) l.length 0 k (by omega) hk
 rw [List.drop_zero] at this
 exact this
theorem next_lt (known : List Int) : ∀ (l : List S32) (i : Nat), 0 ≤ nextI known l i → ∃ j, j < l.length ∧ nextI known l i = ((i + j : Nat) : Int)
 | [], _, h => by rw [nextI] at h; omega
 | x :: t, i, h => by
  rw [nextI] at h ⊢
  by_cases hr : ripeC known x = true
  ·rw [if_pos hr]
   exact ⟨0, by simp, rfl⟩
  ·rw [if_neg hr] at h ⊢
   obtain ⟨j, h1, h2⟩ := next_lt known t (i + 1) h
   refine ⟨j + 1, by simpa using h1, ?_⟩
   rw [h2]
   congr 1
   omega
theorem own_is (l : List S32) (x : S32) (hl : l.length < 90000) (k : Nat) (hk : l.length < k) : ∃ r, topiaryref07_Own.f k l x.f0.f1 x.f1 = some r ∧ decide (r ≥ 0) = ownX l x := by
 obtain ⟨r, h1, h2⟩ := own_loop l x.f0.f1 x.f1 hl l.length 0 k (by omega) hk
 refine ⟨r, h1, ?_⟩
 unfold ownX
 rw [decide_eq_decide, h2]
 constructor
 ·rintro ⟨j, _, hj, e1, e2⟩
  have := List.mem_map_of_mem (f := keyOf) (List.mem_of_getElem? (rd32_at hj))
  have e : keyOf (rd_T32 l (j : Int)) = keyOf x := by unfold keyOf; rw [e1, e2]
  rwa [e] at this
 ·intro hm
  obtain ⟨y, hy, e⟩ := List.mem_map.1 hm
  obtain ⟨j, hj⟩ := List.mem_iff_getElem?.1 hy
  have hjl := (List.getElem?_eq_some_iff.1 hj).1
  rw [rd32_at hjl] at hj
  injection hj with hj
  unfold keyOf at e
  injection e with e1 e2
  exact ⟨j, Nat.zero_le _, hjl, by rw [hj]; exact e1, by rw [hj]; exact e2⟩
end Go.Proofs.Ytnopjjilpgekfaa.PCa
namespace Go.Proofs.Ytnopjjilpgekfaa.PCa
open Go.RowKit Go.Proofs.YtnopjjilpgekfaaW.PrintWords Go.Proofs.YtnopjjilpgekfaaW.PrintLast Go.Proofs.YtnopjjilpgekfaaW.PrintMore
attribute [local go_sem] max2_int min2_int max_two min_two max_three min_three max_four min_four
set_option linter.unusedVariables false
set_option linter.unusedSimpArgs false
def topiarylaw09_second.f  : Option (Int × Int × Int × List Int × Int × Int × Int × Int × Int × Int × Int × ByteArray × ByteArray) := some (2, 1, 1, (([1] : List Int)), 5, 1, 0, 0, 0, 0, 0, (⟨#[]⟩ : ByteArray), (⟨#[97]⟩ : ByteArray))
set_option maxHeartbeats 8000000 in
set_option maxRecDepth 100000 in
theorem topiarylaw09_second.calls  (r1 : Int) (r2 : Int) (r3 : Int) (r4 : List Int) (r5 : Int) (r6 : Int) (r7 : Int) (r8 : Int) (r9 : Int) (r10 : Int) (r11 : Int) (r12 : ByteArray) (r13 : ByteArray) (w : World) (h : topiarylaw09_second.f  = some (r1, r2, r3, r4, r5, r6, r7, r8, r9, r10, r11, r12, r13)) :
  Calls Try.prog 28 #[] w fun e w' => ∃ v3_ : Value, e = .returned (.agg #[.int .i64 r1, .int .i64 r2, .int .i64 r3, v3_, .int .i64 r5, .int .i64 r6, .int .i64 r7, .int .i64 r8, .int .i64 r9, .int .i64 r10, .int .i64 r11, .string r12, .string r13]) ∧ Kd.R (Kd.int .i64) 3 w' w.heap.size (fun _ => True) v3_ r4 ∧ Below w.heap.size w w' := by
 have hu32 := Try.underlying32
 have hu30 := Try.underlying30
 have HB := Aside0.mk (Below.refl w.heap.size w)
 have H : (some (2, 1, 1, (([1] : List Int)), 5, 1, 0, 0, 0, 0, 0, (⟨#[]⟩ : ByteArray), (⟨#[97]⟩ : ByteArray))) = some (r1, r2, r3, r4, r5, r6, r7, r8, r9, r10, r11, r12, r13) := h
 clear h
 obtain ⟨y410, hy410⟩ : ∃ y_ : List Int, y_ = (([1] : List Int)) := ⟨_, rfl⟩
 replace H : (some (2, 1, 1, y410, 5, 1, 0, 0, 0, 0, 0, (⟨#[]⟩ : ByteArray), (⟨#[97]⟩ : ByteArray))) = some (r1, r2, r3, r4, r5, r6, r7, r8, r9, r10, r11, r12, r13) := by first | (rw [hy410]; with_reducible exact H) | (have H2_ := (Option.bind_some _ _).symm.trans H; rw [hy410]; with_reducible exact H2_) | (have H2_ := (Option.bind_some _ _).symm.trans H; with_reducible exact H2_) | with_reducible exact H | (rw [hy410]; exact H) | exact H
 have Ny410 := Aside0.mk hy410
 clear hy410
 simp only [Option.some.injEq, Prod.mk.injEq] at H
 obtain ⟨rfl, rfl, rfl, rfl, rfl, rfl, rfl, rfl, rfl, rfl, rfl, rfl, rfl⟩ := H
 go_enter Try.func28, Try.ntmps28
 go_wp2_with (first | ((with_reducible refine gate_dst (N := 0) rfl ?_); refine box_event ?hg (N := 0) ?hd (cs := #[.int .i64 0, .int .i64 0, .int .i64 0, .slice none 0 0, .int .i64 0, .int .i64 0, .int .i64 0, .int .i64 0, .int .i64 0, .int .i64 0, .int .i64 0, .string (⟨#[]⟩ : ByteArray), .string (⟨#[]⟩ : ByteArray)]) (t := 32) ?hr ?_; (case hd => rfl); (case hg => rfl); (case hr => first | (go_simp; done) | (go_simp; rfl)); intro gb409 hg w1 hbox hb; have n0_ := Aside0.mk (below_step (by repeat (first | (with_reducible first | exact HB.out | apply below_alloc | apply pw_below_drewN | apply below_drew1) | exact HB.out)) hb); have n1_ := Aside0.mk (hbox); have n2_ := Aside0.mk ((by rw [hg]; exact (below_size (by repeat (first | (with_reducible first | exact HB.out | apply below_alloc | apply pw_below_drewN | apply below_drew1) | exact HB.out))) : w.heap.size ≤ gb409)); have n3_ := Aside0.mk ((by rw [hg]; exact (below_size (by repeat (first | (with_reducible first | exact HB.out | apply below_alloc | apply pw_below_drewN | apply below_drew1) | exact HB.out))) : w.heap.size ≤ gb409)); clear HB; have HB := n0_; have BK409 := n1_; have GW409 := n2_; have GE409 := n3_; clear n0_ n1_ n2_ n3_; clear hb hbox hg) | ((with_reducible refine gate_dst (N := 2) rfl ?_); refine Kd.R_lit (Kd.int .i64) _ 3 ?hg (N := 2) ?hd (xs := ([1] : List Int)) (inner := [.int .i64 1]) (ok := fun _ => True) (okp := fun _ => True) ?hr ?hp (fun _ hk => hk) trivial (Below.refl _ _) (Nat.le_refl _) (by simp) ?_; (case hd => rfl); (case hg => rfl); (case hr => first | (go_simp; done) | (go_simp; rfl)); (case hp => exact (Reps.one (show Kd.M (Kd.int .i64) _ _ _ 1 [.int .i64 1] from rfl) (Reps.none _ _))); intro v411 w2 ho3 hb hg_ hnew_; clear hg_ hnew_; (first | rw [← Ny410.out] at ho3 | (simp only [Int.reduceToNat] at ho3; rw [← Ny410.out] at ho3)); have n0_ := Aside0.mk (Kd.R_lower ho3 (below_size (by repeat (first | (with_reducible first | exact HB.out | apply below_alloc | apply pw_below_drewN | apply below_drew1 | refine below_set ?_ GE409.out) | exact HB.out)))); have n1_ := Aside0.mk (blk_below (g := gb409) (o := .cells #[.int .i64 0, .int .i64 0, .int .i64 0, .slice none 0 0, .int .i64 0, .int .i64 0, .int .i64 0, .int .i64 0, .int .i64 0, .int .i64 0, .int .i64 0, .string (⟨#[]⟩ : ByteArray), .string (⟨#[]⟩ : ByteArray)] 32 (0, 0)) (by (with_reducible repeat (first | refine blk_drewN ?_ _ | refine blk_drew ?_ | refine blk_alloc ?_ _)); exact BK409.out) hb); have n2_ := Aside0.mk (below_step (by repeat (first | (with_reducible first | exact HB.out | apply below_alloc | apply pw_below_drewN | apply below_drew1 | refine below_set ?_ GE409.out) | exact HB.out)) hb); clear BK409; clear HB; have HO412 := n0_; have BK409 := n1_; have HB := n2_; clear n0_ n1_ n2_; clear hb ho3; obtain ⟨Ao4, co4, eo4⟩ := Kd.R_slice HO412.out; subst eo4; obtain ⟨hcz5_0, hcz5_1, hcz5_2, hcz5_3, hcz5_4, hcz5_5, hcz5_6, hcz5_7, hcz5_8, hcz5_9, hcz5_10, hcz5_11, hcz5_12⟩ := cells13 BK409.out; obtain ⟨hfz5_0, hfz5_1, hfz5_2, hfz5_3, hfz5_4, hfz5_5, hfz5_6, hfz5_7, hfz5_8, hfz5_9, hfz5_10, hfz5_11, hfz5_12⟩ := froz13 BK409.out))
 refine bodyPost_ret (results_cell_row rfl _ _ gb409 32 #[.int .i64 2, .int .i64 1, .int .i64 1, .slice Ao4 y410.length co4, .int .i64 5, .int .i64 1, .int .i64 0, .int .i64 0, .int .i64 0, .int .i64 0, .int .i64 0, .string (⟨#[]⟩ : ByteArray), .string (⟨#[97]⟩ : ByteArray)] (0, 0) _ rfl (by (with_reducible repeat (first | refine blk_drewN ?_ _ | refine blk_drew ?_ | refine blk_alloc ?_ _)); refine blk_put (cs := #[.int .i64 2, .int .i64 1, .int .i64 1, .slice Ao4 y410.length co4, .int .i64 5, .int .i64 1, .int .i64 0, .int .i64 0, .int .i64 0, .int .i64 0, .int .i64 0, .string (⟨#[]⟩ : ByteArray), .string (⟨#[]⟩ : ByteArray)]) ?_ 12 _ rfl; (with_reducible repeat (first | refine blk_drewN ?_ _ | refine blk_drew ?_ | refine blk_alloc ?_ _)); refine blk_put (cs := #[.int .i64 2, .int .i64 1, .int .i64 1, .slice Ao4 y410.length co4, .int .i64 5, .int .i64 1, .int .i64 0, .int .i64 0, .int .i64 0, .int .i64 0, .int .i64 0, .string (⟨#[]⟩ : ByteArray), .string (⟨#[]⟩ : ByteArray)]) ?_ 11 _ rfl; (with_reducible repeat (first | refine blk_drewN ?_ _ | refine blk_drew ?_ | refine blk_alloc ?_ _)); refine blk_put (cs := #[.int .i64 2, .int .i64 1, .int .i64 1, .slice Ao4 y410.length co4, .int .i64 5, .int .i64 1, .int .i64 0, .int .i64 0, .int .i64 0, .int .i64 0, .int .i64 0, .string (⟨#[]⟩ : ByteArray), .string (⟨#[]⟩ : ByteArray)]) ?_ 10 _ rfl; (with_reducible repeat (first | refine blk_drewN ?_ _ | refine blk_drew ?_ | refine blk_alloc ?_ _)); refine blk_put (cs := #[.int .i64 2, .int .i64 1, .int .i64 1, .slice Ao4 y410.length co4, .int .i64 5, .int .i64 1, .int .i64 0, .int .i64 0, .int .i64 0, .int .i64 0, .int .i64 0, .string (⟨#[]⟩ : ByteArray), .string (⟨#[]⟩ : ByteArray)]) ?_ 9 _ rfl; (with_reducible repeat (first | refine blk_drewN ?_ _ | refine blk_drew ?_ | refine blk_alloc ?_ _)); refine blk_put (cs := #[.int .i64 2, .int .i64 1, .int .i64 1, .slice Ao4 y410.length co4, .int .i64 5, .int .i64 1, .int .i64 0, .int .i64 0, .int .i64 0, .int .i64 0, .int .i64 0, .string (⟨#[]⟩ : ByteArray), .string (⟨#[]⟩ : ByteArray)]) ?_ 8 _ rfl; (with_reducible repeat (first | refine blk_drewN ?_ _ | refine blk_drew ?_ | refine blk_alloc ?_ _)); refine blk_put (cs := #[.int .i64 2, .int .i64 1, .int .i64 1, .slice Ao4 y410.length co4, .int .i64 5, .int .i64 1, .int .i64 0, .int .i64 0, .int .i64 0, .int .i64 0, .int .i64 0, .string (⟨#[]⟩ : ByteArray), .string (⟨#[]⟩ : ByteArray)]) ?_ 7 _ rfl; (with_reducible repeat (first | refine blk_drewN ?_ _ | refine blk_drew ?_ | refine blk_alloc ?_ _)); refine blk_put (cs := #[.int .i64 2, .int .i64 1, .int .i64 1, .slice Ao4 y410.length co4, .int .i64 5, .int .i64 1, .int .i64 0, .int .i64 0, .int .i64 0, .int .i64 0, .int .i64 0, .string (⟨#[]⟩ : ByteArray), .string (⟨#[]⟩ : ByteArray)]) ?_ 6 _ rfl; (with_reducible repeat (first | refine blk_drewN ?_ _ | refine blk_drew ?_ | refine blk_alloc ?_ _)); refine blk_put (cs := #[.int .i64 2, .int .i64 1, .int .i64 1, .slice Ao4 y410.length co4, .int .i64 5, .int .i64 0, .int .i64 0, .int .i64 0, .int .i64 0, .int .i64 0, .int .i64 0, .string (⟨#[]⟩ : ByteArray), .string (⟨#[]⟩ : ByteArray)]) ?_ 5 _ rfl; (with_reducible repeat (first | refine blk_drewN ?_ _ | refine blk_drew ?_ | refine blk_alloc ?_ _)); refine blk_put (cs := #[.int .i64 2, .int .i64 1, .int .i64 1, .slice Ao4 y410.length co4, .int .i64 0, .int .i64 0, .int .i64 0, .int .i64 0, .int .i64 0, .int .i64 0, .int .i64 0, .string (⟨#[]⟩ : ByteArray), .string (⟨#[]⟩ : ByteArray)]) ?_ 4 _ rfl; (with_reducible repeat (first | refine blk_drewN ?_ _ | refine blk_drew ?_ | refine blk_alloc ?_ _)); refine blk_put (cs := #[.int .i64 2, .int .i64 1, .int .i64 1, .slice none 0 0, .int .i64 0, .int .i64 0, .int .i64 0, .int .i64 0, .int .i64 0, .int .i64 0, .int .i64 0, .string (⟨#[]⟩ : ByteArray), .string (⟨#[]⟩ : ByteArray)]) ?_ 3 _ rfl; (with_reducible repeat (first | refine blk_drewN ?_ _ | refine blk_drew ?_ | refine blk_alloc ?_ _)); refine blk_put (cs := #[.int .i64 2, .int .i64 1, .int .i64 0, .slice none 0 0, .int .i64 0, .int .i64 0, .int .i64 0, .int .i64 0, .int .i64 0, .int .i64 0, .int .i64 0, .string (⟨#[]⟩ : ByteArray), .string (⟨#[]⟩ : ByteArray)]) ?_ 2 _ rfl; (with_reducible repeat (first | refine blk_drewN ?_ _ | refine blk_drew ?_ | refine blk_alloc ?_ _)); refine blk_put (cs := #[.int .i64 2, .int .i64 0, .int .i64 0, .slice none 0 0, .int .i64 0, .int .i64 0, .int .i64 0, .int .i64 0, .int .i64 0, .int .i64 0, .int .i64 0, .string (⟨#[]⟩ : ByteArray), .string (⟨#[]⟩ : ByteArray)]) ?_ 1 _ rfl; (with_reducible repeat (first | refine blk_drewN ?_ _ | refine blk_drew ?_ | refine blk_alloc ?_ _)); refine blk_put (cs := #[.int .i64 0, .int .i64 0, .int .i64 0, .slice none 0 0, .int .i64 0, .int .i64 0, .int .i64 0, .int .i64 0, .int .i64 0, .int .i64 0, .int .i64 0, .string (⟨#[]⟩ : ByteArray), .string (⟨#[]⟩ : ByteArray)]) ?_ 0 _ rfl; (with_reducible repeat (first | refine blk_drewN ?_ _ | refine blk_drew ?_ | refine blk_alloc ?_ _)); exact BK409.out) Try.underlying32 rfl (by kernel_rfl)) rfl ?_
 exact ⟨_, by first | rfl | (simp [errW_none, errW_some] <;> rfl) | (simp [*, errW_none, errW_some] <;> rfl), by (with_reducible repeat (first | apply Kd.R_alloc | apply Kd.R_drewN | apply Kd.R_drew)); exact Kd.R_mono (Kd.R_far (p := ⟨gb409, 12, none⟩) (Kd.R_far (p := ⟨gb409, 11, none⟩) (Kd.R_far (p := ⟨gb409, 10, none⟩) (Kd.R_far (p := ⟨gb409, 9, none⟩) (Kd.R_far (p := ⟨gb409, 8, none⟩) (Kd.R_far (p := ⟨gb409, 7, none⟩) (Kd.R_far (p := ⟨gb409, 6, none⟩) (Kd.R_far (p := ⟨gb409, 5, none⟩) (Kd.R_far (p := ⟨gb409, 4, none⟩) (Kd.R_far (p := ⟨gb409, 3, none⟩) (Kd.R_far (p := ⟨gb409, 2, none⟩) (Kd.R_far (p := ⟨gb409, 1, none⟩) (Kd.R_far (p := ⟨gb409, 0, none⟩) (Kd.R_types HO412.out BK409.out (by decide)) (fun _ hk => hk.2) (.int .i64 2)) (fun _ hk => hk.2) (.int .i64 1)) (fun _ hk => hk.2) (.int .i64 1)) (fun _ hk => hk.2) (.slice Ao4 y410.length co4)) (fun _ hk => hk.2) (.int .i64 5)) (fun _ hk => hk.2) (.int .i64 1)) (fun _ hk => hk.2) (.int .i64 0)) (fun _ hk => hk.2) (.int .i64 0)) (fun _ hk => hk.2) (.int .i64 0)) (fun _ hk => hk.2) (.int .i64 0)) (fun _ hk => hk.2) (.int .i64 0)) (fun _ hk => hk.2) (.string (⟨#[]⟩ : ByteArray))) (fun _ hk => hk.2) (.string (⟨#[97]⟩ : ByteArray))) (fun _ hk => trivial), by repeat (first | (with_reducible first | exact HB.out | apply below_alloc | apply pw_below_drewN | apply below_drew1 | refine below_set ?_ GE409.out) | exact HB.out)⟩
def topiarylaw09_first.f  : Option (Int × Int × Int × List Int × Int × Int × Int × Int × Int × Int × Int × ByteArray × ByteArray) := some (1, 0, 1, ([] : List Int), 1, 1, 0, 0, 0, 0, 0, (⟨#[112]⟩ : ByteArray), (⟨#[]⟩ : ByteArray))
set_option maxHeartbeats 8000000 in
set_option maxRecDepth 100000 in
theorem topiarylaw09_first.calls  (r1 : Int) (r2 : Int) (r3 : Int) (r4 : List Int) (r5 : Int) (r6 : Int) (r7 : Int) (r8 : Int) (r9 : Int) (r10 : Int) (r11 : Int) (r12 : ByteArray) (r13 : ByteArray) (w : World) (h : topiarylaw09_first.f  = some (r1, r2, r3, r4, r5, r6, r7, r8, r9, r10, r11, r12, r13)) :
  Calls Try.prog 29 #[] w fun e w' => ∃ v3_ : Value, e = .returned (.agg #[.int .i64 r1, .int .i64 r2, .int .i64 r3, v3_, .int .i64 r5, .int .i64 r6, .int .i64 r7, .int .i64 r8, .int .i64 r9, .int .i64 r10, .int .i64 r11, .string r12, .string r13]) ∧ Kd.R (Kd.int .i64) 3 w' w.heap.size (fun _ => True) v3_ r4 ∧ Below w.heap.size w w' := by
 have hu32 := Try.underlying32
 have hu30 := Try.underlying30
 have HB := Aside0.mk (Below.refl w.heap.size w)
 have H : (some (1, 0, 1, ([] : List Int), 1, 1, 0, 0, 0, 0, 0, (⟨#[112]⟩ : ByteArray), (⟨#[]⟩ : ByteArray))) = some (r1, r2, r3, r4, r5, r6, r7, r8, r9, r10, r11, r12, r13) := h
 clear h
 simp only [Option.some.injEq, Prod.mk.injEq] at H
 obtain ⟨rfl, rfl, rfl, rfl, rfl, rfl, rfl, rfl, rfl, rfl, rfl, rfl, rfl⟩ := H
 go_enter Try.func29, Try.ntmps29
 go_wp2_with (first | ((with_reducible refine gate_dst (N := 0) rfl ?_); refine box_event ?hg (N := 0) ?hd (cs := #[.int .i64 0, .int .i64 0, .int .i64 0, .slice none 0 0, .int .i64 0, .int .i64 0, .int .i64 0, .int .i64 0, .int .i64 0, .int .i64 0, .int .i64 0, .string (⟨#[]⟩ : ByteArray), .string (⟨#[]⟩ : ByteArray)]) (t := 32) ?hr ?_; (case hd => rfl); (case hg => rfl); (case hr => first | (go_simp; done) | (go_simp; rfl)); intro gb413 hg w1 hbox hb; have n0_ := Aside0.mk (below_step (by repeat (first | (with_reducible first | exact HB.out | apply below_alloc | apply pw_below_drewN | apply below_drew1) | exact HB.out)) hb); have n1_ := Aside0.mk (hbox); have n2_ := Aside0.mk ((by rw [hg]; exact (below_size (by repeat (first | (with_reducible first | exact HB.out | apply below_alloc | apply pw_below_drewN | apply below_drew1) | exact HB.out))) : w.heap.size ≤ gb413)); have n3_ := Aside0.mk ((by rw [hg]; exact (below_size (by repeat (first | (with_reducible first | exact HB.out | apply below_alloc | apply pw_below_drewN | apply below_drew1) | exact HB.out))) : w.heap.size ≤ gb413)); clear HB; have HB := n0_; have BK413 := n1_; have GW413 := n2_; have GE413 := n3_; clear n0_ n1_ n2_ n3_; clear hb hbox hg) | ((with_reducible refine gate_dst (N := 1) rfl ?_); refine box_event ?hg (N := 1) ?hd (cs := #[.int .i64 0, .int .i64 0]) (t := 30) ?hr ?_; (case hd => rfl); (case hg => rfl); (case hr => first | (go_simp; done) | (go_simp; rfl)); intro gb414 hg w2 hbox hb; have n0_ := Aside0.mk (blk_below (g := gb413) (o := .cells #[.int .i64 0, .int .i64 0, .int .i64 0, .slice none 0 0, .int .i64 0, .int .i64 0, .int .i64 0, .int .i64 0, .int .i64 0, .int .i64 0, .int .i64 0, .string (⟨#[]⟩ : ByteArray), .string (⟨#[]⟩ : ByteArray)] 32 (0, 0)) (by (with_reducible repeat (first | refine blk_drewN ?_ _ | refine blk_drew ?_ | refine blk_alloc ?_ _)); exact BK413.out) hb); have n1_ := Aside0.mk (below_step (by repeat (first | (with_reducible first | exact HB.out | apply below_alloc | apply pw_below_drewN | apply below_drew1 | refine below_set ?_ GE413.out) | exact HB.out)) hb); have n2_ := Aside0.mk (hbox); have n3_ := Aside0.mk ((by rw [hg]; exact (below_size (by repeat (first | (with_reducible first | exact HB.out | apply below_alloc | apply pw_below_drewN | apply below_drew1 | refine below_set ?_ GE413.out) | exact HB.out))) : w.heap.size ≤ gb414)); have n4_ := Aside0.mk ((by rw [hg]; exact (below_size (by repeat (first | (with_reducible first | exact HB.out | apply below_alloc | apply pw_below_drewN | apply below_drew1 | refine below_set ?_ GE413.out) | exact HB.out))) : w.heap.size ≤ gb414)); have n5_ := Aside0.mk ((by rw [hg]; exact Nat.ne_of_lt (blk_lt (g := gb413) (o := .cells #[.int .i64 0, .int .i64 0, .int .i64 0, .slice none 0 0, .int .i64 0, .int .i64 0, .int .i64 0, .int .i64 0, .int .i64 0, .int .i64 0, .int .i64 0, .string (⟨#[]⟩ : ByteArray), .string (⟨#[]⟩ : ByteArray)] 32 (0, 0)) (by (with_reducible repeat (first | refine blk_drewN ?_ _ | refine blk_drew ?_ | refine blk_alloc ?_ _)); exact BK413.out)) : gb413 ≠ gb414)); have n6_ := Aside0.mk ((by rw [hg]; exact Nat.ne_of_gt (blk_lt (g := gb413) (o := .cells #[.int .i64 0, .int .i64 0, .int .i64 0, .slice none 0 0, .int .i64 0, .int .i64 0, .int .i64 0, .int .i64 0, .int .i64 0, .int .i64 0, .int .i64 0, .string (⟨#[]⟩ : ByteArray), .string (⟨#[]⟩ : ByteArray)] 32 (0, 0)) (by (with_reducible repeat (first | refine blk_drewN ?_ _ | refine blk_drew ?_ | refine blk_alloc ?_ _)); exact BK413.out)) : gb414 ≠ gb413)); clear BK413; clear HB; have BK413 := n0_; have HB := n1_; have BK414 := n2_; have GW414 := n3_; have GE414 := n4_; have NB413_414 := n5_; have NB414_413 := n6_; clear n0_ n1_ n2_ n3_ n4_ n5_ n6_; clear hb hbox hg; have hnb3 := NB414_413.out; have hnc3 := NB413_414.out; have hcz4_0 : w2.cell? ⟨gb414, 0, none⟩ = some (.int .i64 0) := (blk_cell BK414.out 0).trans rfl; have hcz4_1 : w2.cell? ⟨gb414, 1, none⟩ = some (.int .i64 0) := (blk_cell BK414.out 1).trans rfl; have hfz4_0 := blk_frozen BK414.out 0; have hfz4_1 := blk_frozen BK414.out 1; obtain ⟨hcz5_0, hcz5_1, hcz5_2, hcz5_3, hcz5_4, hcz5_5, hcz5_6, hcz5_7, hcz5_8, hcz5_9, hcz5_10, hcz5_11, hcz5_12⟩ := cells13 BK413.out; obtain ⟨hfz5_0, hfz5_1, hfz5_2, hfz5_3, hfz5_4, hfz5_5, hfz5_6, hfz5_7, hfz5_8, hfz5_9, hfz5_10, hfz5_11, hfz5_12⟩ := froz13 BK413.out))
 refine bodyPost_ret (results_cell_row rfl _ _ gb413 32 #[.int .i64 1, .int .i64 0, .int .i64 1, .slice none 0 0, .int .i64 1, .int .i64 1, .int .i64 0, .int .i64 0, .int .i64 0, .int .i64 0, .int .i64 0, .string (⟨#[112]⟩ : ByteArray), .string (⟨#[]⟩ : ByteArray)] (0, 0) _ rfl (by (with_reducible repeat (first | refine blk_drewN ?_ _ | refine blk_drew ?_ | refine blk_alloc ?_ _)); refine blk_put (cs := #[.int .i64 1, .int .i64 0, .int .i64 1, .slice none 0 0, .int .i64 1, .int .i64 1, .int .i64 0, .int .i64 0, .int .i64 0, .int .i64 0, .int .i64 0, .string (⟨#[112]⟩ : ByteArray), .string (⟨#[]⟩ : ByteArray)]) ?_ 12 _ rfl; (with_reducible repeat (first | refine blk_drewN ?_ _ | refine blk_drew ?_ | refine blk_alloc ?_ _)); refine blk_put (cs := #[.int .i64 1, .int .i64 0, .int .i64 1, .slice none 0 0, .int .i64 1, .int .i64 1, .int .i64 0, .int .i64 0, .int .i64 0, .int .i64 0, .int .i64 0, .string (⟨#[]⟩ : ByteArray), .string (⟨#[]⟩ : ByteArray)]) ?_ 11 _ rfl; (with_reducible repeat (first | refine blk_drewN ?_ _ | refine blk_drew ?_ | refine blk_alloc ?_ _)); refine blk_put (cs := #[.int .i64 1, .int .i64 0, .int .i64 1, .slice none 0 0, .int .i64 1, .int .i64 1, .int .i64 0, .int .i64 0, .int .i64 0, .int .i64 0, .int .i64 0, .string (⟨#[]⟩ : ByteArray), .string (⟨#[]⟩ : ByteArray)]) ?_ 10 _ rfl; (with_reducible repeat (first | refine blk_drewN ?_ _ | refine blk_drew ?_ | refine blk_alloc ?_ _)); refine blk_put (cs := #[.int .i64 1, .int .i64 0, .int .i64 1, .slice none 0 0, .int .i64 1, .int .i64 1, .int .i64 0, .int .i64 0, .int .i64 0, .int .i64 0, .int .i64 0, .string (⟨#[]⟩ : ByteArray), .string (⟨#[]⟩ : ByteArray)]) ?_ 9 _ rfl; (with_reducible repeat (first | refine blk_drewN ?_ _ | refine blk_drew ?_ | refine blk_alloc ?_ _)); refine blk_put (cs := #[.int .i64 1, .int .i64 0, .int .i64 1, .slice none 0 0, .int .i64 1, .int .i64 1, .int .i64 0, .int .i64 0, .int .i64 0, .int .i64 0, .int .i64 0, .string (⟨#[]⟩ : ByteArray), .string (⟨#[]⟩ : ByteArray)]) ?_ 8 _ rfl; (with_reducible repeat (first | refine blk_drewN ?_ _ | refine blk_drew ?_ | refine blk_alloc ?_ _)); refine blk_put (cs := #[.int .i64 1, .int .i64 0, .int .i64 1, .slice none 0 0, .int .i64 1, .int .i64 1, .int .i64 0, .int .i64 0, .int .i64 0, .int .i64 0, .int .i64 0, .string (⟨#[]⟩ : ByteArray), .string (⟨#[]⟩ : ByteArray)]) ?_ 7 _ rfl; (with_reducible repeat (first | refine blk_drewN ?_ _ | refine blk_drew ?_ | refine blk_alloc ?_ _)); refine blk_put (cs := #[.int .i64 1, .int .i64 0, .int .i64 1, .slice none 0 0, .int .i64 1, .int .i64 1, .int .i64 0, .int .i64 0, .int .i64 0, .int .i64 0, .int .i64 0, .string (⟨#[]⟩ : ByteArray), .string (⟨#[]⟩ : ByteArray)]) ?_ 6 _ rfl; (with_reducible repeat (first | refine blk_drewN ?_ _ | refine blk_drew ?_ | refine blk_alloc ?_ _)); refine blk_put (cs := #[.int .i64 1, .int .i64 0, .int .i64 1, .slice none 0 0, .int .i64 1, .int .i64 0, .int .i64 0, .int .i64 0, .int .i64 0, .int .i64 0, .int .i64 0, .string (⟨#[]⟩ : ByteArray), .string (⟨#[]⟩ : ByteArray)]) ?_ 5 _ rfl; (with_reducible repeat (first | refine blk_drewN ?_ _ | refine blk_drew ?_ | refine blk_alloc ?_ _)); refine blk_put (cs := #[.int .i64 1, .int .i64 0, .int .i64 1, .slice none 0 0, .int .i64 0, .int .i64 0, .int .i64 0, .int .i64 0, .int .i64 0, .int .i64 0, .int .i64 0, .string (⟨#[]⟩ : ByteArray), .string (⟨#[]⟩ : ByteArray)]) ?_ 4 _ rfl; (with_reducible repeat (first | refine blk_drewN ?_ _ | refine blk_drew ?_ | refine blk_alloc ?_ _)); refine blk_put (cs := #[.int .i64 1, .int .i64 0, .int .i64 1, .slice none 0 0, .int .i64 0, .int .i64 0, .int .i64 0, .int .i64 0, .int .i64 0, .int .i64 0, .int .i64 0, .string (⟨#[]⟩ : ByteArray), .string (⟨#[]⟩ : ByteArray)]) ?_ 3 _ rfl; (with_reducible repeat (first | refine blk_drewN ?_ _ | refine blk_drew ?_ | refine blk_alloc ?_ _)); refine blk_put (cs := #[.int .i64 1, .int .i64 0, .int .i64 0, .slice none 0 0, .int .i64 0, .int .i64 0, .int .i64 0, .int .i64 0, .int .i64 0, .int .i64 0, .int .i64 0, .string (⟨#[]⟩ : ByteArray), .string (⟨#[]⟩ : ByteArray)]) ?_ 2 _ rfl; (with_reducible repeat (first | refine blk_drewN ?_ _ | refine blk_drew ?_ | refine blk_alloc ?_ _)); refine blk_put (cs := #[.int .i64 1, .int .i64 0, .int .i64 0, .slice none 0 0, .int .i64 0, .int .i64 0, .int .i64 0, .int .i64 0, .int .i64 0, .int .i64 0, .int .i64 0, .string (⟨#[]⟩ : ByteArray), .string (⟨#[]⟩ : ByteArray)]) ?_ 1 _ rfl; (with_reducible repeat (first | refine blk_drewN ?_ _ | refine blk_drew ?_ | refine blk_alloc ?_ _)); refine blk_put (cs := #[.int .i64 0, .int .i64 0, .int .i64 0, .slice none 0 0, .int .i64 0, .int .i64 0, .int .i64 0, .int .i64 0, .int .i64 0, .int .i64 0, .int .i64 0, .string (⟨#[]⟩ : ByteArray), .string (⟨#[]⟩ : ByteArray)]) ?_ 0 _ rfl; (with_reducible repeat (first | refine blk_drewN ?_ _ | refine blk_drew ?_ | refine blk_alloc ?_ _)); refine blk_far ?_ NB413_414.out _; (with_reducible repeat (first | refine blk_drewN ?_ _ | refine blk_drew ?_ | refine blk_alloc ?_ _)); refine blk_far ?_ NB413_414.out _; (with_reducible repeat (first | refine blk_drewN ?_ _ | refine blk_drew ?_ | refine blk_alloc ?_ _)); exact BK413.out) Try.underlying32 rfl (by kernel_rfl)) rfl ?_
 exact ⟨_, by first | rfl | (simp [errW_none, errW_some] <;> rfl) | (simp [*, errW_none, errW_some] <;> rfl), by first | exact Kd.R_nil _ _ _ _ _ | exact Kd.N_nil _ _ _ _ _ | exact Kd.V_nil _ _ _ _ _ | exact Kd.Q_nil _ _ _ _ _ | exact Kd.S_nil _ _ _ _ _, by repeat (first | (with_reducible first | exact HB.out | apply below_alloc | apply pw_below_drewN | apply below_drew1 | refine below_set ?_ GE413.out | refine below_set ?_ GE414.out) | exact HB.out)⟩
def x2 : S32 := ⟨⟨2, 1⟩, 1, [1], 5, ⟨1, 0⟩, ⟨0, 0⟩, ⟨0, 0⟩, ⟨#[]⟩, ⟨#[97]⟩⟩
def x1 : S32 := ⟨⟨1, 0⟩, 1, [], 1, ⟨1, 0⟩, ⟨0, 0⟩, ⟨0, 0⟩, ⟨#[112]⟩, ⟨#[]⟩⟩
theorem take_x2 : takeF 1 [] [] x2 = ([x2], [], 0) := by kernel_rfl
theorem take_x1 : takeF 1 [x2] [] x1 = ([], [x1, x2], 0) := by kernel_rfl
theorem check_x2 : checkX x2 = 0 := by kernel_rfl
theorem good_x2 : Good [x2] := ⟨fun y hy => by rw [List.mem_singleton.1 hy]; exact check_x2, List.pairwise_singleton _ _⟩
def Yes (w : World) (e : Ending) (w' : World) : Prop := e = .returned (.bool true) ∧ Below w.heap.size w w'
set_option maxHeartbeats 8000000 in
set_option maxRecDepth 100000 in
theorem awake_calls (w : World) : Calls Try.prog 17 #[] w (Yes w) := by
 go_enter Try.func17, Try.ntmps17
 go_wp2_with (fail)
 refine (new_calls w 1 (by decide) (by decide)).mono ?_
 rintro e w1 ⟨g, rfl, hb1, hw1⟩
 have HB1 := Aside0.mk hb1.bound
 have HW1 := Aside0.mk hw1
 clear hb1 hw1
 go_wp2_with (fail)
 refine (topiarylaw09_second.calls _ _ _ _ _ _ _ _ _ _ _ _ _ w1 rfl).mono ?_
 rintro e w2 ⟨v2, rfl, hv2, hw2⟩
 obtain ⟨A2, c2, rfl⟩ := Kd.R_slice hv2
 have HV2 := Aside0.mk (Kd.R_mono (Kd.R_bound hv2) (ok' := fun k => w1.heap.size ≤ k ∧ k < w2.heap.size) (fun k hk => ⟨hk.2.1, hk.2.2.1⟩))
 have HW2 := Aside0.mk (HW1.out.trans (hw2.mono HW1.out.size))
 have HB2 := Aside0.mk (HB1.out.below hw2)
 clear hv2 hw2
 go_wp2_with (fail)
 refine (take13_calls HB2.out Good.nil (by decide) (by decide) none 0 [] (Kd.C_nil _ _) (Nat.le_refl _) x2 A2 c2 (Kd.R_F HV2.out) (fun k hk hp => by have := hp.2; omega) (Kd.R_reads' HV2.out).2.1 (by decide)).mono ?_
 rw [take_x2]
 rintro e w3 ⟨P3, O3, v3, rfl, hb3, hs3, hp3, -, -, hk3⟩
 obtain ⟨A3, c3, rfl⟩ := Kd.S_slice hs3
 have HB3 := Aside0.mk hb3.bound
 have HP3 := Aside0.mk hp3
 have HK3 := Aside0.mk ((Kept.of_below HW2.out (fun k => w.heap.size ≤ k)).then_ hk3 (fun k hk => .inl hk.1))
 clear hb3 hs3 hp3 hk3
 go_wp2_with (go_at_call 16; refine (len_calls HB3.out).mono ?_; rintro e w4 ⟨rfl, rfl⟩)
 refine (topiarylaw09_first.calls _ _ _ _ _ _ _ _ _ _ _ _ _ w4 rfl).mono ?_
 rintro e w5 ⟨v5, rfl, hv5, hw5⟩
 obtain ⟨A5, c5, rfl⟩ := Kd.R_slice hv5
 have HV5 := Aside0.mk (Kd.R_mono (Kd.R_bound hv5) (ok' := fun k => w4.heap.size ≤ k ∧ k < w5.heap.size) (fun k hk => ⟨hk.2.1, hk.2.2.1⟩))
 have HK5 := Aside0.mk (HK3.out.below hw5)
 have HB5 := Aside0.mk (HB3.out.below hw5)
 clear hv5 hw5
 go_wp2_with (fail)
 refine (take13_calls HB5.out good_x2 (by decide) (by decide) none 0 [] (Kd.C_nil _ _) (Nat.le_refl _) x1 A5 c5 (Kd.R_F HV5.out) (fun k hk hp => by have := hp.2; omega) (Kd.R_reads' HV5.out).2.1 (by decide)).mono ?_
 rw [take_x1]
 rintro e w6 ⟨P6, O6, v6, rfl, hb6, hs6, hp6, -, -, hk6⟩
 obtain ⟨gm, cap6, rfl, -, -, -⟩ := Kd.S_form hs6 (by decide)
 have HB6 := Aside0.mk hb6
 have HW6 := Aside0.mk ((HK5.out.then_ hk6 (fun k hk => by
  rcases HP3.out k hk.1 with h | h
  ·exact .inl h.1
  ·exact .inr (Nat.le_trans HW2.out.size h))).to_below (fun _ h => h))
 obtain ⟨c6', hcl, hM, hcc, hfr⟩ := Kd.R_elem (Kd.S_R hs6) z32 0 (by decide) (by decide)
 obtain ⟨vm, rfl, hvm⟩ := chM hM
 have q1 : w6.cell? ⟨gm, 4, none⟩ = some (.int .i64 1) := hcc 4 _ rfl
 clear hb6 hs6 hp6 hk6 hcl hM hcc hfr hvm
 go_wp2_with (go_at_call 16; refine (len_calls HB6.out).mono ?_; rintro e w7 ⟨rfl, rfl⟩)
 go_ret
 exact ⟨rfl, HW6.out⟩
def topiaryref02_Same.l0 : Nat → List Int → List Int → Int → Option (Bool)
 | 0, _, _, _ => none
 | k + 1, x0, x1, x5 => if x5 < (x0.length : Int) then (if 0 ≤ x5 then (if x5 < (x1.length : Int) then (if (rd x0 x5) = (rd x1 x5) then (topiaryref02_Same.l0 k x0 x1 (wrap64 (x5 + 1))) else (some false)) else (none)) else (none)) else (some true)
def topiaryref02_Same.f (k : Nat) (l0 : List Int) (l1 : List Int) : Option (Bool) := if (l0.length : Int) = (l1.length : Int) then (topiaryref02_Same.l0 k l0 l1 0) else (some false)
theorem topiaryref02_Same.mono_l : ∀ k, (∀ y0 y1 y2, LeO (topiaryref02_Same.l0 k y0 y1 y2) (topiaryref02_Same.l0 (k + 1) y0 y1 y2))
 | 0 => fun _ _ _ r h => by simp [topiaryref02_Same.l0] at h
 | k + 1 => by
  have ih0 := topiaryref02_Same.mono_l k
  ·intro y0 y1 y2
   unfold topiaryref02_Same.l0
   repeat' first
   | (with_reducible exact ih0 _ _ _)
   | (with_reducible exact LeO.refl _)
   | (with_reducible exact LeO.none _)
   | (with_reducible refine LeO.ite ?_ ?_)
   | (with_reducible refine LeO.bind ?_ (fun _ => ?_))
   | exact ih0 _ _ _
   | exact LeO.none _
   | refine LeO.ite ?_ ?_
   | refine LeO.bind ?_ (fun _ => ?_)
theorem topiaryref02_Same.mono : ∀ a0 a1 k, LeO (topiaryref02_Same.f k a0 a1) (topiaryref02_Same.f (k + 1) a0 a1) := by
 intro a0 a1 k
 have ih0 := topiaryref02_Same.mono_l k
 unfold topiaryref02_Same.f
 repeat' first
   | (with_reducible exact ih0 _ _ _)
   | (with_reducible exact LeO.refl _)
   | (with_reducible exact LeO.none _)
   | (with_reducible refine LeO.ite ?_ ?_)
   | (with_reducible refine LeO.bind ?_ (fun _ => ?_))
   | exact ih0 _ _ _
   | exact LeO.none _
   | refine LeO.ite ?_ ?_
   | refine LeO.bind ?_ (fun _ => ?_)
set_option maxHeartbeats 8000000 in
set_option maxRecDepth 100000 in
theorem topiaryref02_Same.calls (k : Nat) (A0 : Option Addr) (c0 : Nat) (l0 : List Int) (A1 : Option Addr) (c1 : Nat) (l1 : List Int) (r : Bool) (w : World) (hr0 : Kd.C (Kd.int .i64) w A0 l0.length l0) (hc0 : l0.length ≤ c0) (hr1 : Kd.C (Kd.int .i64) w A1 l1.length l1) (hc1 : l1.length ≤ c1) (h : topiaryref02_Same.f k l0 l1 = some r) :
  Calls Try.prog 24 #[.slice A0 l0.length c0, .slice A1 l1.length c1] w fun e w' => e = .returned (.bool r) ∧ Drawn0 w w' := by
 have HR0 := Aside0.mk hr0
 have HC0 := Aside0.mk hc0
 clear hr0 hc0
 have HR1 := Aside0.mk hr1
 have HC1 := Aside0.mk hc1
 clear hr1 hc1
 have H : (if (l0.length : Int) = (l1.length : Int) then (topiaryref02_Same.l0 k l0 l1 0) else (some false)) = some r := h
 clear h
 by_cases c3 : (l0.length : Int) = (l1.length : Int)
 ·rw [if_pos c3] at H
  have c3b0 : ((l0.length : Int) == (l1.length : Int)) = true := beq_iff_eq.mpr c3
  have c3b1 : ((l0.length : Int) != (l1.length : Int)) = false := bne_eq_false_iff_eq.mpr c3
  have c3b2 : (l0.length == l1.length) = true := by first | simpa using c3 | (simp at c3 ⊢; omega)
  clear c3
  have H' := Aside0.mk H
  clear H
  go_enter Try.func24, Try.ntmps24
  go_wp2
  repeat (go_quiet (fail); try go_wp2)
  go_loopg [5] k (fun kq v5 w' => ∃ (x5_1 : Int), v5 = .int .i64 x5_1 ∧ Aside0 (topiaryref02_Same.l0 kq l0 l1 x5_1 = some r) ∧ Aside0 (kq ≤ k) ∧ Drawn0 w w')
  case atStart => exact ⟨(0), (by first | rfl | (simp; done) | (simp [*]; done)), H', ⟨Nat.le_refl _⟩, by repeat (first | exact Drawn0.refl _ | apply Drawn0.step)⟩
  case round =>
   clear H'
   (try clear c1); (try clear c2); (try clear p2); (try clear c3); (try clear c3b0); (try clear c3b1); (try clear c3b2)
   obtain ⟨x5_1, rfl, HA, HK1, ⟨m1, rfl⟩⟩ := hrel
   cases gk with
   | zero => exact absurd HA.out (by simp [topiaryref02_Same.l0])
   | succ k1 =>
    have H := HA.out
    clear HA
    simp only [topiaryref02_Same.l0] at H
    by_cases c4 : x5_1 < (l0.length : Int)
    ·rw [if_pos c4] at H
     have c4b0 : decide (x5_1 < (l0.length : Int)) = true := decide_eq_true c4
     clear c4
     by_cases c5 : 0 ≤ x5_1
     ·rw [if_pos c5] at H
      have c5b0 : decide (0 ≤ x5_1) = true := decide_eq_true c5
      clear c5
      by_cases c6 : x5_1 < (l1.length : Int)
      ·rw [if_pos c6] at H
       have c6b0 : decide (x5_1 < (l1.length : Int)) = true := decide_eq_true c6
       clear c6
       by_cases c7 : (rd l0 x5_1) = (rd l1 x5_1)
       ·rw [if_pos c7] at H
        have c7b0 : ((rd l0 x5_1) == (rd l1 x5_1)) = true := beq_iff_eq.mpr c7
        have c7b1 : ((rd l0 x5_1) != (rd l1 x5_1)) = false := bne_eq_false_iff_eq.mpr c7
        clear c7
        have H' := Aside0.mk H
        clear H
        have p121 : 0 ≤ (x5_1 : Int) := of_decide_eq_true (by first | (with_reducible assumption) | assumption)
        have q121 : x5_1 < (l0.length : Int) := of_decide_eq_true (by first | (with_reducible assumption) | assumption)
        obtain ⟨ad121, e121, hx121_0⟩ := Kd.at_int HR0.out x5_1 p121 q121
        cases e121
        replace p121 := eq_true p121
        replace q121 := eq_true q121
        have p122 : 0 ≤ (x5_1 : Int) := of_decide_eq_true (by first | (with_reducible assumption) | assumption)
        have q122 : x5_1 < (l1.length : Int) := of_decide_eq_true (by first | (with_reducible assumption) | assumption)
        obtain ⟨ad122, e122, hx122_0⟩ := Kd.at_int HR1.out x5_1 p122 q122
        cases e122
        replace p122 := eq_true p122
        replace q122 := eq_true q122
        go_wp2
        repeat (go_quiet (fail); try go_wp2)
        go_roundg k1
        case measure => have := HK1.out; omega
        case rel => exact ⟨(wrap64 (x5_1 + 1)), (by first | rfl | (simp; done) | (simp [*]; done)), H', ⟨by have := HK1.out; omega⟩, by repeat (first | exact Drawn0.refl _ | apply Drawn0.step)⟩
       ·rw [if_neg c7] at H
        have c7b0 : ((rd l0 x5_1) == (rd l1 x5_1)) = false := beq_eq_false_iff_ne.mpr c7
        have c7b1 : ((rd l0 x5_1) != (rd l1 x5_1)) = true := bne_iff_ne.mpr c7
        obtain rfl := Option.some.inj H
        have p121 : 0 ≤ (x5_1 : Int) := of_decide_eq_true (by first | (with_reducible assumption) | assumption)
        have q121 : x5_1 < (l0.length : Int) := of_decide_eq_true (by first | (with_reducible assumption) | assumption)
        obtain ⟨ad121, e121, hx121_0⟩ := Kd.at_int HR0.out x5_1 p121 q121
        cases e121
        replace p121 := eq_true p121
        replace q121 := eq_true q121
        have p122 : 0 ≤ (x5_1 : Int) := of_decide_eq_true (by first | (with_reducible assumption) | assumption)
        have q122 : x5_1 < (l1.length : Int) := of_decide_eq_true (by first | (with_reducible assumption) | assumption)
        obtain ⟨ad122, e122, hx122_0⟩ := Kd.at_int HR1.out x5_1 p122 q122
        cases e122
        replace p122 := eq_true p122
        replace q122 := eq_true q122
        go_wp2
        repeat (go_quiet (fail); try go_wp2)
        go_ret
        exact ⟨by first | rfl | (simp; done) | (simp [*]; done), by repeat (first | exact Drawn0.refl _ | apply Drawn0.step)⟩
      ·rw [if_neg c6] at H
       exact absurd H (by simp)
     ·rw [if_neg c5] at H
      exact absurd H (by simp)
    ·rw [if_neg c4] at H
     have c4b0 : decide (x5_1 < (l0.length : Int)) = false := decide_eq_false c4
     clear c4
     obtain rfl := Option.some.inj H
     go_wp2
     repeat (go_quiet (fail); try go_wp2)
     go_ret
     exact ⟨by first | rfl | (simp; done) | (simp [*]; done), by repeat (first | exact Drawn0.refl _ | apply Drawn0.step)⟩
 ·rw [if_neg c3] at H
  have c3b0 : ((l0.length : Int) == (l1.length : Int)) = false := beq_eq_false_iff_ne.mpr c3
  have c3b1 : ((l0.length : Int) != (l1.length : Int)) = true := bne_iff_ne.mpr c3
  have c3b2 : (l0.length == l1.length) = false := by first | simpa using c3 | (simp at c3 ⊢; omega)
  obtain rfl := Option.some.inj H
  go_enter Try.func24, Try.ntmps24
  go_wp2
  repeat (go_quiet (fail); try go_wp2)
  go_ret
  exact ⟨by first | rfl | (simp; done) | (simp [*]; done), by repeat (first | exact Drawn0.refl _ | apply Drawn0.step)⟩
end Go.Proofs.Ytnopjjilpgekfaa.PCa
namespace Go.Proofs.Ytnopjjilpgekfaa.PCa
open Go.RowKit Go.Proofs.YtnopjjilpgekfaaW.PrintWords Go.Proofs.YtnopjjilpgekfaaW.PrintLast Go.Proofs.YtnopjjilpgekfaaW.PrintMore
attribute [local go_sem] max2_int min2_int max_two min_two max_three min_three max_four min_four
set_option linter.unusedVariables false
set_option linter.unusedSimpArgs false
attribute [local go_sem high] eqA30
def topiaryref05_Same.f (k : Nat) (a0_0 : Int) (a0_1 : Int) (a0_2 : Int) (l0_3 : List Int) (a0_4 : Int) (a0_5 : Int) (a0_6 : Int) (a0_7 : Int) (a0_8 : Int) (a0_9 : Int) (a0_10 : Int) (a0_11 : ByteArray) (a0_12 : ByteArray) (a1_0 : Int) (a1_1 : Int) (a1_2 : Int) (l1_3 : List Int) (a1_4 : Int) (a1_5 : Int) (a1_6 : Int) (a1_7 : Int) (a1_8 : Int) (a1_9 : Int) (a1_10 : Int) (a1_11 : ByteArray) (a1_12 : ByteArray) : Option (Bool) := if (a0_0 == a1_0 && (a0_1 == a1_1)) = true then (if a0_2 = a1_2 then ((topiaryref02_Same.f k l0_3 l1_3).bind fun t125 => (if t125 = true then (if a0_4 = a1_4 then (if (a0_5 == a1_5 && (a0_6 == a1_6)) = true then (if (a0_7 == a1_7 && (a0_8 == a1_8)) = true then (if (a0_9 == a1_9 && (a0_10 == a1_10)) = true then (if a0_11.toList = a1_11.toList then (some (a0_12.toList == a1_12.toList)) else (some false)) else (some false)) else (some false)) else (some false)) else (some false)) else (some false))) else (some false)) else (some false)
theorem topiaryref05_Same.mono : ∀ a0 a1 a2 a3 a4 a5 a6 a7 a8 a9 a10 a11 a12 a13 a14 a15 a16 a17 a18 a19 a20 a21 a22 a23 a24 a25 k, LeO (topiaryref05_Same.f k a0 a1 a2 a3 a4 a5 a6 a7 a8 a9 a10 a11 a12 a13 a14 a15 a16 a17 a18 a19 a20 a21 a22 a23 a24 a25) (topiaryref05_Same.f (k + 1) a0 a1 a2 a3 a4 a5 a6 a7 a8 a9 a10 a11 a12 a13 a14 a15 a16 a17 a18 a19 a20 a21 a22 a23 a24 a25) := by
 intro a0 a1 a2 a3 a4 a5 a6 a7 a8 a9 a10 a11 a12 a13 a14 a15 a16 a17 a18 a19 a20 a21 a22 a23 a24 a25 k
 unfold topiaryref05_Same.f
 repeat' first
   | (with_reducible exact topiaryref02_Same.mono _ _ _)
   | (with_reducible exact LeO.refl _)
   | (with_reducible exact LeO.none _)
   | (with_reducible refine LeO.ite ?_ ?_)
   | (with_reducible refine LeO.bind ?_ (fun _ => ?_))
   | exact topiaryref02_Same.mono _ _ _
   | exact LeO.none _
   | refine LeO.ite ?_ ?_
   | refine LeO.bind ?_ (fun _ => ?_)
end Go.Proofs.Ytnopjjilpgekfaa.PCa
namespace Go.Proofs.Ytnopjjilpgekfaa.PCa
open Go.RowKit Go.Proofs.YtnopjjilpgekfaaW.PrintWords Go.Proofs.YtnopjjilpgekfaaW.PrintLast Go.Proofs.YtnopjjilpgekfaaW.PrintMore
attribute [local go_sem] max2_int min2_int max_two min_two max_three min_three max_four min_four
set_option linter.unusedVariables false
set_option linter.unusedSimpArgs false
def topiaryref05_SameAll.l0 : Nat → List (S32) → List (S32) → Int → Option (Bool)
 | 0, _, _, _ => none
 | k + 1, x0, x1, x5 => if x5 < (x0.length : Int) then (if 0 ≤ x5 then (if x5 < (x1.length : Int) then ((topiaryref05_Same.f k ((rd_T32 x0 x5).f0.f0) ((rd_T32 x0 x5).f0.f1) ((rd_T32 x0 x5).f1) ((rd_T32 x0 x5).f2) ((rd_T32 x0 x5).f3) ((rd_T32 x0 x5).f4.f0) ((rd_T32 x0 x5).f4.f1) ((rd_T32 x0 x5).f5.f0) ((rd_T32 x0 x5).f5.f1) ((rd_T32 x0 x5).f6.f0) ((rd_T32 x0 x5).f6.f1) ((rd_T32 x0 x5).f7) ((rd_T32 x0 x5).f8) ((rd_T32 x1 x5).f0.f0) ((rd_T32 x1 x5).f0.f1) ((rd_T32 x1 x5).f1) ((rd_T32 x1 x5).f2) ((rd_T32 x1 x5).f3) ((rd_T32 x1 x5).f4.f0) ((rd_T32 x1 x5).f4.f1) ((rd_T32 x1 x5).f5.f0) ((rd_T32 x1 x5).f5.f1) ((rd_T32 x1 x5).f6.f0) ((rd_T32 x1 x5).f6.f1) ((rd_T32 x1 x5).f7) ((rd_T32 x1 x5).f8)).bind fun t408 => (if t408 = true then (topiaryref05_SameAll.l0 k x0 x1 (wrap64 (x5 + 1))) else (some false))) else (none)) else (none)) else (some true)
def topiaryref05_SameAll.f (k : Nat) (l0 : List (S32)) (l1 : List (S32)) : Option (Bool) := if (l0.length : Int) = (l1.length : Int) then (topiaryref05_SameAll.l0 k l0 l1 0) else (some false)
theorem topiaryref05_SameAll.mono_l : ∀ k, (∀ y0 y1 y2, LeO (topiaryref05_SameAll.l0 k y0 y1 y2) (topiaryref05_SameAll.l0 (k + 1) y0 y1 y2))
 | 0 => fun _ _ _ r h => by simp [topiaryref05_SameAll.l0] at h
 | k + 1 => by
  have ih0 := topiaryref05_SameAll.mono_l k
  ·intro y0 y1 y2
   unfold topiaryref05_SameAll.l0
   repeat' first
   | (with_reducible exact ih0 _ _ _)
   | (with_reducible exact topiaryref05_Same.mono _ _ _ _ _ _ _ _ _ _ _ _ _ _ _ _ _ _ _ _ _ _ _ _ _ _ _)
   | (with_reducible exact LeO.refl _)
   | (with_reducible exact LeO.none _)
   | (with_reducible refine LeO.ite ?_ ?_)
   | (with_reducible refine LeO.bind ?_ (fun _ => ?_))
   | exact ih0 _ _ _
   | exact topiaryref05_Same.mono _ _ _ _ _ _ _ _ _ _ _ _ _ _ _ _ _ _ _ _ _ _ _ _ _ _ _
   | exact LeO.none _
   | refine LeO.ite ?_ ?_
   | refine LeO.bind ?_ (fun _ => ?_)
theorem topiaryref05_SameAll.mono : ∀ a0 a1 k, LeO (topiaryref05_SameAll.f k a0 a1) (topiaryref05_SameAll.f (k + 1) a0 a1) := by
 intro a0 a1 k
 have ih0 := topiaryref05_SameAll.mono_l k
 unfold topiaryref05_SameAll.f
 repeat' first
   | (with_reducible exact ih0 _ _ _)
   | (with_reducible exact topiaryref05_Same.mono _ _ _ _ _ _ _ _ _ _ _ _ _ _ _ _ _ _ _ _ _ _ _ _ _ _ _)
   | (with_reducible exact LeO.refl _)
   | (with_reducible exact LeO.none _)
   | (with_reducible refine LeO.ite ?_ ?_)
   | (with_reducible refine LeO.bind ?_ (fun _ => ?_))
   | exact ih0 _ _ _
   | exact topiaryref05_Same.mono _ _ _ _ _ _ _ _ _ _ _ _ _ _ _ _ _ _ _ _ _ _ _ _ _ _ _
   | exact LeO.none _
   | refine LeO.ite ?_ ?_
   | refine LeO.bind ?_ (fun _ => ?_)
end Go.Proofs.Ytnopjjilpgekfaa.PCa
namespace Go.Proofs.Ytnopjjilpgekfaa.PCa
open Go.RowKit Go.Proofs.YtnopjjilpgekfaaW.PrintWords Go.Proofs.YtnopjjilpgekfaaW.PrintLast Go.Proofs.YtnopjjilpgekfaaW.PrintMore
set_option linter.unusedVariables false
set_option linter.unusedSimpArgs false
/-- A law's buffer: its blocks are P, all of them the law's own. -/
structure BI (w0 W : World) (g : Nat) (room : Int) (L : List S32) (P : Nat → Prop) : Prop where
 buf : BufI W w0.heap.size P g room L
 lo : ∀ k, P k → w0.heap.size ≤ k
 hi : ∀ k, P k → k < W.heap.size
 good : Good L
 len : (L.length : Int) ≤ room
 rm : room ≤ 256
 bel : Below w0.heap.size w0 W
section
variable {w0 W W1 : World} {g : Nat} {room : Int} {L : List S32} {P : Nat → Prop}
theorem BI.below (h : BI w0 W g room L P) (hb : Below W.heap.size W W1) : BI w0 W1 g room L P :=
 ⟨h.buf.below hb, h.lo, fun k hk => Nat.lt_of_lt_of_le (h.hi k hk) hb.size, h.good, h.len, h.rm, h.bel.trans (hb.mono h.bel.size)⟩
theorem BI.new {room : Int} (hr0 : 0 ≤ room) (hr : room ≤ 256) (hb : BufI W1 W.heap.size (fun k => W.heap.size ≤ k) g room []) (hw : Below W.heap.size W W1) (h0 : Below w0.heap.size w0 W) : BI w0 W1 g room [] (fun k => W.heap.size ≤ k ∧ k < W1.heap.size) := by
 have hs := h0.size
 refine ⟨?_, fun k hk => Nat.le_trans hs hk.1, fun k hk => hk.2, Good.nil, by simpa using hr0, hr, h0.trans (hw.mono hs)⟩
 obtain ⟨mb, es, c, A, ch, h1, h2, h3, h4, h5, h6, h7, h8⟩ := hb.bound
 exact ⟨mb, es, c, A, ch, h1, by omega, h3, by omega, h5, h6, h7, Kd.S_lower h8 hs⟩
theorem BI.of_take0 (h : BI w0 W g room L P) {known : List Int} {x : S32} {e : Ending} {W' : World} (ht : TakeB W w0.heap.size P g room (takeF room L known x) e W') :
  ∃ (P' O : Nat → Prop) (v' : Value), e = .returned (.tuple #[v', .int .i64 (takeF room L known x).2.2]) ∧ BI w0 W' g room (takeF room L known x).1 P' ∧ Kd.S k32 32 W' w0.heap.size O v' (takeF room L known x).2.1 ∧ (∀ k, O k → ¬ P' k) ∧ (∀ k, O k → w0.heap.size ≤ k ∧ (P k ∨ W.heap.size ≤ k)) ∧ (∀ k, P' k → P k ∨ W.heap.size ≤ k) ∧ Kept W W' P := by
 obtain ⟨P', O, v', he, hb, hs, hp, hd, ho, hk⟩ := ht
 have hsz := h.bel.size
 refine ⟨fun k => P' k ∧ k < W'.heap.size, O, v', he, ⟨hb.bound, fun k hk' => ?_, fun k hk' => hk'.2, take_good h.good known x, take_room h.len known x, h.rm, ?_⟩, hs, fun k hk' hp' => hd k hk' hp'.1, fun k hk' => ⟨?_, ho k hk'⟩, fun k hk' => hp k hk'.1, hk⟩
 ·rcases hp k hk'.1 with h1 | h1
  ·exact h.lo k h1
  ·omega
 ·exact ((Kept.of_below h.bel (fun k => w0.heap.size ≤ k)).then_ hk (fun k hk' => .inl (h.lo k hk'))).to_below (fun _ h => h)
 ·rcases ho k hk' with h1 | h1
  ·exact h.lo k h1
  ·omega
theorem BI.of_take (h : BI w0 W g room L P) {known : List Int} {x : S32} {e : Ending} {W' : World} {Lr out : List S32} {er : Int} (hr : takeF room L known x = (Lr, out, er)) (ht : TakeB W w0.heap.size P g room (Lr, out, er) e W') :
  ∃ (P' O : Nat → Prop) (v' : Value), e = .returned (.tuple #[v', .int .i64 er]) ∧ BI w0 W' g room Lr P' ∧ Kd.S k32 32 W' w0.heap.size O v' out ∧ (∀ k, O k → ¬ P' k) ∧ (∀ k, O k → w0.heap.size ≤ k ∧ (P k ∨ W.heap.size ≤ k)) ∧ (∀ k, P' k → P k ∨ W.heap.size ≤ k) ∧ Kept W W' P := by
 have := h.of_take0 (known := known) (x := x) (e := e) (W' := W') (by rw [hr]; exact ht)
 rw [hr] at this
 exact this
end
theorem same02_self (l : List Int) : ∀ (n i k : Nat), i + n = l.length → l.length < 90000 → n < k → topiaryref02_Same.l0 k l l (i : Int) = some true := by
 intro n
 induction n with
 | zero =>
  intro i k hi hl hk
  obtain ⟨k, rfl⟩ : ∃ m, k = m + 1 := ⟨k - 1, by omega⟩
  rw [topiaryref02_Same.l0, if_neg (by omega)]
 | succ n ih =>
  intro i k hi hl hk
  obtain ⟨k, rfl⟩ : ∃ m, k = m + 1 := ⟨k - 1, by omega⟩
  rw [topiaryref02_Same.l0, if_pos (by omega), if_pos (by omega), if_pos (by omega), if_pos rfl, w1 (by omega)]
  exact ih (i + 1) k (by omega) hl (by omega)
end Go.Proofs.Ytnopjjilpgekfaa.PCa
namespace Go.Proofs.Ytnopjjilpgekfaa.PCa
open Go.RowKit Go.Proofs.YtnopjjilpgekfaaW.PrintWords Go.Proofs.YtnopjjilpgekfaaW.PrintLast Go.Proofs.YtnopjjilpgekfaaW.PrintMore
attribute [local go_sem] max2_int min2_int max_two min_two max_three min_three max_four min_four
set_option linter.unusedVariables false
set_option linter.unusedSimpArgs false
/-- Cells of rows of whole numbers in O may have been written; all else is as it was, or new. -/
structure Sp (w W : World) (O : Nat → Prop) : Prop where
 kept : Kept w W O
 typ : ∀ (k : Nat) (cs : Array Value) (t : TypeId) (fr : Nat × Nat), w.heap[k]? = some (Obj.cells cs t fr) → t ≠ 3 → W.heap[k]? = some (Obj.cells cs t fr)
 row : ∀ (k : Nat) (cs : Array Value) (fr : Nat × Nat), w.heap[k]? = some (Obj.cells cs 3 fr) → ∃ cs' : Array Value, W.heap[k]? = some (Obj.cells cs' 3 fr) ∧ cs'.size = cs.size
theorem Sp.refl (w : World) (O : Nat → Prop) : Sp w w O := ⟨Kept.refl _ _, fun _ _ _ _ h _ => h, fun _ cs _ h => ⟨cs, h, rfl⟩⟩
theorem Sp.set {w W : World} {O : Nat → Prop} (h : Sp w W O) {g : Nat} (hO : O g) {cs : Array Value} (hg : W.heap[g]? = some (.cells cs 3 (0, 0))) (i : Nat) (u : Value) : Sp w (W.setCell ⟨g, i, none⟩ u) O := by
 refine ⟨h.kept.setCell (.inl hO) u, fun k cs' t fr hk ht => ?_, fun k cs' fr hk => ?_⟩
 ·have h1 := h.typ k cs' t fr hk ht
  have hne : k ≠ g := by
   rintro rfl
   rw [hg] at h1
   injection h1 with h1
   injection h1 with _ h2 _
   exact ht h2.symm
  rw [Mem.set_other _ _ _ _ hne]
  exact h1
 ·obtain ⟨c2, h1, h2⟩ := h.row k cs' fr hk
  by_cases hne : k = g
  ·subst hne
   refine ⟨c2.setIfInBounds i u, Mem.set_heap h1 i u, by rw [Array.size_setIfInBounds, h2]⟩
  ·exact ⟨c2, (Mem.set_other _ _ _ _ hne).trans h1, h2⟩
/-- An element of a list of changes of one's own: its cells; the row of its deps. -/
theorem own_elem {w : World} {base : Nat} {O : Nat → Prop} {A : Option Addr} {c : Nat} {l : List S32} (h : k32.R 32 w base O (.slice A l.length c) l) {i : Nat} (hi : i < l.length) :
  ∃ (g : Nat) (A3 : Option Addr) (c3 : Nat), A = some ⟨g, 0, none⟩ ∧ (∀ W, Sp w W O → W.cell? ⟨g, i * 13 + 3, none⟩ = some (.slice A3 (rd_T32 l (i : Int)).f2.length c3)) ∧ (rd_T32 l (i : Int)).f2.length ≤ 9223372036854775807 ∧
   (∀ d, d < (rd_T32 l (i : Int)).f2.length → ∃ g3, A3 = some ⟨g3, 0, none⟩ ∧ O g3 ∧ ∀ W, Sp w W O → ∃ (cs : Array Value) (v : Value), W.heap[g3]? = some (.cells cs 3 (0, 0)) ∧ W.cell? ⟨g3, d, none⟩ = some v ∧ W.frozen? ⟨g3, d, none⟩ = false) := by
 obtain ⟨ad, c', he, hcl, hK, hcc⟩ := Kd.C_get (Kd.R_reads' h).2.2 z32 (i : Int) (by omega) (by omega)
 subst he
 obtain ⟨g, rfl⟩ := Kd.R_head h
 obtain ⟨cs, hl, hM, hcell, _⟩ := Kd.R_elem h z32 (i : Int) (by omega) (by omega)
 obtain ⟨cells, hty⟩ := Kd.R_typed h g rfl
 rw [Int.toNat_natCast] at hM hcell
 rw [show l.getD i z32 = rd_T32 l (i : Int) from by unfold rd_T32; rw [Int.toNat_natCast]] at hM
 obtain ⟨v3, rfl, hR⟩ := k32_openM hM
 obtain ⟨A3, c3, rfl⟩ := Kd.R_slice hR
 refine ⟨g, A3, c3, rfl, fun W hW => ?_, Kd.C_max (Kd.R_reads' hR).2.2, fun d hd => ?_⟩
 ·have h1 := hcell 3 (.slice A3 (rd_T32 l (i : Int)).f2.length c3) rfl
  have h2 := hW.typ g cells 32 (0, 0) hty (by decide)
  exact (Mem.cell_of h2 _).trans ((Mem.cell_of hty _).symm.trans h1)
 ·obtain ⟨h0, inner, ho, hr⟩ := hR
  rcases ho.2 with ⟨hv, hn⟩ | ⟨g3, cap, cur, hv, hb, hh, hn, hcap, hsz, htk⟩
  ·injection hv with _ hv _
   omega
  ·injection hv with ha hn2 hc2
   subst ha
   refine ⟨g3, rfl, (h0 g3 rfl).1, fun W hW => ?_⟩
   obtain ⟨cs', e1, e2⟩ := hW.row g3 cur (0, 0) hh
   have hlt : d < cs'.size := by
    have : (Kd.int .i64).sz = 1 := rfl
    rw [e2, hsz, this]
    omega
   exact ⟨cs', cs'[d], e1, (Mem.cell_of e1 d).trans (Array.getElem?_eq_getElem hlt), Mem.free_of e1 d⟩
theorem BI.kept {w0 W W1 : World} {g : Nat} {room : Int} {L : List S32} {P S : Nat → Prop} (h : BI w0 W g room L P) (hk : Kept W W1 S) (hS : ∀ k, S k → ¬ P k) (hlo : ∀ k, S k → w0.heap.size ≤ k) : BI w0 W1 g room L P :=
 ⟨h.buf.step (fun k hp hlt => hk.block k hlt (fun hs => hS k hs hp)), h.lo, fun k hp => Nat.lt_of_lt_of_le (h.hi k hp) hk.size, h.good, h.len, h.rm, ((Kept.of_below h.bel S).then_ hk (fun k hs => .inl hs)).to_below hlo⟩
/-- What the document's Take tells. -/
def RT (w : World) (P0 P1 : Nat → Prop) (room : Int) (r : List S32 × List S32 × Int) (e : Ending) (w' : World) : Prop :=
 ∃ (A1 : Option Addr) (c1 : Nat) (A2 : Option Addr) (c2 : Nat), e = .returned (.tuple #[.agg #[.int .i64 room, .slice A1 r.1.length c1], .slice A2 r.2.1.length c2, .int .i64 r.2.2]) ∧ Kd.V k32 32 w' w.heap.size (fun k => (P0 k ∨ P1 k) ∨ w.heap.size ≤ k) (.slice A1 r.1.length c1) r.1 ∧ Kd.V k32 32 w' w.heap.size (fun k => (P0 k ∨ P1 k) ∨ w.heap.size ≤ k) (.slice A2 r.2.1.length c2) r.2.1 ∧ Below w.heap.size w w'
end Go.Proofs.Ytnopjjilpgekfaa.PCa
namespace Go.Proofs.Ytnopjjilpgekfaa.PCa
open Go.RowKit Go.Proofs.YtnopjjilpgekfaaW.PrintWords Go.Proofs.YtnopjjilpgekfaaW.PrintLast Go.Proofs.YtnopjjilpgekfaaW.PrintMore
set_option linter.unusedVariables false
set_option linter.unusedSimpArgs false
theorem relF_sub : ∀ (n : Nat) (now : List Int) (out left : List S32) (y : S32), y ∈ (relF n now out left).1 ∨ y ∈ (relF n now out left).2 → y ∈ out ∨ y ∈ left
 | 0, _, _, _, _, h => h
 | n + 1, now, out, left, y, h => by
  unfold relF at h
  by_cases h0 : 0 ≤ nextI now left 0
  ·rw [if_pos h0] at h
   obtain ⟨j, hj, hje⟩ := next_lt now left 0 h0
   rw [Nat.zero_add] at hje
   rw [hje] at h
   rcases relF_sub n _ _ _ y h with h | h
   ·rcases List.mem_append.1 h with h | h
    ·exact .inl h
    ·rw [List.mem_singleton.1 h]
     exact .inr (List.mem_of_getElem? (rd32_at hj))
   ·exact .inr (List.mem_of_mem_eraseIdx h)
  ·rw [if_neg h0] at h
   exact h
abbrev bA (room : Int) (v : Value) : Array Value := #[.int .i64 room, v]
abbrev bL (room : Int) (v : Value) : List Value := [.int .i64 room, v]
theorem info52 : (Try.prog.info? 52).map (fun i => (i.zero, i.size)) = some (some (.agg #[.int .i64 0, .slice none 0 0]), 2) := by kernel_rfl
section
variable {o : Oper} {ops : Array Oper} {rest : List Oper} {a : Act} {Q : Exit → Act → World → Prop} {W : World} {room : Int} {v : Value}
theorem load52_run (ρ : Operand → Value) {p : Operand} (ho : o.op = .load 52 p) {ad : Addr} (hp : ρ p = .pointer (some ad)) (hc : ∀ j u, (bL room v)[j]? = some u → W.cell? (ad.add j) = some u) :
  (execOp ρ o).run Try.prog W = .ok (.value (.agg (bA room v))) W := by
 have e : execOp ρ o = (do let v ← Instr.loadAt 52 (ρ p); pure (.value v)) := by
  unfold execOp
  rw [ho]
 obtain ⟨i0, hi0, hzz⟩ := Option.map_eq_some_iff.1 info52
 simp only [Prod.mk.injEq] at hzz
 have hl := run_loadCells_list (P := Try.prog) W ad (bL room v) hc
 have hl2 : (loadCells ad 2).run Try.prog W = .ok (bA room v) W := hl
 rw [e, hp]
 simp [Instr.loadAt, Instr.sureAddr, loadVar, isAgg, run_underlying Try.underlying52, sizeOf, typeInfo, hi0, hzz.2, hl2]
theorem store52_run (ρ : Operand → Value) {p q : Operand} (ho : o.op = .store 52 p q) {g : Nat} (hp : ρ p = .pointer (some ⟨g, 0, none⟩)) (hq : ρ q = .agg (bA room v)) (hv : v.oneCell' = true) {cs : Array Value} (hg : W.heap[g]? = some (.cells cs 52 (0, 0))) (hs : cs.size = 2) :
  (execOp ρ o).run Try.prog W = .ok .skip (W.setRow g (bA room v)) := by
 have e : execOp ρ o = (do Instr.storeAt 52 (ρ p) (ρ q); pure .skip) := by
  unfold execOp
  rw [ho]
 obtain ⟨i0, hi0, hzz⟩ := Option.map_eq_some_iff.1 info52
 simp only [Prod.mk.injEq] at hzz
 have hone : ∀ u ∈ bL room v, u.oneCell' = true := by
  intro u hu
  simp only [bL, List.mem_cons, List.not_mem_nil, or_false] at hu
  rcases hu with rfl | rfl <;> first | rfl | exact hv
 have hst := run_storeCells_at Try.prog g 0 52 (bL room v) 0 cs W hg (by rw [hs]; exact (Nat.le_refl 2 : 0 + 0 + 2 ≤ 2)) hone
 have hrow : (cs.toList.take (0 + 0) ++ bL room v ++ cs.toList.drop (0 + 0 + (bL room v).length)).toArray = bA room v := by
  rw [List.drop_of_length_le (by rw [Array.length_toList, hs]; exact (Nat.le_refl 2 : 2 ≤ 0 + 0 + 2))]
  rfl
 rw [hrow] at hst
 have hcl : v.cells = #[v] := by
  cases v <;> first | rfl | simp [Value.oneCell'] at hv
 have hcells : (Value.agg (bA room v)).cells = bA room v := by
  unfold Value.cells
  simp [hcl]
 rw [e, hp, hq]
 simp [Instr.storeAt, Instr.sureAddr, storeVar, sizeOf, typeInfo, hi0, hzz.2, hcells, hst]
theorem load52_ev (hgd : o.guard = none) {N : Tmp} (_hd : o.dst = some N) (room : Int) (v : Value) {p : Operand} (ho : o.op = .load 52 p) {ad : Addr} (hp : a.eval p = .pointer (some ad)) (hc : ∀ j u, (bL room v)[j]? = some u → W.cell? (ad.add j) = some u)
  (h : wpList Try.prog ops Q rest (a.put o.dst (.agg (bA room v))) W) : wpList Try.prog ops Q (o :: rest) a W :=
 Kd.event_run hgd (load52_run a.eval ho hp hc) h
theorem store52_ev (hgd : o.guard = none) (hN : o.dst = none) (room : Int) (v : Value) {p q : Operand} (ho : o.op = .store 52 p q) {g : Nat} (hp : a.eval p = .pointer (some ⟨g, 0, none⟩)) (hq : a.eval q = .agg (bA room v)) (hv : v.oneCell' = true) {cs : Array Value} (hg : W.heap[g]? = some (.cells cs 52 (0, 0))) (hs : cs.size = 2)
  (h : ∀ w1, w1.heap[g]? = some (.cells (bA room v) 52 (0, 0)) → W.grownBy w1 (some g) → wpList Try.prog ops Q rest a w1) : wpList Try.prog ops Q (o :: rest) a W := by
 refine wpList_plain hgd fun K hK => ?_
 unfold Oper.wp
 rw [store52_run a.eval ho hp hq hv hg hs]
 show K (a.put o.dst undef) _
 rw [hN]
 exact hK _ _ (h _ (setRow_heap W g cs _ 52 (0, 0) hg) ⟨rfl, rfl, rfl, by simp [World.setRow], fun k hk hne => setRow_other W g k _ (fun e => hne (by rw [e]))⟩)
theorem blk52 {w : World} {g : Nat} (h : w.heap[g]? = some (.cells (bA room v) 52 (0, 0))) : ∀ j u, (bL room v)[j]? = some u → w.cell? ((⟨g, 0, none⟩ : Addr).add j) = some u := fun j u hj => by
 rw [add_at, Nat.zero_add, blk_cell h, show (bA room v)[j]? = ((bL room v).toArray)[j]? from rfl, List.getElem?_toArray]
 exact hj
end
end Go.Proofs.Ytnopjjilpgekfaa.PCa
namespace Go.Proofs.Ytnopjjilpgekfaa.PCa
open Go.RowKit Go.Proofs.YtnopjjilpgekfaaW.PrintWords Go.Proofs.YtnopjjilpgekfaaW.PrintLast Go.Proofs.YtnopjjilpgekfaaW.PrintMore
attribute [local go_sem] max2_int min2_int max_two min_two max_three min_three max_four min_four
set_option linter.unusedVariables false
set_option linter.unusedSimpArgs false
theorem relF_len1 : ∀ (n : Nat) (now : List Int) (out left : List S32), (relF n now out left).1.length ≤ out.length + n
 | 0, _, out, _ => Nat.le_refl _
 | n + 1, now, out, left => by
  rw [relF]
  split
  ·have h := relF_len1 n (tickC now (rd_T32 left (nextI now left 0)).f0.f1).1 (out ++ [rd_T32 left (nextI now left 0)]) (left.eraseIdx (nextI now left 0).toNat)
   rw [List.length_append, List.length_singleton] at h
   omega
  ·exact Nat.le_add_right _ _
/-- What comes is short enough to be compared. -/
theorem take_out64 {room : Int} {l : List S32} (hg : Good l) (hl : l.length < 1000) (known : List Int) (x : S32) : (∀ y ∈ (takeF room l known x).2.1, y.f2.length ≤ 64) ∧ (takeF room l known x).2.1.length < 90000 := by
 have h0 : (∀ y ∈ ([] : List S32), y.f2.length ≤ 64) ∧ ([] : List S32).length < 90000 := ⟨fun _ h => absurd h (List.not_mem_nil), by decide⟩
 unfold takeF
 split
 ·split
  ·rename_i c2
   split
   ·exact h0
   ·split
    ·refine ⟨fun y hy => ?_, ?_⟩
     ·rcases relF_sub l.length (tickC known x.f0.f1).1 [x] l y (.inl hy) with h | h
      ·rw [List.mem_singleton.1 h]
       exact (check_ok c2).2.2.2.2.2
      ·exact hg.len y h
     ·have h := relF_len1 l.length (tickC known x.f0.f1).1 [x] l
      rw [List.length_singleton] at h
      show (relF l.length (tickC known x.f0.f1).1 [x] l).1.length < 90000
      omega
    ·split
     ·exact h0
     ·exact h0
  ·exact h0
 ·exact h0
/-- The law's memory: the buffer b (list L, blocks P), the change that comes last (gb), the document's buffer (g7; list Y). -/
structure OI (w W : World) (gb g7 g : Nat) (cx : Array Value) (L : List S32) (P : Nat → Prop) (Y : List S32) (Ay : Option Addr) (cy : Nat) : Prop where
 bi : BI w W g 256 L P
 pb : ¬ P gb
 p7 : ¬ P g7
 lb : w.heap.size ≤ gb
 l7 : w.heap.size ≤ g7
 hb : W.heap[gb]? = some (.cells cx 32 (0, 0))
 h7 : W.heap[g7]? = some (.cells (bA 256 (.slice Ay Y.length cy)) 52 (0, 0))
 hv : Kd.V k32 32 W w.heap.size (fun k => ¬ P k ∧ k ≠ g7 ∧ k < W.heap.size) (.slice Ay Y.length cy) Y
section
variable {w W W1 W2 : World} {gb g7 g : Nat} {cx : Array Value} {L Y Y1 : List S32} {P P' O : Nat → Prop} {Ay A1 : Option Addr} {cy c1 : Nat}
theorem OI.below (h : OI w W gb g7 g cx L P Y Ay cy) (hb : Below W.heap.size W W1) : OI w W1 gb g7 g cx L P Y Ay cy :=
 ⟨h.bi.below hb, h.pb, h.p7, h.lb, h.l7, blk_below h.hb hb, blk_below h.h7 hb, Kd.V_mono (Kd.V_below h.hv hb) (fun k hk => ⟨hk.1, hk.2.1, Nat.lt_of_lt_of_le hk.2.2 hb.size⟩)⟩
theorem OI.ne (h : OI w W gb g7 g cx L P Y Ay cy) : gb ≠ g7 := by
 rintro rfl
 have h1 := h.hb.symm.trans h.h7
 injection h1 with h1
 injection h1 with _ h2 _
 exact absurd h2 (by decide)
/-- The document's buffer is another one. -/
theorem OI.set (h : OI w W gb g7 g cx L P Y Ay cy) (hb : Below W.heap.size W W1) (hv : Kd.V k32 32 W1 w.heap.size (fun k => ((¬ P k ∧ k ≠ g7 ∧ k < W.heap.size) ∨ k < w.heap.size) ∨ W.heap.size ≤ k) (.slice A1 Y1.length c1) Y1)
  (hg : W1.grownBy W2 (some g7)) (h7 : W2.heap[g7]? = some (.cells (bA 256 (.slice A1 Y1.length c1)) 52 (0, 0))) : OI w W2 gb g7 g cx L P Y1 A1 c1 := by
 have h7' := blk_lt h.h7
 have hlb := h.l7
 have hk : Kept W1 W2 (fun k => k = g7) := ⟨hg.size, fun k hk hne => hg.block k hk (fun e => hne (by injection e)), hg.os, hg.tape, hg.output⟩
 have hbi := (h.bi.below hb).kept hk (fun k e hp => h.p7 (e ▸ hp)) (fun k e => by rw [e]; exact h.l7)
 refine ⟨hbi, h.pb, h.p7, h.lb, h.l7, (hk.block gb (Nat.lt_of_lt_of_le (blk_lt h.hb) hb.size) h.ne).trans (blk_below h.hb hb), h7, Kd.V_mono (Kd.V_kept (Kd.V_mono (Kd.V_bound hv) (ok' := fun k => (¬ P k ∧ k ≠ g7) ∧ k < W1.heap.size) (fun k hk => ⟨?_, hk.2⟩)) hk (fun k h1 e => h1.1.2 e)) (fun k h1 => ⟨h1.1.1, h1.1.2, Nat.lt_of_lt_of_le h1.2 hk.size⟩)⟩
 rcases hk.1 with (h1 | h1) | h1
 ·exact ⟨h1.1, h1.2.1⟩
 ·exact ⟨fun hp => by have := h.bi.lo k hp; omega, by omega⟩
 ·exact ⟨fun hp => by have := h.bi.hi k hp; omega, by omega⟩
/-- Behind a Take, and a writing over what it told. -/
theorem OI.spoilt (h : OI w W gb g7 g cx L P Y Ay cy) (hbi : BI w W1 g 256 Y P') (hk : Kept W W1 P) (hp : ∀ k, P' k → P k ∨ W.heap.size ≤ k) (ho1 : ∀ k, O k → ¬ P' k) (ho2 : ∀ k, O k → w.heap.size ≤ k ∧ (P k ∨ W.heap.size ≤ k)) (hk2 : Kept W1 W2 O) : OI w W2 gb g7 g cx Y P' Y Ay cy := by
 have old : ∀ k, k < W.heap.size → ¬ P k → ¬ P' k ∧ ¬ O k := fun k h1 h2 => ⟨fun h3 => by rcases hp k h3 with h4 | h4; exact h2 h4; omega, fun h3 => by rcases (ho2 k h3).2 with h4 | h4; exact h2 h4; omega⟩
 have blk : ∀ k, k < W.heap.size → ¬ P k → W2.heap[k]? = W.heap[k]? := fun k h1 h2 => (hk2.block k (Nat.lt_of_lt_of_le h1 hk.size) (old k h1 h2).2).trans (hk.block k h1 h2)
 have hlb := blk_lt h.hb
 have hl7 := blk_lt h.h7
 exact ⟨hbi.kept hk2 ho1 (fun k hk => (ho2 k hk).1), (old gb hlb h.pb).1, (old g7 hl7 h.p7).1, h.lb, h.l7, (blk gb hlb h.pb).trans h.hb, (blk g7 hl7 h.p7).trans h.h7,
  Kd.V_mono (Kd.V_step h.hv (fun k hk _ => blk k hk.2.2 hk.1)) (fun k hk1 => ⟨(old k hk1.2.2 hk1.1).1, hk1.2.1, Nat.lt_of_lt_of_le hk1.2.2 (Nat.le_trans hk.size hk2.size)⟩)⟩
end
end Go.Proofs.Ytnopjjilpgekfaa.PCa
namespace Go.Proofs.Ytnopjjilpgekfaa.PCa
open Go.RowKit Go.Proofs.YtnopjjilpgekfaaW.PrintWords Go.Proofs.YtnopjjilpgekfaaW.PrintLast Go.Proofs.YtnopjjilpgekfaaW.PrintMore
attribute [local go_sem] max2_int min2_int max_two min_two max_three min_three max_four min_four
set_option linter.unusedVariables false
set_option linter.unusedSimpArgs false
def aheadC (a b c d : Int) : Bool := rightC a b && lessC a b c d
theorem ahead_is (a b c d : Int) : topiaryref05_ahead.f a b c d = some (aheadC a b c d) := ref_ahead_is a b c d
def placedX (k1 k2 NE NZ AH PZ QZ ND LS PN AF : Bool) : Bool := if k1 then (!NE && (ND && (LS && (PN && (QZ || AF))))) else if k2 then (AH && (ND && (LS && (PN && (QZ || AF))))) else ((!NZ || AH) && (PZ && QZ))
theorem placedX_eq (a0 a1 k a5 a6 a7 a8 a9 a10 : Int) : (nodeOkC k a5 a6 a0 a1 && placeOkC k a5 a6 a7 a8 a9 a10 a0 a1) = placedX (k == 1) (k == 2) (!(a5 == a0) || (!(a6 == a1))) (!(a5 == 0) || (!(a6 == 0))) (aheadC a5 a6 a0 a1) (a7 == 0 && (a8 == 0)) (a9 == 0 && (a10 == 0)) (nodeC a7 a8) (lessC a7 a8 a0 a1) (!(a7 == a5) || (!(a8 == a6))) (aheadC a9 a10 a0 a1) := by
 unfold nodeOkC placeOkC placedX afterC
 rw [show (rightC a5 a6 && lessC a5 a6 a0 a1) = aheadC a5 a6 a0 a1 from rfl, show (rightC a9 a10 && lessC a9 a10 a0 a1) = aheadC a9 a10 a0 a1 from rfl]
 by_cases h1 : k = 1
 ·rw [if_pos h1, if_pos (Or.inl h1), if_pos (beq_iff_eq.2 h1)]
  cases (a5 == a0) <;> cases (a6 == a1) <;> cases (a7 == a5) <;> cases (a8 == a6) <;> rfl
 ·rw [if_neg h1, if_neg (fun h => h1 (beq_iff_eq.1 h))]
  by_cases h2 : k = 2
  ·rw [if_pos h2, if_pos (Or.inr h2), if_pos (beq_iff_eq.2 h2)]
   cases (a7 == a5) <;> cases (a8 == a6) <;> rfl
  ·rw [if_neg h2, if_neg (fun h => h.elim h1 h2), if_neg (fun h => h2 (beq_iff_eq.1 h))]
   cases (a5 == 0) <;> cases (a6 == 0) <;> rfl
section
variable {o : Oper} {ops : Array Oper} {rest : List Oper} {a : Act} {Q : Exit → Act → World → Prop} {W : World}
theorem info30' : (Try.prog.info? 30).map (fun i => (i.zero, i.size)) = some (some (.agg #[.int .i64 0, .int .i64 0]), 2) := by kernel_rfl
theorem store30_ev (hgd : o.guard = none) (hN : o.dst = none) (x y : Int) {p q : Operand} (ho : o.op = .store 30 p q) {g : Nat} (hp : a.eval p = .pointer (some ⟨g, 0, none⟩)) (hq : a.eval q = .agg #[.int .i64 x, .int .i64 y]) {cs : Array Value} (hg : W.heap[g]? = some (.cells cs 30 (0, 0))) (hs : cs.size = 2)
  (h : ∀ w1, w1.heap[g]? = some (.cells #[.int .i64 x, .int .i64 y] 30 (0, 0)) → W.grownBy w1 (some g) → wpList Try.prog ops Q rest a w1) : wpList Try.prog ops Q (o :: rest) a W := by
 have hrun : (execOp a.eval o).run Try.prog W = .ok .skip (W.setRow g #[.int .i64 x, .int .i64 y]) := by
  have e : execOp a.eval o = (do Instr.storeAt 30 (a.eval p) (a.eval q); pure .skip) := by
   unfold execOp
   rw [ho]
  obtain ⟨i0, hi0, hzz⟩ := Option.map_eq_some_iff.1 info30'
  simp only [Prod.mk.injEq] at hzz
  have hst := run_storeCells_at Try.prog g 0 30 [.int .i64 x, .int .i64 y] 0 cs W hg (by rw [hs]; exact (Nat.le_refl 2 : 0 + 0 + 2 ≤ 2)) (by intro u hu; simp only [List.mem_cons, List.not_mem_nil, or_false] at hu; rcases hu with rfl | rfl <;> rfl)
  rw [show (cs.toList.take (0 + 0) ++ [Value.int .i64 x, Value.int .i64 y] ++ cs.toList.drop (0 + 0 + [Value.int .i64 x, Value.int .i64 y].length)).toArray = #[.int .i64 x, .int .i64 y] from by
   rw [List.drop_of_length_le (by rw [Array.length_toList, hs]; exact (Nat.le_refl 2 : 2 ≤ 0 + 0 + 2))]
   rfl] at hst
  have hcells : (Value.agg #[.int .i64 x, .int .i64 y]).cells = #[.int .i64 x, .int .i64 y] := rfl
  rw [e, hp, hq]
  simp [Instr.storeAt, Instr.sureAddr, storeVar, sizeOf, typeInfo, hi0, hzz.2, hcells, hst]
 refine wpList_plain hgd fun K hK => ?_
 unfold Oper.wp
 rw [hrun]
 show K (a.put o.dst undef) _
 rw [hN]
 exact hK _ _ (h _ (setRow_heap W g cs _ 30 (0, 0) hg) ⟨rfl, rfl, rfl, by simp [World.setRow], fun k hk hne => setRow_other W g k _ (fun e => hne (by rw [e]))⟩)
end
theorem ch1 : ∀ (a b c d e f : Bool), (a = true) ∨ (a = false ∧ b = false) ∨ (a = false ∧ b = true ∧ c = false) ∨ (a = false ∧ b = true ∧ c = true ∧ d = false) ∨ (a = false ∧ b = true ∧ c = true ∧ d = true ∧ e = true) ∨ (a = false ∧ b = true ∧ c = true ∧ d = true ∧ e = false ∧ f = true) ∨ (a = false ∧ b = true ∧ c = true ∧ d = true ∧ e = false ∧ f = false) := by
 intro a b c d e f
 cases a <;> cases b <;> cases c <;> cases d <;> cases e <;> cases f <;> decide
theorem ch2 : ∀ (a b c d e f : Bool), (a = false) ∨ (a = true ∧ b = false) ∨ (a = true ∧ b = true ∧ c = false) ∨ (a = true ∧ b = true ∧ c = true ∧ d = false) ∨ (a = true ∧ b = true ∧ c = true ∧ d = true ∧ e = true) ∨ (a = true ∧ b = true ∧ c = true ∧ d = true ∧ e = false ∧ f = true) ∨ (a = true ∧ b = true ∧ c = true ∧ d = true ∧ e = false ∧ f = false) := by
 intro a b c d e f
 cases a <;> cases b <;> cases c <;> cases d <;> cases e <;> cases f <;> decide
theorem ch5 : ∀ (a b : Bool), (a = false) ∨ (a = true ∧ b = false) ∨ (a = true ∧ b = true) := by
 intro a b
 cases a <;> cases b <;> decide
theorem ch4 : ∀ (a b : Bool), (a = false) ∨ (a = true ∧ b = false) ∨ (a = true ∧ b = true) := by
 intro a b
 cases a <;> cases b <;> decide
attribute [local go_sem high] eqA30
set_option maxHeartbeats 8000000 in
set_option maxRecDepth 100000 in
theorem placed_calls {w : World} (a0 a1 a2 : Int) (A3 : Option Addr) (d : List Int) (c3 : Nat) (a4 : Int) (a5 a6 a7 a8 a9 a10 : Int) (s t : ByteArray) (h1 : 1 ≤ a4) :
  Calls Try.prog 71 #[.agg #[.int .i64 a0, .int .i64 a1, .int .i64 a2, .slice A3 d.length c3, .int .i64 a4, .int .i64 a5, .int .i64 a6, .int .i64 a7, .int .i64 a8, .int .i64 a9, .int .i64 a10, .string s, .string t]] w fun e w' => e = .returned (.bool (nodeOkC a4 a5 a6 a0 a1 && placeOkC a4 a5 a6 a7 a8 a9 a10 a0 a1)) ∧ Below w.heap.size w w' := by
 rw [placedX_eq]
 have hk : ((a4 == 1) = true ∧ (a4 == 2) = false ∧ decide (2 < a4) = false) ∨ ((a4 == 1) = false ∧ (a4 == 2) = true ∧ decide (2 < a4) = false) ∨ ((a4 == 1) = false ∧ (a4 == 2) = false ∧ decide (2 < a4) = true) := by
  simp only [beq_iff_eq, beq_eq_false_iff_ne, decide_eq_true_eq, decide_eq_false_iff_not]
  omega
 clear h1
 rcases hk with ⟨k1, k2, k3⟩ | ⟨k1, k2, k3⟩ | ⟨k1, k2, k3⟩
 rcases ch1 (!(a5 == a0) || (!(a6 == a1))) (nodeC a7 a8) (lessC a7 a8 a0 a1) (!(a7 == a5) || (!(a8 == a6))) (a9 == 0 && (a10 == 0)) (aheadC a9 a10 a0 a1) with h0 | ⟨h0, h1⟩ | ⟨h0, h1, h2⟩ | ⟨h0, h1, h2, h3⟩ | ⟨h0, h1, h2, h3, h4⟩ | ⟨h0, h1, h2, h3, h4, h5⟩ | ⟨h0, h1, h2, h3, h4, h5⟩
 rotate_left 7
 rcases ch2 (aheadC a5 a6 a0 a1) (nodeC a7 a8) (lessC a7 a8 a0 a1) (!(a7 == a5) || (!(a8 == a6))) (a9 == 0 && (a10 == 0)) (aheadC a9 a10 a0 a1) with h0 | ⟨h0, h1⟩ | ⟨h0, h1, h2⟩ | ⟨h0, h1, h2, h3⟩ | ⟨h0, h1, h2, h3, h4⟩ | ⟨h0, h1, h2, h3, h4, h5⟩ | ⟨h0, h1, h2, h3, h4, h5⟩
 rotate_left 7
 rcases ch4 (a7 == 0 && (a8 == 0)) (a9 == 0 && (a10 == 0)) with h0 | ⟨h0, h1⟩ | ⟨h0, h1⟩ <;> rcases ch5 (!(a5 == 0) || (!(a6 == 0))) (aheadC a5 a6 a0 a1) with g0 | ⟨g0, g1⟩ | ⟨g0, g1⟩
 all_goals rw [show (placedX (a4 == 1) (a4 == 2) (!(a5 == a0) || (!(a6 == a1))) (!(a5 == 0) || (!(a6 == 0))) (aheadC a5 a6 a0 a1) (a7 == 0 && (a8 == 0)) (a9 == 0 && (a10 == 0)) (nodeC a7 a8) (lessC a7 a8 a0 a1) (!(a7 == a5) || (!(a8 == a6))) (aheadC a9 a10 a0 a1)) = _ from by unfold placedX; simp only [*]; rfl]
 all_goals
  go_enter Try.func71, Try.ntmps71
  go_wp2_with (first | ((with_reducible refine gate_dst (N := 1) rfl ?_); refine box_event ?hg (N := 1) ?hd (cs := #[.int .i64 a0, .int .i64 a1, .int .i64 a2, .slice A3 d.length c3, .int .i64 a4, .int .i64 a5, .int .i64 a6, .int .i64 a7, .int .i64 a8, .int .i64 a9, .int .i64 a10, .string s, .string t]) (t := 32) ?hr ?_; (case hd => rfl); (case hg => rfl); (case hr => first | (go_simp; done) | (go_simp; rfl)); intro gb hr_ w0 hbox hb; have HX := Aside0.mk hbox; have HB := Aside0.mk hb; have HN := Aside0.mk (Nat.le_of_eq hr_.symm); clear hbox hb hr_) | ((with_reducible refine gate_dst (N := 3) rfl ?_); refine box_event ?hg (N := 3) ?hd (cs := #[.int .i64 0, .int .i64 0]) (t := 30) ?hr ?_; (case hd => rfl); (case hg => rfl); (case hr => first | (go_simp; done) | (go_simp; rfl)); intro gz hr_ w1 hbox hb; have HNE := Aside0.mk (Nat.lt_of_lt_of_le (blk_lt HX.out) (Nat.le_of_eq hr_.symm)); have n_ := Aside0.mk (blk_below HX.out hb); clear HX; have HX := n_; clear n_; have n_ := Aside0.mk (HB.out.trans (hb.mono HB.out.size)); have HNZ := Aside0.mk (Nat.le_trans HB.out.size (Nat.le_of_eq hr_.symm)); clear HB; have HB := n_; clear n_; have HXZ := Aside0.mk hbox; clear hbox hb hr_) | ((with_reducible refine gate_store (t := 30) (p := 3) (v := .tmp 5) rfl ?_); refine store30_ev rfl rfl 0 0 (p := .tmp 3) (q := .tmp 5) rfl (g := gz) rfl rfl HXZ.out rfl ?_; intro ws hb_ hg_; have n_ := Aside0.mk ((hg_.block gb (blk_lt HX.out) (fun h => by injection h with h; have := HNE.out; omega)).trans HX.out); clear HX HXZ; have HX := n_; clear n_; have HXZ := Aside0.mk hb_; have n_ := Aside0.mk (HB.out.grown hg_ HB.out.size (fun k hk => by injection hk with hk; rw [← hk]; exact HNZ.out)); clear HB; have HB := n_; clear n_; obtain ⟨z0, z1, z2, z3, z4, z5, z6, z7, z8, z9, z10, z11, z12⟩ := cells13 HX.out; have y0 : ws.cell? ⟨gz, 0, none⟩ = some (.int .i64 0) := (blk_cell HXZ.out 0).trans rfl; have y1 : ws.cell? ⟨gz, 1, none⟩ = some (.int .i64 0) := (blk_cell HXZ.out 1).trans rfl; clear hb_ hg_) | (go_at_call 82; refine (topiaryref05_ahead.calls _ _ _ _ _ _ (ahead_is _ _ _ _)).mono ?_; clear z0 z1 z2 z3 z4 z5 z6 z7 z8 z9 z10 z11 z12 y0 y1; rintro e w2 ⟨rfl, hb_⟩; have n_ := Aside0.mk (blk_below HX.out hb_); clear HX; have HX := n_; clear n_; have n_ := Aside0.mk (blk_below HXZ.out hb_); clear HXZ; have HXZ := n_; clear n_; have n_ := Aside0.mk (HB.out.trans (hb_.mono HB.out.size)); clear HB; have HB := n_; clear n_ hb_; obtain ⟨z0, z1, z2, z3, z4, z5, z6, z7, z8, z9, z10, z11, z12⟩ := cells13 HX.out; have y0 : w2.cell? ⟨gz, 0, none⟩ = some (.int .i64 0) := (blk_cell HXZ.out 0).trans rfl; have y1 : w2.cell? ⟨gz, 1, none⟩ = some (.int .i64 0) := (blk_cell HXZ.out 1).trans rfl) | (go_at_call 83; refine (topiaryref01_Node.calls _ _ _ _ (ref_Node_is _ _)).mono ?_; clear z0 z1 z2 z3 z4 z5 z6 z7 z8 z9 z10 z11 z12 y0 y1; rintro e w2 ⟨rfl, hb_⟩; have n_ := Aside0.mk (blk_below HX.out hb_); clear HX; have HX := n_; clear n_; have n_ := Aside0.mk (blk_below HXZ.out hb_); clear HXZ; have HXZ := n_; clear n_; have n_ := Aside0.mk (HB.out.trans (hb_.mono HB.out.size)); clear HB; have HB := n_; clear n_ hb_; obtain ⟨z0, z1, z2, z3, z4, z5, z6, z7, z8, z9, z10, z11, z12⟩ := cells13 HX.out; have y0 : w2.cell? ⟨gz, 0, none⟩ = some (.int .i64 0) := (blk_cell HXZ.out 0).trans rfl; have y1 : w2.cell? ⟨gz, 1, none⟩ = some (.int .i64 0) := (blk_cell HXZ.out 1).trans rfl) | (go_at_call 60; refine (topiaryref01_Less.calls _ _ _ _ _ _ (ref_Less_is _ _ _ _)).mono ?_; clear z0 z1 z2 z3 z4 z5 z6 z7 z8 z9 z10 z11 z12 y0 y1; rintro e w2 ⟨rfl, hb_⟩; have n_ := Aside0.mk (blk_below HX.out hb_); clear HX; have HX := n_; clear n_; have n_ := Aside0.mk (blk_below HXZ.out hb_); clear HXZ; have HXZ := n_; clear n_; have n_ := Aside0.mk (HB.out.trans (hb_.mono HB.out.size)); clear HB; have HB := n_; clear n_ hb_; obtain ⟨z0, z1, z2, z3, z4, z5, z6, z7, z8, z9, z10, z11, z12⟩ := cells13 HX.out; have y0 : w2.cell? ⟨gz, 0, none⟩ = some (.int .i64 0) := (blk_cell HXZ.out 0).trans rfl; have y1 : w2.cell? ⟨gz, 1, none⟩ = some (.int .i64 0) := (blk_cell HXZ.out 1).trans rfl))
  go_ret
  exact ⟨rfl, HB.out⟩
end Go.Proofs.Ytnopjjilpgekfaa.PCa
namespace Go.Proofs.Ytnopjjilpgekfaa.PCa
open Go.RowKit Go.Proofs.YtnopjjilpgekfaaW.PrintWords Go.Proofs.YtnopjjilpgekfaaW.PrintLast Go.Proofs.YtnopjjilpgekfaaW.PrintMore
attribute [local go_sem] max2_int min2_int max_two min_two max_three min_three max_four min_four
set_option linter.unusedVariables false
set_option linter.unusedSimpArgs false
def rta.B2 : List Nat := [0, 0, 2, 7, 15, 31]
theorem drew_below {w w1 : World} {nd : Nat} (h : w1 = w.drewN nd) : Below w.heap.size w w1 := by rw [h]; exact pw_below_drewN (Below.refl _ _) nd
theorem row_below {w w1 : World} {g : Nat} {cs : Array Value} {t : Nat} (h : Below w.heap.size w w1) (hg : w.heap.size ≤ g) (hx : w1.heap[g]? = some (.cells cs t (0, 0))) (ds : Array Value) : Below w.heap.size w (w1.setRow g ds) :=
 h.grown (row := some g) (w' := w1.setRow g ds) ⟨rfl, rfl, rfl, by simp [World.setRow], fun k hk hne => setRow_other w1 g k _ (fun e => hne (by rw [e]))⟩ h.size (fun k hk => by injection hk with hk; rw [← hk]; exact hg)
def chk.T9 : Bool × List (List Nat × List Nat) := (true, [([], []), ([0], [0]), ([1], [1]), ([2], [2]), ([], []), ([4], [4]), ([5], [5]), ([3, 6], [3, 6]), ([7, 2], [7]), ([8], [8]), ([9, 8], [8, 9]), ([8], [8]), ([11, 8], [8, 11]), ([12, 8], [8, 12]), ([10, 13, 8, 8], [8, 10, 13]), ([8], [8]), ([15, 8], [8, 15]), ([16, 8], [8, 16]), ([14, 17, 8], [8, 14, 17]), ([8, 18], [8, 18]), ([19, 14], [19]), ([20], [20]), ([21, 20, 20], [20, 21]), ([22, 20], [20, 22]), ([20, 23], [20, 23])])
def chk.B9 : List Nat := [0, 1, 3, 7, 0, 16, 48, 127, 255, 511, 1023, 511, 2559, 6655, 16383, 511, 33279, 98815, 262143, 524287, 1048575, 2097151, 4194303, 8388607, 16777215]
theorem chk.tab9 : rtab .any (opsOf Try.f47 9) = chk.T9 := by kernel_rfl
theorem chk.bits9 : waitsOk chk.T9.2 chk.B9 = true := by kernel_rfl
theorem bne_f {l : List UInt8} {b : Bool} (h : (l != ([] : List UInt8)) = b) : (l == ([] : List UInt8)) = !b := by rw [← h, bne, Bool.not_not]
def wordsY (k1 k3 k4 k5 nm se lg te : Bool) : Int := if (k1 || (k3 || k4)) = true then (if nm = true then (if lg = true then 3 else if (k3 || k5) = true then 0 else if te = true then 2 else 0) else 8) else (if se = true then 8 else (if lg = true then 3 else if (k3 || k5) = true then 0 else if te = true then 2 else 0))
def checkY (b1 b2 b3 b4 b5 b6 b7 b8 pb : Bool) (cd wd : Int) : Int := if b1 = true then 1 else if b2 = true then 1 else if b3 = true then (if b4 = true then 1 else if b5 = true then 1 else if b6 = true then cd else if b7 = true then 2 else if b8 = true then 2 else if pb = true then wd else 2) else 2
theorem wordsY_eq (a4 : Int) (s t : ByteArray) : wordsC a4 s t = wordsY (a4 == 1) (a4 == 3) (a4 == 4) (a4 == 5) (nameC s) (s.toList != ([] : List UInt8)) (decide ((t.size : Int) > 256)) (t.toList != ([] : List UInt8)) := by
 unfold wordsC tailC wordsY
 simp only [Bool.or_eq_true, beq_iff_eq, decide_eq_true_eq, bne_iff_ne]
 by_cases h1 : a4 = 1 ∨ a4 = 3 ∨ a4 = 4
 ·rw [if_pos h1, if_pos h1]
  by_cases h2 : t.toList = ([] : List UInt8)
  ·simp only [h2, ne_eq, not_true_eq_false, if_true, if_false]
  ·simp only [h2, ne_eq, not_false_eq_true, if_true, if_false]
 ·rw [if_neg h1, if_neg h1]
  by_cases h2 : t.toList = ([] : List UInt8)
  ·by_cases h3 : s.toList = ([] : List UInt8) <;> simp only [h2, h3, ne_eq, not_true_eq_false, not_false_eq_true, if_true, if_false]
  ·by_cases h3 : s.toList = ([] : List UInt8) <;> simp only [h2, h3, ne_eq, not_true_eq_false, not_false_eq_true, if_true, if_false]
theorem checkY_eq (a0 a1 a2 : Int) (d : List Int) (a4 a5 a6 a7 a8 a9 a10 : Int) (s t : ByteArray) : checkC a0 a1 a2 d a4 a5 a6 a7 a8 a9 a10 s t = checkY (decide (a4 < 1)) (decide (5 < a4)) (rightC a0 a1) (decide (a2 < 1)) (decide (a0 < a2)) (chkC d != 0) ((trimC d).length != d.length) (atC d a1 != a2 - 1) (nodeOkC a4 a5 a6 a0 a1 && placeOkC a4 a5 a6 a7 a8 a9 a10 a0 a1) (chkC d) (wordsY (a4 == 1) (a4 == 3) (a4 == 4) (a4 == 5) (nameC s) (s.toList != ([] : List UInt8)) (decide ((t.size : Int) > 256)) (t.toList != ([] : List UInt8))) := by
 rw [← wordsY_eq]
 unfold checkC checkY depsC
 simp only [decide_eq_true_eq, bne_iff_ne]
 by_cases c1 : a4 < 1
 ·rw [if_pos (Or.inl c1), if_pos c1]
 ·rw [if_neg c1]
  by_cases c2 : 5 < a4
  ·rw [if_pos (Or.inr c2), if_pos c2]
  ·rw [if_neg c2, if_neg (fun h => h.elim c1 c2)]
   by_cases c3 : rightC a0 a1 = true
   ·rw [if_pos c3, if_pos c3]
    by_cases c4 : a2 < 1
    ·rw [if_pos (Or.inl c4), if_pos c4]
    ·rw [if_neg c4]
     by_cases c5 : a0 < a2
     ·rw [if_pos (Or.inr c5), if_pos c5]
     ·rw [if_neg c5, if_neg (fun h => h.elim c4 c5)]
      by_cases c6 : chkC d = 0 <;> by_cases c7 : (trimC d).length = d.length <;> by_cases c8 : atC d a1 = a2 - 1 <;> simp [c6, c7, c8]
   ·rw [if_neg c3, if_neg c3]
theorem ckA : ∀ (a b c d e f : Bool), (a = true) ∨ (a = false ∧ b = true) ∨ (a = false ∧ b = false ∧ c = false) ∨ (a = false ∧ b = false ∧ c = true ∧ d = true) ∨ (a = false ∧ b = false ∧ c = true ∧ d = false ∧ e = true) ∨ (a = false ∧ b = false ∧ c = true ∧ d = false ∧ e = false ∧ f = true) ∨ (a = false ∧ b = false ∧ c = true ∧ d = false ∧ e = false ∧ f = false) := by
 intro a b c d e f
 cases a <;> cases b <;> cases c <;> cases d <;> cases e <;> cases f <;> decide
theorem ckB : ∀ (a b : Bool), (a = true) ∨ (a = false ∧ b = true) ∨ (a = false ∧ b = false) := by
 intro a b
 cases a <;> cases b <;> decide
theorem ckC : ∀ (a b c : Bool), (a = false) ∨ (a = true ∧ b = true) ∨ (a = true ∧ b = false ∧ c = true) ∨ (a = true ∧ b = false ∧ c = false) := by
 intro a b c
 cases a <;> cases b <;> cases c <;> decide
theorem ckD : ∀ (a b : Bool), (a = false) ∨ (a = true ∧ b = true) ∨ (a = true ∧ b = false) := by
 intro a b
 cases a <;> cases b <;> decide
theorem ckE : ∀ (a b c : Bool), (a = true) ∨ (a = false ∧ b = true) ∨ (a = false ∧ b = false ∧ c = true) ∨ (a = false ∧ b = false ∧ c = false) := by
 intro a b c
 cases a <;> cases b <;> cases c <;> decide
set_option maxHeartbeats 8000000 in
set_option maxRecDepth 100000 in
theorem check05_calls {w : World} (a0 a1 a2 : Int) (A3 : Option Addr) (d : List Int) (c3 : Nat) (a4 a5 a6 a7 a8 a9 a10 : Int) (s t : ByteArray) (hd : Kd.C (Kd.int .i64) w A3 d.length d) (hl : d.length ≤ c3) (hs : s.size < 4611686018427387904) :
  Calls Try.prog 47 #[.agg #[.int .i64 a0, .int .i64 a1, .int .i64 a2, .slice A3 d.length c3, .int .i64 a4, .int .i64 a5, .int .i64 a6, .int .i64 a7, .int .i64 a8, .int .i64 a9, .int .i64 a10, .string s, .string t]] w fun e w' => e = .returned (.int .i64 (checkC a0 a1 a2 d a4 a5 a6 a7 a8 a9 a10 s t)) ∧ Below w.heap.size w w' := by
 have HC3 := Aside0.mk hd
 have HL3 := Aside0.mk hl
 have HNM := Aside0.mk (ref_Name_is s hs (s.size + 3) (by omega))
 have hu32 := Try.underlying32
 have hu30 := Try.underlying30
 have hv := checkY_eq a0 a1 a2 d a4 a5 a6 a7 a8 a9 a10 s t
 generalize checkC a0 a1 a2 d a4 a5 a6 a7 a8 a9 a10 s t = cc at *
 have HV := Aside0.mk hv.symm
 clear hd hl hs hv
 rcases ckA (decide (a4 < 1)) (decide (5 < a4)) (rightC a0 a1) (decide (a2 < 1)) (decide (a0 < a2)) (chkC d != 0) with h0 | ⟨h0, h1⟩ | ⟨h0, h1, h2⟩ | ⟨h0, h1, h2, h3⟩ | ⟨h0, h1, h2, h3, h4⟩ | ⟨h0, h1, h2, h3, h4, h5⟩ | ⟨h0, h1, h2, h3, h4, h5⟩
 iterate 6
  go_enter Try.func47, Try.ntmps47
  go_wp2_with (first | ((with_reducible refine gate_dst (N := 1) rfl ?_); refine box_event ?hg (N := 1) ?hd (cs := #[.int .i64 a0, .int .i64 a1, .int .i64 a2, .slice A3 d.length c3, .int .i64 a4, .int .i64 a5, .int .i64 a6, .int .i64 a7, .int .i64 a8, .int .i64 a9, .int .i64 a10, .string s, .string t]) (t := 32) ?hr ?_; (case hd => rfl); (case hg => rfl); (case hr => first | (go_simp; done) | (go_simp; rfl)); intro gb hr_ w2 hbox hb; have HX := Aside0.mk hbox; have HB := Aside0.mk hb; obtain ⟨z0, z1, z2, z3, z4, z5, z6, z7, z8, z9, z10, z11, z12⟩ := cells13 HX.out; clear hbox hb hr_) | (go_at_call 70; refine (topiaryref01_Right.calls _ _ _ _ (ref_Right_is _ _)).mono ?_; clear z0 z1 z2 z3 z4 z5 z6 z7 z8 z9 z10 z11 z12; rintro e w2 ⟨rfl, hb_⟩; have n_ := Aside0.mk (blk_below HX.out hb_); clear HX; have HX := n_; clear n_; have n_ := Aside0.mk (HB.out.trans (hb_.mono HB.out.size)); clear HB; have HB := n_; clear n_ hb_; obtain ⟨z0, z1, z2, z3, z4, z5, z6, z7, z8, z9, z10, z11, z12⟩ := cells13 HX.out) | (go_at_call 46; refine (topiaryref02_Check.calls 66 A3 c3 d _ _ (Kd.C_below HC3.out HB.out) HL3.out (ref_Check_is d 66 (by decide))).mono ?_; clear z0 z1 z2 z3 z4 z5 z6 z7 z8 z9 z10 z11 z12; rintro e w2 ⟨rfl, ⟨nd, hnd⟩⟩; have hb_ := drew_below hnd; clear hnd; have n_ := Aside0.mk (blk_below HX.out hb_); clear HX; have HX := n_; clear n_; have n_ := Aside0.mk (HB.out.trans (hb_.mono HB.out.size)); clear HB; have HB := n_; clear n_ hb_; obtain ⟨z0, z1, z2, z3, z4, z5, z6, z7, z8, z9, z10, z11, z12⟩ := cells13 HX.out))
  go_ret
  exact ⟨by rw [← HV.out]; simp only [checkY, wordsY, *]; rfl, HB.out⟩

 have hdl : d.length ≤ 64 := by
  have h6 : chkC d = 0 := by simpa using h5
  unfold chkC at h6
  split at h6
  ·cases h6
  ·omega
 have HTR := Aside0.mk (ref_Trim_is d 400 (by omega) (by omega))
 have HK1 : Aside0 (1 ≤ a4) := ⟨by have h1 := of_decide_eq_false h0; omega⟩
 have hw : wrap64 (a2 - 1) = a2 - 1 := by
  have h2c := h2
  have e1 := of_decide_eq_false h3
  have e2 := of_decide_eq_false h4
  have e3 := right_max h2c
  rw [← i64_w, IntKind.wrap_i64]
  omega
 have hk : ((a4 == 1) = true ∧ (a4 == 3) = false ∧ (a4 == 4) = false ∧ (a4 == 5) = false ∧ (a4 != 3) = true ∧ (a4 != 5) = true) ∨ ((a4 == 1) = false ∧ (a4 == 3) = false ∧ (a4 == 4) = true ∧ (a4 == 5) = false ∧ (a4 != 3) = true ∧ (a4 != 5) = true) ∨ ((a4 == 1) = false ∧ (a4 == 3) = true ∧ (a4 == 4) = false ∧ (a4 == 5) = false ∧ (a4 != 3) = false ∧ (a4 != 5) = true) ∨ ((a4 == 1) = false ∧ (a4 == 3) = false ∧ (a4 == 4) = false ∧ (a4 == 5) = true ∧ (a4 != 3) = true ∧ (a4 != 5) = false) ∨ ((a4 == 1) = false ∧ (a4 == 3) = false ∧ (a4 == 4) = false ∧ (a4 == 5) = false ∧ (a4 != 3) = true ∧ (a4 != 5) = true) := by
  simp only [beq_iff_eq, beq_eq_false_iff_ne, bne_iff_ne, bne_eq_false_iff_eq]
  have e1 := of_decide_eq_false h0
  have e2 := of_decide_eq_false h1
  omega
 have HKK := Aside0.mk hk
 clear hk hdl
 go_enter Try.func47, Try.ntmps47
 go_upto_region 9 with (first | ((with_reducible refine gate_dst (N := 1) rfl ?_); refine box_event ?hg (N := 1) ?hd (cs := #[.int .i64 a0, .int .i64 a1, .int .i64 a2, .slice A3 d.length c3, .int .i64 a4, .int .i64 a5, .int .i64 a6, .int .i64 a7, .int .i64 a8, .int .i64 a9, .int .i64 a10, .string s, .string t]) (t := 32) ?hr ?_; (case hd => rfl); (case hg => rfl); (case hr => first | (go_simp; done) | (go_simp; rfl)); intro gb hr_ w2 hbox hb; have HX := Aside0.mk hbox; have HB := Aside0.mk hb; obtain ⟨z0, z1, z2, z3, z4, z5, z6, z7, z8, z9, z10, z11, z12⟩ := cells13 HX.out; clear hbox hb hr_) | (go_at_call 70; refine (topiaryref01_Right.calls _ _ _ _ (ref_Right_is _ _)).mono ?_; clear z0 z1 z2 z3 z4 z5 z6 z7 z8 z9 z10 z11 z12; rintro e w2 ⟨rfl, hb_⟩; have n_ := Aside0.mk (blk_below HX.out hb_); clear HX; have HX := n_; clear n_; have n_ := Aside0.mk (HB.out.trans (hb_.mono HB.out.size)); clear HB; have HB := n_; clear n_ hb_; obtain ⟨z0, z1, z2, z3, z4, z5, z6, z7, z8, z9, z10, z11, z12⟩ := cells13 HX.out) | (go_at_call 46; refine (topiaryref02_Check.calls 66 A3 c3 d _ _ (Kd.C_below HC3.out HB.out) HL3.out (ref_Check_is d 66 (by decide))).mono ?_; clear z0 z1 z2 z3 z4 z5 z6 z7 z8 z9 z10 z11 z12; rintro e w2 ⟨rfl, ⟨nd, hnd⟩⟩; have hb_ := drew_below hnd; clear hnd; have n_ := Aside0.mk (blk_below HX.out hb_); clear HX; have HX := n_; clear n_; have n_ := Aside0.mk (HB.out.trans (hb_.mono HB.out.size)); clear HB; have HB := n_; clear n_ hb_; obtain ⟨z0, z1, z2, z3, z4, z5, z6, z7, z8, z9, z10, z11, z12⟩ := cells13 HX.out))
 obtain ⟨wo, rfl⟩ : ∃ wo, wo = w2 := ⟨w2, rfl⟩
 rcases ckB ((trimC d).length != d.length) (atC d a1 != a2 - 1) with g0 | ⟨g0, g1⟩ | ⟨g0, g1⟩
 ·have g0' : (((trimC d).length : Int) != (d.length : Int)) = true := by rw [bne_iff_ne]; have := bne_iff_ne.1 g0; omega
  refine start_ (n := 25) (S := (fun w' => Below wo.heap.size wo w')) (ds := []) #[false, false, false, false, false, false, false, false, false, false, false, false, false, false, false, false, false, false, false, false, false, false, false, false, false] (by kernel_rfl) rfl rfl (below_drew (Below.refl _ _)) (fun hHeld => ?_)
  refine with_tabW chk.tab9 chk.bits9 (fun HT_ HW_ => ?_)
  refine pureS (i := 0) (N := (some 34)) #[true, false, false, false, false, false, false, false, false, false, false, false, false, false, false, false, false, false, false, false, false, false, false, false, false] HT_ ?_
  refine pureS (i := 4) (N := (some 38)) #[true, false, false, false, true, false, false, false, false, false, false, false, false, false, false, false, false, false, false, false, false, false, false, false, false] HT_ ?_
  refine take_ (i := 1) (N := (some 35)) (v := ?_) (a' := ?_) #[true, true, false, false, true, false, false, false, false, false, false, false, false, false, false, false, false, false, false, false, false, false, false, false, false] rfl rfl (take_ofW HT_.out HW_.out (by kernel_rfl)) (fun _ _ _ h => h) (Or.inl ⟨by rfl, ?_⟩) hHeld ?_ ?_
  rotate_left
  ·intro w' s0
   have f : w'.cell? ⟨gb, 3, none⟩ = some (.slice A3 d.length c3) := (blk_cell (blk_below HX.out s0) 3).trans rfl
   go_simp
   with_reducible rfl
  rotate_left
  ·simp only [Act.put, List.setIfInBounds_toArray, List.set_cons_zero, List.set_cons_succ, i64_w, i32_w]
   rfl
  refine take_ (i := 5) (N := (some 39)) (v := ?_) (a' := ?_) #[true, true, false, false, true, true, false, false, false, false, false, false, false, false, false, false, false, false, false, false, false, false, false, false, false] rfl rfl (take_ofW HT_.out HW_.out (by kernel_rfl)) (fun _ _ _ h => h) (Or.inl ⟨by rfl, ?_⟩) hHeld ?_ ?_
  rotate_left
  ·intro w' s0
   have f : w'.cell? ⟨gb, 3, none⟩ = some (.slice A3 d.length c3) := (blk_cell (blk_below HX.out s0) 3).trans rfl
   go_simp
   with_reducible rfl
  rotate_left
  ·simp only [Act.put, List.setIfInBounds_toArray, List.set_cons_zero, List.set_cons_succ, i64_w, i32_w]
   rfl
  refine pureS (i := 6) (N := (some 40)) #[true, true, false, false, true, true, true, false, false, false, false, false, false, false, false, false, false, false, false, false, false, false, false, false, false] HT_ ?_
  refine one_ (i := 2) (N := (some 36)) #[true, true, true, false, true, true, true, false, false, false, false, false, false, false, false, false, false, false, false, false, false, false, false, false, false] rfl rfl (one_of HT_.out (by kernel_rfl)) (by decide) (fun K hK => ?_)
  refine goes_ Try.func44 (by kernel_rfl) rfl #[.slice A3 d.length c3] (by rfl) rfl rfl (by (try simp only [List.map_toArray, List.map_cons, List.map_nil]); first | done | rfl) ?_
  have hH := hHeld
  refine (topiaryref02_Trim.calls 400 A3 c3 d (trimC d) _ (Kd.C_below HC3.out (HB.out.trans (hH.mono HB.out.size))) HL3.out HTR.out).mono ?_
  rintro e w1 ⟨v1, rfl, hr1, hb_⟩
  obtain ⟨A9, c9, rfl⟩ := Kd.R_slice hr1
  clear hr1
  refine ⟨_, rfl, ?_⟩
  have hS : Below wo.heap.size wo w1 := hH.trans (hb_.mono hH.size)
  clear hb_ hH hHeld
  refine hK.out _ _ (hS) (fun hHeld => ?_)
  clear hK K
  refine norm_ (a' := ?_) ?_ ?_
  rotate_left
  ·show Act.put _ (some 36) _ = _
   simp only [Act.put, List.setIfInBounds_toArray, List.set_cons_zero, List.set_cons_succ, i64_w, i32_w]
   rfl
  refine pureS (i := 3) (N := (some 37)) #[true, true, true, true, true, true, true, false, false, false, false, false, false, false, false, false, false, false, false, false, false, false, false, false, false] HT_ ?_
  refine pureS (i := 7) (N := (some 41)) #[true, true, true, true, true, true, true, true, false, false, false, false, false, false, false, false, false, false, false, false, false, false, false, false, false] HT_ ?_
  refine pureS (i := 8) (N := (some 42)) #[true, true, true, true, true, true, true, true, true, false, false, false, false, false, false, false, false, false, false, false, false, false, false, false, false] HT_ ?_
  refine pure_ (i := 9) (N := (some 43)) (v := undef) (a' := ?_) #[true, true, true, true, true, true, true, true, true, true, false, false, false, false, false, false, false, false, false, false, false, false, false, false, false] rfl rfl (any_of HT_.out (by kernel_rfl)) (fun _ _ _ h => h) (Or.inr ⟨by rfl, rfl⟩) ?_ ?_
  rotate_left
  ·simp only [Act.put, List.setIfInBounds_toArray, List.set_cons_zero, List.set_cons_succ, i64_w, i32_w]
   rfl
  refine pure_ (i := 10) (N := (some 44)) (v := undef) (a' := ?_) #[true, true, true, true, true, true, true, true, true, true, true, false, false, false, false, false, false, false, false, false, false, false, false, false, false] rfl rfl (any_of HT_.out (by kernel_rfl)) (fun _ _ _ h => h) (Or.inr ⟨by rfl, rfl⟩) ?_ ?_
  rotate_left
  ·simp only [Act.put, List.setIfInBounds_toArray, List.set_cons_zero, List.set_cons_succ, i64_w, i32_w]
   rfl
  refine pure_ (i := 11) (N := (some 45)) (v := undef) (a' := ?_) #[true, true, true, true, true, true, true, true, true, true, true, true, false, false, false, false, false, false, false, false, false, false, false, false, false] rfl rfl (any_of HT_.out (by kernel_rfl)) (fun _ _ _ h => h) (Or.inr ⟨by rfl, rfl⟩) ?_ ?_
  rotate_left
  ·simp only [Act.put, List.setIfInBounds_toArray, List.set_cons_zero, List.set_cons_succ, i64_w, i32_w]
   rfl
  refine pure_ (i := 12) (N := (some 46)) (v := undef) (a' := ?_) #[true, true, true, true, true, true, true, true, true, true, true, true, true, false, false, false, false, false, false, false, false, false, false, false, false] rfl rfl (any_of HT_.out (by kernel_rfl)) (fun _ _ _ h => h) (Or.inr ⟨by rfl, rfl⟩) ?_ ?_
  rotate_left
  ·simp only [Act.put, List.setIfInBounds_toArray, List.set_cons_zero, List.set_cons_succ, i64_w, i32_w]
   rfl
  refine pure_ (i := 13) (N := (some 47)) (v := undef) (a' := ?_) #[true, true, true, true, true, true, true, true, true, true, true, true, true, true, false, false, false, false, false, false, false, false, false, false, false] rfl rfl (any_of HT_.out (by kernel_rfl)) (fun _ _ _ h => h) (Or.inr ⟨by rfl, rfl⟩) ?_ ?_
  rotate_left
  ·simp only [Act.put, List.setIfInBounds_toArray, List.set_cons_zero, List.set_cons_succ, i64_w, i32_w]
   rfl
  refine pure_ (i := 14) (N := (some 48)) (v := undef) (a' := ?_) #[true, true, true, true, true, true, true, true, true, true, true, true, true, true, true, false, false, false, false, false, false, false, false, false, false] rfl rfl (any_of HT_.out (by kernel_rfl)) (fun _ _ _ h => h) (Or.inr ⟨by rfl, rfl⟩) ?_ ?_
  rotate_left
  ·simp only [Act.put, List.setIfInBounds_toArray, List.set_cons_zero, List.set_cons_succ, i64_w, i32_w]
   rfl
  refine pure_ (i := 15) (N := (some 49)) (v := undef) (a' := ?_) #[true, true, true, true, true, true, true, true, true, true, true, true, true, true, true, true, false, false, false, false, false, false, false, false, false] rfl rfl (any_of HT_.out (by kernel_rfl)) (fun _ _ _ h => h) (Or.inr ⟨by rfl, rfl⟩) ?_ ?_
  rotate_left
  ·simp only [Act.put, List.setIfInBounds_toArray, List.set_cons_zero, List.set_cons_succ, i64_w, i32_w]
   rfl
  refine pure_ (i := 16) (N := (some 50)) (v := undef) (a' := ?_) #[true, true, true, true, true, true, true, true, true, true, true, true, true, true, true, true, true, false, false, false, false, false, false, false, false] rfl rfl (any_of HT_.out (by kernel_rfl)) (fun _ _ _ h => h) (Or.inr ⟨by rfl, rfl⟩) ?_ ?_
  rotate_left
  ·simp only [Act.put, List.setIfInBounds_toArray, List.set_cons_zero, List.set_cons_succ, i64_w, i32_w]
   rfl
  refine pure_ (i := 17) (N := (some 51)) (v := undef) (a' := ?_) #[true, true, true, true, true, true, true, true, true, true, true, true, true, true, true, true, true, true, false, false, false, false, false, false, false] rfl rfl (any_of HT_.out (by kernel_rfl)) (fun _ _ _ h => h) (Or.inr ⟨by rfl, rfl⟩) ?_ ?_
  rotate_left
  ·simp only [Act.put, List.setIfInBounds_toArray, List.set_cons_zero, List.set_cons_succ, i64_w, i32_w]
   rfl
  refine pure_ (i := 18) (N := (some 52)) (v := undef) (a' := ?_) #[true, true, true, true, true, true, true, true, true, true, true, true, true, true, true, true, true, true, true, false, false, false, false, false, false] rfl rfl (any_of HT_.out (by kernel_rfl)) (fun _ _ _ h => h) (Or.inr ⟨by rfl, rfl⟩) ?_ ?_
  rotate_left
  ·simp only [Act.put, List.setIfInBounds_toArray, List.set_cons_zero, List.set_cons_succ, i64_w, i32_w]
   rfl
  refine pureS (i := 19) (N := (some 53)) #[true, true, true, true, true, true, true, true, true, true, true, true, true, true, true, true, true, true, true, true, false, false, false, false, false] HT_ ?_
  refine pureS (i := 20) (N := (some 54)) #[true, true, true, true, true, true, true, true, true, true, true, true, true, true, true, true, true, true, true, true, true, false, false, false, false] HT_ ?_
  refine pure_ (i := 21) (N := (some 55)) (v := undef) (a' := ?_) #[true, true, true, true, true, true, true, true, true, true, true, true, true, true, true, true, true, true, true, true, true, true, false, false, false] rfl rfl (any_of HT_.out (by kernel_rfl)) (fun _ _ _ h => h) (Or.inr ⟨by rfl, rfl⟩) ?_ ?_
  rotate_left
  ·simp only [Act.put, List.setIfInBounds_toArray, List.set_cons_zero, List.set_cons_succ, i64_w, i32_w]
   rfl
  refine pure_ (i := 22) (N := (some 56)) (v := undef) (a' := ?_) #[true, true, true, true, true, true, true, true, true, true, true, true, true, true, true, true, true, true, true, true, true, true, true, false, false] rfl rfl (any_of HT_.out (by kernel_rfl)) (fun _ _ _ h => h) (Or.inr ⟨by rfl, rfl⟩) ?_ ?_
  rotate_left
  ·simp only [Act.put, List.setIfInBounds_toArray, List.set_cons_zero, List.set_cons_succ, i64_w, i32_w]
   rfl
  refine pure_ (i := 23) (N := (some 57)) (v := undef) (a' := ?_) #[true, true, true, true, true, true, true, true, true, true, true, true, true, true, true, true, true, true, true, true, true, true, true, true, false] rfl rfl (any_of HT_.out (by kernel_rfl)) (fun _ _ _ h => h) (Or.inr ⟨by rfl, rfl⟩) ?_ ?_
  rotate_left
  ·simp only [Act.put, List.setIfInBounds_toArray, List.set_cons_zero, List.set_cons_succ, i64_w, i32_w]
   rfl
  refine pureS (i := 24) (N := (some 58)) #[true, true, true, true, true, true, true, true, true, true, true, true, true, true, true, true, true, true, true, true, true, true, true, true, true] HT_ ?_
  refine done_ (done_of HT_.out (by kernel_rfl)) ?_
  have n_ := Aside0.mk (blk_below HX.out hHeld); clear HX; have HX := n_; clear n_; have n_ := Aside0.mk (HB.out.trans (hHeld.mono HB.out.size)); clear HB; have HB := n_; clear n_ hHeld; clear z0 z1 z2 z3 z4 z5 z6 z7 z8 z9 z10 z11 z12; obtain ⟨z0, z1, z2, z3, z4, z5, z6, z7, z8, z9, z10, z11, z12⟩ := cells13 HX.out
  go_wp2_with (fail)
  go_ret
  exact ⟨by rw [← HV.out]; simp only [checkY, wordsY, *]; rfl, HB.out⟩
 ·have g0' : (((trimC d).length : Int) != (d.length : Int)) = false := by rw [bne_eq_false_iff_eq]; have := bne_eq_false_iff_eq.1 g0; omega
  refine start_ (n := 25) (S := (fun w' => Below wo.heap.size wo w')) (ds := []) #[false, false, false, false, false, false, false, false, false, false, false, false, false, false, false, false, false, false, false, false, false, false, false, false, false] (by kernel_rfl) rfl rfl (below_drew (Below.refl _ _)) (fun hHeld => ?_)
  refine with_tabW chk.tab9 chk.bits9 (fun HT_ HW_ => ?_)
  refine pureS (i := 0) (N := (some 34)) #[true, false, false, false, false, false, false, false, false, false, false, false, false, false, false, false, false, false, false, false, false, false, false, false, false] HT_ ?_
  refine pureS (i := 4) (N := (some 38)) #[true, false, false, false, true, false, false, false, false, false, false, false, false, false, false, false, false, false, false, false, false, false, false, false, false] HT_ ?_
  refine take_ (i := 1) (N := (some 35)) (v := ?_) (a' := ?_) #[true, true, false, false, true, false, false, false, false, false, false, false, false, false, false, false, false, false, false, false, false, false, false, false, false] rfl rfl (take_ofW HT_.out HW_.out (by kernel_rfl)) (fun _ _ _ h => h) (Or.inl ⟨by rfl, ?_⟩) hHeld ?_ ?_
  rotate_left
  ·intro w' s0
   have f : w'.cell? ⟨gb, 3, none⟩ = some (.slice A3 d.length c3) := (blk_cell (blk_below HX.out s0) 3).trans rfl
   go_simp
   with_reducible rfl
  rotate_left
  ·simp only [Act.put, List.setIfInBounds_toArray, List.set_cons_zero, List.set_cons_succ, i64_w, i32_w]
   rfl
  refine take_ (i := 5) (N := (some 39)) (v := ?_) (a' := ?_) #[true, true, false, false, true, true, false, false, false, false, false, false, false, false, false, false, false, false, false, false, false, false, false, false, false] rfl rfl (take_ofW HT_.out HW_.out (by kernel_rfl)) (fun _ _ _ h => h) (Or.inl ⟨by rfl, ?_⟩) hHeld ?_ ?_
  rotate_left
  ·intro w' s0
   have f : w'.cell? ⟨gb, 3, none⟩ = some (.slice A3 d.length c3) := (blk_cell (blk_below HX.out s0) 3).trans rfl
   go_simp
   with_reducible rfl
  rotate_left
  ·simp only [Act.put, List.setIfInBounds_toArray, List.set_cons_zero, List.set_cons_succ, i64_w, i32_w]
   rfl
  refine pureS (i := 6) (N := (some 40)) #[true, true, false, false, true, true, true, false, false, false, false, false, false, false, false, false, false, false, false, false, false, false, false, false, false] HT_ ?_
  refine one_ (i := 2) (N := (some 36)) #[true, true, true, false, true, true, true, false, false, false, false, false, false, false, false, false, false, false, false, false, false, false, false, false, false] rfl rfl (one_of HT_.out (by kernel_rfl)) (by decide) (fun K hK => ?_)
  refine goes_ Try.func44 (by kernel_rfl) rfl #[.slice A3 d.length c3] (by rfl) rfl rfl (by (try simp only [List.map_toArray, List.map_cons, List.map_nil]); first | done | rfl) ?_
  have hH := hHeld
  refine (topiaryref02_Trim.calls 400 A3 c3 d (trimC d) _ (Kd.C_below HC3.out (HB.out.trans (hH.mono HB.out.size))) HL3.out HTR.out).mono ?_
  rintro e w1 ⟨v1, rfl, hr1, hb_⟩
  obtain ⟨A9, c9, rfl⟩ := Kd.R_slice hr1
  clear hr1
  refine ⟨_, rfl, ?_⟩
  have hS : Below wo.heap.size wo w1 := hH.trans (hb_.mono hH.size)
  clear hb_ hH hHeld
  refine hK.out _ _ (hS) (fun hHeld => ?_)
  clear hK K
  refine norm_ (a' := ?_) ?_ ?_
  rotate_left
  ·show Act.put _ (some 36) _ = _
   simp only [Act.put, List.setIfInBounds_toArray, List.set_cons_zero, List.set_cons_succ, i64_w, i32_w]
   rfl
  refine pureS (i := 3) (N := (some 37)) #[true, true, true, true, true, true, true, false, false, false, false, false, false, false, false, false, false, false, false, false, false, false, false, false, false] HT_ ?_
  refine pureS (i := 7) (N := (some 41)) #[true, true, true, true, true, true, true, true, false, false, false, false, false, false, false, false, false, false, false, false, false, false, false, false, false] HT_ ?_
  refine pureS (i := 8) (N := (some 42)) #[true, true, true, true, true, true, true, true, true, false, false, false, false, false, false, false, false, false, false, false, false, false, false, false, false] HT_ ?_
  refine pureS (i := 9) (N := (some 43)) #[true, true, true, true, true, true, true, true, true, true, false, false, false, false, false, false, false, false, false, false, false, false, false, false, false] HT_ ?_
  refine pureS (i := 11) (N := (some 45)) #[true, true, true, true, true, true, true, true, true, true, false, true, false, false, false, false, false, false, false, false, false, false, false, false, false] HT_ ?_
  refine pureS (i := 12) (N := (some 46)) #[true, true, true, true, true, true, true, true, true, true, false, true, true, false, false, false, false, false, false, false, false, false, false, false, false] HT_ ?_
  refine pureS (i := 15) (N := (some 49)) #[true, true, true, true, true, true, true, true, true, true, false, true, true, false, false, true, false, false, false, false, false, false, false, false, false] HT_ ?_
  refine take_ (i := 10) (N := (some 44)) (v := ?_) (a' := ?_) #[true, true, true, true, true, true, true, true, true, true, true, true, true, false, false, true, false, false, false, false, false, false, false, false, false] rfl rfl (take_ofW HT_.out HW_.out (by kernel_rfl)) (fun _ _ _ h => h) (Or.inl ⟨by rfl, ?_⟩) hHeld ?_ ?_
  rotate_left
  ·intro w' s0
   have f : w'.cell? ⟨gb, 3, none⟩ = some (.slice A3 d.length c3) := (blk_cell (blk_below HX.out s0) 3).trans rfl
   go_simp
   with_reducible rfl
  rotate_left
  ·simp only [Act.put, List.setIfInBounds_toArray, List.set_cons_zero, List.set_cons_succ, i64_w, i32_w]
   rfl
  refine take_ (i := 13) (N := (some 47)) (v := ?_) (a' := ?_) #[true, true, true, true, true, true, true, true, true, true, true, true, true, true, false, true, false, false, false, false, false, false, false, false, false] rfl rfl (take_ofW HT_.out HW_.out (by kernel_rfl)) (fun _ _ _ h => h) (Or.inl ⟨by rfl, ?_⟩) hHeld ?_ ?_
  rotate_left
  ·intro w' s0
   have f : w'.cell? ⟨gb, 1, none⟩ = some (.int .i64 a1) := (blk_cell (blk_below HX.out s0) 1).trans rfl
   go_simp
   with_reducible rfl
  rotate_left
  ·simp only [Act.put, List.setIfInBounds_toArray, List.set_cons_zero, List.set_cons_succ, i64_w, i32_w]
   rfl
  refine take_ (i := 16) (N := (some 50)) (v := ?_) (a' := ?_) #[true, true, true, true, true, true, true, true, true, true, true, true, true, true, false, true, true, false, false, false, false, false, false, false, false] rfl rfl (take_ofW HT_.out HW_.out (by kernel_rfl)) (fun _ _ _ h => h) (Or.inl ⟨by rfl, ?_⟩) hHeld ?_ ?_
  rotate_left
  ·intro w' s0
   have f : w'.cell? ⟨gb, 2, none⟩ = some (.int .i64 a2) := (blk_cell (blk_below HX.out s0) 2).trans rfl
   go_simp
   with_reducible rfl
  rotate_left
  ·simp only [Act.put, List.setIfInBounds_toArray, List.set_cons_zero, List.set_cons_succ, i64_w, i32_w]
   rfl
  refine pureS (i := 17) (N := (some 51)) #[true, true, true, true, true, true, true, true, true, true, true, true, true, true, false, true, true, true, false, false, false, false, false, false, false] HT_ ?_
  refine one_ (i := 14) (N := (some 48)) #[true, true, true, true, true, true, true, true, true, true, true, true, true, true, true, true, true, true, false, false, false, false, false, false, false] rfl rfl (one_of HT_.out (by kernel_rfl)) (by decide) (fun K hK => ?_)
  refine goes_ Try.func49 (by kernel_rfl) rfl #[.slice A3 d.length c3, .int .i64 a1] (by rfl) rfl rfl (by (try simp only [List.map_toArray, List.map_cons, List.map_nil]); first | done | rfl) ?_
  have hH := hHeld
  refine (topiaryref02_At.calls A3 c3 d a1 _ _ (Kd.C_below HC3.out (HB.out.trans (hH.mono HB.out.size))) HL3.out (ref_At_is d a1)).mono ?_
  rintro e w1 ⟨rfl, ⟨nd, hnd⟩⟩
  have hb_ := drew_below hnd; clear hnd
  refine ⟨_, rfl, ?_⟩
  have hS : Below wo.heap.size wo w1 := hH.trans (hb_.mono hH.size)
  clear hb_ hH hHeld
  refine hK.out _ _ (hS) (fun hHeld => ?_)
  clear hK K
  refine norm_ (a' := ?_) ?_ ?_
  rotate_left
  ·show Act.put _ (some 48) _ = _
   simp only [Act.put, List.setIfInBounds_toArray, List.set_cons_zero, List.set_cons_succ, i64_w, i32_w]
   rfl
  refine pureS (i := 18) (N := (some 52)) #[true, true, true, true, true, true, true, true, true, true, true, true, true, true, true, true, true, true, true, false, false, false, false, false, false] HT_ ?_
  refine pureS (i := 19) (N := (some 53)) #[true, true, true, true, true, true, true, true, true, true, true, true, true, true, true, true, true, true, true, true, false, false, false, false, false] HT_ ?_
  refine pureS (i := 20) (N := (some 54)) #[true, true, true, true, true, true, true, true, true, true, true, true, true, true, true, true, true, true, true, true, true, false, false, false, false] HT_ ?_
  refine pure_ (i := 21) (N := (some 55)) (v := undef) (a' := ?_) #[true, true, true, true, true, true, true, true, true, true, true, true, true, true, true, true, true, true, true, true, true, true, false, false, false] rfl rfl (any_of HT_.out (by kernel_rfl)) (fun _ _ _ h => h) (Or.inr ⟨by rfl, rfl⟩) ?_ ?_
  rotate_left
  ·simp only [Act.put, List.setIfInBounds_toArray, List.set_cons_zero, List.set_cons_succ, i64_w, i32_w]
   rfl
  refine pure_ (i := 22) (N := (some 56)) (v := undef) (a' := ?_) #[true, true, true, true, true, true, true, true, true, true, true, true, true, true, true, true, true, true, true, true, true, true, true, false, false] rfl rfl (any_of HT_.out (by kernel_rfl)) (fun _ _ _ h => h) (Or.inr ⟨by rfl, rfl⟩) ?_ ?_
  rotate_left
  ·simp only [Act.put, List.setIfInBounds_toArray, List.set_cons_zero, List.set_cons_succ, i64_w, i32_w]
   rfl
  refine pure_ (i := 23) (N := (some 57)) (v := undef) (a' := ?_) #[true, true, true, true, true, true, true, true, true, true, true, true, true, true, true, true, true, true, true, true, true, true, true, true, false] rfl rfl (any_of HT_.out (by kernel_rfl)) (fun _ _ _ h => h) (Or.inr ⟨by rfl, rfl⟩) ?_ ?_
  rotate_left
  ·simp only [Act.put, List.setIfInBounds_toArray, List.set_cons_zero, List.set_cons_succ, i64_w, i32_w]
   rfl
  refine pureS (i := 24) (N := (some 58)) #[true, true, true, true, true, true, true, true, true, true, true, true, true, true, true, true, true, true, true, true, true, true, true, true, true] HT_ ?_
  refine done_ (done_of HT_.out (by kernel_rfl)) ?_
  have n_ := Aside0.mk (blk_below HX.out hHeld); clear HX; have HX := n_; clear n_; have n_ := Aside0.mk (HB.out.trans (hHeld.mono HB.out.size)); clear HB; have HB := n_; clear n_ hHeld; clear z0 z1 z2 z3 z4 z5 z6 z7 z8 z9 z10 z11 z12; obtain ⟨z0, z1, z2, z3, z4, z5, z6, z7, z8, z9, z10, z11, z12⟩ := cells13 HX.out
  go_wp2_with (fail)
  go_ret
  exact ⟨by rw [← HV.out]; simp only [checkY, wordsY, *]; rfl, HB.out⟩
 ·have g0' : (((trimC d).length : Int) != (d.length : Int)) = false := by rw [bne_eq_false_iff_eq]; have := bne_eq_false_iff_eq.1 g0; omega
  generalize hpb : (nodeOkC a4 a5 a6 a0 a1 && placeOkC a4 a5 a6 a7 a8 a9 a10 a0 a1) = pb at *
  have HPB := Aside0.mk hpb
  clear hpb
  refine start_ (n := 25) (S := (fun w' => Below wo.heap.size wo w')) (ds := []) #[false, false, false, false, false, false, false, false, false, false, false, false, false, false, false, false, false, false, false, false, false, false, false, false, false] (by kernel_rfl) rfl rfl (below_drew (Below.refl _ _)) (fun hHeld => ?_)
  refine with_tabW chk.tab9 chk.bits9 (fun HT_ HW_ => ?_)
  refine pureS (i := 0) (N := (some 34)) #[true, false, false, false, false, false, false, false, false, false, false, false, false, false, false, false, false, false, false, false, false, false, false, false, false] HT_ ?_
  refine pureS (i := 4) (N := (some 38)) #[true, false, false, false, true, false, false, false, false, false, false, false, false, false, false, false, false, false, false, false, false, false, false, false, false] HT_ ?_
  refine take_ (i := 1) (N := (some 35)) (v := ?_) (a' := ?_) #[true, true, false, false, true, false, false, false, false, false, false, false, false, false, false, false, false, false, false, false, false, false, false, false, false] rfl rfl (take_ofW HT_.out HW_.out (by kernel_rfl)) (fun _ _ _ h => h) (Or.inl ⟨by rfl, ?_⟩) hHeld ?_ ?_
  rotate_left
  ·intro w' s0
   have f : w'.cell? ⟨gb, 3, none⟩ = some (.slice A3 d.length c3) := (blk_cell (blk_below HX.out s0) 3).trans rfl
   go_simp
   with_reducible rfl
  rotate_left
  ·simp only [Act.put, List.setIfInBounds_toArray, List.set_cons_zero, List.set_cons_succ, i64_w, i32_w]
   rfl
  refine take_ (i := 5) (N := (some 39)) (v := ?_) (a' := ?_) #[true, true, false, false, true, true, false, false, false, false, false, false, false, false, false, false, false, false, false, false, false, false, false, false, false] rfl rfl (take_ofW HT_.out HW_.out (by kernel_rfl)) (fun _ _ _ h => h) (Or.inl ⟨by rfl, ?_⟩) hHeld ?_ ?_
  rotate_left
  ·intro w' s0
   have f : w'.cell? ⟨gb, 3, none⟩ = some (.slice A3 d.length c3) := (blk_cell (blk_below HX.out s0) 3).trans rfl
   go_simp
   with_reducible rfl
  rotate_left
  ·simp only [Act.put, List.setIfInBounds_toArray, List.set_cons_zero, List.set_cons_succ, i64_w, i32_w]
   rfl
  refine pureS (i := 6) (N := (some 40)) #[true, true, false, false, true, true, true, false, false, false, false, false, false, false, false, false, false, false, false, false, false, false, false, false, false] HT_ ?_
  refine one_ (i := 2) (N := (some 36)) #[true, true, true, false, true, true, true, false, false, false, false, false, false, false, false, false, false, false, false, false, false, false, false, false, false] rfl rfl (one_of HT_.out (by kernel_rfl)) (by decide) (fun K hK => ?_)
  refine goes_ Try.func44 (by kernel_rfl) rfl #[.slice A3 d.length c3] (by rfl) rfl rfl (by (try simp only [List.map_toArray, List.map_cons, List.map_nil]); first | done | rfl) ?_
  have hH := hHeld
  refine (topiaryref02_Trim.calls 400 A3 c3 d (trimC d) _ (Kd.C_below HC3.out (HB.out.trans (hH.mono HB.out.size))) HL3.out HTR.out).mono ?_
  rintro e w1 ⟨v1, rfl, hr1, hb_⟩
  obtain ⟨A9, c9, rfl⟩ := Kd.R_slice hr1
  clear hr1
  refine ⟨_, rfl, ?_⟩
  have hS : Below wo.heap.size wo w1 := hH.trans (hb_.mono hH.size)
  clear hb_ hH hHeld
  refine hK.out _ _ (hS) (fun hHeld => ?_)
  clear hK K
  refine norm_ (a' := ?_) ?_ ?_
  rotate_left
  ·show Act.put _ (some 36) _ = _
   simp only [Act.put, List.setIfInBounds_toArray, List.set_cons_zero, List.set_cons_succ, i64_w, i32_w]
   rfl
  refine pureS (i := 3) (N := (some 37)) #[true, true, true, true, true, true, true, false, false, false, false, false, false, false, false, false, false, false, false, false, false, false, false, false, false] HT_ ?_
  refine pureS (i := 7) (N := (some 41)) #[true, true, true, true, true, true, true, true, false, false, false, false, false, false, false, false, false, false, false, false, false, false, false, false, false] HT_ ?_
  refine pureS (i := 8) (N := (some 42)) #[true, true, true, true, true, true, true, true, true, false, false, false, false, false, false, false, false, false, false, false, false, false, false, false, false] HT_ ?_
  refine pureS (i := 9) (N := (some 43)) #[true, true, true, true, true, true, true, true, true, true, false, false, false, false, false, false, false, false, false, false, false, false, false, false, false] HT_ ?_
  refine pureS (i := 11) (N := (some 45)) #[true, true, true, true, true, true, true, true, true, true, false, true, false, false, false, false, false, false, false, false, false, false, false, false, false] HT_ ?_
  refine pureS (i := 12) (N := (some 46)) #[true, true, true, true, true, true, true, true, true, true, false, true, true, false, false, false, false, false, false, false, false, false, false, false, false] HT_ ?_
  refine pureS (i := 15) (N := (some 49)) #[true, true, true, true, true, true, true, true, true, true, false, true, true, false, false, true, false, false, false, false, false, false, false, false, false] HT_ ?_
  refine take_ (i := 10) (N := (some 44)) (v := ?_) (a' := ?_) #[true, true, true, true, true, true, true, true, true, true, true, true, true, false, false, true, false, false, false, false, false, false, false, false, false] rfl rfl (take_ofW HT_.out HW_.out (by kernel_rfl)) (fun _ _ _ h => h) (Or.inl ⟨by rfl, ?_⟩) hHeld ?_ ?_
  rotate_left
  ·intro w' s0
   have f : w'.cell? ⟨gb, 3, none⟩ = some (.slice A3 d.length c3) := (blk_cell (blk_below HX.out s0) 3).trans rfl
   go_simp
   with_reducible rfl
  rotate_left
  ·simp only [Act.put, List.setIfInBounds_toArray, List.set_cons_zero, List.set_cons_succ, i64_w, i32_w]
   rfl
  refine take_ (i := 13) (N := (some 47)) (v := ?_) (a' := ?_) #[true, true, true, true, true, true, true, true, true, true, true, true, true, true, false, true, false, false, false, false, false, false, false, false, false] rfl rfl (take_ofW HT_.out HW_.out (by kernel_rfl)) (fun _ _ _ h => h) (Or.inl ⟨by rfl, ?_⟩) hHeld ?_ ?_
  rotate_left
  ·intro w' s0
   have f : w'.cell? ⟨gb, 1, none⟩ = some (.int .i64 a1) := (blk_cell (blk_below HX.out s0) 1).trans rfl
   go_simp
   with_reducible rfl
  rotate_left
  ·simp only [Act.put, List.setIfInBounds_toArray, List.set_cons_zero, List.set_cons_succ, i64_w, i32_w]
   rfl
  refine take_ (i := 16) (N := (some 50)) (v := ?_) (a' := ?_) #[true, true, true, true, true, true, true, true, true, true, true, true, true, true, false, true, true, false, false, false, false, false, false, false, false] rfl rfl (take_ofW HT_.out HW_.out (by kernel_rfl)) (fun _ _ _ h => h) (Or.inl ⟨by rfl, ?_⟩) hHeld ?_ ?_
  rotate_left
  ·intro w' s0
   have f : w'.cell? ⟨gb, 2, none⟩ = some (.int .i64 a2) := (blk_cell (blk_below HX.out s0) 2).trans rfl
   go_simp
   with_reducible rfl
  rotate_left
  ·simp only [Act.put, List.setIfInBounds_toArray, List.set_cons_zero, List.set_cons_succ, i64_w, i32_w]
   rfl
  refine pureS (i := 17) (N := (some 51)) #[true, true, true, true, true, true, true, true, true, true, true, true, true, true, false, true, true, true, false, false, false, false, false, false, false] HT_ ?_
  refine one_ (i := 14) (N := (some 48)) #[true, true, true, true, true, true, true, true, true, true, true, true, true, true, true, true, true, true, false, false, false, false, false, false, false] rfl rfl (one_of HT_.out (by kernel_rfl)) (by decide) (fun K hK => ?_)
  refine goes_ Try.func49 (by kernel_rfl) rfl #[.slice A3 d.length c3, .int .i64 a1] (by rfl) rfl rfl (by (try simp only [List.map_toArray, List.map_cons, List.map_nil]); first | done | rfl) ?_
  have hH := hHeld
  refine (topiaryref02_At.calls A3 c3 d a1 _ _ (Kd.C_below HC3.out (HB.out.trans (hH.mono HB.out.size))) HL3.out (ref_At_is d a1)).mono ?_
  rintro e w1 ⟨rfl, ⟨nd, hnd⟩⟩
  have hb_ := drew_below hnd; clear hnd
  refine ⟨_, rfl, ?_⟩
  have hS : Below wo.heap.size wo w1 := hH.trans (hb_.mono hH.size)
  clear hb_ hH hHeld
  refine hK.out _ _ (hS) (fun hHeld => ?_)
  clear hK K
  refine norm_ (a' := ?_) ?_ ?_
  rotate_left
  ·show Act.put _ (some 48) _ = _
   simp only [Act.put, List.setIfInBounds_toArray, List.set_cons_zero, List.set_cons_succ, i64_w, i32_w]
   rfl
  refine pureS (i := 18) (N := (some 52)) #[true, true, true, true, true, true, true, true, true, true, true, true, true, true, true, true, true, true, true, false, false, false, false, false, false] HT_ ?_
  refine pureS (i := 19) (N := (some 53)) #[true, true, true, true, true, true, true, true, true, true, true, true, true, true, true, true, true, true, true, true, false, false, false, false, false] HT_ ?_
  refine pureS (i := 20) (N := (some 54)) #[true, true, true, true, true, true, true, true, true, true, true, true, true, true, true, true, true, true, true, true, true, false, false, false, false] HT_ ?_
  refine take_ (i := 21) (N := (some 55)) (v := ?_) (a' := ?_) #[true, true, true, true, true, true, true, true, true, true, true, true, true, true, true, true, true, true, true, true, true, true, false, false, false] rfl rfl (take_ofW HT_.out HW_.out (by kernel_rfl)) (fun _ _ _ h => h) (Or.inl ⟨by rfl, ?_⟩) hHeld ?_ ?_
  rotate_left
  ·intro w' s0
   refine Eq.trans (load32_run (x := (⟨⟨a0, a1⟩, a2, d, a4, ⟨a5, a6⟩, ⟨a7, a8⟩, ⟨a9, a10⟩, s, t⟩ : S32)) (v := .slice A3 d.length c3) _ (p := .tmp 1) ?ho_ ?hp_ (blk_cells (blk_below HX.out s0))) ?hr_
   case ho_ => rfl
   case hp_ => rfl
   case hr_ => rfl
  rotate_left
  ·simp only [Act.put, List.setIfInBounds_toArray, List.set_cons_zero, List.set_cons_succ, i64_w, i32_w]
   rfl
  refine one_ (i := 22) (N := (some 56)) #[true, true, true, true, true, true, true, true, true, true, true, true, true, true, true, true, true, true, true, true, true, true, true, false, false] rfl rfl (one_of HT_.out (by kernel_rfl)) (by decide) (fun K hK => ?_)
  refine goes_ Try.func71 (by kernel_rfl) rfl #[.agg #[.int .i64 a0, .int .i64 a1, .int .i64 a2, .slice A3 d.length c3, .int .i64 a4, .int .i64 a5, .int .i64 a6, .int .i64 a7, .int .i64 a8, .int .i64 a9, .int .i64 a10, .string s, .string t]] (by rfl) rfl rfl (by (try simp only [List.map_toArray, List.map_cons, List.map_nil]); first | done | rfl) ?_
  have hH := hHeld
  refine (placed_calls (w := _) a0 a1 a2 A3 d c3 a4 a5 a6 a7 a8 a9 a10 s t HK1.out).mono ?_
  rintro e w1 ⟨he_, hb_⟩
  rw [HPB.out] at he_
  subst he_
  refine ⟨_, rfl, ?_⟩
  have hS : Below wo.heap.size wo w1 := hH.trans (hb_.mono hH.size)
  clear hb_ hH hHeld
  refine hK.out _ _ (hS) (fun hHeld => ?_)
  clear hK K
  refine norm_ (a' := ?_) ?_ ?_
  rotate_left
  ·show Act.put _ (some 56) _ = _
   simp only [Act.put, List.setIfInBounds_toArray, List.set_cons_zero, List.set_cons_succ, i64_w, i32_w]
   rfl
  refine pureS (i := 23) (N := (some 57)) #[true, true, true, true, true, true, true, true, true, true, true, true, true, true, true, true, true, true, true, true, true, true, true, true, false] HT_ ?_
  refine pureS (i := 24) (N := (some 58)) #[true, true, true, true, true, true, true, true, true, true, true, true, true, true, true, true, true, true, true, true, true, true, true, true, true] HT_ ?_
  refine done_ (done_of HT_.out (by kernel_rfl)) ?_
  have n_ := Aside0.mk (blk_below HX.out hHeld); clear HX; have HX := n_; clear n_; have n_ := Aside0.mk (HB.out.trans (hHeld.mono HB.out.size)); clear HB; have HB := n_; clear n_ hHeld; clear z0 z1 z2 z3 z4 z5 z6 z7 z8 z9 z10 z11 z12; obtain ⟨z0, z1, z2, z3, z4, z5, z6, z7, z8, z9, z10, z11, z12⟩ := cells13 HX.out
  cases pb with
  | false =>
   go_wp2_with (fail)
   go_ret
   exact ⟨by rw [← HV.out]; simp only [checkY, wordsY, *]; rfl, HB.out⟩
  | true =>
   go_upto_region 11 with (fail)
   rcases HKK.out with ⟨k1, k3, k4, k5, j3, j5⟩ | ⟨k1, k3, k4, k5, j3, j5⟩ | ⟨k1, k3, k4, k5, j3, j5⟩ | ⟨k1, k3, k4, k5, j3, j5⟩ | ⟨k1, k3, k4, k5, j3, j5⟩
   rcases ckC (nameC s) (decide ((t.size : Int) > 256)) (t.toList != ([] : List UInt8)) with l0 | ⟨l0, l1⟩ | ⟨l0, l1, l2⟩ | ⟨l0, l1, l2⟩
   rotate_left 4
   rcases ckC (nameC s) (decide ((t.size : Int) > 256)) (t.toList != ([] : List UInt8)) with l0 | ⟨l0, l1⟩ | ⟨l0, l1, l2⟩ | ⟨l0, l1, l2⟩
   rotate_left 4
   rcases ckD (nameC s) (decide ((t.size : Int) > 256)) with l0 | ⟨l0, l1⟩ | ⟨l0, l1⟩
   rotate_left 3
   rcases ckB (s.toList != ([] : List UInt8)) (decide ((t.size : Int) > 256)) with l0 | ⟨l0, l1⟩ | ⟨l0, l1⟩
   rotate_left 3
   rcases ckE (s.toList != ([] : List UInt8)) (decide ((t.size : Int) > 256)) (t.toList != ([] : List UInt8)) with l0 | ⟨l0, l1⟩ | ⟨l0, l1, l2⟩ | ⟨l0, l1, l2⟩
   all_goals
    try have q0 := bne_f (l := s.toList) l0
    try have q2 := bne_f (l := t.toList) l2
    go_wp2_with (first | (go_at_call 72; refine (topiaryref05_Name.calls (s.size + 3) s _ _ HNM.out).mono ?_; clear z0 z1 z2 z3 z4 z5 z6 z7 z8 z9 z10 z11 z12; rintro e w2 ⟨rfl, ⟨nd, hnd⟩⟩; have hb_ := drew_below hnd; clear hnd; have n_ := Aside0.mk (blk_below HX.out hb_); clear HX; have HX := n_; clear n_; have n_ := Aside0.mk (HB.out.trans (hb_.mono HB.out.size)); clear HB; have HB := n_; clear n_ hb_; obtain ⟨z0, z1, z2, z3, z4, z5, z6, z7, z8, z9, z10, z11, z12⟩ := cells13 HX.out))
    go_ret
    exact ⟨by rw [← HV.out]; simp only [checkY, wordsY, *]; rfl, HB.out⟩
end Go.Proofs.Ytnopjjilpgekfaa.PCa
