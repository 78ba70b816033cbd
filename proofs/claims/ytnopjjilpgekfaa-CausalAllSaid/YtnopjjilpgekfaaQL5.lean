/- What the statement's row needs of this session's texts, joined by program: part 6. -/
import Derived.Maps.RangeRun
import Derived.Test.YtnopjjilpgekfaaQL4
namespace Go.Proofs.Ytnopjjilpgekfaa.PCa
open Go.RowKit Go.Proofs.YtnopjjilpgekfaaW.PrintWords Go.Proofs.YtnopjjilpgekfaaW.PrintLast Go.Proofs.YtnopjjilpgekfaaW.PrintMore
attribute [local go_sem] max2_int min2_int max_two min_two max_three min_three max_four min_four
set_option linter.unusedVariables false
set_option linter.unusedSimpArgs false
theorem put_ne {w : World} {base : Nat} {P : Nat → Prop} {g : Nat} {room : Int} {l : List S32} {mb : Nat} {es : List ((Nat × KeyP) × Int)} {c : Nat} {A : Option Addr} {ch : Nat} (h : BufO w base P g room l mb es c A ch) : some g ≠ (Value.slice A l.length ch).ownBlock := fun e => ((Kd.S_R h.row).1 g e.symm).2.1 rfl
theorem put_ne2 {w : World} {base : Nat} {P : Nat → Prop} {g : Nat} {room : Int} {l : List S32} {mb : Nat} {es : List ((Nat × KeyP) × Int)} {c : Nat} {A : Option Addr} {ch gb : Nat} (h : BufO w base P g room l mb es c A ch) (hgb : w.heap.size ≤ gb) : some gb ≠ (Value.slice A l.length ch).ownBlock := fun e => by
 have := ((Kd.S_R h.row).1 gb e.symm).1.2
 omega
theorem put_blk {w w7 : World} {base : Nat} {P : Nat → Prop} {g : Nat} {room : Int} {l : List S32} {mb : Nat} {es : List ((Nat × KeyP) × Int)} {c : Nat} {A : Option Addr} {ch : Nat} (h : BufO w base P g room l mb es c A ch) (hb : Below w.heap.size w w7) {o : Obj} : (w7.alloc o).heap[g]? = some (.cells #[.int .i64 room, .slice A l.length ch, .map (some mb)] 71 (0, 0)) := Mem.alloc_old (blk_below h.blk hb) o
theorem findP_new {es : List ((Nat × KeyP) × Int)} {k : KeyP} {c : Nat} {v : Int} : ∀ {i : Nat}, findP es k i = none → findP (es ++ [((c, k), v)]) k i = some (i + es.length, .int .i64 v) := by
 induction es with
 | nil =>
  intro i _
  have hs : sameK k k = true := sameK_iff.2 rfl
  simp [findP, hs]
 | cons e t ih =>
  intro i h
  unfold findP at h
  rw [List.cons_append]
  unfold findP
  by_cases hs : sameK k e.1.2 = true
  ·rw [if_pos hs] at h; cases h
  ·rw [if_neg hs] at h ⊢
   rw [ih h, List.length_cons, show i + 1 + t.length = i + (t.length + 1) from by omega]
theorem valP_new {es : List ((Nat × KeyP) × Int)} {k : KeyP} {c : Nat} {v : Int} (h : findP es k 0 = none) : valP (es ++ [((c, k), v)]) k = .int .i64 v := by
 unfold valP
 rw [findP_new h]
/-- The buffer in the midst of put: the change is in the row, the map knows nothing of it. -/
structure PutM (w : World) (base : Nat) (P : Nat → Prop) (g : Nat) (room : Int) (l' : List S32) (mb : Nat) (es : List ((Nat × KeyP) × Int)) (c : Nat) (A9 : Option Addr) (c9 : Nat) (w10 : World) : Prop where
 blk : w10.heap[g]? = some (.cells #[.int .i64 room, .slice A9 l'.length c9, .map (some mb)] 71 (0, 0))
 map : MapE w10 mb es c
 row : Kd.S k32 32 w10 base (fun k => ((P k ∧ k < w.heap.size) ∧ k ≠ g ∧ k ≠ mb) ∨ w.heap.size ≤ k) (.slice A9 l'.length c9) l'
 kept : Kept w w10 P
theorem put_mid {w w7 w9 : World} {base : Nat} {P : Nat → Prop} {g : Nat} {room : Int} {l l' : List S32} {mb : Nat} {es : List ((Nat × KeyP) × Int)} {c : Nat} {A A9 : Option Addr} {ch c9 : Nat} {o : Obj} (h : BufO w base P g room l mb es c A ch) (hb7 : Below w.heap.size w w7)
  (hs : Kd.S k32 32 w9 base (fun k => ((P k ∧ k < w.heap.size) ∧ k ≠ g ∧ k ≠ mb) ∨ w.heap.size ≤ k) (.slice A9 l'.length c9) l') (hg : (w7.alloc o).grownBy w9 (Value.slice A l.length ch).ownBlock) :
  PutM w base P g room l' mb es c A9 c9 (w9.setCell ⟨g, 1, none⟩ (.slice A9 l'.length c9)) := by
 have hgw := blk_lt h.blk
 have hmw := blk_lt h.map
 have hmo : some mb ≠ (Value.slice A l.length ch).ownBlock := fun e => ((Kd.S_R h.row).1 mb e.symm).2.2 rfl
 refine ⟨blk_put (blk_grown (put_blk h hb7) hg (put_ne h)) 1 _ rfl, ?_, ?_, ?_⟩
 ·unfold MapE
  rw [Below.heap_setCell w9 ⟨g, 1, none⟩ _ mb (Ne.symm h.ne), hg.block mb (by rw [Mem.alloc_size]; have := hb7.size; omega) hmo]
  exact Mem.alloc_old (blk_below h.map hb7) o
 ·refine Kd.S_far hs (fun k hk => ?_) _
  rcases hk with hk | hk
  ·exact hk.2.1
  ·intro e
   have e' : k = g := e
   omega
 ·refine Kept.setCell (Kept.of_grown hg ((Kept.of_below hb7 P).alloc o) (fun k hk => .inl ((Kd.S_R h.row).1 k hk).1.1)) (.inl h.Pg) _
theorem put_fin {w w10 w11 : World} {base : Nat} {P : Nat → Prop} {g : Nat} {room : Int} {l : List S32} {i : Nat} {x : S32} {mb : Nat} {es : List ((Nat × KeyP) × Int)} {c : Nat} {A A9 : Option Addr} {ch c9 : Nat} {o : Obj} (h : BufO w base P g room l mb es c A ch) (hm : PutM w base P g room (l.take i ++ x :: l.drop i) mb es c A9 c9 w10) (hb : Below w10.heap.size w10 w11) (hno : keyOf x ∉ l.map keyOf) :
  TakeB w base P g room (l.take i ++ x :: l.drop i, [], 0) (.returned (.tuple #[.slice none 0 0, .int .i64 0])) ((w11.putObj mb o).putObj mb (.map ((es ++ [((c, keyOf x), 1)]).map entE).toArray (c + 1))) := by
 have hk : Kept w ((w11.putObj mb o).putObj mb (.map ((es ++ [((c, keyOf x), 1)]).map entE).toArray (c + 1))) P := ((hm.kept.below hb).putObj mb _ (.inl h.Pm)).putObj mb _ (.inl h.Pm)
 have hfar : ∀ k, k ≠ mb → k < w10.heap.size → ((w11.putObj mb o).putObj mb (.map ((es ++ [((c, keyOf x), 1)]).map entE).toArray (c + 1))).heap[k]? = w10.heap[k]? := fun k hk hlt => by
  rw [putObj_other _ _ _ _ hk, putObj_other _ _ _ _ hk, hb.block k hlt]
 have hmw := blk_lt h.map
 have hgw := blk_lt h.blk
 refine ⟨fun k => P k ∨ w.heap.size ≤ k, fun _ => False, .slice none 0 0, rfl, ?_, Kd.S_nil _ _ _ _ _, fun _ hk => hk, fun _ hk => hk.elim, fun _ hk => hk.elim, hk⟩
 refine ⟨mb, es ++ [((c, keyOf x), 1)], c + 1, A9, c9, (hfar g h.ne (blk_lt hm.blk)).trans hm.blk, h.bg, .inl h.Pg, h.bm, .inl h.Pm, ?_, h.ok.more hno (List.perm_middle.trans (by rw [List.take_append_drop])), ?_⟩
 ·refine putObj_at _ _ _ ?_
  have : (w11.putObj mb o).heap.size = w11.heap.size := by simp [World.putObj]
  rw [this]
  exact Nat.lt_of_lt_of_le (blk_lt hm.map) hb.size
 ·refine Kd.S_mono (Kd.S_step hm.row (fun k hk hlt => hfar k ?_ hlt)) (fun k hk => ?_)
  ·rcases hk with hk | hk
   ·exact hk.2.2
   ·omega
  ·rcases hk with hk | hk
   ·exact ⟨.inl hk.1.1, hk.2.1⟩
   ·exact ⟨.inr hk, by omega⟩
theorem put_insert {w w6 w7 : World} {base : Nat} {P : Nat → Prop} {g : Nat} {room : Int} {l : List S32} {mb : Nat} {es : List ((Nat × KeyP) × Int)} {c : Nat} {A : Option Addr} {ch : Nat} (h : BufO w base P g room l mb es c A ch) (hb6 : Below w.heap.size w w6) (hb7 : Below w.heap.size w w7) {x : S32} {A7 : Option Addr} {c7 : Nat}
  (hv : (Kd.int .i64).R 3 w7 w6.drew.heap.size (fun k => w6.drew.heap.size ≤ k ∧ k < w7.heap.size) (.slice A7 x.f2.length c7) x.f2) {i : Nat} (hi : i ≤ l.length) (hn : l.length < 1000) :
  Calls Try.prog 43 #[.slice A l.length ch, .int .i64 (i : Int), .slice (some ⟨w7.heap.size, 0, none⟩) 1 1] (w7.alloc (.cells (chA x (.slice A7 x.f2.length c7)) 32)) fun e w' => ∃ v', e = .returned v' ∧ Kd.S k32 32 w' base (fun k => ((P k ∧ k < w.heap.size) ∧ k ≠ g ∧ k ≠ mb) ∨ w.heap.size ≤ k) v' (l.take i ++ x :: l.drop i) ∧ (w7.alloc (.cells (chA x (.slice A7 x.f2.length c7)) 32)).grownBy w' (Value.slice A l.length ch).ownBlock := by
 have h6 : w.heap.size ≤ w6.drew.heap.size := hb6.size
 have h7 := hb7.size
 have hbs := h.shut.base_le
 have hrow := Kd.S_alloc (Kd.S_below (Kd.S_mono h.row (ok' := fun k => (((P k ∧ k < w.heap.size) ∧ k ≠ g ∧ k ≠ mb) ∨ w.heap.size ≤ k) ∧ ¬ (w6.drew.heap.size ≤ k ∧ k < w7.heap.size)) (fun k hk => ⟨.inl hk, fun h2 => by have := hk.1.2; omega⟩)) hb7) (.cells (chA x (.slice A7 x.f2.length c7)) 32)
 have hM := chMk (x := x) (Kd.R_lower (Kd.R_below hv (below_alloc (Below.refl _ _) (.cells (chA x (.slice A7 x.f2.length c7)) 32))) (Nat.le_trans hbs h6))
 refine (insert_S hrow hi (by omega) hM (fun k hk => .inr (by omega)) (fun k hk => .inr (by rw [Mem.alloc_size] at hk; omega)) w7.heap.size (put_ne2 h h7) (Mem.alloc_new _ _) (by rw [Mem.alloc_size]; omega)).mono ?_
 rintro e w' ⟨v', he, hs, hg, _⟩
 exact ⟨v', he, hs, hg⟩
set_option maxHeartbeats 8000000 in
set_option maxRecDepth 100000 in
theorem take_put {w : World} {base : Nat} {P : Nat → Prop} {g : Nat} {room : Int} {l : List S32} (hB : BufI w base P g room l) (A0 : Option Addr) (c0 : Nat) (known : List Int) (hk : Kd.C (Kd.int .i64) w A0 known.length known) (hkc : known.length ≤ c0)
  (x : S32) (A3 : Option Addr) (c3 : Nat) (hx : Kd.C (Kd.int .i64) w A3 x.f2.length x.f2) (hx3 : x.f2.length ≤ c3) (hs : x.f7.size < 4611686018427387904) (hc : chkC known = 0) (hc2 : checkX x = 0) (hw : withinX known x = false) (ho : ownX l x = false) (hr : ripeC known x = false) (hf : ¬ room ≤ l.length) (hn : l.length < 1000)
  (hbn : ∀ y ∈ l, 0 ≤ y.f1 ∧ y.f1 ≤ 1099511627776) (hmono : ∀ a b, a ≤ b → b < l.length → cmpX (rd_T32 l (b : Nat)) x < 0 → cmpX (rd_T32 l (a : Nat)) x < 0) {X : Nat → Prop} (hxF : Kd.F (Kd.int .i64) w X A3 x.f2.length x.f2) (hXP : ∀ k, X k → ¬ P k) :
  Calls Try.prog 13 #[.pointer (some ⟨g, 0, none⟩), .slice A0 known.length c0, (.agg #[.int .i64 x.f0.f0, .int .i64 x.f0.f1, .int .i64 x.f1, (.slice A3 x.f2.length c3), .int .i64 x.f3, .int .i64 x.f4.f0, .int .i64 x.f4.f1, .int .i64 x.f5.f0, .int .i64 x.f5.f1, .int .i64 x.f6.f0, .int .i64 x.f6.f1, .string x.f7, .string x.f8])] w (TakeB w base P g room (l.take (cntX x l) ++ x :: l.drop (cntX x l), [], 0)) := by
 have HBUF := Aside0.mk hB
 have HK := Aside0.mk hk
 have HKC := Aside0.mk hkc
 have HC3 := Aside0.mk hx
 have HL3 := Aside0.mk hx3
 have HCK := Aside0.mk (clock_Check_is known 66 (by decide))
 rw [hc] at HCK
 have HCE := Aside0.mk (change_Check_is (x.f7.size + 200) x.f0.f0 x.f0.f1 x.f1 x.f2 x.f3 x.f4.f0 x.f4.f1 x.f5.f0 x.f5.f1 x.f6.f0 x.f6.f1 x.f7 x.f8 hs (by omega) (by omega))
 rw [show checkC x.f0.f0 x.f0.f1 x.f1 x.f2 x.f3 x.f4.f0 x.f4.f1 x.f5.f0 x.f5.f1 x.f6.f0 x.f6.f1 x.f7 x.f8 = checkX x from rfl, hc2] at HCE
 have HX64 := Aside0.mk (check_ok hc2)
 have HCH := Aside0.mk hc
 obtain ⟨at_, hat_⟩ : ∃ a, atC known x.f0.f1 = a := ⟨_, rfl⟩
 have HAT := Aside0.mk (clock_At_is known x.f0.f1)
 rw [hat_] at HAT
 have hwx : withinX known x = decide (x.f1 ≤ at_) := by unfold withinX; rw [hat_]
 clear hat_

 rw [hw] at hwx
 have d1 : decide (x.f1 ≤ at_) = false := hwx.symm
 obtain ⟨mb, es, cc, A, ch, hO⟩ := HBUF.out.opened
 have HO := Aside0.mk hO
 clear hO

 have hown : valP es (keyOf x) = .int .i64 0 := by
  rw [HO.out.ok.val, if_neg (of_decide_eq_false ho)]
 have HOWN := Aside0.mk hown
 have HRD := Aside0.mk (ready_is (known := known) (x := x) hc (check_ok hc2).2.2.2.2.2 71 (by decide))

 rw [hr] at HRD
 have d3 : decide (room ≤ (l.length : Int)) = false := decide_eq_false hf
 have d4 : decide ((l.length : Int) ≥ room) = false := decide_eq_false hf
 have HXF := Aside0.mk hxF
 have HXP := Aside0.mk hXP
 have HN := Aside0.mk hn
 have HBN := Aside0.mk hbn
 have HMON := Aside0.mk hmono
 have HBX : Aside0 (0 ≤ x.f1 ∧ x.f1 ≤ 1099511627776) := ⟨by have h_ := check_ok hc2; omega⟩
 have HCP := Aside0.mk (copy_is x (check_ok hc2).2.2.2.2.2)
 have HIX : Aside0 (cntX x l ≤ l.length) := ⟨List.countP_le_length⟩
 have HNO : Aside0 (keyOf x ∉ l.map keyOf) := ⟨of_decide_eq_false ho⟩
 clear hB hk hkc hx hx3 hs hc hc2 hw hwx ho hown hr hf hn hbn hmono hxF hXP
 go_enter Try.func13, Try.ntmps13
 go_wp2_with (first | ((with_reducible refine gate_dst (N := 5) rfl ?_); refine boxE (N := 5) (cs := #[.int .i64 x.f0.f0, .int .i64 x.f0.f1, .int .i64 x.f1, (.slice A3 x.f2.length c3), .int .i64 x.f3, .int .i64 x.f4.f0, .int .i64 x.f4.f1, .int .i64 x.f5.f0, .int .i64 x.f5.f1, .int .i64 x.f6.f0, .int .i64 x.f6.f1, .string x.f7, .string x.f8]) (t := 32) ?_; intro gb hr_ w0 hbox hb; have HXgb := Aside0.mk hbox; have HBgb := Aside0.mk hb; have HNgb := Aside0.mk (Nat.le_of_eq hr_.symm); clear hbox hb hr_) | (go_at_call 33; (with_reducible refine (clock_Check.calls 66 A0 c0 known _ _ (Kd.C_below HK.out HBgb.out) HKC.out HCK.out).mono ?_); rintro e w1 ⟨rfl, ⟨nd, hnd⟩⟩; have HB1 := Aside0.mk (show Below w.heap.size w w1 by rw [hnd]; exact pw_below_drewN HBgb.out nd); have HX1 := Aside0.mk (show w1.heap[gb]? = some (.cells (chA x (.slice A3 x.f2.length c3)) 32 (0, 0)) by rw [hnd]; exact HXgb.out); clear hnd nd) | ((with_reducible refine gate_dst (N := 17) rfl ?_); refine load32_ev rfl (N := 17) rfl x (.slice A3 x.f2.length c3) (p := .tmp 5) rfl (ad := ⟨gb, 0, none⟩) rfl (blk_cells HX1.out) ?_) | (go_at_call 34; (with_reducible refine (change_Check.calls (x.f7.size + 200) x.f0.f0 x.f0.f1 x.f1 A3 c3 x.f2 x.f3 x.f4.f0 x.f4.f1 x.f5.f0 x.f5.f1 x.f6.f0 x.f6.f1 x.f7 x.f8 _ _ (Kd.C_below HC3.out HB1.out) HL3.out HCE.out).mono ?_); rintro e w2 ⟨rfl, hb2⟩; have HB2 := Aside0.mk (HB1.out.trans (hb2.mono HB1.out.size)); have HX2 := Aside0.mk (blk_below HX1.out hb2); clear hb2))

 refine startS (n := 22) (S := (fun w' => w'.heap[gb]? = some (.cells (chA x (.slice A3 x.f2.length c3)) 32 (0, 0)) ∧ w'.cell? ⟨g, 2, none⟩ = some (.map (some mb)) ∧ w'.heap[mb]? = some (.map (es.map entE).toArray cc))) (ds := []) (⟨HX2.out, (blk_cell (blk_below HO.out.blk HB2.out) 2).trans rfl, blk_below HO.out.map (below_drew HB2.out)⟩) (fun hHeld => ?_)
 refine with_tabW tka.tab7 tka.bits7 (fun HT_ HW_ => ?_)
 refine pureT (i := 0) (N := (some 22)) HT_ ?_
 refine pureT (i := 2) (N := (some 24)) HT_ ?_
 refine pureT (i := 3) (N := (some 25)) HT_ ?_
 refine pureT (i := 4) (N := (some 26)) HT_ ?_
 refine takeS (i := 1) (N := (some 23)) (v := ?_) HT_ HW_ hHeld ?_ ?_
 rotate_left
 ·rintro w' ⟨s0, s1, s2⟩; have f1 : w'.cell? ⟨gb, 2, none⟩ = some (.int .i64 x.f1) := (blk_cell s0 2).trans rfl; have f2 : w'.cell? ⟨gb, 1, none⟩ = some (.int .i64 x.f0.f1) := (blk_cell s0 1).trans rfl
  go_simp
  with_reducible rfl
 refine normS (N := (some 23)) ?_
 refine takeS (i := 5) (N := (some 27)) (v := ?_) HT_ HW_ hHeld ?_ ?_
 rotate_left
 ·rintro w' ⟨s0, s1, s2⟩; have f1 : w'.cell? ⟨gb, 2, none⟩ = some (.int .i64 x.f1) := (blk_cell s0 2).trans rfl; have f2 : w'.cell? ⟨gb, 1, none⟩ = some (.int .i64 x.f0.f1) := (blk_cell s0 1).trans rfl
  go_simp
  with_reducible rfl
 refine normS (N := (some 27)) ?_
 refine oneS (i := 6) (N := (some 28)) HT_ (fun K hK => ?_)
 refine goes_ Try.func35 (by kernel_rfl) rfl #[.slice A0 known.length c0, .int .i64 x.f0.f1] (by rfl) rfl rfl argS ?_
 refine (clock_At.calls A0 c0 known x.f0.f1 _ _ (Kd.C_drew (Kd.C_below HK.out HB2.out)) HKC.out HAT.out).mono ?_
 rintro e w3 ⟨rfl, ⟨nd2, hnd2⟩⟩
 refine ⟨_, rfl, ?_⟩
 have HB3 := Aside0.mk (show Below w.heap.size w w3 by rw [hnd2]; exact pw_below_drewN (below_drew HB2.out) nd2)
 have hS3 : (fun w' => w'.heap[gb]? = some (.cells (chA x (.slice A3 x.f2.length c3)) 32 (0, 0)) ∧ w'.cell? ⟨g, 2, none⟩ = some (.map (some mb)) ∧ w'.heap[mb]? = some (.map (es.map entE).toArray cc)) w3 := by rw [hnd2]; exact ⟨hHeld.1, hHeld.2.1, hHeld.2.2⟩
 clear hnd2
 refine hK.out _ _ (hS3) (fun hHeld => ?_)
 clear hK K
 refine normS (N := (some 28)) ?_
 refine pureT (i := 7) (N := (some 29)) HT_ ?_
 refine pureT (i := 8) (N := (some 30)) HT_ ?_
 refine pureT (i := 9) (N := (some 31)) HT_ ?_
 refine pureT (i := 10) (N := (some 32)) HT_ ?_
 refine pureT (i := 11) (N := (some 33)) HT_ ?_
 refine pureT (i := 12) (N := (some 34)) HT_ ?_
 refine pureT (i := 13) (N := (some 35)) HT_ ?_
 refine pureT (i := 14) (N := (some 36)) HT_ ?_
 refine takeS (i := 15) (N := (some 37)) (v := ?_) HT_ HW_ hHeld ?_ ?_
 rotate_left
 ·rintro w' ⟨s0, s1, s2⟩; have f1 : w'.cell? ⟨gb, 2, none⟩ = some (.int .i64 x.f1) := (blk_cell s0 2).trans rfl; have f2 : w'.cell? ⟨gb, 1, none⟩ = some (.int .i64 x.f0.f1) := (blk_cell s0 1).trans rfl
  go_simp
  with_reducible rfl
 refine normS (N := (some 37)) ?_
 refine takeS (i := 16) (N := (some 38)) (v := ?_) HT_ HW_ hHeld ?_ ?_
 rotate_left
 ·rintro w' ⟨s0, s1, s2⟩
  refine Eq.trans (load32_run (x := x) (v := (.slice A3 x.f2.length c3)) _ (p := .tmp 5) ?ho_ ?hp_ (blk_cells s0)) ?hr_
  case ho_ => rfl
  case hp_ => rfl
  case hr_ => rfl
 refine normS (N := (some 38)) ?_
 refine oneS (i := 17) (N := (some 39)) HT_ (fun K hK => ?_)
 refine goes_ Try.func36 (by kernel_rfl) rfl #[(.agg #[.int .i64 x.f0.f0, .int .i64 x.f0.f1, .int .i64 x.f1, (.slice A3 x.f2.length c3), .int .i64 x.f3, .int .i64 x.f4.f0, .int .i64 x.f4.f1, .int .i64 x.f5.f0, .int .i64 x.f5.f1, .int .i64 x.f6.f0, .int .i64 x.f6.f1, .string x.f7, .string x.f8])] (by rfl) rfl rfl argS ?_
 refine (causal_of.calls x.f0.f0 x.f0.f1 x.f1 A3 c3 x.f2 x.f3 x.f4.f0 x.f4.f1 x.f5.f0 x.f5.f1 x.f6.f0 x.f6.f1 x.f7 x.f8 x.f0.f1 x.f1 _ (Kd.C_below HC3.out HB3.out) HL3.out rfl).mono ?_
 rintro e w4 ⟨rfl, hb4⟩
 refine ⟨_, rfl, ?_⟩
 have hS4 : (fun w' => w'.heap[gb]? = some (.cells (chA x (.slice A3 x.f2.length c3)) 32 (0, 0)) ∧ w'.cell? ⟨g, 2, none⟩ = some (.map (some mb)) ∧ w'.heap[mb]? = some (.map (es.map entE).toArray cc)) w4 := ⟨blk_below hHeld.1 hb4, (hb4.cell (World.block_lt_of_cell? _ _ hHeld.2.1)).trans hHeld.2.1, blk_below hHeld.2.2 hb4⟩
 have HB4 := Aside0.mk (HB3.out.trans (hb4.mono HB3.out.size))
 clear hb4
 refine hK.out _ _ (hS4) (fun hHeld => ?_)
 clear hK K
 refine normS (N := (some 39)) ?_
 refine takeS (i := 18) (N := (some 40)) (v := ?_) HT_ HW_ hHeld ?_ ?_
 rotate_left
 ·rintro w' ⟨s0, s1, s2⟩
  have hl_ : (Instr.lookup 69 (.map (some mb)) (.agg #[.int .i64 x.f0.f1, .int .i64 x.f1]) false).run Try.prog w' = .ok (.int .i64 0) w' := by
   have h_ := look_run (show MapE w' mb es cc from s2) (keyOf x)
   rw [HOWN.out] at h_
   exact h_
  go_simp
  rfl
 refine normS (N := (some 40)) ?_
 refine pureT (i := 19) (N := (some 41)) HT_ ?_
 refine pureT (i := 20) (N := (some 42)) HT_ ?_
 refine pureT (i := 21) (N := (some 43)) HT_ ?_
 refine done_ (done_of HT_.out (by kernel_rfl)) ?_
 have HX4 := Aside0.mk hS4.1
 clear hS4 hS3 hHeld

 go_wp2_with (first | ((with_reducible refine gate_dst (N := 45) rfl ?_); refine load32_ev rfl (N := 45) rfl x (.slice A3 x.f2.length c3) (p := .tmp 5) rfl (ad := ⟨gb, 0, none⟩) rfl (blk_cells HX4.out) ?_) | (go_at_call 37; (with_reducible refine (causal_ready.calls 71 A0 c0 known x.f0.f0 x.f0.f1 x.f1 A3 c3 x.f2 x.f3 x.f4.f0 x.f4.f1 x.f5.f0 x.f5.f1 x.f6.f0 x.f6.f1 x.f7 x.f8 _ _ (Kd.C_below HK.out HB4.out) HKC.out (Kd.C_below HC3.out HB4.out) HL3.out HRD.out).mono ?_); rintro e w5 ⟨rfl, hb5⟩; have HB5 := Aside0.mk (HB4.out.trans (hb5.mono HB4.out.size)); have HX5 := Aside0.mk (blk_below HX4.out hb5); clear hb5) | (go_at_call 16; (with_reducible refine (len_calls (HBUF.out.below HB5.out)).mono ?_); rintro e w6 ⟨rfl, rfl⟩) | (go_at_call 40; (with_reducible refine (room_calls (HBUF.out.below HB5.out)).mono ?_); rintro e w7 ⟨rfl, rfl⟩))
 refine startS (n := 11) (S := (fun w' => w'.cell? ⟨g, 1, none⟩ = some (.slice A l.length ch) ∧ w'.heap[gb]? = some (.cells (chA x (.slice A3 x.f2.length c3)) 32 (0, 0)))) (ds := []) (⟨(blk_cell (blk_below HO.out.blk HB5.out) 1).trans rfl, HX5.out⟩) (fun hHeld => ?_)
 refine with_tabW tkb.tab13 tkb.bits13 (fun HT_ HW_ => ?_)
 refine pureT (i := 0) (N := (some 58)) HT_ ?_
 refine pureT (i := 1) (N := (some 59)) HT_ ?_
 refine pureT (i := 2) (N := (some 60)) HT_ ?_
 refine takeS (i := 3) (N := (some 61)) (v := ?_) HT_ HW_ hHeld ?_ ?_
 rotate_left
 ·rintro w' ⟨s0, s1⟩
  go_simp
  with_reducible rfl
 refine normS (N := (some 61)) ?_
 refine takeS (i := 4) (N := (some 62)) (v := ?_) HT_ HW_ hHeld ?_ ?_
 rotate_left
 ·rintro w' ⟨s0, s1⟩
  refine Eq.trans (load32_run (x := x) (v := (.slice A3 x.f2.length c3)) _ (p := .tmp 5) ?ho_ ?hp_ (blk_cells s1)) ?hr_
  case ho_ => rfl
  case hp_ => rfl
  case hr_ => rfl
 refine normS (N := (some 62)) ?_
 refine oneS (i := 5) (N := (some 63)) HT_ (fun K hK => ?_)
 refine goes_ Try.func41 (by kernel_rfl) rfl #[.slice A l.length ch, (.agg #[.int .i64 x.f0.f0, .int .i64 x.f0.f1, .int .i64 x.f1, (.slice A3 x.f2.length c3), .int .i64 x.f3, .int .i64 x.f4.f0, .int .i64 x.f4.f1, .int .i64 x.f5.f0, .int .i64 x.f5.f1, .int .i64 x.f6.f0, .int .i64 x.f6.f1, .string x.f7, .string x.f8]), .func (.func 42) #[] #[]] (by rfl) rfl rfl argS ?_
 refine (search_calls (Kd.S_below HO.out.row (below_drew HB5.out)) HN.out x A3 c3 (Kd.C_below HC3.out (below_drew HB5.out)) HL3.out HBN.out HBX.out HMON.out).mono ?_
 rintro e w6 ⟨bf, rfl, hb6⟩
 refine ⟨_, rfl, ?_⟩
 have hS6 : (fun w' => w'.cell? ⟨g, 1, none⟩ = some (.slice A l.length ch) ∧ w'.heap[gb]? = some (.cells (chA x (.slice A3 x.f2.length c3)) 32 (0, 0))) w6 := ⟨(hb6.cell (World.block_lt_of_cell? _ _ hHeld.1)).trans hHeld.1, blk_below hHeld.2 hb6⟩
 have HB6 := Aside0.mk ((below_drew HB5.out).trans (hb6.mono (below_drew HB5.out).size))
 clear hb6
 refine hK.out _ _ (hS6) (fun hHeld => ?_)
 clear hK K
 refine normS (N := (some 63)) ?_
 refine pureT (i := 6) (N := (some 57)) HT_ ?_
 refine pureT (i := 7) (N := (some 64)) HT_ ?_
 refine pureT (i := 8) (N := (some 65)) HT_ ?_
 refine pureT (i := 9) (N := (some 10)) HT_ ?_
 refine pureT (i := 10) (N := (some 11)) HT_ ?_
 refine done_ (done_of HT_.out (by kernel_rfl)) ?_
 go_wp2_with (fail)
 refine startS (n := 13) (S := (fun w' => w'.cell? ⟨g, 1, none⟩ = some (.slice A l.length ch) ∧ w'.heap[gb]? = some (.cells (chA x (.slice A3 x.f2.length c3)) 32 (0, 0)))) (ds := [12]) (⟨hS6.1, hS6.2⟩) (fun hHeld => ?_)
 refine with_tabW tkc.tab14 tkc.bits14 (fun HT_ HW_ => ?_)
 refine pureT (i := 0) (N := (some 66)) HT_ ?_
 refine pureT (i := 1) (N := (some 67)) HT_ ?_
 refine pureT (i := 2) (N := (some 68)) HT_ ?_
 refine pureT (i := 3) (N := (some 69)) HT_ ?_
 refine pureT (i := 5) (N := (some 71)) HT_ ?_
 refine takeS (i := 4) (N := (some 70)) (v := ?_) HT_ HW_ hHeld ?_ ?_
 rotate_left
 ·rintro w' ⟨s0, s1⟩
  go_simp
  with_reducible rfl
 refine normS (N := (some 70)) ?_
 refine takeS (i := 6) (N := (some 72)) (v := ?_) HT_ HW_ hHeld ?_ ?_
 rotate_left
 ·rintro w' ⟨s0, s1⟩
  refine Eq.trans (load32_run (x := x) (v := (.slice A3 x.f2.length c3)) _ (p := .tmp 5) ?ho_ ?hp_ (blk_cells s1)) ?hr_
  case ho_ => rfl
  case hp_ => rfl
  case hr_ => rfl
 refine normS (N := (some 72)) ?_
 refine oneS (i := 7) (N := (some 73)) HT_ (fun K hK => ?_)
 refine goes_ Try.func39 (by kernel_rfl) rfl #[(.agg #[.int .i64 x.f0.f0, .int .i64 x.f0.f1, .int .i64 x.f1, (.slice A3 x.f2.length c3), .int .i64 x.f3, .int .i64 x.f4.f0, .int .i64 x.f4.f1, .int .i64 x.f5.f0, .int .i64 x.f5.f1, .int .i64 x.f6.f0, .int .i64 x.f6.f1, .string x.f7, .string x.f8])] (by rfl) rfl rfl argS ?_
 refine (change_Copy.calls x.f0.f0 x.f0.f1 x.f1 A3 c3 x.f2 x.f3 x.f4.f0 x.f4.f1 x.f5.f0 x.f5.f1 x.f6.f0 x.f6.f1 x.f7 x.f8 x.f0.f0 x.f0.f1 x.f1 x.f2 x.f3 x.f4.f0 x.f4.f1 x.f5.f0 x.f5.f1 x.f6.f0 x.f6.f1 x.f7 x.f8 _ (Kd.C_below HC3.out (below_drew HB6.out)) HL3.out HCP.out).mono ?_
 rintro e w7 ⟨v7, rfl, hv7, hb7⟩
 obtain ⟨A7, c7, rfl⟩ := Kd.R_slice hv7
 refine ⟨_, rfl, ?_⟩
 have hS7 : (fun w' => w'.cell? ⟨g, 1, none⟩ = some (.slice A l.length ch) ∧ w'.heap[gb]? = some (.cells (chA x (.slice A3 x.f2.length c3)) 32 (0, 0))) w7 := ⟨(hb7.cell (World.block_lt_of_cell? _ _ hHeld.1)).trans hHeld.1, blk_below hHeld.2 hb7⟩
 have HV7 := Aside0.mk (Kd.R_mono (Kd.R_bound hv7) (ok' := fun k => w6.drew.heap.size ≤ k ∧ k < w7.heap.size) (fun k hk => ⟨hk.2.1, hk.2.2.1⟩))
 have HB7 := Aside0.mk ((below_drew HB6.out).trans (hb7.mono (below_drew HB6.out).size))
 clear hv7 hb7
 refine hK.out _ _ (hS7) (fun hHeld => ?_)
 clear hK K
 refine normS (N := (some 73)) ?_
 refine oneS (i := 8) (N := (some 74)) HT_ (fun K hK => ?_)
 refine value_ (w1 := ?_) (v := ?_) (by rfl) rfl ?_ ?_
 rotate_left 2
 ·go_simp
  constructor
  ·rfl
  ·rfl
 refine hK.out _ _ (⟨Mem.cell_alloc hHeld.1 _, Mem.alloc_old hHeld.2 _⟩) (fun hHeld => ?_)
 clear hK K
 refine normS (N := (some 74)) ?_
 refine oneS (i := 9) (N := (some 75)) HT_ (fun K hK => ?_)
 refine goes_ Try.func43 (by kernel_rfl) rfl #[.slice A l.length ch, .int .i64 ((cntX x l : Nat) : Int), .slice (some ⟨w7.heap.size, 0, none⟩) 1 1] (by rfl) rfl rfl argS ?_
 refine (put_insert HO.out HB6.out HB7.out HV7.out HIX.out HN.out).mono ?_
 rintro e w9 ⟨v9, rfl, hs9, hg9⟩
 refine ⟨_, rfl, ?_⟩
 obtain ⟨A9, c9, rfl⟩ := Kd.S_slice hs9
 have hgo := put_ne HO.out
 have hgbn := put_ne2 HO.out HNgb.out
 have hS9 : (fun w' => w'.cell? ⟨g, 1, none⟩ = some (.slice A l.length ch) ∧ w'.heap[gb]? = some (.cells (chA x (.slice A3 x.f2.length c3)) 32 (0, 0))) w9 := ⟨hg9.cell hHeld.1 hgo, blk_grown hHeld.2 hg9 hgbn⟩
 have HS9 := Aside0.mk hs9
 have HG9 := Aside0.mk hg9
 have cz := hS9.1
 have fz := blk_frozen (blk_grown (put_blk HO.out HB7.out) hg9 hgo) 1
 clear hs9 hg9 hgo hgbn
 refine hK.out _ _ (hS9) (fun hHeld => ?_)
 clear hK K
 refine normS (N := (some 75)) ?_
 refine pureT (i := 10) (N := (some 76)) HT_ ?_
 refine pureT (i := 11) (N := (some 77)) HT_ ?_
 refine lastS (i := 12) (N := none) HT_ (fun K hK => ?_)
 refine skip_ (w1 := w9.setCell ⟨g, 1, none⟩ (.slice A9 (l.take (cntX x l) ++ x :: l.drop (cntX x l)).length c9)) (by rfl) rfl ?_ ?_
 ·go_simp
 refine hK.out _ _ ?_
 clear hK K
 refine done_ (done_of HT_.out (by kernel_rfl)) ?_
 have hmid := put_mid (A9 := A9) (c9 := c9) HO.out HB7.out HS9.out HG9.out
 have hX10 := blk_far (p := ⟨g, 1, none⟩) hS9.2 (fun e => by have h1_ := blk_lt HO.out.blk; have h2_ := HNgb.out; have h3_ : gb = g := e; omega) (.slice A9 (l.take (cntX x l) ++ x :: l.drop (cntX x l)).length c9)
 clear hHeld hS9 hS7 hS6 cz fz HS9 HG9
 generalize w9.setCell ⟨g, 1, none⟩ (.slice A9 (l.take (cntX x l) ++ x :: l.drop (cntX x l)).length c9) = w10 at *
 have HMID := Aside0.mk hmid
 have HX10 := Aside0.mk hX10
 have HC10 := Aside0.mk (Kd.C_drew (Kd.F_now (Kd.F_kept HXF.out hmid.kept.old HXP.out)))
 have hfp : findP es (keyOf x) 0 = none := findP_none (fun hm => HNO.out ((HO.out.ok.mem _).1 hm))
 have HFP := Aside0.mk hfp
 clear hmid hX10 hfp
 go_wp2_with (fail)
 refine startS (n := 11) (S := (fun w' => w'.heap[gb]? = some (.cells (chA x (.slice A3 x.f2.length c3)) 32 (0, 0)) ∧ w'.cell? ⟨g, 2, none⟩ = some (.map (some mb)))) (ds := []) (⟨HX10.out, (blk_cell HMID.out.blk 2).trans rfl⟩) (fun hHeld => ?_)
 refine with_tabW tkd.tab15 tkd.bits15 (fun HT_ HW_ => ?_)
 refine pureT (i := 0) (N := (some 78)) HT_ ?_
 refine pureT (i := 1) (N := (some 79)) HT_ ?_
 refine pureT (i := 2) (N := (some 80)) HT_ ?_
 refine takeS (i := 3) (N := (some 81)) (v := ?_) HT_ HW_ hHeld ?_ ?_
 rotate_left
 ·rintro w' ⟨s0, s1⟩
  go_simp
  with_reducible rfl
 refine normS (N := (some 81)) ?_
 refine takeS (i := 4) (N := (some 82)) (v := ?_) HT_ HW_ hHeld ?_ ?_
 rotate_left
 ·rintro w' ⟨s0, s1⟩
  refine Eq.trans (load32_run (x := x) (v := (.slice A3 x.f2.length c3)) _ (p := .tmp 5) ?ho_ ?hp_ (blk_cells s0)) ?hr_
  case ho_ => rfl
  case hp_ => rfl
  case hr_ => rfl
 refine normS (N := (some 82)) ?_
 refine oneS (i := 5) (N := (some 83)) HT_ (fun K hK => ?_)
 refine goes_ Try.func36 (by kernel_rfl) rfl #[(.agg #[.int .i64 x.f0.f0, .int .i64 x.f0.f1, .int .i64 x.f1, (.slice A3 x.f2.length c3), .int .i64 x.f3, .int .i64 x.f4.f0, .int .i64 x.f4.f1, .int .i64 x.f5.f0, .int .i64 x.f5.f1, .int .i64 x.f6.f0, .int .i64 x.f6.f1, .string x.f7, .string x.f8])] (by rfl) rfl rfl argS ?_
 refine (causal_of.calls x.f0.f0 x.f0.f1 x.f1 A3 c3 x.f2 x.f3 x.f4.f0 x.f4.f1 x.f5.f0 x.f5.f1 x.f6.f0 x.f6.f1 x.f7 x.f8 x.f0.f1 x.f1 _ HC10.out HL3.out rfl).mono ?_
 rintro e w11 ⟨rfl, hb11⟩
 refine ⟨_, rfl, ?_⟩
 have hS11 : (fun w' => w'.heap[gb]? = some (.cells (chA x (.slice A3 x.f2.length c3)) 32 (0, 0)) ∧ w'.cell? ⟨g, 2, none⟩ = some (.map (some mb))) w11 := ⟨blk_below hHeld.1 hb11, (hb11.cell (World.block_lt_of_cell? _ _ hHeld.2)).trans hHeld.2⟩
 have HB11 := Aside0.mk ((below_drew (Below.refl w10.heap.size w10)).trans (hb11.mono (Nat.le_refl _)))
 have hM11 : MapE w11 mb es cc := blk_below (w := w10) HMID.out.map HB11.out
 have hl_ : (Instr.lookup 69 (.map (some mb)) (.agg #[.int .i64 x.f0.f1, .int .i64 x.f1]) false).run Try.prog w11 = .ok (.int .i64 0) w11 := by
  have h_ := look_run hM11 (keyOf x)
  rw [HOWN.out] at h_
  exact h_
 have he_ : (Instr.mapEntry 69 (.map (some mb)) (.agg #[.int .i64 x.f0.f1, .int .i64 x.f1])).run Try.prog w11 = .ok (.tuple #[.int .i64 0, .int .i64 (cc : Int)]) (w11.putObj mb (.map ((es ++ [((cc, keyOf x), 0)]).map entE).toArray (cc + 1))) := entry_run hM11 (keyOf x) HFP.out
 have hs_ : (Instr.entryStore 69 (.map (some mb)) (.int .i64 (cc : Int)) (.int .i64 1)).run Try.prog (w11.putObj mb (.map ((es ++ [((cc, keyOf x), 0)]).map entE).toArray (cc + 1))) = .ok () ((w11.putObj mb (.map ((es ++ [((cc, keyOf x), 0)]).map entE).toArray (cc + 1))).putObj mb (.map ((es ++ [((cc, keyOf x), 1)]).map entE).toArray (cc + 1))) := store_run (keyOf x) 1 HO.out.ok.born (putObj_at _ _ _ (blk_lt hM11))
 have hl2_ : (Instr.lookup 69 (.map (some mb)) (.agg #[.int .i64 x.f0.f1, .int .i64 x.f1]) false).run Try.prog (w11.putObj mb (.map ((es ++ [((cc, keyOf x), 0)]).map entE).toArray (cc + 1))) = .ok (.int .i64 0) (w11.putObj mb (.map ((es ++ [((cc, keyOf x), 0)]).map entE).toArray (cc + 1))) := by
  have h_ := look_run (show MapE _ mb (es ++ [((cc, keyOf x), 0)]) (cc + 1) from putObj_at _ _ _ (blk_lt hM11)) (keyOf x)
  rw [valP_new HFP.out] at h_
  exact h_
 obtain ⟨o1, ho1⟩ : ∃ o1, Obj.map ((es ++ [((cc, keyOf x), (0 : Int))]).map entE).toArray (cc + 1) = o1 := ⟨_, rfl⟩
 obtain ⟨o2, ho2⟩ : ∃ o2, Obj.map ((es ++ [((cc, keyOf x), (1 : Int))]).map entE).toArray (cc + 1) = o2 := ⟨_, rfl⟩
 rw [ho1] at he_ hs_ hl2_
 rw [ho2] at hs_
 have HO2 := Aside0.mk ho2
 have HX11 := Aside0.mk hS11
 have HM11 := Aside0.mk hM11
 have hw11 : wrap64 (1 : Int) = 1 := by rw [← i64_w]; rfl
 clear hb11 hM11 ho1 ho2
 refine hK.out _ _ (hS11) (fun hHeld => ?_)
 clear hK K
 refine normS (N := (some 83)) ?_
 refine two_ (i := 6) (j := 8) (Ni := (some 84)) (Nj := (some 86)) #[true, true, true, true, true, true, true, false, false, false, false] #[true, true, true, true, true, true, false, false, true, false, false] rfl rfl rfl rfl (two_of HT_.out (by kernel_rfl)) (by decide) (by decide) (fun K hK => ?_) (fun K hK => ?_)
 ·refine value_ (w1 := ?_) (v := ?_) (by rfl) rfl ?_ ?_
  rotate_left 2
  ·go_simp
   constructor
   ·rfl
   ·rfl
  refine hK.out _ _ (hS11) (fun hHeld => ?_)
  clear hK K
  refine normS (N := (some 84)) ?_
  refine pureT (i := 7) (N := (some 85)) HT_ ?_
  refine oneS (i := 8) (N := (some 86)) HT_ (fun K hK => ?_)
  refine value_ (w1 := ?_) (v := ?_) (by rfl) rfl ?_ ?_
  rotate_left 2
  ·go_simp
   constructor
   ·rfl
   ·rfl
  refine hK.out _ _ (⟨(putObj_other _ _ _ _ (fun e => by have h1_ := blk_lt HO.out.map; have h2_ := HNgb.out; omega)).trans HX11.out.1, (World.cell?_of_block (putObj_other _ _ _ _ HO.out.ne)).trans HX11.out.2⟩) (fun hHeld => ?_)
  clear hK K
  refine normS (N := (some 86)) ?_
  refine pureT (i := 9) (N := (some 87)) HT_ ?_
  refine oneS (i := 10) (N := none) HT_ (fun K hK => ?_)
  refine skip_ (w1 := ?_) (by rfl) rfl ?_ ?_
  rotate_left
  ·go_simp
   rfl
  refine hK.out _ _ (⟨(putObj_other _ _ _ _ (fun e => by have h1_ := blk_lt HO.out.map; have h2_ := HNgb.out; omega)).trans ((putObj_other _ _ _ _ (fun e => by have h1_ := blk_lt HO.out.map; have h2_ := HNgb.out; omega)).trans HX11.out.1), (World.cell?_of_block (putObj_other _ _ _ _ HO.out.ne)).trans ((World.cell?_of_block (putObj_other _ _ _ _ HO.out.ne)).trans HX11.out.2)⟩) (fun hHeld => ?_)
  clear hK K
  refine done_ (done_of HT_.out (by kernel_rfl)) ?_
  go_wp2_with (fail)
  go_ret2
  rw [← HO2.out]
  exact put_fin HO.out HMID.out HB11.out HNO.out
 ·refine value_ (w1 := ?_) (v := ?_) (by rfl) rfl ?_ ?_
  rotate_left 2
  ·go_simp
   constructor
   ·rfl
   ·rfl
  refine hK.out _ _ (⟨(putObj_other _ _ _ _ (fun e => by have h1_ := blk_lt HO.out.map; have h2_ := HNgb.out; omega)).trans HX11.out.1, (World.cell?_of_block (putObj_other _ _ _ _ HO.out.ne)).trans HX11.out.2⟩) (fun hHeld => ?_)
  clear hK K
  refine normS (N := (some 86)) ?_
  refine pureT (i := 9) (N := (some 87)) HT_ ?_
  refine oneS (i := 6) (N := (some 84)) HT_ (fun K hK => ?_)
  refine value_ (w1 := ?_) (v := ?_) (by rfl) rfl ?_ ?_
  rotate_left 2
  ·go_simp
   constructor
   ·rfl
   ·rfl
  refine hK.out _ _ (⟨(putObj_other _ _ _ _ (fun e => by have h1_ := blk_lt HO.out.map; have h2_ := HNgb.out; omega)).trans HX11.out.1, (World.cell?_of_block (putObj_other _ _ _ _ HO.out.ne)).trans HX11.out.2⟩) (fun hHeld => ?_)
  clear hK K
  refine normS (N := (some 84)) ?_
  refine pureT (i := 7) (N := (some 85)) HT_ ?_
  refine oneS (i := 10) (N := none) HT_ (fun K hK => ?_)
  refine skip_ (w1 := ?_) (by rfl) rfl ?_ ?_
  rotate_left
  ·go_simp
   rfl
  refine hK.out _ _ (⟨(putObj_other _ _ _ _ (fun e => by have h1_ := blk_lt HO.out.map; have h2_ := HNgb.out; omega)).trans ((putObj_other _ _ _ _ (fun e => by have h1_ := blk_lt HO.out.map; have h2_ := HNgb.out; omega)).trans HX11.out.1), (World.cell?_of_block (putObj_other _ _ _ _ HO.out.ne)).trans ((World.cell?_of_block (putObj_other _ _ _ _ HO.out.ne)).trans HX11.out.2)⟩) (fun hHeld => ?_)
  clear hK K
  refine done_ (done_of HT_.out (by kernel_rfl)) ?_
  go_wp2_with (fail)
  go_ret2
  rw [← HO2.out]
  exact put_fin HO.out HMID.out HB11.out HNO.out
end Go.Proofs.Ytnopjjilpgekfaa.PCa
namespace Go.Proofs.Ytnopjjilpgekfaa.PCa
open Go.RowKit Go.Proofs.YtnopjjilpgekfaaW.PrintWords Go.Proofs.YtnopjjilpgekfaaW.PrintLast Go.Proofs.YtnopjjilpgekfaaW.PrintMore
set_option linter.unusedVariables false
set_option linter.unusedSimpArgs false
/-- What is held is right, and in order. -/
structure Good (l : List S32) : Prop where
 ok : ∀ y ∈ l, checkX y = 0
 ord : l.Pairwise (fun a b => befX a b = true)
theorem bef_iff (a b : S32) : befX a b = true ↔ a.f0.f0 < b.f0.f0 ∨ (a.f0.f0 = b.f0.f0 ∧ (a.f0.f1 < b.f0.f1 ∨ (a.f0.f1 = b.f0.f1 ∧ a.f1 < b.f1))) := by
 unfold befX lessC
 simp only [Bool.or_eq_true, Bool.and_eq_true, decide_eq_true_eq, beq_iff_eq]
 omega
theorem bef_trans {a b c : S32} (h1 : befX a b = true) (h2 : befX b c = true) : befX a c = true := by
 rw [bef_iff] at *
 omega
theorem bef_asymm {a b : S32} (h1 : befX a b = true) : befX b a = false := by
 rw [Bool.eq_false_iff]
 intro h2
 rw [bef_iff] at *
 omega
theorem bef_total {a b : S32} (h : befX a b = false) (hk : keyOf a ≠ keyOf b) : befX b a = true := by
 have h' : ¬ (befX a b = true) := by rw [h]; decide
 rw [bef_iff] at h' ⊢
 have : ¬ (a.f0.f1 = b.f0.f1 ∧ a.f1 = b.f1) := fun e => hk (by unfold keyOf; rw [e.1, e.2])
 omega
theorem Good.nil : Good [] := ⟨(fun _ h => nomatch h), List.Pairwise.nil⟩
theorem Good.erase {l : List S32} (h : Good l) (i : Nat) : Good (l.eraseIdx i) := ⟨fun y hy => h.ok y (List.mem_of_mem_eraseIdx hy), h.ord.sublist (List.eraseIdx_sublist _ _)⟩
theorem Good.filter {l : List S32} (h : Good l) (p : S32 → Bool) : Good (l.filter p) := ⟨fun y hy => h.ok y (List.mem_filter.1 hy).1, h.ord.sublist List.filter_sublist⟩
theorem Good.len {l : List S32} (h : Good l) : ∀ y ∈ l, y.f2.length ≤ 64 := fun y hy => (check_ok (h.ok y hy)).2.2.2.2.2
theorem Good.seq {l : List S32} (h : Good l) : ∀ y ∈ l, 0 ≤ y.f1 ∧ y.f1 ≤ 1099511627776 := fun y hy => by
 have := check_ok (h.ok y hy)
 omega
theorem Good.mono {l : List S32} (h : Good l) (x : S32) : ∀ a b, a ≤ b → b < l.length → cmpX (rd_T32 l (b : Nat)) x < 0 → cmpX (rd_T32 l (a : Nat)) x < 0 := fun a b hab hb hc => by
 rcases Nat.lt_or_eq_of_le hab with hlt | rfl
 ·have h1 := List.pairwise_iff_getElem.1 h.ord a b (by omega) hb hlt
  have ea : l[a]'(by omega) = rd_T32 l (a : Nat) := by
   have := rd32_at (l := l) (j := a) (by omega)
   rw [List.getElem?_eq_getElem (by omega)] at this
   exact Option.some.inj this
  have eb : l[b] = rd_T32 l (b : Nat) := by
   have := rd32_at hb
   rw [List.getElem?_eq_getElem hb] at this
   exact Option.some.inj this
  rw [ea, eb] at h1
  rw [cmp_neg] at hc ⊢
  exact bef_trans h1 hc
 ·exact hc
/-- Those ahead of x are the first ones. -/
theorem Good.split {l : List S32} (h : Good l) (x : S32) : (∀ y ∈ l.take (cntX x l), befX y x = true) ∧ ∀ y ∈ l.drop (cntX x l), befX y x = false := by
 induction l with
 | nil => exact ⟨fun _ h => (by simp at h), fun _ h => (by simp at h)⟩
 | cons a t ih =>
  have ht : Good t := ⟨fun y hy => h.ok y (List.mem_cons_of_mem _ hy), (List.pairwise_cons.1 h.ord).2⟩
  obtain ⟨i1, i2⟩ := ih ht
  by_cases ha : befX a x = true
  ·have hc : cntX x (a :: t) = cntX x t + 1 := by
    unfold cntX
    rw [List.countP_cons_of_pos (by rw [decide_eq_true_eq, cmp_neg]; exact ha)]
   rw [hc]
   refine ⟨fun y hy => ?_, fun y hy => i2 y (by simpa using hy)⟩
   rw [List.take_succ_cons] at hy
   rcases List.mem_cons.1 hy with rfl | hy
   ·exact ha
   ·exact i1 y hy
  ·have hall : ∀ y ∈ t, befX y x = false := fun y hy => by
    rw [Bool.eq_false_iff]
    intro hb
    exact ha (bef_trans ((List.pairwise_cons.1 h.ord).1 y hy) hb)
   have hc : cntX x (a :: t) = 0 := by
    unfold cntX
    rw [List.countP_eq_zero]
    intro y hy
    rw [decide_eq_true_eq, cmp_neg]
    rcases List.mem_cons.1 hy with rfl | hy
    ·exact ha
    ·rw [hall y hy]; decide
   rw [hc]
   refine ⟨fun y hy => (by simp at hy), fun y hy => ?_⟩
   rcases List.mem_cons.1 (by simpa using hy) with rfl | hy
   ·simpa using ha
   ·exact hall y hy
theorem putC_at (x : S32) : ∀ (l1 l2 : List S32), (∀ y ∈ l1, befX x y = false) → (∀ y ∈ l2, befX x y = true) → putC x (l1 ++ l2) = l1 ++ x :: l2
 | [], [], _, _ => rfl
 | [], y :: t, _, h2 => by
  rw [List.nil_append, putC, if_pos (h2 y List.mem_cons_self)]
  rfl
 | a :: l1, l2, h1, h2 => by
  rw [List.cons_append, putC, if_neg (by rw [h1 a List.mem_cons_self]; decide), putC_at x l1 l2 (fun y hy => h1 y (List.mem_cons_of_mem _ hy)) h2]
  rfl
theorem ownX_no {l : List S32} {x : S32} (h : ownX l x = false) : ∀ y ∈ l, keyOf y ≠ keyOf x := fun y hy e => of_decide_eq_false h (e ▸ List.mem_map_of_mem hy)
theorem Good.put {l : List S32} (h : Good l) {x : S32} (ho : ownX l x = false) : putC x l = l.take (cntX x l) ++ x :: l.drop (cntX x l) := by
 obtain ⟨h1, h2⟩ := h.split x
 have := putC_at x (l.take (cntX x l)) (l.drop (cntX x l)) (fun y hy => bef_asymm (h1 y hy)) (fun y hy => bef_total (h2 y hy) (ownX_no ho y (List.mem_of_mem_drop hy)))
 rwa [List.take_append_drop] at this
theorem Good.more {l : List S32} (h : Good l) {x : S32} (hx : checkX x = 0) (ho : ownX l x = false) : Good (l.take (cntX x l) ++ x :: l.drop (cntX x l)) := by
 obtain ⟨h1, h2⟩ := h.split x
 refine ⟨fun y hy => ?_, ?_⟩
 ·rcases List.mem_append.1 hy with hy | hy
  ·exact h.ok y (List.mem_of_mem_take hy)
  ·rcases List.mem_cons.1 hy with rfl | hy
   ·exact hx
   ·exact h.ok y (List.mem_of_mem_drop hy)
 ·have ht := h.ord.sublist (List.take_sublist (cntX x l) l)
  have hd := h.ord.sublist (List.drop_sublist (cntX x l) l)
  refine List.pairwise_append.2 ⟨ht, List.pairwise_cons.2 ⟨fun y hy => bef_total (h2 y hy) (ownX_no ho y (List.mem_of_mem_drop hy)), hd⟩, fun a ha b hb => ?_⟩
  rcases List.mem_cons.1 hb with rfl | hb
  ·exact h1 a ha
  ·have := h.ord
   rw [← List.take_append_drop (cntX x l) l] at this
   exact (List.pairwise_append.1 this).2.2 a ha b hb
theorem relF_good : ∀ (n : Nat) {now : List Int} {out left : List S32}, Good left → Good (relF n now out left).2
 | 0, _, _, _, h => h
 | n + 1, now, out, left, h => by
  rw [relF]
  split
  ·exact relF_good n (h.erase _)
  ·exact h
theorem relF_len : ∀ (n : Nat) {now : List Int} {out left : List S32}, (relF n now out left).2.length ≤ left.length
 | 0, _, _, _ => Nat.le_refl _
 | n + 1, now, out, left => by
  rw [relF]
  split
  ·exact Nat.le_trans (relF_len n) (List.length_eraseIdx_le _ _)
  ·exact Nat.le_refl _
theorem take_good {room : Int} {l : List S32} (h : Good l) (known : List Int) (x : S32) : Good (takeF room l known x).1 := by
 unfold takeF
 split
 ·split
  ·rename_i hx
   split
   ·exact h
   ·rename_i hw
    split
    ·exact relF_good _ h
    ·split
     ·exact h
     ·refine h.more hx ?_
      simp only [Bool.or_eq_true, not_or, Bool.not_eq_true] at hw
      exact hw.2
  ·exact h
 ·exact h
theorem take_room {room : Int} {l : List S32} (h : (l.length : Int) ≤ room) (known : List Int) (x : S32) : ((takeF room l known x).1.length : Int) ≤ room := by
 unfold takeF
 split
 ·split
  ·split
   ·exact h
   ·split
    ·have := relF_len l.length (now := (tickC known x.f0.f1).1) (out := [x]) (left := l)
     show ((relF l.length (tickC known x.f0.f1).1 [x] l).2.length : Int) ≤ room
     omega
    ·split
     ·exact h
     ·simp only [List.length_append, List.length_take, List.length_cons, List.length_drop]
      omega
  ·exact h
 ·exact h
/-- Take of the program. -/
theorem take13_calls {w : World} {base : Nat} {P : Nat → Prop} {g : Nat} {room : Int} {l : List S32} (hB : BufI w base P g room l) (hG : Good l) (hroom : (l.length : Int) ≤ room) (hr2 : room ≤ 256) (A0 : Option Addr) (c0 : Nat) (known : List Int) (hk : Kd.C (Kd.int .i64) w A0 known.length known) (hkc : known.length ≤ c0)
  (x : S32) (A3 : Option Addr) (c3 : Nat) {X : Nat → Prop} (hxF : Kd.F (Kd.int .i64) w X A3 x.f2.length x.f2) (hXP : ∀ k, X k → ¬ P k) (hx3 : x.f2.length ≤ c3) (hs : x.f7.size < 4611686018427387904) :
  Calls Try.prog 13 #[.pointer (some ⟨g, 0, none⟩), .slice A0 known.length c0, .agg (chA x (.slice A3 x.f2.length c3))] w (TakeB w base P g room (takeF room l known x)) := by
 have hn : l.length < 1000 := by omega
 unfold takeF
 by_cases c1 : chkC known = 0
 ·rw [if_pos c1]
  by_cases c2 : checkX x = 0
  ·rw [if_pos c2]
   cases hw : withinX known x with
   | true =>
    rw [Bool.true_or, if_pos rfl]
    exact take_within hB A0 c0 known hk hkc x A3 c3 (Kd.F_now hxF) hx3 hs c1 c2 hw
   | false =>
    rw [Bool.false_or]
    cases ho : ownX l x with
    | true =>
     rw [if_pos rfl]
     exact take_own hB A0 c0 known hk hkc x A3 c3 (Kd.F_now hxF) hx3 hs c1 c2 hw ho
    | false =>
     rw [if_neg (by decide)]
     cases hr : ripeC known x with
     | true =>
      rw [if_pos rfl]
      exact take_ripe hB A0 c0 known hk hkc x A3 c3 (Kd.F_now hxF) hx3 hs c1 c2 hw ho hr hn hG.len
     | false =>
      rw [if_neg (by decide)]
      by_cases hf : room ≤ l.length
      ·rw [if_pos hf]
       exact take_full hB A0 c0 known hk hkc x A3 c3 (Kd.F_now hxF) hx3 hs c1 c2 hw ho hr hf
      ·rw [if_neg hf]
       exact take_put hB A0 c0 known hk hkc x A3 c3 (Kd.F_now hxF) hx3 hs c1 c2 hw ho hr hf hn hG.seq (hG.mono x) hxF hXP
  ·rw [if_neg c2]
   exact take_bad hB A0 c0 known hk hkc x A3 c3 (Kd.F_now hxF) hx3 hs c1 c2 _
 ·rw [if_neg c1]
  exact take_chk hB A0 c0 known hk hkc x A3 c3 (Kd.F_now hxF) hx3 c1 _
theorem ref_copy_is (y : S32) (h : y.f2.length ≤ 64) : topiaryref05_Copy.f y.f0.f0 y.f0.f1 y.f1 y.f2 y.f3 y.f4.f0 y.f4.f1 y.f5.f0 y.f5.f1 y.f6.f0 y.f6.f1 y.f7 y.f8 = some (y.f0.f0, y.f0.f1, y.f1, y.f2, y.f3, y.f4.f0, y.f4.f1, y.f5.f0, y.f5.f1, y.f6.f0, y.f6.f1, y.f7, y.f8) := by
 unfold topiaryref05_Copy.f
 rw [Option.bind_some, if_pos (by simp only [List.length_nil]; omega), List.nil_append]
theorem next_lt (known : List Int) : ∀ (l : List S32) (i : Nat), 0 ≤ nextI known l i → ∃ j, j < l.length ∧ nextI known l i = ((i + j : Nat) : Int)
 | [], _, h => by rw [nextI] at h; omega
 | x :: t, i, h => by
  rw [nextI] at h ⊢
  by_cases hr : ripeC known x = true
  ·rw [if_pos hr]
   exact ⟨0, by simp, rfl⟩
  ·rw [if_neg hr] at h ⊢
   obtain ⟨j, h1, h2⟩ := next_lt known t (i + 1) h
   refine ⟨j + 1, by simpa using h1, ?_⟩
   rw [h2]
   congr 1
   omega
/-- A clock behind the changes of a list. -/
def ticks (known : List Int) : List S32 → List Int
 | [] => known
 | x :: t => ticks (tickC known x.f0.f1).1 t
/-- Each one of a list is ready with what came ahead of it. -/
def AllR (known : List Int) : List S32 → Prop
 | [] => True
 | x :: t => readyC known x = true ∧ AllR (tickC known x.f0.f1).1 t
theorem ticks_more : ∀ (a : List S32) (known : List Int) (x : S32), ticks known (a ++ [x]) = (tickC (ticks known a) x.f0.f1).1
 | [], _, _ => rfl
 | y :: t, known, x => ticks_more t (tickC known y.f0.f1).1 x
theorem AllR_more : ∀ (a : List S32) (known : List Int) (x : S32), AllR known a → readyC (ticks known a) x = true → AllR known (a ++ [x])
 | [], _, _, _, h => ⟨h, trivial⟩
 | y :: t, known, x, h, hx => ⟨h.1, AllR_more t _ x h.2 hx⟩
theorem next_ripe (known : List Int) : ∀ (l : List S32) (i j : Nat), nextI known l i = ((i + j : Nat) : Int) → j < l.length → ripeC known (rd_T32 l (j : Int)) = true
 | [], _, _, _, h => absurd h (Nat.not_lt_zero _)
 | x :: t, i, j, h, hj => by
  unfold nextI at h
  by_cases hx : ripeC known x = true
  ·rw [if_pos hx] at h
   obtain rfl : j = 0 := by omega
   exact hx
  ·rw [if_neg hx] at h
   cases j with
   | zero =>
    exfalso
    by_cases h0 : 0 ≤ nextI known t (i + 1)
    ·obtain ⟨m, _, hm⟩ := next_lt known t (i + 1) h0
     omega
    ·omega
   | succ j =>
    have h2 := next_ripe known t (i + 1) j (by rw [h]; congr 1; omega) (Nat.lt_of_succ_lt_succ hj)
    exact h2
theorem next_neg (known : List Int) : ∀ (l : List S32) (i : Nat), nextI known l i < 0 → ∀ y ∈ l, ripeC known y = false
 | [], _, _, _, h => absurd h List.not_mem_nil
 | x :: t, i, h, y, hy => by
  unfold nextI at h
  by_cases hx : ripeC known x = true
  ·rw [if_pos hx] at h
   omega
  ·rw [if_neg hx] at h
   rcases List.mem_cons.1 hy with rfl | hy
   ·simpa using hx
   ·exact next_neg known t (i + 1) h y hy
theorem ready_of {known : List Int} {x : S32} (h1 : chkC known = 0) (h2 : checkX x = 0) (h3 : ripeC known x = true) : readyC known x = true := by
 unfold readyC
 rw [h1, h2, h3]
 rfl
theorem unready_of {known : List Int} {x : S32} (h3 : ripeC known x = false) : readyC known x = false := by
 unfold readyC
 rw [h3, Bool.and_false, Bool.and_false]
theorem relF_all (known : List Int) : ∀ (n : Nat) (out left : List S32), left.length ≤ n → chkC (ticks known out) = 0 → AllR known out → (∀ y ∈ left, checkX y = 0) →
  AllR known (relF n (ticks known out) out left).1 ∧ (∀ y ∈ (relF n (ticks known out) out left).2, readyC (ticks known (relF n (ticks known out) out left).1) y = false)
 | 0, out, left, hn, _, ha, _ => by
  obtain rfl : left = [] := List.length_eq_zero_iff.1 (Nat.le_zero.1 hn)
  exact ⟨ha, fun y hy => absurd hy List.not_mem_nil⟩
 | n + 1, out, left, hn, hc, ha, hx => by
  unfold relF
  by_cases h0 : 0 ≤ nextI (ticks known out) left 0
  ·rw [if_pos h0]
   obtain ⟨j, hj, hje⟩ := next_lt (ticks known out) left 0 h0
   have hr := next_ripe (ticks known out) left 0 j hje hj
   rw [Nat.zero_add] at hje
   rw [hje, Int.toNat_natCast, ← ticks_more out known]
   have hm : rd_T32 left (j : Int) ∈ left := List.mem_of_getElem? (rd32_at hj)
   have hy := hx _ hm
   refine relF_all known n _ _ ?_ ?_ (AllR_more _ _ _ ha (ready_of hc hy hr)) (fun y h => hx y (List.mem_of_mem_eraseIdx h))
   ·rw [List.length_eraseIdx, if_pos hj]
    omega
   ·rw [ticks_more]
    exact tick_chk _ _
  ·rw [if_neg h0]
   have h1 : nextI (ticks known out) left 0 < 0 := by omega
   exact ⟨ha, fun y hy => unready_of (next_neg _ left 0 h1 y hy)⟩
theorem relF_sub : ∀ (n : Nat) (now : List Int) (out left : List S32) (y : S32), y ∈ (relF n now out left).1 ∨ y ∈ (relF n now out left).2 → y ∈ out ∨ y ∈ left
 | 0, _, _, _, _, h => h
 | n + 1, now, out, left, y, h => by
  unfold relF at h
  by_cases h0 : 0 ≤ nextI now left 0
  ·rw [if_pos h0] at h
   obtain ⟨j, hj, hje⟩ := next_lt now left 0 h0
   rw [Nat.zero_add] at hje
   rw [hje] at h
   rcases relF_sub n _ _ _ y h with h | h
   ·rcases List.mem_append.1 h with h | h
    ·exact .inl h
    ·rw [List.mem_singleton.1 h]
     exact .inr (List.mem_of_getElem? (rd32_at hj))
   ·exact .inr (List.mem_of_mem_eraseIdx h)
  ·rw [if_neg h0] at h
   exact h
/-- Nothing that Take tells or holds is new but the change. -/
theorem take_sub (room : Int) (l : List S32) (known : List Int) (x y : S32) : y ∈ (takeF room l known x).1 ∨ y ∈ (takeF room l known x).2.1 → y = x ∨ y ∈ l := by
 have h0 : y ∈ l ∨ y ∈ ([] : List S32) → y = x ∨ y ∈ l := fun h => h.elim .inr (fun h => absurd h List.not_mem_nil)
 unfold takeF
 split
 ·split
  ·split
   ·exact h0
   ·split
    ·intro h
     rcases relF_sub _ _ _ _ y h.symm with h | h
     ·exact .inl (List.mem_singleton.1 h)
     ·exact .inr h
    ·split
     ·exact h0
     ·intro h
      rcases h with h | h
      ·rcases List.mem_append.1 h with h | h
       ·exact .inr (List.mem_of_mem_take h)
       ·rcases List.mem_cons.1 h with h | h
        ·exact .inl h
        ·exact .inr (List.mem_of_mem_drop h)
      ·exact absurd h List.not_mem_nil
  ·exact h0
 ·exact h0
end Go.Proofs.Ytnopjjilpgekfaa.PCa
namespace Go.Proofs.Ytnopjjilpgekfaa.PCa
open Go.RowKit Go.Proofs.YtnopjjilpgekfaaW.PrintWords Go.Proofs.YtnopjjilpgekfaaW.PrintLast Go.Proofs.YtnopjjilpgekfaaW.PrintMore
attribute [local go_sem] max2_int min2_int max_two min_two max_three min_three max_four min_four
set_option linter.unusedVariables false
set_option linter.unusedSimpArgs false
/-- What a copy under way holds: the entries that have come. -/
structure CA (es es2 : List ((Nat × KeyP) × Int)) (seen : Array Nat) (c2 : Nat) : Prop where
 ones : ∀ e ∈ es2, e.2 = 1
 born : ∀ e ∈ es2, e.1.1 < c2
 nd : (es2.map (·.1.2)).Nodup
 bn : (es2.map (·.1.1)).Nodup
 mem : ∀ k, k ∈ es2.map (·.1.2) ↔ ∃ e ∈ es, e.1.2 = k ∧ seen.contains e.1.1 = true
theorem nodup_key {α β : Type} {f : α → β} : ∀ {l : List α} {a b : α}, (l.map f).Nodup → a ∈ l → b ∈ l → f a = f b → a = b
 | x :: t, a, b, hn, ha, hb, h => by
  rw [List.map_cons, List.nodup_cons] at hn
  rcases List.mem_cons.1 ha with e1 | h1
  ·rcases List.mem_cons.1 hb with e2 | h2
   ·rw [e1, e2]
   ·rw [e1] at h
    exact absurd (h ▸ List.mem_map_of_mem h2) hn.1
  ·rcases List.mem_cons.1 hb with e2 | h2
   ·rw [e2] at h
    exact absurd (h ▸ List.mem_map_of_mem h1) hn.1
   ·exact nodup_key hn.2 h1 h2 h
section
variable {es es2 : List ((Nat × KeyP) × Int)} {seen : Array Nat} {c c2 : Nat} {L : List S32} {e : (Nat × KeyP) × Int}
theorem CA.fresh (h : CA es es2 seen c2) (hk : (es.map (·.1.2)).Nodup) (he : e ∈ es) (hs : seen.contains e.1.1 = false) : e.1.2 ∉ es2.map (·.1.2) := fun hm => by
 obtain ⟨e', he', h1, h2⟩ := (h.mem _).1 hm
 rw [nodup_key (f := fun e : (Nat × KeyP) × Int => e.1.2) hk he' he h1, hs] at h2
 exact Bool.false_ne_true h2
theorem CA.more (h : CA es es2 seen c2) (hk : (es.map (·.1.2)).Nodup) (hb : (es.map (·.1.1)).Nodup) (he : e ∈ es) (hs : seen.contains e.1.1 = false) : CA es (es2 ++ [((c2, e.1.2), 1)]) (seen.push e.1.1) (c2 + 1) := by
 have hf := h.fresh hk he hs
 refine ⟨fun x hx => ?_, fun x hx => ?_, ?_, ?_, fun k => ?_⟩
 ·rcases List.mem_append.1 hx with hx | hx
  ·exact h.ones x hx
  ·rw [List.mem_singleton.1 hx]
 ·rcases List.mem_append.1 hx with hx | hx
  ·exact Nat.lt_succ_of_lt (h.born x hx)
  ·rw [List.mem_singleton.1 hx]; exact Nat.lt_succ_self _
 ·rw [List.map_append]
  refine List.nodup_append.2 ⟨h.nd, by simp, fun a ha b hb' => ?_⟩
  simp only [List.map_cons, List.map_nil, List.mem_singleton] at hb'
  subst hb'
  intro q
  exact hf (q ▸ ha)
 ·rw [List.map_append]
  refine List.nodup_append.2 ⟨h.bn, by simp, fun a ha b hb' => ?_⟩
  simp only [List.map_cons, List.map_nil, List.mem_singleton] at hb'
  subst hb'
  obtain ⟨x, hx, rfl⟩ := List.mem_map.1 ha
  exact Nat.ne_of_lt (h.born x hx)
 ·rw [List.map_append, List.mem_append, h.mem k, List.map_cons, List.map_nil, List.mem_singleton]
  constructor
  ·rintro (⟨x, hx, h1, h2⟩ | h1)
   ·exact ⟨x, hx, h1, by simp at h2 ⊢; exact .inl h2⟩
   ·exact ⟨e, he, h1.symm, by simp⟩
  ·rintro ⟨x, hx, h1, h2⟩
   simp at h2
   rcases h2 with h2 | h2
   ·exact .inl ⟨x, hx, h1, by simpa using h2⟩
   ·right
    rw [← h1, nodup_key (f := fun e : (Nat × KeyP) × Int => e.1.1) hb hx he h2]
theorem CA.done (h : CA es es2 seen c2) (hM : MapOk es c L) (hall : ∀ e ∈ es, seen.contains e.1.1 = true) : MapOk es2 c2 L :=
 ⟨h.born, h.ones, h.nd, hM.once, fun k => by
  rw [← hM.mem k, h.mem k]
  constructor
  ·rintro ⟨e, he, h1, _⟩
   rw [← h1]
   exact List.mem_map_of_mem (f := fun e : (Nat × KeyP) × Int => e.1.2) he
  ·intro hk
   obtain ⟨e, he, h1⟩ := List.mem_map.1 hk
   exact ⟨e, he, h1, hall e he⟩, h.bn⟩
end
/-- The copy's memory. -/
structure CI (w wq : World) (g2 mb2 r mb : Nat) (room : Int) (A10 : Option Addr) (c10 : Nat) (L : List S32) (seen : Array Nat) (c : Nat) (es2 : List ((Nat × KeyP) × Int)) (c2 : Nat) : Prop where
 bel : Below w.heap.size w wq
 it : wq.heap[r]? = some (.mapIter (some mb) c seen c)
 blk : wq.heap[g2]? = some (.cells #[.int .i64 room, .slice A10 L.length c10, .map (some mb2)] 71 (0, 0))
 map : MapE wq mb2 es2 c2
 row : Kd.S k32 32 wq w.heap.size (fun k => w.heap.size ≤ k ∧ k ≠ g2 ∧ k ≠ mb2 ∧ k ≠ r) (.slice A10 L.length c10) L
/-- How many changes there are of a replica. -/
def numR (l : List S32) (r : Int) : Nat := l.countP (fun y => y.f0.f1 == r)
def lessX (a b : S32) : Bool := lessC a.f0.f0 a.f0.f1 b.f0.f0 b.f0.f1
theorem less_iff (a b : S32) : lessX a b = true ↔ a.f0.f0 < b.f0.f0 ∨ (a.f0.f0 = b.f0.f0 ∧ a.f0.f1 < b.f0.f1) := by
 unfold lessX lessC
 simp only [Bool.or_eq_true, Bool.and_eq_true, decide_eq_true_eq]
theorem less_trans {a b c : S32} (h1 : lessX a b = true) (h2 : lessX b c = true) : lessX a c = true := by
 rw [less_iff] at *
 omega
theorem less_asymm {a b : S32} (h1 : lessX a b = true) : ¬ lessX b a = true := by
 rw [less_iff] at *
 omega
theorem less_total {a b : S32} (h : ¬ lessX a b = true) (hne : a.f0 ≠ b.f0) : lessX b a = true := by
 rw [less_iff] at *
 have : ¬ (a.f0.f0 = b.f0.f0 ∧ a.f0.f1 = b.f0.f1) := fun e => hne (by cases ha : a.f0; cases hb : b.f0; rw [ha, hb] at e; obtain ⟨e1, e2⟩ := e; subst e1; subst e2; rfl)
 omega
/-- A change at its place, by its stamp. -/
def insS (c : S32) : List S32 → List S32
 | [] => [c]
 | x :: t => if lessX c x = true then c :: x :: t else x :: insS c t
theorem insS_perm (c : S32) : ∀ l, (insS c l).Perm (c :: l)
 | [] => List.Perm.refl _
 | x :: t => by
  unfold insS
  split
  ·exact List.Perm.refl _
  ·exact ((insS_perm c t).cons x).trans (List.Perm.swap c x t)
theorem insS_sorted {c : S32} : ∀ {l : List S32}, l.Pairwise (fun a b => lessX a b = true) → (∀ y ∈ l, c.f0 ≠ y.f0) → (insS c l).Pairwise (fun a b => lessX a b = true)
 | [], _, _ => List.pairwise_singleton _ _
 | x :: t, h, hn => by
  obtain ⟨h1, h2⟩ := List.pairwise_cons.1 h
  unfold insS
  split
  ·rename_i hc
   refine List.pairwise_cons.2 ⟨fun y hy => ?_, h⟩
   rcases List.mem_cons.1 hy with e | hy
   ·rw [e]; exact hc
   ·exact less_trans hc (h1 y hy)
  ·rename_i hc
   refine List.pairwise_cons.2 ⟨fun y hy => ?_, insS_sorted h2 (fun y hy => hn y (List.mem_cons_of_mem _ hy))⟩
   rcases List.mem_cons.1 ((insS_perm c t).mem_iff.1 hy) with e | hy
   ·rw [e]; exact less_total hc (hn x List.mem_cons_self)
   ·exact h1 y hy
/-- Two lists in order with the same members are one. -/
theorem sorted_eq : ∀ {l m : List S32}, l.Pairwise (fun a b => lessX a b = true) → m.Pairwise (fun a b => lessX a b = true) → l.Perm m → l = m
 | [], m, _, _, hp => (List.nil_perm.1 hp).symm
 | a :: t, m, hl, hm, hp => by
  cases m with
  | nil => exact absurd hp.length_eq (by simp)
  | cons b u =>
   obtain ⟨h1, h2⟩ := List.pairwise_cons.1 hl
   obtain ⟨g1, g2⟩ := List.pairwise_cons.1 hm
   have e : a = b := by
    rcases List.mem_cons.1 (hp.mem_iff.1 List.mem_cons_self) with e | ha
    ·exact e
    ·rcases List.mem_cons.1 (hp.mem_iff.2 (List.mem_cons_self (a := b))) with e | hb
     ·exact e.symm
     ·exact absurd (h1 b hb) (less_asymm (g1 a ha))
   subst e
   rw [sorted_eq h2 g2 (List.Perm.cons_inv hp)]
section
variable (nm : S32 → List S30)
/-- All on which a change hangs, and all that it names, is there. -/
def BehindOk (l : List S32) (c : S32) : Prop :=
 (∀ r : Nat, r < c.f2.length → rd c.f2 (r : Int) ≠ 0 → ∃ z ∈ l, z.f0.f1 = (r : Int) ∧ z.f1 = rd c.f2 (r : Int) ∧ lessX z c = true) ∧ ∀ n ∈ nm c, ∃ z ∈ l, z.f0 = n ∧ z.f1 ≤ atC c.f2 z.f0.f1
def WhyOk (l : List S32) (room : Int) (c : S32) : Prop :=
 checkX c = 0 ∧ (∀ y ∈ l, c.f0 ≠ y.f0) ∧ keyOf c ∉ l.map keyOf ∧ c.f1 = (numR l c.f0.f1 : Int) + 1 ∧ (∀ r : Nat, r < c.f2.length → rd c.f2 (r : Int) ≤ (numR l (r : Int) : Int)) ∧ BehindOk nm l c ∧ (l.length : Int) < room
/-- A log of the document. -/
structure LogOk (l : List S32) : Prop where
 ok : ∀ y ∈ l, checkX y = 0
 ord : l.Pairwise (fun a b => lessX a b = true)
 nk : (l.map keyOf).Nodup
 clk : ∀ (r m : Int), (∃ y ∈ l, y.f0.f1 = r ∧ y.f1 = m) ↔ 1 ≤ m ∧ m ≤ (numR l r : Int)
 deps : ∀ y ∈ l, BehindOk nm l y
end
section
variable {nm : S32 → List S30} {l : List S32} {c : S32} {room : Int}
theorem LogOk.nil : LogOk nm [] := ⟨(fun _ h => nomatch h), List.Pairwise.nil, List.nodup_nil, fun r m => ⟨fun ⟨_, h, _⟩ => (nomatch h), fun h => by have : numR [] r = 0 := rfl; omega⟩, (fun _ h => nomatch h)⟩
theorem numR_perm {a b : List S32} (h : a.Perm b) (r : Int) : numR a r = numR b r := h.countP_eq _
theorem numR_cons (c : S32) (l : List S32) (r : Int) : numR (c :: l) r = numR l r + if c.f0.f1 = r then 1 else 0 := by
 unfold numR
 rw [List.countP_cons]
 congr 1
 simp
theorem numR_ins (c : S32) (l : List S32) (r : Int) : numR (insS c l) r = numR l r + if c.f0.f1 = r then 1 else 0 := by rw [numR_perm (insS_perm c l), numR_cons]
theorem numR_le (l : List S32) (r : Int) : numR l r ≤ l.length := List.countP_le_length
theorem BehindOk.more (h : BehindOk nm l c) (x : S32) : BehindOk nm (insS x l) c := by
 have hm : ∀ z ∈ l, z ∈ insS x l := fun z hz => (insS_perm x l).mem_iff.2 (List.mem_cons_of_mem _ hz)
 exact ⟨fun r h1 h2 => by obtain ⟨z, hz, q⟩ := h.1 r h1 h2; exact ⟨z, hm z hz, q⟩, fun n hn => by obtain ⟨z, hz, q⟩ := h.2 n hn; exact ⟨z, hm z hz, q⟩⟩
theorem LogOk.add (h : LogOk nm l) (hw : WhyOk nm l room c) : LogOk nm (insS c l) := by
 obtain ⟨w1, w2, w3, w4, w5, w6, w7⟩ := hw
 have hp := insS_perm c l
 refine ⟨fun y hy => ?_, insS_sorted h.ord w2, (hp.map keyOf).nodup_iff.2 (List.nodup_cons.2 ⟨w3, h.nk⟩), fun r m => ?_, fun y hy => ?_⟩
 ·rcases List.mem_cons.1 (hp.mem_iff.1 hy) with e | hy
  ·rw [e]; exact w1
  ·exact h.ok y hy
 ·rw [numR_ins]
  constructor
  ·rintro ⟨y, hy, e1, e2⟩
   rcases List.mem_cons.1 (hp.mem_iff.1 hy) with e | hy
   ·subst e
    rw [if_pos e1, ← e2, w4, e1]
    omega
   ·have := (h.clk r m).1 ⟨y, hy, e1, e2⟩
    split <;> omega
  ·intro hm
   by_cases hr : c.f0.f1 = r
   ·rw [if_pos hr] at hm
    by_cases hq : m ≤ (numR l r : Int)
    ·obtain ⟨y, hy, q⟩ := (h.clk r m).2 ⟨hm.1, hq⟩
     exact ⟨y, hp.mem_iff.2 (List.mem_cons_of_mem _ hy), q⟩
    ·exact ⟨c, hp.mem_iff.2 List.mem_cons_self, hr, by rw [w4, hr]; omega⟩
   ·rw [if_neg hr, Nat.add_zero] at hm
    obtain ⟨y, hy, q⟩ := (h.clk r m).2 hm
    exact ⟨y, hp.mem_iff.2 (List.mem_cons_of_mem _ hy), q⟩
 ·rcases List.mem_cons.1 (hp.mem_iff.1 hy) with e | hy
  ·rw [e]; exact w6.more c
  ·exact (h.deps y hy).more c
end
/-- A clock tells how many there are. -/
structure Agree (known : List Int) (z : List S32) : Prop where
 chk : chkC known = 0
 at_ : ∀ r : Int, 0 ≤ r → r < 64 → atC known r = (numR z r : Int)
/-- In the midst: what is in z, held, and still to come, is y. -/
structure MI (nm : S32 → List S30) (y z L rest : List S32) (known : List Int) : Prop where
 yok : LogOk nm y
 zok : LogOk nm z
 perm : (z ++ (L ++ rest)).Perm y
 agree : Agree known z
theorem nodup_keys {l : List S32} {a b : S32} (hn : (l.map keyOf).Nodup) (ha : a ∈ l) (hb : b ∈ l) (h1 : a.f0.f1 = b.f0.f1) (h2 : a.f1 = b.f1) : a = b := nodup_key (f := keyOf) hn ha hb (by show (a.f0.f1, a.f1) = (b.f0.f1, b.f1); rw [h1, h2])
theorem less_irr {u v : S32} (h : lessX u v = true) (e : u.f0 = v.f0) : False := by
 rw [less_iff, e] at h
 omega
theorem stamp_uniq {l : List S32} {a b : S32} (h : l.Pairwise (fun a b => lessX a b = true)) (ha : a ∈ l) (hb : b ∈ l) (he : a.f0 = b.f0) : a = b := by
 induction l with
 | nil => exact absurd ha List.not_mem_nil
 | cons x t ih =>
  obtain ⟨h1, h2⟩ := List.pairwise_cons.1 h
  rcases List.mem_cons.1 ha with e1 | ha'
  ·rcases List.mem_cons.1 hb with e2 | hb'
   ·rw [e1, e2]
   ·exact absurd (less_irr (h1 b hb') (by rw [← e1]; exact he)) id
  ·rcases List.mem_cons.1 hb with e2 | hb'
   ·exact absurd (less_irr (h1 a ha') (by rw [← e2]; exact he.symm)) id
   ·exact ih h2 ha' hb'
theorem trim_zero (l : List Int) : ∀ (n j : Nat), trimN l n ≤ j → j < n → rd l (j : Int) = 0
 | 0, j, _, h => absurd h (Nat.not_lt_zero j)
 | n + 1, j, h1, h2 => by
  rw [trimN] at h1
  by_cases h : rd l (n : Int) = 0
  ·rw [if_pos h] at h1
   rcases Nat.lt_or_ge j n with hj | hj
   ·exact trim_zero l n j h1 hj
   ·rw [show j = n from by omega]; exact h
  ·rw [if_neg h] at h1
   omega
theorem at_trim (l : List Int) (r : Int) : atC (trimC l) r = atC l r := by
 unfold atC
 by_cases h0 : r < 0
 ·rw [if_pos (Or.inl h0), if_pos (Or.inl h0)]
 ·obtain ⟨j, rfl⟩ := Int.eq_ofNat_of_zero_le (Int.not_lt.1 h0)
  have hle := trimN_le l l.length
  have hlen : (trimC l).length = trimN l l.length := by unfold trimC; rw [List.length_take]; omega
  by_cases h1 : j < l.length
  ·rw [if_neg (fun h => by rcases h with h | h <;> omega : ¬ ((j : Int) < 0 ∨ (l.length : Int) ≤ (j : Int)))]
   by_cases h2 : j < trimN l l.length
   ·rw [if_neg (fun h => by rw [hlen] at h; rcases h with h | h <;> omega)]
    unfold trimC rd
    rw [Int.toNat_natCast, List.getD_eq_getElem?_getD, List.getD_eq_getElem?_getD, List.getElem?_take_of_lt h2]
   ·rw [if_pos (Or.inr (by rw [hlen]; omega)), trim_zero l l.length j (by omega) h1]
  ·rw [if_pos (Or.inr (by rw [hlen]; omega)), if_pos (Or.inr (by omega))]
theorem at_bump (l : List Int) (r q : Int) (hr : 0 ≤ r) (hq : 0 ≤ q) : atC (clock_Tick.bump l r) q = atC l q + if r = q then 1 else 0 := by
 obtain ⟨i, rfl⟩ := Int.eq_ofNat_of_zero_le hr
 obtain ⟨j, rfl⟩ := Int.eq_ofNat_of_zero_le hq
 have hlen : (clock_Tick.row l (i : Int)).length = max l.length (i + 1) := by
  unfold clock_Tick.row
  rw [List.length_append, List.length_replicate]
  omega
 have hj := row_rd (l := l) (r := (i : Int)) (i := (j : Int)) (by omega)
 have hi := row_rd (l := l) (r := (i : Int)) (i := (i : Int)) (by omega)
 unfold clock_Tick.bump
 by_cases h1 : j < max l.length (i + 1)
 ·unfold atC at *
  rw [List.length_set, hlen, if_neg (by omega), ← hj]
  unfold rd
  simp only [Int.toNat_natCast]
  rw [List.getD_eq_getElem?_getD, List.getElem?_set]
  by_cases he : i = j
  ·subst he
   rw [if_pos rfl, if_pos (by rw [hlen]; omega), if_pos rfl, Option.getD_some]
  ·rw [if_neg he, if_neg (by omega), List.getD_eq_getElem?_getD, Int.add_zero]
 ·have he : i ≠ j := by omega
  rw [if_neg (by omega), Int.add_zero]
  unfold atC
  rw [List.length_set, hlen, if_pos (Or.inr (by omega)), if_pos (Or.inr (by omega))]
theorem right_r {x : S32} (h : checkX x = 0) : 0 ≤ x.f0.f1 ∧ x.f0.f1 < 64 := by
 have := (check_ok h).2.2.2.1
 unfold rightC at this
 simp only [Bool.and_eq_true, decide_eq_true_eq] at this
 omega
theorem check_own {x : S32} (h : checkX x = 0) : atC x.f2 x.f0.f1 = x.f1 - 1 := by
 unfold checkX checkC at h
 split at h
 ·cases h
 ·split at h
  ·split at h
   ·cases h
   ·by_cases hd : depsC x.f0.f1 x.f1 x.f2 = 0
    ·unfold depsC at hd
     split at hd
     ·split at hd
      ·rename_i hq
       exact hq.2
      ·cases hd
     ·rename_i hc
      exact absurd hd hc
    ·rw [if_neg hd] at h
     exact absurd h hd
  ·cases h
/-- A clock ticks as a log grows. -/
theorem Agree.tick {known : List Int} {z : List S32} {c : S32} (h : Agree known z) (h0 : 0 ≤ c.f0.f1) (h1 : c.f0.f1 < 64) (hz : z.length ≤ 256) : Agree (tickC known c.f0.f1).1 (insS c z) := by
 refine ⟨tick_chk _ _, fun q hq0 hq1 => ?_⟩
 have ha := h.at_ c.f0.f1 h0 h1
 have hn := numR_le z c.f0.f1
 unfold tickC
 rw [if_pos h.chk, if_neg (by omega), if_neg (by omega)]
 show atC (trimC (clock_Tick.bump known c.f0.f1)) q = _
 rw [at_trim, at_bump _ _ _ h0 hq0, h.at_ q hq0 hq1, numR_ins]
 split <;> simp
/-- The document's clock of a log. -/
def clockL (z : List S32) : List Int := trimC ((List.range 64).map (fun r : Nat => (numR z (r : Int) : Int)))
theorem cnt_rd (z : List S32) (r : Int) (h0 : 0 ≤ r) (h1 : r < 64) : atC ((List.range 64).map (fun r : Nat => (numR z (r : Int) : Int))) r = (numR z r : Int) := by
 obtain ⟨j, rfl⟩ := Int.eq_ofNat_of_zero_le h0
 unfold atC rd
 rw [List.length_map, List.length_range, if_neg (by omega), Int.toNat_natCast, List.getD_eq_getElem?_getD, List.getElem?_map, List.getElem?_range (by omega)]
 rfl
theorem clock_agree {z : List S32} (hz : z.length ≤ 256) : Agree (clockL z) z := by
 refine ⟨?_, fun r h0 h1 => by unfold clockL; rw [at_trim, cnt_rd z r h0 h1]⟩
 have hl : (clockL z).length ≤ 64 := by unfold clockL trimC; rw [List.length_take, List.length_map, List.length_range]; omega
 unfold chkC
 rw [if_neg (by omega), if_neg]
 intro ha
 obtain ⟨n, hn, hb⟩ := List.any_eq_true.1 ha
 have hm := List.mem_of_mem_take hn
 obtain ⟨r, _, rfl⟩ := List.mem_map.1 hm
 have := numR_le z (r : Int)
 simp only [badN, Bool.or_eq_true, decide_eq_true_eq] at hb
 omega
/-- Ready, as a log has it. -/
def RipeZ (z : List S32) (x : S32) : Prop := x.f1 - 1 = (numR z x.f0.f1 : Int) ∧ ∀ r : Nat, r < x.f2.length → rd x.f2 (r : Int) ≤ (numR z (r : Int) : Int)
theorem under_iff (d known : List Int) : ∀ (n i : Nat), underN d known n i = true ↔ ∀ j, i ≤ j → j < i + n → rd d (j : Int) ≤ atC known (j : Int)
 | 0, i => ⟨fun _ j h1 h2 => by omega, fun _ => rfl⟩
 | n + 1, i => by
  rw [underN, Bool.and_eq_true, decide_eq_true_eq, under_iff d known n (i + 1)]
  constructor
  ·intro h j h1 h2
   rcases Nat.eq_or_lt_of_le h1 with e | e
   ·subst e; exact h.1
   ·exact h.2 j e (by omega)
  ·intro h
   exact ⟨h i (Nat.le_refl _) (by omega), fun j h1 h2 => h j (by omega) (by omega)⟩
theorem ripe_iff {known : List Int} {z : List S32} {x : S32} (h : Agree known z) (hx : checkX x = 0) : ripeC known x = true ↔ RipeZ z x := by
 have hr := right_r hx
 have hl := (check_ok hx).2.2.2.2.2
 unfold ripeC RipeZ
 rw [Bool.and_eq_true, decide_eq_true_eq, h.at_ _ hr.1 hr.2, under_iff]
 constructor
 ·intro hq
  exact ⟨hq.1, fun r hr => by rw [← h.at_ (r : Int) (by omega) (by omega)]; exact hq.2 r (Nat.zero_le _) (by omega)⟩
 ·intro hq
  exact ⟨hq.1, fun j _ h2 => by rw [h.at_ (j : Int) (by omega) (by omega)]; exact hq.2 j (by omega)⟩
section
variable {nm : S32 → List S30} {y z L rest : List S32} {known : List Int} {c : S32}
theorem mem_y (h : (z ++ (L ++ rest)).Perm y) {u : S32} : u ∈ y ↔ u ∈ z ∨ u ∈ L ∨ u ∈ rest := by rw [← h.mem_iff, List.mem_append, List.mem_append]
theorem not_in (hy : LogOk nm y) (hp : (z ++ (L ++ rest)).Perm y) (hc : c ∈ L ∨ c ∈ rest) : keyOf c ∉ z.map keyOf := by
 have hn : ((z ++ (L ++ rest)).map keyOf).Nodup := (hp.map keyOf).nodup_iff.2 hy.nk
 rw [List.map_append, List.nodup_append] at hn
 intro hm
 have hc2 : keyOf c ∈ (L ++ rest).map keyOf := List.mem_map_of_mem (List.mem_append.2 hc)
 exact hn.2.2 _ hm _ hc2 rfl
theorem not_yet (hy : LogOk nm y) (hz : LogOk nm z) (hp : (z ++ (L ++ rest)).Perm y) (hc : c ∈ L ∨ c ∈ rest) : (numR z c.f0.f1 : Int) < c.f1 := by
 have hx := hy.ok c ((mem_y hp).2 (.inr hc))
 have h1 := (check_ok hx).1
 by_cases h : (numR z c.f0.f1 : Int) < c.f1
 ·exact h
 ·obtain ⟨u, hu, e1, e2⟩ := (hz.clk c.f0.f1 c.f1).2 ⟨h1, by omega⟩
  exact absurd (by rw [show keyOf c = keyOf u from by unfold keyOf; rw [e1, e2]]; exact List.mem_map_of_mem hu) (not_in hy hp hc)
/-- One of y that a number of z stands for is in z. -/
theorem back (hy : LogOk nm y) (hz : LogOk nm z) (hp : (z ++ (L ++ rest)).Perm y) {u : S32} (hu : u ∈ y) (h : u.f1 ≤ (numR z u.f0.f1 : Int)) : u ∈ z := by
 obtain ⟨v, hv, e1, e2⟩ := (hz.clk u.f0.f1 u.f1).2 ⟨(check_ok (hy.ok u hu)).1, h⟩
 rw [← nodup_keys hy.nk ((mem_y hp).2 (.inl hv)) hu e1 e2]
 exact hv
/-- What is ready may be added. -/
theorem ripe_why (hy : LogOk nm y) (hz : LogOk nm z) (hp : (z ++ (L ++ rest)).Perm y) (hl : y.length ≤ 256) (hc : c ∈ L ∨ c ∈ rest) (hr : RipeZ z c) : WhyOk nm z 256 c := by
 have hcy : c ∈ y := (mem_y hp).2 (.inr hc)
 have hx := hy.ok c hcy
 have hd := check_ok hx
 refine ⟨hx, fun u hu e => ?_, not_in hy hp hc, by have := hr.1; omega, hr.2, ⟨fun r h1 h2 => ?_, fun n hn => ?_⟩, ?_⟩
 ·have hq := stamp_uniq hy.ord hcy ((mem_y hp).2 (.inl hu)) e
  exact not_in hy hp hc (by rw [hq]; exact List.mem_map_of_mem hu)
 ·obtain ⟨u, hu, e1, e2, e3⟩ := (hy.deps c hcy).1 r h1 h2
  have h3 := hr.2 r h1
  exact ⟨u, back hy hz hp hu (by rw [e1, e2]; exact h3), e1, e2, e3⟩
 ·obtain ⟨u, hu, e1, e2⟩ := (hy.deps c hcy).2 n hn
  have hur := right_r (hy.ok u hu)
  have hu1 := (check_ok (hy.ok u hu)).1
  refine ⟨u, back hy hz hp hu ?_, e1, e2⟩
  unfold atC at e2
  split at e2
  ·omega
  ·rename_i hq
   obtain ⟨j, hj⟩ := Int.eq_ofNat_of_zero_le hur.1
   rw [hj] at e2 hq ⊢
   have := hr.2 j (by omega)
   omega
 ·have h1 := hp.length_eq
  rw [List.length_append, List.length_append] at h1
  have h2 : 0 < L.length + rest.length := by
   rcases hc with h | h
   ·have := List.length_pos_of_mem h; omega
   ·have := List.length_pos_of_mem h; omega
  omega
end
def x2 : S32 := ⟨⟨2, 1⟩, 1, [1], 5, ⟨1, 0⟩, ⟨0, 0⟩, ⟨0, 0⟩, ⟨#[]⟩, ⟨#[97]⟩⟩
def x1 : S32 := ⟨⟨1, 0⟩, 1, [], 1, ⟨1, 0⟩, ⟨0, 0⟩, ⟨0, 0⟩, ⟨#[112]⟩, ⟨#[]⟩⟩
theorem take_x2 : takeF 1 [] [] x2 = ([x2], [], 0) := by kernel_rfl
theorem take_x1 : takeF 1 [x2] [] x1 = ([], [x1, x2], 0) := by kernel_rfl
theorem check_x2 : checkX x2 = 0 := by kernel_rfl
theorem good_x2 : Good [x2] := ⟨fun y hy => by rw [List.mem_singleton.1 hy]; exact check_x2, List.pairwise_singleton _ _⟩
def Yes (w : World) (e : Ending) (w' : World) : Prop := e = .returned (.bool true) ∧ Below w.heap.size w w'
set_option maxHeartbeats 8000000 in
set_option maxRecDepth 100000 in
theorem awake_calls (w : World) : Calls Try.prog 17 #[] w (Yes w) := by
 go_enter Try.func17, Try.ntmps17
 go_wp2_with (fail)
 refine (new_calls w 1 (by decide) (by decide)).mono ?_
 rintro e w1 ⟨g, rfl, hb1, hw1⟩
 have HB1 := Aside0.mk hb1.bound
 have HW1 := Aside0.mk hw1
 clear hb1 hw1
 go_wp2_with (fail)
 refine (topiarylaw09_second.calls _ _ _ _ _ _ _ _ _ _ _ _ _ w1 rfl).mono ?_
 rintro e w2 ⟨v2, rfl, hv2, hw2⟩
 obtain ⟨A2, c2, rfl⟩ := Kd.R_slice hv2
 have HV2 := Aside0.mk (Kd.R_mono (Kd.R_bound hv2) (ok' := fun k => w1.heap.size ≤ k ∧ k < w2.heap.size) (fun k hk => ⟨hk.2.1, hk.2.2.1⟩))
 have HW2 := Aside0.mk (HW1.out.trans (hw2.mono HW1.out.size))
 have HB2 := Aside0.mk (HB1.out.below hw2)
 clear hv2 hw2
 go_wp2_with (fail)
 refine (take13_calls HB2.out Good.nil (by decide) (by decide) none 0 [] (Kd.C_nil _ _) (Nat.le_refl _) x2 A2 c2 (Kd.R_F HV2.out) (fun k hk hp => by have := hp.2; omega) (Kd.R_reads' HV2.out).2.1 (by decide)).mono ?_
 rw [take_x2]
 rintro e w3 ⟨P3, O3, v3, rfl, hb3, hs3, hp3, -, -, hk3⟩
 obtain ⟨A3, c3, rfl⟩ := Kd.S_slice hs3
 have HB3 := Aside0.mk hb3.bound
 have HP3 := Aside0.mk hp3
 have HK3 := Aside0.mk ((Kept.of_below HW2.out (fun k => w.heap.size ≤ k)).then_ hk3 (fun k hk => .inl hk.1))
 clear hb3 hs3 hp3 hk3
 go_wp2_with (go_at_call 16; refine (len_calls HB3.out).mono ?_; rintro e w4 ⟨rfl, rfl⟩)
 refine (topiarylaw09_first.calls _ _ _ _ _ _ _ _ _ _ _ _ _ w4 rfl).mono ?_
 rintro e w5 ⟨v5, rfl, hv5, hw5⟩
 obtain ⟨A5, c5, rfl⟩ := Kd.R_slice hv5
 have HV5 := Aside0.mk (Kd.R_mono (Kd.R_bound hv5) (ok' := fun k => w4.heap.size ≤ k ∧ k < w5.heap.size) (fun k hk => ⟨hk.2.1, hk.2.2.1⟩))
 have HK5 := Aside0.mk (HK3.out.below hw5)
 have HB5 := Aside0.mk (HB3.out.below hw5)
 clear hv5 hw5
 go_wp2_with (fail)
 refine (take13_calls HB5.out good_x2 (by decide) (by decide) none 0 [] (Kd.C_nil _ _) (Nat.le_refl _) x1 A5 c5 (Kd.R_F HV5.out) (fun k hk hp => by have := hp.2; omega) (Kd.R_reads' HV5.out).2.1 (by decide)).mono ?_
 rw [take_x1]
 rintro e w6 ⟨P6, O6, v6, rfl, hb6, hs6, hp6, -, -, hk6⟩
 obtain ⟨gm, cap6, rfl, -, -, -⟩ := Kd.S_form hs6 (by decide)
 have HB6 := Aside0.mk hb6
 have HW6 := Aside0.mk ((HK5.out.then_ hk6 (fun k hk => by
  rcases HP3.out k hk.1 with h | h
  ·exact .inl h.1
  ·exact .inr (Nat.le_trans HW2.out.size h))).to_below (fun _ h => h))
 obtain ⟨c6', hcl, hM, hcc, hfr⟩ := Kd.R_elem (Kd.S_R hs6) z32 0 (by decide) (by decide)
 obtain ⟨vm, rfl, hvm⟩ := chM hM
 have q1 : w6.cell? ⟨gm, 4, none⟩ = some (.int .i64 1) := hcc 4 _ rfl
 clear hb6 hs6 hp6 hk6 hcl hM hcc hfr hvm
 go_wp2_with (go_at_call 16; refine (len_calls HB6.out).mono ?_; rintro e w7 ⟨rfl, rfl⟩)
 go_ret
 exact ⟨rfl, HW6.out⟩
end Go.Proofs.Ytnopjjilpgekfaa.PCa
namespace Go.Proofs.Ytnopjjilpgekfaa.PCa
open Go.RowKit Go.Proofs.YtnopjjilpgekfaaW.PrintWords Go.Proofs.YtnopjjilpgekfaaW.PrintLast Go.Proofs.YtnopjjilpgekfaaW.PrintMore
set_option linter.unusedVariables false
set_option linter.unusedSimpArgs false
/-- A law's buffer: its blocks are P, all of them the law's own. -/
structure BI (w0 W : World) (g : Nat) (room : Int) (L : List S32) (P : Nat → Prop) : Prop where
 buf : BufI W w0.heap.size P g room L
 lo : ∀ k, P k → w0.heap.size ≤ k
 hi : ∀ k, P k → k < W.heap.size
 good : Good L
 len : (L.length : Int) ≤ room
 rm : room ≤ 256
 bel : Below w0.heap.size w0 W
section
variable {w0 W W1 : World} {g : Nat} {room : Int} {L : List S32} {P : Nat → Prop}
theorem BI.below (h : BI w0 W g room L P) (hb : Below W.heap.size W W1) : BI w0 W1 g room L P :=
 ⟨h.buf.below hb, h.lo, fun k hk => Nat.lt_of_lt_of_le (h.hi k hk) hb.size, h.good, h.len, h.rm, h.bel.trans (hb.mono h.bel.size)⟩
theorem BI.new {room : Int} (hr0 : 0 ≤ room) (hr : room ≤ 256) (hb : BufI W1 W.heap.size (fun k => W.heap.size ≤ k) g room []) (hw : Below W.heap.size W W1) (h0 : Below w0.heap.size w0 W) : BI w0 W1 g room [] (fun k => W.heap.size ≤ k ∧ k < W1.heap.size) := by
 have hs := h0.size
 refine ⟨?_, fun k hk => Nat.le_trans hs hk.1, fun k hk => hk.2, Good.nil, by simpa using hr0, hr, h0.trans (hw.mono hs)⟩
 obtain ⟨mb, es, c, A, ch, h1, h2, h3, h4, h5, h6, h7, h8⟩ := hb.bound
 exact ⟨mb, es, c, A, ch, h1, by omega, h3, by omega, h5, h6, h7, Kd.S_lower h8 hs⟩
theorem BI.of_take0 (h : BI w0 W g room L P) {known : List Int} {x : S32} {e : Ending} {W' : World} (ht : TakeB W w0.heap.size P g room (takeF room L known x) e W') :
  ∃ (P' O : Nat → Prop) (v' : Value), e = .returned (.tuple #[v', .int .i64 (takeF room L known x).2.2]) ∧ BI w0 W' g room (takeF room L known x).1 P' ∧ Kd.S k32 32 W' w0.heap.size O v' (takeF room L known x).2.1 ∧ (∀ k, O k → ¬ P' k) ∧ (∀ k, O k → w0.heap.size ≤ k ∧ (P k ∨ W.heap.size ≤ k)) ∧ (∀ k, P' k → P k ∨ W.heap.size ≤ k) ∧ Kept W W' P := by
 obtain ⟨P', O, v', he, hb, hs, hp, hd, ho, hk⟩ := ht
 have hsz := h.bel.size
 refine ⟨fun k => P' k ∧ k < W'.heap.size, O, v', he, ⟨hb.bound, fun k hk' => ?_, fun k hk' => hk'.2, take_good h.good known x, take_room h.len known x, h.rm, ?_⟩, hs, fun k hk' hp' => hd k hk' hp'.1, fun k hk' => ⟨?_, ho k hk'⟩, fun k hk' => hp k hk'.1, hk⟩
 ·rcases hp k hk'.1 with h1 | h1
  ·exact h.lo k h1
  ·omega
 ·exact ((Kept.of_below h.bel (fun k => w0.heap.size ≤ k)).then_ hk (fun k hk' => .inl (h.lo k hk'))).to_below (fun _ h => h)
 ·rcases ho k hk' with h1 | h1
  ·exact h.lo k h1
  ·omega
theorem BI.of_take (h : BI w0 W g room L P) {known : List Int} {x : S32} {e : Ending} {W' : World} {Lr out : List S32} {er : Int} (hr : takeF room L known x = (Lr, out, er)) (ht : TakeB W w0.heap.size P g room (Lr, out, er) e W') :
  ∃ (P' O : Nat → Prop) (v' : Value), e = .returned (.tuple #[v', .int .i64 er]) ∧ BI w0 W' g room Lr P' ∧ Kd.S k32 32 W' w0.heap.size O v' out ∧ (∀ k, O k → ¬ P' k) ∧ (∀ k, O k → w0.heap.size ≤ k ∧ (P k ∨ W.heap.size ≤ k)) ∧ (∀ k, P' k → P k ∨ W.heap.size ≤ k) ∧ Kept W W' P := by
 have := h.of_take0 (known := known) (x := x) (e := e) (W' := W') (by rw [hr]; exact ht)
 rw [hr] at this
 exact this
end
theorem same02_self (l : List Int) : ∀ (n i k : Nat), i + n = l.length → l.length < 90000 → n < k → topiaryref02_Same.l0 k l l (i : Int) = some true := by
 intro n
 induction n with
 | zero =>
  intro i k hi hl hk
  obtain ⟨k, rfl⟩ : ∃ m, k = m + 1 := ⟨k - 1, by omega⟩
  rw [topiaryref02_Same.l0, if_neg (by omega)]
 | succ n ih =>
  intro i k hi hl hk
  obtain ⟨k, rfl⟩ : ∃ m, k = m + 1 := ⟨k - 1, by omega⟩
  rw [topiaryref02_Same.l0, if_pos (by omega), if_pos (by omega), if_pos (by omega), if_pos rfl, w1 (by omega)]
  exact ih (i + 1) k (by omega) hl (by omega)
end Go.Proofs.Ytnopjjilpgekfaa.PCa
namespace Go.Proofs.Ytnopjjilpgekfaa.PCa
open Go.RowKit Go.Proofs.YtnopjjilpgekfaaW.PrintWords Go.Proofs.YtnopjjilpgekfaaW.PrintLast Go.Proofs.YtnopjjilpgekfaaW.PrintMore
attribute [local go_sem] max2_int min2_int max_two min_two max_three min_three max_four min_four
set_option linter.unusedVariables false
set_option linter.unusedSimpArgs false
theorem take_one {l : List S32} {i : Nat} (h : i < l.length) : l.take (i + 1) = l.take i ++ [rd_T32 l (i : Int)] := by
 rw [List.take_add_one, rd32_at h]
 rfl
theorem numR_append (a : List S32) (c : S32) (r : Int) : numR (a ++ [c]) r = numR a r + if c.f0.f1 = r then 1 else 0 := by
 unfold numR
 rw [List.countP_append, List.countP_singleton]
 congr 1
 simp
def cntL (z : List S32) : List Int := (List.range 64).map (fun r : Nat => (numR z (r : Int) : Int))
theorem cntL_len (z : List S32) : (cntL z).length = 64 := by unfold cntL; rw [List.length_map, List.length_range]
theorem cntL_rd (z : List S32) (j : Nat) (h : j < 64) : rd (cntL z) (j : Int) = (numR z (j : Int) : Int) := by
 unfold rd cntL
 rw [Int.toNat_natCast, List.getD_eq_getElem?_getD, List.getElem?_map, List.getElem?_range h]
 rfl
theorem cntL_more (z : List S32) (c : S32) (j : Nat) (hj : c.f0.f1 = (j : Int)) (h : j < 64) : cntL (z ++ [c]) = (cntL z).set j ((numR z (j : Int) : Int) + 1) := by
 refine List.ext_getElem? (fun i => ?_)
 rw [List.getElem?_set, cntL_len]
 unfold cntL
 rw [List.getElem?_map, List.getElem?_map]
 by_cases hi : i < 64
 ·rw [List.getElem?_range hi]
  by_cases e : j = i
  ·subst e
   rw [if_pos rfl, if_pos h, Option.map_some, numR_append, if_pos hj]
   rfl
  ·rw [if_neg e, Option.map_some, Option.map_some, numR_append, if_neg (by omega)]
   rfl
 ·rw [List.getElem?_eq_none (by rw [List.length_range]; omega), if_neg (by omega)]
  rfl
theorem cntL_same (z : List S32) (c : S32) (h : c.f0.f1 < 0 ∨ 64 ≤ c.f0.f1) : cntL (z ++ [c]) = cntL z := by
 unfold cntL
 refine List.map_congr_left (fun i hi => ?_)
 have := List.mem_range.1 hi
 rw [numR_append, if_neg (by omega)]
 rfl
theorem clock_loop (l : List S32) (hl : l.length < 90000) : ∀ (n i k : Nat), i + n = l.length → n + 200 < k → topiaryref07_Clock.l0 k l (cntL (l.take i)) (i : Int) = some (clockL l) := by
 intro n
 induction n with
 | zero =>
  intro i k hi hk
  obtain ⟨k, rfl⟩ : ∃ m, k = m + 1 := ⟨k - 1, by omega⟩
  rw [topiaryref07_Clock.l0, if_neg (by omega), ref_Trim_is _ _ (by rw [cntL_len]; omega) (by rw [cntL_len]; omega), Option.bind_some, List.take_of_length_le (by omega)]
  rfl
 | succ n ih =>
  intro i k hi hk
  obtain ⟨k, rfl⟩ : ∃ m, k = m + 1 := ⟨k - 1, by omega⟩
  have hil : i < l.length := by omega
  rw [topiaryref07_Clock.l0, if_pos (by omega), if_pos (by omega), cntL_len, w1 (by omega)]
  have ht := take_one hil
  generalize rd_T32 l (i : Int) = y at *
  have ih2 := ih (i + 1) k (by omega) (by omega)
  rw [ht] at ih2
  by_cases h1 : y.f0.f1 ≥ 0
  ·rw [if_pos h1]
   by_cases h2 : y.f0.f1 < ((64 : Nat) : Int)
   ·obtain ⟨j, hj⟩ := Int.eq_ofNat_of_zero_le h1
    have hn := numR_le (l.take i) (j : Int)
    rw [List.length_take] at hn
    rw [if_pos h2, if_pos h1, hj, Int.toNat_natCast, cntL_rd _ _ (by omega), w1 (by omega), Int.natCast_succ, ← cntL_more _ _ j hj (by omega)]
    exact ih2
   ·rw [if_neg h2, ← cntL_same (l.take i) y (.inr (by omega))]
    exact ih2
  ·rw [if_neg h1, ← cntL_same (l.take i) y (.inl (by omega))]
   exact ih2
theorem Clock_is (l : List S32) (hl : l.length < 90000) (k : Nat) (hk : l.length + 200 < k) : topiaryref07_Clock.f k l = some (clockL l) := by
 unfold topiaryref07_Clock.f
 rw [if_pos (by decide)]
 have h0 : cntL (l.take 0) = List.replicate 64 0 := by kernel_rfl
 have := clock_loop l hl l.length 0 k (by omega) hk
 rw [h0] at this
 exact this
theorem stamp_beq (a : S30) (b0 b1 : Int) : (a.f0 == b0 && (a.f1 == b1)) = true ↔ a = ⟨b0, b1⟩ := by
 cases a with
 | mk x y =>
  simp only [Bool.and_eq_true, beq_iff_eq]
  constructor
  ·rintro ⟨rfl, rfl⟩; rfl
  ·intro h; injection h with h1 h2; exact ⟨h1, h2⟩
theorem find_loop (l : List S32) (a b : Int) (hl : l.length < 90000) : ∀ (n i k : Nat), i + n = l.length → n < k → (∀ j, j < i → (rd_T32 l (j : Int)).f0 ≠ ⟨a, b⟩) →
  (topiaryref07_Find.l0 k l (i : Int) a b = some (-1) ∧ ∀ j, j < l.length → (rd_T32 l (j : Int)).f0 ≠ ⟨a, b⟩) ∨ ∃ j, j < l.length ∧ topiaryref07_Find.l0 k l (i : Int) a b = some (j : Int) ∧ (rd_T32 l (j : Int)).f0 = ⟨a, b⟩ := by
 intro n
 induction n with
 | zero =>
  intro i k hi hk hno
  obtain ⟨k, rfl⟩ : ∃ m, k = m + 1 := ⟨k - 1, by omega⟩
  exact .inl ⟨by rw [topiaryref07_Find.l0, if_neg (by omega)], fun j hj => hno j (by omega)⟩
 | succ n ih =>
  intro i k hi hk hno
  obtain ⟨k, rfl⟩ : ∃ m, k = m + 1 := ⟨k - 1, by omega⟩
  rw [topiaryref07_Find.l0, if_pos (by omega), if_pos (by omega), w1 (by omega)]
  by_cases hq : (rd_T32 l (i : Int)).f0 = ⟨a, b⟩
  ·rw [if_pos ((stamp_beq _ _ _).2 hq)]
   exact .inr ⟨i, by omega, rfl, hq⟩
  ·rw [if_neg (fun h => hq ((stamp_beq _ _ _).1 h))]
   exact ih (i + 1) k (by omega) (by omega) (fun j hj => by
    rcases Nat.lt_or_ge j i with h | h
    ·exact hno j h
    ·rw [show j = i from by omega]; exact hq)
theorem mem_rd {l : List S32} {y : S32} (h : y ∈ l) : ∃ j, j < l.length ∧ rd_T32 l (j : Int) = y := by
 obtain ⟨j, hj⟩ := List.mem_iff_getElem?.1 h
 have hjl := (List.getElem?_eq_some_iff.1 hj).1
 rw [rd32_at hjl] at hj
 exact ⟨j, hjl, Option.some.inj hj⟩
theorem rd_mem {l : List S32} {j : Nat} (h : j < l.length) : rd_T32 l (j : Int) ∈ l := List.mem_of_getElem? (rd32_at h)
theorem Find_is (l : List S32) (a b : Int) (hl : l.length < 90000) (k : Nat) (hk : l.length < k) :
  (topiaryref07_Find.f k l a b = some (-1) ∧ ∀ y ∈ l, y.f0 ≠ ⟨a, b⟩) ∨ ∃ j, j < l.length ∧ topiaryref07_Find.f k l a b = some (j : Int) ∧ (rd_T32 l (j : Int)).f0 = ⟨a, b⟩ := by
 rcases find_loop l a b hl l.length 0 k (by omega) hk (fun j hj => absurd hj (Nat.not_lt_zero j)) with ⟨h1, h2⟩ | h
 ·exact .inl ⟨h1, fun y hy => by obtain ⟨j, hj, e⟩ := mem_rd hy; rw [← e]; exact h2 j hj⟩
 ·exact .inr h
theorem own_loop2 (l : List S32) (a b : Int) (hl : l.length < 90000) : ∀ (n i k : Nat), i + n = l.length → n < k → (∀ j, j < i → ¬ ((rd_T32 l (j : Int)).f0.f1 = a ∧ (rd_T32 l (j : Int)).f1 = b)) →
  (topiaryref07_Own.l0 k l a b (i : Int) = some (-1) ∧ ∀ j, j < l.length → ¬ ((rd_T32 l (j : Int)).f0.f1 = a ∧ (rd_T32 l (j : Int)).f1 = b)) ∨ ∃ j, j < l.length ∧ topiaryref07_Own.l0 k l a b (i : Int) = some (j : Int) ∧ (rd_T32 l (j : Int)).f0.f1 = a ∧ (rd_T32 l (j : Int)).f1 = b := by
 intro n
 induction n with
 | zero =>
  intro i k hi hk hno
  obtain ⟨k, rfl⟩ : ∃ m, k = m + 1 := ⟨k - 1, by omega⟩
  exact .inl ⟨by rw [topiaryref07_Own.l0, if_neg (by omega)], fun j hj => hno j (by omega)⟩
 | succ n ih =>
  intro i k hi hk hno
  obtain ⟨k, rfl⟩ : ∃ m, k = m + 1 := ⟨k - 1, by omega⟩
  have hi2 := fun (hq : ¬ ((rd_T32 l (i : Int)).f0.f1 = a ∧ (rd_T32 l (i : Int)).f1 = b)) => ih (i + 1) k (by omega) (by omega) (fun j hj => by
   rcases Nat.lt_or_ge j i with h | h
   ·exact hno j h
   ·rw [show j = i from by omega]; exact hq)
  rw [topiaryref07_Own.l0, if_pos (by omega), if_pos (by omega), w1 (by omega)]
  by_cases c1 : (rd_T32 l (i : Int)).f0.f1 = a
  ·rw [if_pos c1]
   by_cases c2 : (rd_T32 l (i : Int)).f1 = b
   ·rw [if_pos c2]
    exact .inr ⟨i, by omega, rfl, c1, c2⟩
   ·rw [if_neg c2]
    exact hi2 (fun h => c2 h.2)
  ·rw [if_neg c1]
   exact hi2 (fun h => c1 h.1)
theorem Own_is2 (l : List S32) (a b : Int) (hl : l.length < 90000) (k : Nat) (hk : l.length < k) :
  (topiaryref07_Own.f k l a b = some (-1) ∧ ∀ y ∈ l, ¬ (y.f0.f1 = a ∧ y.f1 = b)) ∨ ∃ j, j < l.length ∧ topiaryref07_Own.f k l a b = some (j : Int) ∧ (rd_T32 l (j : Int)).f0.f1 = a ∧ (rd_T32 l (j : Int)).f1 = b := by
 rcases own_loop2 l a b hl l.length 0 k (by omega) hk (fun j hj => absurd hj (Nat.not_lt_zero j)) with ⟨h1, h2⟩ | h
 ·exact .inl ⟨h1, fun y hy => by obtain ⟨j, hj, e⟩ := mem_rd hy; rw [← e]; exact h2 j hj⟩
 ·exact .inr h
theorem Put07_done (l : List S32) (c : S32) (hl : l.length < 90000) : ∀ (n i k : Nat) (out : List S32), i + n = l.length → n < k → out.length ≤ i + 1 →
  topiaryref07_Put.l0 k l out true (i : Int) c.f0.f0 c.f0.f1 c.f1 c.f2 c.f3 c.f4.f0 c.f4.f1 c.f5.f0 c.f5.f1 c.f6.f0 c.f6.f1 c.f7 c.f8 = some (out ++ l.drop i) := by
 intro n
 induction n with
 | zero =>
  intro i k out hi hk ho
  obtain ⟨k, rfl⟩ : ∃ m, k = m + 1 := ⟨k - 1, by omega⟩
  rw [topiaryref07_Put.l0, if_neg (by omega), if_pos rfl, List.drop_of_length_le (by omega), List.append_nil]
 | succ n ih =>
  intro i k out hi hk ho
  obtain ⟨k, rfl⟩ : ∃ m, k = m + 1 := ⟨k - 1, by omega⟩
  rw [topiaryref07_Put.l0, if_pos (by omega), if_pos rfl, if_pos (by omega), if_pos (by omega), w1 (by omega), ih (i + 1) k _ (by omega) (by omega) (by rw [List.length_append]; exact Nat.succ_le_succ ho), List.append_assoc, rd32_drop (by omega : i < l.length)]
  rfl
theorem Put07_loop (l : List S32) (c : S32) (hc : c.f2.length ≤ 64) (hl : l.length < 90000) : ∀ (n i k : Nat) (out : List S32), i + n = l.length → n < k → out.length ≤ i →
  topiaryref07_Put.l0 k l out false (i : Int) c.f0.f0 c.f0.f1 c.f1 c.f2 c.f3 c.f4.f0 c.f4.f1 c.f5.f0 c.f5.f1 c.f6.f0 c.f6.f1 c.f7 c.f8 = some (out ++ insS c (l.drop i)) := by
 intro n
 induction n with
 | zero =>
  intro i k out hi hk ho
  obtain ⟨k, rfl⟩ : ∃ m, k = m + 1 := ⟨k - 1, by omega⟩
  rw [topiaryref07_Put.l0, if_neg (by omega), if_neg (by decide), ref_copy_is c hc, Option.bind_some, if_pos (by omega), List.drop_of_length_le (by omega)]
  rfl
 | succ n ih =>
  intro i k out hi hk ho
  obtain ⟨k, rfl⟩ : ∃ m, k = m + 1 := ⟨k - 1, by omega⟩
  rw [topiaryref07_Put.l0, if_pos (by omega), if_neg (by decide), if_pos (by omega), ref_Less_is, Option.bind_some, w1 (by omega), rd32_drop (by omega : i < l.length), insS]
  cases hq : lessX c (rd_T32 l (i : Int)) with
  | true =>
   have hq' : lessC c.f0.f0 c.f0.f1 (rd_T32 l (i : Int)).f0.f0 (rd_T32 l (i : Int)).f0.f1 = true := hq
   rw [hq', if_pos rfl, ref_copy_is c hc, Option.bind_some, if_pos (by omega), Option.bind_some, if_pos (by rw [List.length_append]; simp only [List.length_cons, List.length_nil]; omega), if_pos rfl,
    Put07_done l c hl n (i + 1) k _ (by omega) (by omega) (by simp only [List.length_append, List.length_cons, List.length_nil]; omega), List.append_assoc, List.append_assoc]
   rfl
  | false =>
   have hq' : lessC c.f0.f0 c.f0.f1 (rd_T32 l (i : Int)).f0.f0 (rd_T32 l (i : Int)).f0.f1 = false := hq
   have hf : ¬ (false = true) := by decide
   have ho2 : out.length < 1034834473200 := by omega
   rw [hq', if_neg hf, if_neg hf, if_pos ho2, ih (i + 1) k _ (by omega) (by omega) (by rw [List.length_append]; exact Nat.succ_le_succ ho), List.append_assoc]
   rfl
theorem Put07_is (l : List S32) (c : S32) (hc : c.f2.length ≤ 64) (hl : l.length < 90000) (k : Nat) (hk : l.length < k) : topiaryref07_Put.f k l c.f0.f0 c.f0.f1 c.f1 c.f2 c.f3 c.f4.f0 c.f4.f1 c.f5.f0 c.f5.f1 c.f6.f0 c.f6.f1 c.f7 c.f8 = some (insS c l) := by
 have := Put07_loop l c hc hl l.length 0 k [] (by omega) hk (Nat.le_refl _)
 rw [List.drop_zero, List.nil_append] at this
 exact this
theorem copyAll_loop (l : List S32) (h64 : ∀ y ∈ l, y.f2.length ≤ 64) (hl : l.length < 90000) : ∀ (n i k : Nat), i + n = l.length → n < k → topiaryref05_CopyAll.l0 k l (l.take i) (i : Int) = some l := by
 intro n
 induction n with
 | zero =>
  intro i k hi hk
  obtain ⟨k, rfl⟩ : ∃ m, k = m + 1 := ⟨k - 1, by omega⟩
  rw [topiaryref05_CopyAll.l0, if_neg (by omega), List.take_of_length_le (by omega)]
 | succ n ih =>
  intro i k hi hk
  obtain ⟨k, rfl⟩ : ∃ m, k = m + 1 := ⟨k - 1, by omega⟩
  have hil : i < l.length := by omega
  rw [topiaryref05_CopyAll.l0, if_pos (by omega), if_pos (by omega), ref_copy_is _ (h64 _ (rd_mem hil)), Option.bind_some, if_pos (by rw [List.length_take]; omega), w1 (by omega), ← ih (i + 1) k (by omega) (by omega), take_one hil]
theorem CopyAll_is (l : List S32) (h64 : ∀ y ∈ l, y.f2.length ≤ 64) (hl : l.length < 90000) (k : Nat) (hk : l.length < k) : topiaryref05_CopyAll.f k l = some l := by
 have := copyAll_loop l h64 hl l.length 0 k (by omega) hk
 exact this
theorem same02_tot (a b : List Int) (he : a.length = b.length) (hl : a.length < 90000) : ∀ (n i k : Nat), i + n = a.length → n < k → ∃ r, topiaryref02_Same.l0 k a b (i : Int) = some r := by
 intro n
 induction n with
 | zero =>
  intro i k hi hk
  obtain ⟨k, rfl⟩ : ∃ m, k = m + 1 := ⟨k - 1, by omega⟩
  exact ⟨true, by rw [topiaryref02_Same.l0, if_neg (by omega)]⟩
 | succ n ih =>
  intro i k hi hk
  obtain ⟨k, rfl⟩ : ∃ m, k = m + 1 := ⟨k - 1, by omega⟩
  rw [topiaryref02_Same.l0, if_pos (by omega), if_pos (by omega), if_pos (by omega), w1 (by omega)]
  by_cases h : rd a (i : Int) = rd b (i : Int)
  ·rw [if_pos h]
   exact ih (i + 1) k (by omega) (by omega)
  ·rw [if_neg h]
   exact ⟨false, rfl⟩
theorem same05_tot (x y : S32) (hx : x.f2.length ≤ 64) (k : Nat) (hk : 70 < k) : ∃ r, topiaryref05_Same.f k x.f0.f0 x.f0.f1 x.f1 x.f2 x.f3 x.f4.f0 x.f4.f1 x.f5.f0 x.f5.f1 x.f6.f0 x.f6.f1 x.f7 x.f8 y.f0.f0 y.f0.f1 y.f1 y.f2 y.f3 y.f4.f0 y.f4.f1 y.f5.f0 y.f5.f1 y.f6.f0 y.f6.f1 y.f7 y.f8 = some r := by
 have h2 : ∃ r, topiaryref02_Same.f k x.f2 y.f2 = some r := by
  unfold topiaryref02_Same.f
  by_cases h : (x.f2.length : Int) = (y.f2.length : Int)
  ·rw [if_pos h]
   exact same02_tot _ _ (by omega) (by omega) x.f2.length 0 k (by omega) (by omega)
  ·rw [if_neg h]
   exact ⟨false, rfl⟩
 obtain ⟨r2, h2⟩ := h2
 unfold topiaryref05_Same.f
 rw [h2, Option.bind_some]
 split
 ·split
  ·cases r2 with
   | true =>
    rw [if_pos rfl]
    repeat' split
    all_goals exact ⟨_, rfl⟩
   | false => exact ⟨false, rfl⟩
  ·exact ⟨false, rfl⟩
 ·exact ⟨false, rfl⟩
end Go.Proofs.Ytnopjjilpgekfaa.PCa
namespace Go.Proofs.Ytnopjjilpgekfaa.PCa
open Go.RowKit Go.Proofs.YtnopjjilpgekfaaW.PrintWords Go.Proofs.YtnopjjilpgekfaaW.PrintLast Go.Proofs.YtnopjjilpgekfaaW.PrintMore
attribute [local go_sem] max2_int min2_int max_two min_two max_three min_three max_four min_four
set_option linter.unusedVariables false
set_option linter.unusedSimpArgs false
def aheadC (a b c d : Int) : Bool := rightC a b && lessC a b c d
theorem ahead_is (a b c d : Int) : topiaryref05_ahead.f a b c d = some (aheadC a b c d) := ref_ahead_is a b c d
def placedX (k1 k2 NE NZ AH PZ QZ ND LS PN AF : Bool) : Bool := if k1 then (!NE && (ND && (LS && (PN && (QZ || AF))))) else if k2 then (AH && (ND && (LS && (PN && (QZ || AF))))) else ((!NZ || AH) && (PZ && QZ))
theorem placedX_eq (a0 a1 k a5 a6 a7 a8 a9 a10 : Int) : (nodeOkC k a5 a6 a0 a1 && placeOkC k a5 a6 a7 a8 a9 a10 a0 a1) = placedX (k == 1) (k == 2) (!(a5 == a0) || (!(a6 == a1))) (!(a5 == 0) || (!(a6 == 0))) (aheadC a5 a6 a0 a1) (a7 == 0 && (a8 == 0)) (a9 == 0 && (a10 == 0)) (nodeC a7 a8) (lessC a7 a8 a0 a1) (!(a7 == a5) || (!(a8 == a6))) (aheadC a9 a10 a0 a1) := by
 unfold nodeOkC placeOkC placedX afterC
 rw [show (rightC a5 a6 && lessC a5 a6 a0 a1) = aheadC a5 a6 a0 a1 from rfl, show (rightC a9 a10 && lessC a9 a10 a0 a1) = aheadC a9 a10 a0 a1 from rfl]
 by_cases h1 : k = 1
 ·rw [if_pos h1, if_pos (Or.inl h1), if_pos (beq_iff_eq.2 h1)]
  cases (a5 == a0) <;> cases (a6 == a1) <;> cases (a7 == a5) <;> cases (a8 == a6) <;> rfl
 ·rw [if_neg h1, if_neg (fun h => h1 (beq_iff_eq.1 h))]
  by_cases h2 : k = 2
  ·rw [if_pos h2, if_pos (Or.inr h2), if_pos (beq_iff_eq.2 h2)]
   cases (a7 == a5) <;> cases (a8 == a6) <;> rfl
  ·rw [if_neg h2, if_neg (fun h => h.elim h1 h2), if_neg (fun h => h2 (beq_iff_eq.1 h))]
   cases (a5 == 0) <;> cases (a6 == 0) <;> rfl
section
variable {o : Oper} {ops : Array Oper} {rest : List Oper} {a : Act} {Q : Exit → Act → World → Prop} {W : World}
theorem info30' : (Try.prog.info? 30).map (fun i => (i.zero, i.size)) = some (some (.agg #[.int .i64 0, .int .i64 0]), 2) := by kernel_rfl
theorem store30_ev (hgd : o.guard = none) (hN : o.dst = none) (x y : Int) {p q : Operand} (ho : o.op = .store 30 p q) {g : Nat} (hp : a.eval p = .pointer (some ⟨g, 0, none⟩)) (hq : a.eval q = .agg #[.int .i64 x, .int .i64 y]) {cs : Array Value} (hg : W.heap[g]? = some (.cells cs 30 (0, 0))) (hs : cs.size = 2)
  (h : ∀ w1, w1.heap[g]? = some (.cells #[.int .i64 x, .int .i64 y] 30 (0, 0)) → W.grownBy w1 (some g) → wpList Try.prog ops Q rest a w1) : wpList Try.prog ops Q (o :: rest) a W := by
 have hrun : (execOp a.eval o).run Try.prog W = .ok .skip (W.setRow g #[.int .i64 x, .int .i64 y]) := by
  have e : execOp a.eval o = (do Instr.storeAt 30 (a.eval p) (a.eval q); pure .skip) := by
   unfold execOp
   rw [ho]
  obtain ⟨i0, hi0, hzz⟩ := Option.map_eq_some_iff.1 info30'
  simp only [Prod.mk.injEq] at hzz
  have hst := run_storeCells_at Try.prog g 0 30 [.int .i64 x, .int .i64 y] 0 cs W hg (by rw [hs]; exact (Nat.le_refl 2 : 0 + 0 + 2 ≤ 2)) (by intro u hu; simp only [List.mem_cons, List.not_mem_nil, or_false] at hu; rcases hu with rfl | rfl <;> rfl)
  rw [show (cs.toList.take (0 + 0) ++ [Value.int .i64 x, Value.int .i64 y] ++ cs.toList.drop (0 + 0 + [Value.int .i64 x, Value.int .i64 y].length)).toArray = #[.int .i64 x, .int .i64 y] from by
   rw [List.drop_of_length_le (by rw [Array.length_toList, hs]; exact (Nat.le_refl 2 : 2 ≤ 0 + 0 + 2))]
   rfl] at hst
  have hcells : (Value.agg #[.int .i64 x, .int .i64 y]).cells = #[.int .i64 x, .int .i64 y] := rfl
  rw [e, hp, hq]
  simp [Instr.storeAt, Instr.sureAddr, storeVar, sizeOf, typeInfo, hi0, hzz.2, hcells, hst]
 refine wpList_plain hgd fun K hK => ?_
 unfold Oper.wp
 rw [hrun]
 show K (a.put o.dst undef) _
 rw [hN]
 exact hK _ _ (h _ (setRow_heap W g cs _ 30 (0, 0) hg) ⟨rfl, rfl, rfl, by simp [World.setRow], fun k hk hne => setRow_other W g k _ (fun e => hne (by rw [e]))⟩)
end
theorem ch1 : ∀ (a b c d e f : Bool), (a = true) ∨ (a = false ∧ b = false) ∨ (a = false ∧ b = true ∧ c = false) ∨ (a = false ∧ b = true ∧ c = true ∧ d = false) ∨ (a = false ∧ b = true ∧ c = true ∧ d = true ∧ e = true) ∨ (a = false ∧ b = true ∧ c = true ∧ d = true ∧ e = false ∧ f = true) ∨ (a = false ∧ b = true ∧ c = true ∧ d = true ∧ e = false ∧ f = false) := by
 intro a b c d e f
 cases a <;> cases b <;> cases c <;> cases d <;> cases e <;> cases f <;> decide
theorem ch2 : ∀ (a b c d e f : Bool), (a = false) ∨ (a = true ∧ b = false) ∨ (a = true ∧ b = true ∧ c = false) ∨ (a = true ∧ b = true ∧ c = true ∧ d = false) ∨ (a = true ∧ b = true ∧ c = true ∧ d = true ∧ e = true) ∨ (a = true ∧ b = true ∧ c = true ∧ d = true ∧ e = false ∧ f = true) ∨ (a = true ∧ b = true ∧ c = true ∧ d = true ∧ e = false ∧ f = false) := by
 intro a b c d e f
 cases a <;> cases b <;> cases c <;> cases d <;> cases e <;> cases f <;> decide
theorem ch5 : ∀ (a b : Bool), (a = false) ∨ (a = true ∧ b = false) ∨ (a = true ∧ b = true) := by
 intro a b
 cases a <;> cases b <;> decide
theorem ch4 : ∀ (a b : Bool), (a = false) ∨ (a = true ∧ b = false) ∨ (a = true ∧ b = true) := by
 intro a b
 cases a <;> cases b <;> decide
attribute [local go_sem high] eqA30
set_option maxHeartbeats 8000000 in
set_option maxRecDepth 100000 in
theorem placed_calls {w : World} (a0 a1 a2 : Int) (A3 : Option Addr) (d : List Int) (c3 : Nat) (a4 : Int) (a5 a6 a7 a8 a9 a10 : Int) (s t : ByteArray) (h1 : 1 ≤ a4) :
  Calls Try.prog 71 #[.agg #[.int .i64 a0, .int .i64 a1, .int .i64 a2, .slice A3 d.length c3, .int .i64 a4, .int .i64 a5, .int .i64 a6, .int .i64 a7, .int .i64 a8, .int .i64 a9, .int .i64 a10, .string s, .string t]] w fun e w' => e = .returned (.bool (nodeOkC a4 a5 a6 a0 a1 && placeOkC a4 a5 a6 a7 a8 a9 a10 a0 a1)) ∧ Below w.heap.size w w' := by
 rw [placedX_eq]
 have hk : ((a4 == 1) = true ∧ (a4 == 2) = false ∧ decide (2 < a4) = false) ∨ ((a4 == 1) = false ∧ (a4 == 2) = true ∧ decide (2 < a4) = false) ∨ ((a4 == 1) = false ∧ (a4 == 2) = false ∧ decide (2 < a4) = true) := by
  simp only [beq_iff_eq, beq_eq_false_iff_ne, decide_eq_true_eq, decide_eq_false_iff_not]
  omega
 clear h1
 rcases hk with ⟨k1, k2, k3⟩ | ⟨k1, k2, k3⟩ | ⟨k1, k2, k3⟩
 rcases ch1 (!(a5 == a0) || (!(a6 == a1))) (nodeC a7 a8) (lessC a7 a8 a0 a1) (!(a7 == a5) || (!(a8 == a6))) (a9 == 0 && (a10 == 0)) (aheadC a9 a10 a0 a1) with h0 | ⟨h0, h1⟩ | ⟨h0, h1, h2⟩ | ⟨h0, h1, h2, h3⟩ | ⟨h0, h1, h2, h3, h4⟩ | ⟨h0, h1, h2, h3, h4, h5⟩ | ⟨h0, h1, h2, h3, h4, h5⟩
 rotate_left 7
 rcases ch2 (aheadC a5 a6 a0 a1) (nodeC a7 a8) (lessC a7 a8 a0 a1) (!(a7 == a5) || (!(a8 == a6))) (a9 == 0 && (a10 == 0)) (aheadC a9 a10 a0 a1) with h0 | ⟨h0, h1⟩ | ⟨h0, h1, h2⟩ | ⟨h0, h1, h2, h3⟩ | ⟨h0, h1, h2, h3, h4⟩ | ⟨h0, h1, h2, h3, h4, h5⟩ | ⟨h0, h1, h2, h3, h4, h5⟩
 rotate_left 7
 rcases ch4 (a7 == 0 && (a8 == 0)) (a9 == 0 && (a10 == 0)) with h0 | ⟨h0, h1⟩ | ⟨h0, h1⟩ <;> rcases ch5 (!(a5 == 0) || (!(a6 == 0))) (aheadC a5 a6 a0 a1) with g0 | ⟨g0, g1⟩ | ⟨g0, g1⟩
 all_goals rw [show (placedX (a4 == 1) (a4 == 2) (!(a5 == a0) || (!(a6 == a1))) (!(a5 == 0) || (!(a6 == 0))) (aheadC a5 a6 a0 a1) (a7 == 0 && (a8 == 0)) (a9 == 0 && (a10 == 0)) (nodeC a7 a8) (lessC a7 a8 a0 a1) (!(a7 == a5) || (!(a8 == a6))) (aheadC a9 a10 a0 a1)) = _ from by unfold placedX; simp only [*]; rfl]
 all_goals
  go_enter Try.func71, Try.ntmps71
  go_wp2_with (first | ((with_reducible refine gate_dst (N := 1) rfl ?_); refine boxE (N := 1) (cs := #[.int .i64 a0, .int .i64 a1, .int .i64 a2, .slice A3 d.length c3, .int .i64 a4, .int .i64 a5, .int .i64 a6, .int .i64 a7, .int .i64 a8, .int .i64 a9, .int .i64 a10, .string s, .string t]) (t := 32) ?_; intro gb hr_ w0 hbox hb; have HX := Aside0.mk hbox; have HB := Aside0.mk hb; have HN := Aside0.mk (Nat.le_of_eq hr_.symm); clear hbox hb hr_) | ((with_reducible refine gate_dst (N := 3) rfl ?_); refine boxE (N := 3) (cs := #[.int .i64 0, .int .i64 0]) (t := 30) ?_; intro gz hr_ w1 hbox hb; have HNE := Aside0.mk (Nat.lt_of_lt_of_le (blk_lt HX.out) (Nat.le_of_eq hr_.symm)); have n_ := Aside0.mk (blk_below HX.out hb); clear HX; have HX := n_; clear n_; have n_ := Aside0.mk (HB.out.trans (hb.mono HB.out.size)); have HNZ := Aside0.mk (Nat.le_trans HB.out.size (Nat.le_of_eq hr_.symm)); clear HB; have HB := n_; clear n_; have HXZ := Aside0.mk hbox; clear hbox hb hr_) | ((with_reducible refine gate_store (t := 30) (p := 3) (v := .tmp 5) rfl ?_); refine store30_ev rfl rfl 0 0 (p := .tmp 3) (q := .tmp 5) rfl (g := gz) rfl rfl HXZ.out rfl ?_; intro ws hb_ hg_; have n_ := Aside0.mk ((hg_.block gb (blk_lt HX.out) (fun h => by injection h with h; have := HNE.out; omega)).trans HX.out); clear HX HXZ; have HX := n_; clear n_; have HXZ := Aside0.mk hb_; have n_ := Aside0.mk (HB.out.grown hg_ HB.out.size (fun k hk => by injection hk with hk; rw [← hk]; exact HNZ.out)); clear HB; have HB := n_; clear n_; obtain ⟨z0, z1, z2, z3, z4, z5, z6, z7, z8, z9, z10, z11, z12⟩ := cells13 HX.out; have y0 : ws.cell? ⟨gz, 0, none⟩ = some (.int .i64 0) := (blk_cell HXZ.out 0).trans rfl; have y1 : ws.cell? ⟨gz, 1, none⟩ = some (.int .i64 0) := (blk_cell HXZ.out 1).trans rfl; clear hb_ hg_) | (go_at_call 82; refine (topiaryref05_ahead.calls _ _ _ _ _ _ (ahead_is _ _ _ _)).mono ?_; clear z0 z1 z2 z3 z4 z5 z6 z7 z8 z9 z10 z11 z12 y0 y1; rintro e w2 ⟨rfl, hb_⟩; have n_ := Aside0.mk (blk_below HX.out hb_); clear HX; have HX := n_; clear n_; have n_ := Aside0.mk (blk_below HXZ.out hb_); clear HXZ; have HXZ := n_; clear n_; have n_ := Aside0.mk (HB.out.trans (hb_.mono HB.out.size)); clear HB; have HB := n_; clear n_ hb_; obtain ⟨z0, z1, z2, z3, z4, z5, z6, z7, z8, z9, z10, z11, z12⟩ := cells13 HX.out; have y0 : w2.cell? ⟨gz, 0, none⟩ = some (.int .i64 0) := (blk_cell HXZ.out 0).trans rfl; have y1 : w2.cell? ⟨gz, 1, none⟩ = some (.int .i64 0) := (blk_cell HXZ.out 1).trans rfl) | (go_at_call 83; refine (topiaryref01_Node.calls _ _ _ _ (ref_Node_is _ _)).mono ?_; clear z0 z1 z2 z3 z4 z5 z6 z7 z8 z9 z10 z11 z12 y0 y1; rintro e w2 ⟨rfl, hb_⟩; have n_ := Aside0.mk (blk_below HX.out hb_); clear HX; have HX := n_; clear n_; have n_ := Aside0.mk (blk_below HXZ.out hb_); clear HXZ; have HXZ := n_; clear n_; have n_ := Aside0.mk (HB.out.trans (hb_.mono HB.out.size)); clear HB; have HB := n_; clear n_ hb_; obtain ⟨z0, z1, z2, z3, z4, z5, z6, z7, z8, z9, z10, z11, z12⟩ := cells13 HX.out; have y0 : w2.cell? ⟨gz, 0, none⟩ = some (.int .i64 0) := (blk_cell HXZ.out 0).trans rfl; have y1 : w2.cell? ⟨gz, 1, none⟩ = some (.int .i64 0) := (blk_cell HXZ.out 1).trans rfl) | (go_at_call 60; refine (topiaryref01_Less.calls _ _ _ _ _ _ (ref_Less_is _ _ _ _)).mono ?_; clear z0 z1 z2 z3 z4 z5 z6 z7 z8 z9 z10 z11 z12 y0 y1; rintro e w2 ⟨rfl, hb_⟩; have n_ := Aside0.mk (blk_below HX.out hb_); clear HX; have HX := n_; clear n_; have n_ := Aside0.mk (blk_below HXZ.out hb_); clear HXZ; have HXZ := n_; clear n_; have n_ := Aside0.mk (HB.out.trans (hb_.mono HB.out.size)); clear HB; have HB := n_; clear n_ hb_; obtain ⟨z0, z1, z2, z3, z4, z5, z6, z7, z8, z9, z10, z11, z12⟩ := cells13 HX.out; have y0 : w2.cell? ⟨gz, 0, none⟩ = some (.int .i64 0) := (blk_cell HXZ.out 0).trans rfl; have y1 : w2.cell? ⟨gz, 1, none⟩ = some (.int .i64 0) := (blk_cell HXZ.out 1).trans rfl))
  go_ret
  exact ⟨rfl, HB.out⟩
end Go.Proofs.Ytnopjjilpgekfaa.PCa
namespace Go.Proofs.Ytnopjjilpgekfaa.PCa
open Go.RowKit Go.Proofs.YtnopjjilpgekfaaW.PrintWords Go.Proofs.YtnopjjilpgekfaaW.PrintLast Go.Proofs.YtnopjjilpgekfaaW.PrintMore
attribute [local go_sem] max2_int min2_int max_two min_two max_three min_three max_four min_four
set_option linter.unusedVariables false
set_option linter.unusedSimpArgs false
theorem drew_below {w w1 : World} {nd : Nat} (h : w1 = w.drewN nd) : Below w.heap.size w w1 := by rw [h]; exact pw_below_drewN (Below.refl _ _) nd
theorem row_below {w w1 : World} {g : Nat} {cs : Array Value} {t : Nat} (h : Below w.heap.size w w1) (hg : w.heap.size ≤ g) (hx : w1.heap[g]? = some (.cells cs t (0, 0))) (ds : Array Value) : Below w.heap.size w (w1.setRow g ds) :=
 h.grown (row := some g) (w' := w1.setRow g ds) ⟨rfl, rfl, rfl, by simp [World.setRow], fun k hk hne => setRow_other w1 g k _ (fun e => hne (by rw [e]))⟩ h.size (fun k hk => by injection hk with hk; rw [← hk]; exact hg)
def chk.T9 : Bool × List (List Nat × List Nat) := (true, [([], []), ([0], [0]), ([1], [1]), ([2], [2]), ([], []), ([4], [4]), ([5], [5]), ([3, 6], [3, 6]), ([7, 2], [7]), ([8], [8]), ([9, 8], [8, 9]), ([8], [8]), ([11, 8], [8, 11]), ([12, 8], [8, 12]), ([10, 13, 8, 8], [8, 10, 13]), ([8], [8]), ([15, 8], [8, 15]), ([16, 8], [8, 16]), ([14, 17, 8], [8, 14, 17]), ([8, 18], [8, 18]), ([19, 14], [19]), ([20], [20]), ([21, 20, 20], [20, 21]), ([22, 20], [20, 22]), ([20, 23], [20, 23])])
def chk.B9 : List Nat := [0, 1, 3, 7, 0, 16, 48, 127, 255, 511, 1023, 511, 2559, 6655, 16383, 511, 33279, 98815, 262143, 524287, 1048575, 2097151, 4194303, 8388607, 16777215]
theorem chk.tab9 : rtab .any (opsOf Try.f47 9) = chk.T9 := by kernel_rfl
theorem chk.bits9 : waitsOk chk.T9.2 chk.B9 = true := by kernel_rfl
theorem bne_f {l : List UInt8} {b : Bool} (h : (l != ([] : List UInt8)) = b) : (l == ([] : List UInt8)) = !b := by rw [← h, bne, Bool.not_not]
def wordsY (k1 k3 k4 k5 nm se lg te : Bool) : Int := if (k1 || (k3 || k4)) = true then (if nm = true then (if lg = true then 3 else if (k3 || k5) = true then 0 else if te = true then 2 else 0) else 8) else (if se = true then 8 else (if lg = true then 3 else if (k3 || k5) = true then 0 else if te = true then 2 else 0))
def checkY (b1 b2 b3 b4 b5 b6 b7 b8 pb : Bool) (cd wd : Int) : Int := if b1 = true then 1 else if b2 = true then 1 else if b3 = true then (if b4 = true then 1 else if b5 = true then 1 else if b6 = true then cd else if b7 = true then 2 else if b8 = true then 2 else if pb = true then wd else 2) else 2
theorem wordsY_eq (a4 : Int) (s t : ByteArray) : wordsC a4 s t = wordsY (a4 == 1) (a4 == 3) (a4 == 4) (a4 == 5) (nameC s) (s.toList != ([] : List UInt8)) (decide ((t.size : Int) > 256)) (t.toList != ([] : List UInt8)) := by
 unfold wordsC tailC wordsY
 simp only [Bool.or_eq_true, beq_iff_eq, decide_eq_true_eq, bne_iff_ne]
 by_cases h1 : a4 = 1 ∨ a4 = 3 ∨ a4 = 4
 ·rw [if_pos h1, if_pos h1]
  by_cases h2 : t.toList = ([] : List UInt8)
  ·simp only [h2, ne_eq, not_true_eq_false, if_true, if_false]
  ·simp only [h2, ne_eq, not_false_eq_true, if_true, if_false]
 ·rw [if_neg h1, if_neg h1]
  by_cases h2 : t.toList = ([] : List UInt8)
  ·by_cases h3 : s.toList = ([] : List UInt8) <;> simp only [h2, h3, ne_eq, not_true_eq_false, not_false_eq_true, if_true, if_false]
  ·by_cases h3 : s.toList = ([] : List UInt8) <;> simp only [h2, h3, ne_eq, not_true_eq_false, not_false_eq_true, if_true, if_false]
theorem checkY_eq (a0 a1 a2 : Int) (d : List Int) (a4 a5 a6 a7 a8 a9 a10 : Int) (s t : ByteArray) : checkC a0 a1 a2 d a4 a5 a6 a7 a8 a9 a10 s t = checkY (decide (a4 < 1)) (decide (5 < a4)) (rightC a0 a1) (decide (a2 < 1)) (decide (a0 < a2)) (chkC d != 0) ((trimC d).length != d.length) (atC d a1 != a2 - 1) (nodeOkC a4 a5 a6 a0 a1 && placeOkC a4 a5 a6 a7 a8 a9 a10 a0 a1) (chkC d) (wordsY (a4 == 1) (a4 == 3) (a4 == 4) (a4 == 5) (nameC s) (s.toList != ([] : List UInt8)) (decide ((t.size : Int) > 256)) (t.toList != ([] : List UInt8))) := by
 rw [← wordsY_eq]
 unfold checkC checkY depsC
 simp only [decide_eq_true_eq, bne_iff_ne]
 by_cases c1 : a4 < 1
 ·rw [if_pos (Or.inl c1), if_pos c1]
 ·rw [if_neg c1]
  by_cases c2 : 5 < a4
  ·rw [if_pos (Or.inr c2), if_pos c2]
  ·rw [if_neg c2, if_neg (fun h => h.elim c1 c2)]
   by_cases c3 : rightC a0 a1 = true
   ·rw [if_pos c3, if_pos c3]
    by_cases c4 : a2 < 1
    ·rw [if_pos (Or.inl c4), if_pos c4]
    ·rw [if_neg c4]
     by_cases c5 : a0 < a2
     ·rw [if_pos (Or.inr c5), if_pos c5]
     ·rw [if_neg c5, if_neg (fun h => h.elim c4 c5)]
      by_cases c6 : chkC d = 0 <;> by_cases c7 : (trimC d).length = d.length <;> by_cases c8 : atC d a1 = a2 - 1 <;> simp [c6, c7, c8]
   ·rw [if_neg c3, if_neg c3]
theorem ckA : ∀ (a b c d e f : Bool), (a = true) ∨ (a = false ∧ b = true) ∨ (a = false ∧ b = false ∧ c = false) ∨ (a = false ∧ b = false ∧ c = true ∧ d = true) ∨ (a = false ∧ b = false ∧ c = true ∧ d = false ∧ e = true) ∨ (a = false ∧ b = false ∧ c = true ∧ d = false ∧ e = false ∧ f = true) ∨ (a = false ∧ b = false ∧ c = true ∧ d = false ∧ e = false ∧ f = false) := by
 intro a b c d e f
 cases a <;> cases b <;> cases c <;> cases d <;> cases e <;> cases f <;> decide
theorem ckB : ∀ (a b : Bool), (a = true) ∨ (a = false ∧ b = true) ∨ (a = false ∧ b = false) := by
 intro a b
 cases a <;> cases b <;> decide
theorem ckC : ∀ (a b c : Bool), (a = false) ∨ (a = true ∧ b = true) ∨ (a = true ∧ b = false ∧ c = true) ∨ (a = true ∧ b = false ∧ c = false) := by
 intro a b c
 cases a <;> cases b <;> cases c <;> decide
theorem ckD : ∀ (a b : Bool), (a = false) ∨ (a = true ∧ b = true) ∨ (a = true ∧ b = false) := by
 intro a b
 cases a <;> cases b <;> decide
theorem ckE : ∀ (a b c : Bool), (a = true) ∨ (a = false ∧ b = true) ∨ (a = false ∧ b = false ∧ c = true) ∨ (a = false ∧ b = false ∧ c = false) := by
 intro a b c
 cases a <;> cases b <;> cases c <;> decide
set_option maxHeartbeats 8000000 in
set_option maxRecDepth 100000 in
theorem check05_calls {w : World} (a0 a1 a2 : Int) (A3 : Option Addr) (d : List Int) (c3 : Nat) (a4 a5 a6 a7 a8 a9 a10 : Int) (s t : ByteArray) (hd : Kd.C (Kd.int .i64) w A3 d.length d) (hl : d.length ≤ c3) (hs : s.size < 4611686018427387904) :
  Calls Try.prog 47 #[.agg #[.int .i64 a0, .int .i64 a1, .int .i64 a2, .slice A3 d.length c3, .int .i64 a4, .int .i64 a5, .int .i64 a6, .int .i64 a7, .int .i64 a8, .int .i64 a9, .int .i64 a10, .string s, .string t]] w fun e w' => e = .returned (.int .i64 (checkC a0 a1 a2 d a4 a5 a6 a7 a8 a9 a10 s t)) ∧ Below w.heap.size w w' := by
 have HC3 := Aside0.mk hd
 have HL3 := Aside0.mk hl
 have HNM := Aside0.mk (ref_Name_is s hs (s.size + 3) (by omega))
 have hu32 := Try.underlying32
 have hu30 := Try.underlying30
 have hv := checkY_eq a0 a1 a2 d a4 a5 a6 a7 a8 a9 a10 s t
 generalize checkC a0 a1 a2 d a4 a5 a6 a7 a8 a9 a10 s t = cc at *
 have HV := Aside0.mk hv.symm
 clear hd hl hs hv
 rcases ckA (decide (a4 < 1)) (decide (5 < a4)) (rightC a0 a1) (decide (a2 < 1)) (decide (a0 < a2)) (chkC d != 0) with h0 | ⟨h0, h1⟩ | ⟨h0, h1, h2⟩ | ⟨h0, h1, h2, h3⟩ | ⟨h0, h1, h2, h3, h4⟩ | ⟨h0, h1, h2, h3, h4, h5⟩ | ⟨h0, h1, h2, h3, h4, h5⟩
 iterate 6
  go_enter Try.func47, Try.ntmps47
  go_wp2_with (first | ((with_reducible refine gate_dst (N := 1) rfl ?_); refine boxE (N := 1) (cs := #[.int .i64 a0, .int .i64 a1, .int .i64 a2, .slice A3 d.length c3, .int .i64 a4, .int .i64 a5, .int .i64 a6, .int .i64 a7, .int .i64 a8, .int .i64 a9, .int .i64 a10, .string s, .string t]) (t := 32) ?_; intro gb hr_ w2 hbox hb; have HX := Aside0.mk hbox; have HB := Aside0.mk hb; obtain ⟨z0, z1, z2, z3, z4, z5, z6, z7, z8, z9, z10, z11, z12⟩ := cells13 HX.out; clear hbox hb hr_) | (go_at_call 70; refine (topiaryref01_Right.calls _ _ _ _ (ref_Right_is _ _)).mono ?_; clear z0 z1 z2 z3 z4 z5 z6 z7 z8 z9 z10 z11 z12; rintro e w2 ⟨rfl, hb_⟩; have n_ := Aside0.mk (blk_below HX.out hb_); clear HX; have HX := n_; clear n_; have n_ := Aside0.mk (HB.out.trans (hb_.mono HB.out.size)); clear HB; have HB := n_; clear n_ hb_; obtain ⟨z0, z1, z2, z3, z4, z5, z6, z7, z8, z9, z10, z11, z12⟩ := cells13 HX.out) | (go_at_call 46; refine (topiaryref02_Check.calls 66 A3 c3 d _ _ (Kd.C_below HC3.out HB.out) HL3.out (ref_Check_is d 66 (by decide))).mono ?_; clear z0 z1 z2 z3 z4 z5 z6 z7 z8 z9 z10 z11 z12; rintro e w2 ⟨rfl, ⟨nd, hnd⟩⟩; have hb_ := drew_below hnd; clear hnd; have n_ := Aside0.mk (blk_below HX.out hb_); clear HX; have HX := n_; clear n_; have n_ := Aside0.mk (HB.out.trans (hb_.mono HB.out.size)); clear HB; have HB := n_; clear n_ hb_; obtain ⟨z0, z1, z2, z3, z4, z5, z6, z7, z8, z9, z10, z11, z12⟩ := cells13 HX.out))
  go_ret
  exact ⟨by rw [← HV.out]; simp only [checkY, wordsY, *]; rfl, HB.out⟩

 have hdl : d.length ≤ 64 := by
  have h6 : chkC d = 0 := by simpa using h5
  unfold chkC at h6
  split at h6
  ·cases h6
  ·omega
 have HTR := Aside0.mk (ref_Trim_is d 400 (by omega) (by omega))
 have HK1 : Aside0 (1 ≤ a4) := ⟨by have h1 := of_decide_eq_false h0; omega⟩
 have hw : wrap64 (a2 - 1) = a2 - 1 := by
  have h2c := h2
  have e1 := of_decide_eq_false h3
  have e2 := of_decide_eq_false h4
  have e3 := right_max h2c
  rw [← i64_w, IntKind.wrap_i64]
  omega
 have hk : ((a4 == 1) = true ∧ (a4 == 3) = false ∧ (a4 == 4) = false ∧ (a4 == 5) = false ∧ (a4 != 3) = true ∧ (a4 != 5) = true) ∨ ((a4 == 1) = false ∧ (a4 == 3) = false ∧ (a4 == 4) = true ∧ (a4 == 5) = false ∧ (a4 != 3) = true ∧ (a4 != 5) = true) ∨ ((a4 == 1) = false ∧ (a4 == 3) = true ∧ (a4 == 4) = false ∧ (a4 == 5) = false ∧ (a4 != 3) = false ∧ (a4 != 5) = true) ∨ ((a4 == 1) = false ∧ (a4 == 3) = false ∧ (a4 == 4) = false ∧ (a4 == 5) = true ∧ (a4 != 3) = true ∧ (a4 != 5) = false) ∨ ((a4 == 1) = false ∧ (a4 == 3) = false ∧ (a4 == 4) = false ∧ (a4 == 5) = false ∧ (a4 != 3) = true ∧ (a4 != 5) = true) := by
  simp only [beq_iff_eq, beq_eq_false_iff_ne, bne_iff_ne, bne_eq_false_iff_eq]
  have e1 := of_decide_eq_false h0
  have e2 := of_decide_eq_false h1
  omega
 have HKK := Aside0.mk hk
 clear hk hdl
 go_enter Try.func47, Try.ntmps47
 go_upto_region 9 with (first | ((with_reducible refine gate_dst (N := 1) rfl ?_); refine boxE (N := 1) (cs := #[.int .i64 a0, .int .i64 a1, .int .i64 a2, .slice A3 d.length c3, .int .i64 a4, .int .i64 a5, .int .i64 a6, .int .i64 a7, .int .i64 a8, .int .i64 a9, .int .i64 a10, .string s, .string t]) (t := 32) ?_; intro gb hr_ w2 hbox hb; have HX := Aside0.mk hbox; have HB := Aside0.mk hb; obtain ⟨z0, z1, z2, z3, z4, z5, z6, z7, z8, z9, z10, z11, z12⟩ := cells13 HX.out; clear hbox hb hr_) | (go_at_call 70; refine (topiaryref01_Right.calls _ _ _ _ (ref_Right_is _ _)).mono ?_; clear z0 z1 z2 z3 z4 z5 z6 z7 z8 z9 z10 z11 z12; rintro e w2 ⟨rfl, hb_⟩; have n_ := Aside0.mk (blk_below HX.out hb_); clear HX; have HX := n_; clear n_; have n_ := Aside0.mk (HB.out.trans (hb_.mono HB.out.size)); clear HB; have HB := n_; clear n_ hb_; obtain ⟨z0, z1, z2, z3, z4, z5, z6, z7, z8, z9, z10, z11, z12⟩ := cells13 HX.out) | (go_at_call 46; refine (topiaryref02_Check.calls 66 A3 c3 d _ _ (Kd.C_below HC3.out HB.out) HL3.out (ref_Check_is d 66 (by decide))).mono ?_; clear z0 z1 z2 z3 z4 z5 z6 z7 z8 z9 z10 z11 z12; rintro e w2 ⟨rfl, ⟨nd, hnd⟩⟩; have hb_ := drew_below hnd; clear hnd; have n_ := Aside0.mk (blk_below HX.out hb_); clear HX; have HX := n_; clear n_; have n_ := Aside0.mk (HB.out.trans (hb_.mono HB.out.size)); clear HB; have HB := n_; clear n_ hb_; obtain ⟨z0, z1, z2, z3, z4, z5, z6, z7, z8, z9, z10, z11, z12⟩ := cells13 HX.out))
 obtain ⟨wo, rfl⟩ : ∃ wo, wo = w2 := ⟨w2, rfl⟩
 rcases ckB ((trimC d).length != d.length) (atC d a1 != a2 - 1) with g0 | ⟨g0, g1⟩ | ⟨g0, g1⟩
 ·have g0' : (((trimC d).length : Int) != (d.length : Int)) = true := by rw [bne_iff_ne]; have := bne_iff_ne.1 g0; omega
  refine startS (n := 25) (S := (fun w' => Below wo.heap.size wo w')) (ds := []) (below_drew (Below.refl _ _)) (fun hHeld => ?_)
  refine with_tabW chk.tab9 chk.bits9 (fun HT_ HW_ => ?_)
  refine pureT (i := 0) (N := (some 34)) HT_ ?_
  refine pureT (i := 4) (N := (some 38)) HT_ ?_
  refine takeS (i := 1) (N := (some 35)) (v := ?_) HT_ HW_ hHeld ?_ ?_
  rotate_left
  ·intro w' s0
   have f : w'.cell? ⟨gb, 3, none⟩ = some (.slice A3 d.length c3) := (blk_cell (blk_below HX.out s0) 3).trans rfl
   go_simp
   with_reducible rfl
  refine normS (N := (some 35)) ?_
  refine takeS (i := 5) (N := (some 39)) (v := ?_) HT_ HW_ hHeld ?_ ?_
  rotate_left
  ·intro w' s0
   have f : w'.cell? ⟨gb, 3, none⟩ = some (.slice A3 d.length c3) := (blk_cell (blk_below HX.out s0) 3).trans rfl
   go_simp
   with_reducible rfl
  refine normS (N := (some 39)) ?_
  refine pureT (i := 6) (N := (some 40)) HT_ ?_
  refine oneS (i := 2) (N := (some 36)) HT_ (fun K hK => ?_)
  refine goes_ Try.func44 (by kernel_rfl) rfl #[.slice A3 d.length c3] (by rfl) rfl rfl argS ?_
  have hH := hHeld
  refine (topiaryref02_Trim.calls 400 A3 c3 d (trimC d) _ (Kd.C_below HC3.out (HB.out.trans (hH.mono HB.out.size))) HL3.out HTR.out).mono ?_
  rintro e w1 ⟨v1, rfl, hr1, hb_⟩
  obtain ⟨A9, c9, rfl⟩ := Kd.R_slice hr1
  clear hr1
  refine ⟨_, rfl, ?_⟩
  have hS : Below wo.heap.size wo w1 := hH.trans (hb_.mono hH.size)
  clear hb_ hH hHeld
  refine hK.out _ _ (hS) (fun hHeld => ?_)
  clear hK K
  refine normS (N := (some 36)) ?_
  refine pureT (i := 3) (N := (some 37)) HT_ ?_
  refine pureT (i := 7) (N := (some 41)) HT_ ?_
  refine pureT (i := 8) (N := (some 42)) HT_ ?_
  refine pureV (i := 9) (N := (some 43)) HT_ ?_
  refine pureV (i := 10) (N := (some 44)) HT_ ?_
  refine pureV (i := 11) (N := (some 45)) HT_ ?_
  refine pureV (i := 12) (N := (some 46)) HT_ ?_
  refine pureV (i := 13) (N := (some 47)) HT_ ?_
  refine pureV (i := 14) (N := (some 48)) HT_ ?_
  refine pureV (i := 15) (N := (some 49)) HT_ ?_
  refine pureV (i := 16) (N := (some 50)) HT_ ?_
  refine pureV (i := 17) (N := (some 51)) HT_ ?_
  refine pureV (i := 18) (N := (some 52)) HT_ ?_
  refine pureT (i := 19) (N := (some 53)) HT_ ?_
  refine pureT (i := 20) (N := (some 54)) HT_ ?_
  refine pureV (i := 21) (N := (some 55)) HT_ ?_
  refine pureV (i := 22) (N := (some 56)) HT_ ?_
  refine pureV (i := 23) (N := (some 57)) HT_ ?_
  refine pureT (i := 24) (N := (some 58)) HT_ ?_
  refine done_ (done_of HT_.out (by kernel_rfl)) ?_
  have n_ := Aside0.mk (blk_below HX.out hHeld); clear HX; have HX := n_; clear n_; have n_ := Aside0.mk (HB.out.trans (hHeld.mono HB.out.size)); clear HB; have HB := n_; clear n_ hHeld; clear z0 z1 z2 z3 z4 z5 z6 z7 z8 z9 z10 z11 z12; obtain ⟨z0, z1, z2, z3, z4, z5, z6, z7, z8, z9, z10, z11, z12⟩ := cells13 HX.out
  go_wp2_with (fail)
  go_ret
  exact ⟨by rw [← HV.out]; simp only [checkY, wordsY, *]; rfl, HB.out⟩
 ·have g0' : (((trimC d).length : Int) != (d.length : Int)) = false := by rw [bne_eq_false_iff_eq]; have := bne_eq_false_iff_eq.1 g0; omega
  refine startS (n := 25) (S := (fun w' => Below wo.heap.size wo w')) (ds := []) (below_drew (Below.refl _ _)) (fun hHeld => ?_)
  refine with_tabW chk.tab9 chk.bits9 (fun HT_ HW_ => ?_)
  refine pureT (i := 0) (N := (some 34)) HT_ ?_
  refine pureT (i := 4) (N := (some 38)) HT_ ?_
  refine takeS (i := 1) (N := (some 35)) (v := ?_) HT_ HW_ hHeld ?_ ?_
  rotate_left
  ·intro w' s0
   have f : w'.cell? ⟨gb, 3, none⟩ = some (.slice A3 d.length c3) := (blk_cell (blk_below HX.out s0) 3).trans rfl
   go_simp
   with_reducible rfl
  refine normS (N := (some 35)) ?_
  refine takeS (i := 5) (N := (some 39)) (v := ?_) HT_ HW_ hHeld ?_ ?_
  rotate_left
  ·intro w' s0
   have f : w'.cell? ⟨gb, 3, none⟩ = some (.slice A3 d.length c3) := (blk_cell (blk_below HX.out s0) 3).trans rfl
   go_simp
   with_reducible rfl
  refine normS (N := (some 39)) ?_
  refine pureT (i := 6) (N := (some 40)) HT_ ?_
  refine oneS (i := 2) (N := (some 36)) HT_ (fun K hK => ?_)
  refine goes_ Try.func44 (by kernel_rfl) rfl #[.slice A3 d.length c3] (by rfl) rfl rfl argS ?_
  have hH := hHeld
  refine (topiaryref02_Trim.calls 400 A3 c3 d (trimC d) _ (Kd.C_below HC3.out (HB.out.trans (hH.mono HB.out.size))) HL3.out HTR.out).mono ?_
  rintro e w1 ⟨v1, rfl, hr1, hb_⟩
  obtain ⟨A9, c9, rfl⟩ := Kd.R_slice hr1
  clear hr1
  refine ⟨_, rfl, ?_⟩
  have hS : Below wo.heap.size wo w1 := hH.trans (hb_.mono hH.size)
  clear hb_ hH hHeld
  refine hK.out _ _ (hS) (fun hHeld => ?_)
  clear hK K
  refine normS (N := (some 36)) ?_
  refine pureT (i := 3) (N := (some 37)) HT_ ?_
  refine pureT (i := 7) (N := (some 41)) HT_ ?_
  refine pureT (i := 8) (N := (some 42)) HT_ ?_
  refine pureT (i := 9) (N := (some 43)) HT_ ?_
  refine pureT (i := 11) (N := (some 45)) HT_ ?_
  refine pureT (i := 12) (N := (some 46)) HT_ ?_
  refine pureT (i := 15) (N := (some 49)) HT_ ?_
  refine takeS (i := 10) (N := (some 44)) (v := ?_) HT_ HW_ hHeld ?_ ?_
  rotate_left
  ·intro w' s0
   have f : w'.cell? ⟨gb, 3, none⟩ = some (.slice A3 d.length c3) := (blk_cell (blk_below HX.out s0) 3).trans rfl
   go_simp
   with_reducible rfl
  refine normS (N := (some 44)) ?_
  refine takeS (i := 13) (N := (some 47)) (v := ?_) HT_ HW_ hHeld ?_ ?_
  rotate_left
  ·intro w' s0
   have f : w'.cell? ⟨gb, 1, none⟩ = some (.int .i64 a1) := (blk_cell (blk_below HX.out s0) 1).trans rfl
   go_simp
   with_reducible rfl
  refine normS (N := (some 47)) ?_
  refine takeS (i := 16) (N := (some 50)) (v := ?_) HT_ HW_ hHeld ?_ ?_
  rotate_left
  ·intro w' s0
   have f : w'.cell? ⟨gb, 2, none⟩ = some (.int .i64 a2) := (blk_cell (blk_below HX.out s0) 2).trans rfl
   go_simp
   with_reducible rfl
  refine normS (N := (some 50)) ?_
  refine pureT (i := 17) (N := (some 51)) HT_ ?_
  refine oneS (i := 14) (N := (some 48)) HT_ (fun K hK => ?_)
  refine goes_ Try.func49 (by kernel_rfl) rfl #[.slice A3 d.length c3, .int .i64 a1] (by rfl) rfl rfl argS ?_
  have hH := hHeld
  refine (topiaryref02_At.calls A3 c3 d a1 _ _ (Kd.C_below HC3.out (HB.out.trans (hH.mono HB.out.size))) HL3.out (ref_At_is d a1)).mono ?_
  rintro e w1 ⟨rfl, ⟨nd, hnd⟩⟩
  have hb_ := drew_below hnd; clear hnd
  refine ⟨_, rfl, ?_⟩
  have hS : Below wo.heap.size wo w1 := hH.trans (hb_.mono hH.size)
  clear hb_ hH hHeld
  refine hK.out _ _ (hS) (fun hHeld => ?_)
  clear hK K
  refine normS (N := (some 48)) ?_
  refine pureT (i := 18) (N := (some 52)) HT_ ?_
  refine pureT (i := 19) (N := (some 53)) HT_ ?_
  refine pureT (i := 20) (N := (some 54)) HT_ ?_
  refine pureV (i := 21) (N := (some 55)) HT_ ?_
  refine pureV (i := 22) (N := (some 56)) HT_ ?_
  refine pureV (i := 23) (N := (some 57)) HT_ ?_
  refine pureT (i := 24) (N := (some 58)) HT_ ?_
  refine done_ (done_of HT_.out (by kernel_rfl)) ?_
  have n_ := Aside0.mk (blk_below HX.out hHeld); clear HX; have HX := n_; clear n_; have n_ := Aside0.mk (HB.out.trans (hHeld.mono HB.out.size)); clear HB; have HB := n_; clear n_ hHeld; clear z0 z1 z2 z3 z4 z5 z6 z7 z8 z9 z10 z11 z12; obtain ⟨z0, z1, z2, z3, z4, z5, z6, z7, z8, z9, z10, z11, z12⟩ := cells13 HX.out
  go_wp2_with (fail)
  go_ret
  exact ⟨by rw [← HV.out]; simp only [checkY, wordsY, *]; rfl, HB.out⟩
 ·have g0' : (((trimC d).length : Int) != (d.length : Int)) = false := by rw [bne_eq_false_iff_eq]; have := bne_eq_false_iff_eq.1 g0; omega
  generalize hpb : (nodeOkC a4 a5 a6 a0 a1 && placeOkC a4 a5 a6 a7 a8 a9 a10 a0 a1) = pb at *
  have HPB := Aside0.mk hpb
  clear hpb
  refine startS (n := 25) (S := (fun w' => Below wo.heap.size wo w')) (ds := []) (below_drew (Below.refl _ _)) (fun hHeld => ?_)
  refine with_tabW chk.tab9 chk.bits9 (fun HT_ HW_ => ?_)
  refine pureT (i := 0) (N := (some 34)) HT_ ?_
  refine pureT (i := 4) (N := (some 38)) HT_ ?_
  refine takeS (i := 1) (N := (some 35)) (v := ?_) HT_ HW_ hHeld ?_ ?_
  rotate_left
  ·intro w' s0
   have f : w'.cell? ⟨gb, 3, none⟩ = some (.slice A3 d.length c3) := (blk_cell (blk_below HX.out s0) 3).trans rfl
   go_simp
   with_reducible rfl
  refine normS (N := (some 35)) ?_
  refine takeS (i := 5) (N := (some 39)) (v := ?_) HT_ HW_ hHeld ?_ ?_
  rotate_left
  ·intro w' s0
   have f : w'.cell? ⟨gb, 3, none⟩ = some (.slice A3 d.length c3) := (blk_cell (blk_below HX.out s0) 3).trans rfl
   go_simp
   with_reducible rfl
  refine normS (N := (some 39)) ?_
  refine pureT (i := 6) (N := (some 40)) HT_ ?_
  refine oneS (i := 2) (N := (some 36)) HT_ (fun K hK => ?_)
  refine goes_ Try.func44 (by kernel_rfl) rfl #[.slice A3 d.length c3] (by rfl) rfl rfl argS ?_
  have hH := hHeld
  refine (topiaryref02_Trim.calls 400 A3 c3 d (trimC d) _ (Kd.C_below HC3.out (HB.out.trans (hH.mono HB.out.size))) HL3.out HTR.out).mono ?_
  rintro e w1 ⟨v1, rfl, hr1, hb_⟩
  obtain ⟨A9, c9, rfl⟩ := Kd.R_slice hr1
  clear hr1
  refine ⟨_, rfl, ?_⟩
  have hS : Below wo.heap.size wo w1 := hH.trans (hb_.mono hH.size)
  clear hb_ hH hHeld
  refine hK.out _ _ (hS) (fun hHeld => ?_)
  clear hK K
  refine normS (N := (some 36)) ?_
  refine pureT (i := 3) (N := (some 37)) HT_ ?_
  refine pureT (i := 7) (N := (some 41)) HT_ ?_
  refine pureT (i := 8) (N := (some 42)) HT_ ?_
  refine pureT (i := 9) (N := (some 43)) HT_ ?_
  refine pureT (i := 11) (N := (some 45)) HT_ ?_
  refine pureT (i := 12) (N := (some 46)) HT_ ?_
  refine pureT (i := 15) (N := (some 49)) HT_ ?_
  refine takeS (i := 10) (N := (some 44)) (v := ?_) HT_ HW_ hHeld ?_ ?_
  rotate_left
  ·intro w' s0
   have f : w'.cell? ⟨gb, 3, none⟩ = some (.slice A3 d.length c3) := (blk_cell (blk_below HX.out s0) 3).trans rfl
   go_simp
   with_reducible rfl
  refine normS (N := (some 44)) ?_
  refine takeS (i := 13) (N := (some 47)) (v := ?_) HT_ HW_ hHeld ?_ ?_
  rotate_left
  ·intro w' s0
   have f : w'.cell? ⟨gb, 1, none⟩ = some (.int .i64 a1) := (blk_cell (blk_below HX.out s0) 1).trans rfl
   go_simp
   with_reducible rfl
  refine normS (N := (some 47)) ?_
  refine takeS (i := 16) (N := (some 50)) (v := ?_) HT_ HW_ hHeld ?_ ?_
  rotate_left
  ·intro w' s0
   have f : w'.cell? ⟨gb, 2, none⟩ = some (.int .i64 a2) := (blk_cell (blk_below HX.out s0) 2).trans rfl
   go_simp
   with_reducible rfl
  refine normS (N := (some 50)) ?_
  refine pureT (i := 17) (N := (some 51)) HT_ ?_
  refine oneS (i := 14) (N := (some 48)) HT_ (fun K hK => ?_)
  refine goes_ Try.func49 (by kernel_rfl) rfl #[.slice A3 d.length c3, .int .i64 a1] (by rfl) rfl rfl argS ?_
  have hH := hHeld
  refine (topiaryref02_At.calls A3 c3 d a1 _ _ (Kd.C_below HC3.out (HB.out.trans (hH.mono HB.out.size))) HL3.out (ref_At_is d a1)).mono ?_
  rintro e w1 ⟨rfl, ⟨nd, hnd⟩⟩
  have hb_ := drew_below hnd; clear hnd
  refine ⟨_, rfl, ?_⟩
  have hS : Below wo.heap.size wo w1 := hH.trans (hb_.mono hH.size)
  clear hb_ hH hHeld
  refine hK.out _ _ (hS) (fun hHeld => ?_)
  clear hK K
  refine normS (N := (some 48)) ?_
  refine pureT (i := 18) (N := (some 52)) HT_ ?_
  refine pureT (i := 19) (N := (some 53)) HT_ ?_
  refine pureT (i := 20) (N := (some 54)) HT_ ?_
  refine takeS (i := 21) (N := (some 55)) (v := ?_) HT_ HW_ hHeld ?_ ?_
  rotate_left
  ·intro w' s0
   refine Eq.trans (load32_run (x := (⟨⟨a0, a1⟩, a2, d, a4, ⟨a5, a6⟩, ⟨a7, a8⟩, ⟨a9, a10⟩, s, t⟩ : S32)) (v := .slice A3 d.length c3) _ (p := .tmp 1) ?ho_ ?hp_ (blk_cells (blk_below HX.out s0))) ?hr_
   case ho_ => rfl
   case hp_ => rfl
   case hr_ => rfl
  refine normS (N := (some 55)) ?_
  refine oneS (i := 22) (N := (some 56)) HT_ (fun K hK => ?_)
  refine goes_ Try.func71 (by kernel_rfl) rfl #[.agg #[.int .i64 a0, .int .i64 a1, .int .i64 a2, .slice A3 d.length c3, .int .i64 a4, .int .i64 a5, .int .i64 a6, .int .i64 a7, .int .i64 a8, .int .i64 a9, .int .i64 a10, .string s, .string t]] (by rfl) rfl rfl argS ?_
  have hH := hHeld
  refine (placed_calls (w := _) a0 a1 a2 A3 d c3 a4 a5 a6 a7 a8 a9 a10 s t HK1.out).mono ?_
  rintro e w1 ⟨he_, hb_⟩
  rw [HPB.out] at he_
  subst he_
  refine ⟨_, rfl, ?_⟩
  have hS : Below wo.heap.size wo w1 := hH.trans (hb_.mono hH.size)
  clear hb_ hH hHeld
  refine hK.out _ _ (hS) (fun hHeld => ?_)
  clear hK K
  refine normS (N := (some 56)) ?_
  refine pureT (i := 23) (N := (some 57)) HT_ ?_
  refine pureT (i := 24) (N := (some 58)) HT_ ?_
  refine done_ (done_of HT_.out (by kernel_rfl)) ?_
  have n_ := Aside0.mk (blk_below HX.out hHeld); clear HX; have HX := n_; clear n_; have n_ := Aside0.mk (HB.out.trans (hHeld.mono HB.out.size)); clear HB; have HB := n_; clear n_ hHeld; clear z0 z1 z2 z3 z4 z5 z6 z7 z8 z9 z10 z11 z12; obtain ⟨z0, z1, z2, z3, z4, z5, z6, z7, z8, z9, z10, z11, z12⟩ := cells13 HX.out
  cases pb with
  | false =>
   go_wp2_with (fail)
   go_ret
   exact ⟨by rw [← HV.out]; simp only [checkY, wordsY, *]; rfl, HB.out⟩
  | true =>
   go_upto_region 11 with (fail)
   rcases HKK.out with ⟨k1, k3, k4, k5, j3, j5⟩ | ⟨k1, k3, k4, k5, j3, j5⟩ | ⟨k1, k3, k4, k5, j3, j5⟩ | ⟨k1, k3, k4, k5, j3, j5⟩ | ⟨k1, k3, k4, k5, j3, j5⟩
   rcases ckC (nameC s) (decide ((t.size : Int) > 256)) (t.toList != ([] : List UInt8)) with l0 | ⟨l0, l1⟩ | ⟨l0, l1, l2⟩ | ⟨l0, l1, l2⟩
   rotate_left 4
   rcases ckC (nameC s) (decide ((t.size : Int) > 256)) (t.toList != ([] : List UInt8)) with l0 | ⟨l0, l1⟩ | ⟨l0, l1, l2⟩ | ⟨l0, l1, l2⟩
   rotate_left 4
   rcases ckD (nameC s) (decide ((t.size : Int) > 256)) with l0 | ⟨l0, l1⟩ | ⟨l0, l1⟩
   rotate_left 3
   rcases ckB (s.toList != ([] : List UInt8)) (decide ((t.size : Int) > 256)) with l0 | ⟨l0, l1⟩ | ⟨l0, l1⟩
   rotate_left 3
   rcases ckE (s.toList != ([] : List UInt8)) (decide ((t.size : Int) > 256)) (t.toList != ([] : List UInt8)) with l0 | ⟨l0, l1⟩ | ⟨l0, l1, l2⟩ | ⟨l0, l1, l2⟩
   all_goals
    try have q0 := bne_f (l := s.toList) l0
    try have q2 := bne_f (l := t.toList) l2
    go_wp2_with (first | (go_at_call 72; refine (topiaryref05_Name.calls (s.size + 3) s _ _ HNM.out).mono ?_; clear z0 z1 z2 z3 z4 z5 z6 z7 z8 z9 z10 z11 z12; rintro e w2 ⟨rfl, ⟨nd, hnd⟩⟩; have hb_ := drew_below hnd; clear hnd; have n_ := Aside0.mk (blk_below HX.out hb_); clear HX; have HX := n_; clear n_; have n_ := Aside0.mk (HB.out.trans (hb_.mono HB.out.size)); clear HB; have HB := n_; clear n_ hb_; obtain ⟨z0, z1, z2, z3, z4, z5, z6, z7, z8, z9, z10, z11, z12⟩ := cells13 HX.out))
    go_ret
    exact ⟨by rw [← HV.out]; simp only [checkY, wordsY, *]; rfl, HB.out⟩
end Go.Proofs.Ytnopjjilpgekfaa.PCa
namespace Go.Proofs.Ytnopjjilpgekfaa.PCa
open Go.RowKit Go.Proofs.YtnopjjilpgekfaaW.PrintWords Go.Proofs.YtnopjjilpgekfaaW.PrintLast Go.Proofs.YtnopjjilpgekfaaW.PrintMore
set_option linter.unusedVariables false
theorem check05_k {s t : ByteArray} {k : Nat} (hs : s.size < 4611686018427387904) (hk : s.size + 310 < k) (a0 a1 a2 : Int) (A3 : Option Addr) (c3 : Nat) (d : List Int) (a4 a5 a6 a7 a8 a9 a10 : Int) (r : Int) (w : World) (hd : Kd.C (Kd.int .i64) w A3 d.length d) (hl : d.length ≤ c3) (h : topiaryref05_Check.f k a0 a1 a2 d a4 a5 a6 a7 a8 a9 a10 s t = some r) :
  Calls Try.prog 47 #[.agg #[.int .i64 a0, .int .i64 a1, .int .i64 a2, .slice A3 d.length c3, .int .i64 a4, .int .i64 a5, .int .i64 a6, .int .i64 a7, .int .i64 a8, .int .i64 a9, .int .i64 a10, .string s, .string t]] w fun e w' => e = .returned (.int .i64 r) ∧ Below w.heap.size w w' := by
 rw [ref_Check05_is _ _ _ _ _ _ _ _ _ _ _ _ _ _ hs (by omega) (by omega)] at h
 injection h with h
 rw [← h]
 exact check05_calls a0 a1 a2 A3 d c3 a4 a5 a6 a7 a8 a9 a10 s t hd hl hs
end Go.Proofs.Ytnopjjilpgekfaa.PCa
namespace Go.Proofs.Ytnopjjilpgekfaa.PCa
open Go.RowKit Go.Proofs.YtnopjjilpgekfaaW.PrintWords Go.Proofs.YtnopjjilpgekfaaW.PrintLast Go.Proofs.YtnopjjilpgekfaaW.PrintMore
attribute [local go_sem] max2_int min2_int max_two min_two max_three min_three max_four min_four
set_option linter.unusedVariables false
set_option linter.unusedSimpArgs false
mutual
def topiaryref07_Why.j0 : Nat → List (S32) → Int → Int → Bool → Int → Int → Int → List Int → Int → Int → Int → Int → Int → Int → Int → ByteArray → ByteArray → Option (Int)
 | 0, _, _, _, _, _, _, _, _, _, _, _, _, _, _, _, _, _ => none
 | k + 1, x0, x1, x7, x27, x222000, x222001, x222002, x222003, x222004, x222005, x222006, x222007, x222008, x222009, x222010, x222011, x222012 => if x27 = true then (some 5) else (if x7 ≥ 0 then (topiaryref07_Why.j1 k x0 x1 true x222000 x222001 x222002 x222003 x222004 x222005 x222006 x222007 x222008 x222009 x222010 x222011 x222012) else ((topiaryref07_Own.f k x0 x222001 x222002).bind fun t227 => (topiaryref07_Why.j1 k x0 x1 (decide (t227 ≥ 0)) x222000 x222001 x222002 x222003 x222004 x222005 x222006 x222007 x222008 x222009 x222010 x222011 x222012)))
def topiaryref07_Why.j1 : Nat → List (S32) → Int → Bool → Int → Int → Int → List Int → Int → Int → Int → Int → Int → Int → Int → ByteArray → ByteArray → Option (Int)
 | 0, _, _, _, _, _, _, _, _, _, _, _, _, _, _, _, _ => none
 | k + 1, x0, x1, x39, x222000, x222001, x222002, x222003, x222004, x222005, x222006, x222007, x222008, x222009, x222010, x222011, x222012 => if x39 = true then (some 7) else ((topiaryref07_Clock.f k x0).bind fun t228 => ((topiaryref02_At.f t228 x222001).bind fun t231 => (if x222002 = (wrap64 (t231 + 1)) then ((topiaryref02_Under.f k x222003 t228).bind fun t232 => (topiaryref07_Why.j2 k x0 x1 (!t232) x222000 x222001 x222002 x222003 x222004 x222005 x222006 x222007 x222008 x222009 x222010 x222011 x222012)) else (topiaryref07_Why.j2 k x0 x1 true x222000 x222001 x222002 x222003 x222004 x222005 x222006 x222007 x222008 x222009 x222010 x222011 x222012))))
def topiaryref07_Why.j2 : Nat → List (S32) → Int → Bool → Int → Int → Int → List Int → Int → Int → Int → Int → Int → Int → Int → ByteArray → ByteArray → Option (Int)
 | 0, _, _, _, _, _, _, _, _, _, _, _, _, _, _, _, _ => none
 | k + 1, x0, x1, x57, x222000, x222001, x222002, x222003, x222004, x222005, x222006, x222007, x222008, x222009, x222010, x222011, x222012 => if x57 = true then (some 4) else ((topiaryref07_behind.f k x0 x222000 x222001 x222002 x222003 x222004 x222005 x222006 x222007 x222008 x222009 x222010 x222011 x222012).bind fun t233 => (if t233 = true then (if (x0.length : Int) ≥ x1 then (some 6) else (some 0)) else (some 2)))
end
def topiaryref07_Why.f (k : Nat) (l0 : List (S32)) (a1 : Int) (a2_0 : Int) (a2_1 : Int) (a2_2 : Int) (l2_3 : List Int) (a2_4 : Int) (a2_5 : Int) (a2_6 : Int) (a2_7 : Int) (a2_8 : Int) (a2_9 : Int) (a2_10 : Int) (a2_11 : ByteArray) (a2_12 : ByteArray) : Option (Int) := (topiaryref05_Check.f k a2_0 a2_1 a2_2 l2_3 a2_4 a2_5 a2_6 a2_7 a2_8 a2_9 a2_10 a2_11 a2_12).bind fun t222 => (if t222 = 0 then ((topiaryref07_Find.f k l0 a2_0 a2_1).bind fun t224 => (if t224 ≥ 0 then (if 0 ≤ t224 then (if t224 < (l0.length : Int) then ((topiaryref05_Same.f k ((rd_T32 l0 t224).f0.f0) ((rd_T32 l0 t224).f0.f1) ((rd_T32 l0 t224).f1) ((rd_T32 l0 t224).f2) ((rd_T32 l0 t224).f3) ((rd_T32 l0 t224).f4.f0) ((rd_T32 l0 t224).f4.f1) ((rd_T32 l0 t224).f5.f0) ((rd_T32 l0 t224).f5.f1) ((rd_T32 l0 t224).f6.f0) ((rd_T32 l0 t224).f6.f1) ((rd_T32 l0 t224).f7) ((rd_T32 l0 t224).f8) a2_0 a2_1 a2_2 l2_3 a2_4 a2_5 a2_6 a2_7 a2_8 a2_9 a2_10 a2_11 a2_12).bind fun t226 => (topiaryref07_Why.j0 k l0 a1 t224 t226 a2_0 a2_1 a2_2 l2_3 a2_4 a2_5 a2_6 a2_7 a2_8 a2_9 a2_10 a2_11 a2_12)) else (none)) else (none)) else (topiaryref07_Why.j0 k l0 a1 t224 false a2_0 a2_1 a2_2 l2_3 a2_4 a2_5 a2_6 a2_7 a2_8 a2_9 a2_10 a2_11 a2_12))) else ((topiaryref05_Check.f k a2_0 a2_1 a2_2 l2_3 a2_4 a2_5 a2_6 a2_7 a2_8 a2_9 a2_10 a2_11 a2_12).bind fun t223 => (some t223)))
def topiaryref07_Why.T4 : Bool × List (List Nat × List Nat) := (true, [([], []), ([0], [0]), ([1], [1]), ([2], [2]), ([2], [2]), ([3, 4, 2], [2, 3, 4]), ([5, 2], [2, 5]), ([2], [2]), ([6, 7, 2, 2], [2, 6, 7]), ([2, 8], [2, 8])])
def topiaryref07_Why.B4 : List Nat := [0, 1, 3, 7, 7, 31, 63, 7, 255, 511]
theorem topiaryref07_Why.tab4 : rtab .any (opsOf Try.f31 4) = topiaryref07_Why.T4 := by kernel_rfl
theorem topiaryref07_Why.bits4 : waitsOk topiaryref07_Why.T4.2 topiaryref07_Why.B4 = true := by kernel_rfl
def topiaryref07_Why.T9 : Bool × List (List Nat × List Nat) := (true, [([], []), ([0], [0]), ([], []), ([], []), ([3], [3]), ([4], [4]), ([2, 5], [2, 5]), ([6], [6]), ([1, 7], [1, 7]), ([8, 6], [8]), ([9], [9]), ([10, 9], [9, 10]), ([9], [9]), ([11, 12, 9, 9], [9, 11, 12]), ([13, 9], [9, 13]), ([9, 14], [9, 14])])
def topiaryref07_Why.B9 : List Nat := [0, 1, 0, 0, 8, 24, 60, 124, 255, 511, 1023, 2047, 1023, 8191, 16383, 32767]
theorem topiaryref07_Why.tab9 : rtab .any (opsOf Try.f31 9) = topiaryref07_Why.T9 := by kernel_rfl
theorem topiaryref07_Why.bits9 : waitsOk topiaryref07_Why.T9.2 topiaryref07_Why.B9 = true := by kernel_rfl
set_option maxHeartbeats 8000000 in
set_option maxRecDepth 100000 in
theorem topiaryref07_Why.calls (k : Nat) (A0 : Option Addr) (c0 : Nat) (l0 : List (S32)) (a1 : Int) (a2_0 : Int) (a2_1 : Int) (a2_2 : Int) (A2_3 : Option Addr) (c2_3 : Nat) (l2_3 : List Int) (a2_4 : Int) (a2_5 : Int) (a2_6 : Int) (a2_7 : Int) (a2_8 : Int) (a2_9 : Int) (a2_10 : Int) (a2_11 : ByteArray) (a2_12 : ByteArray) (r : Int) (w : World) (hr0 : Kd.C k32 w A0 l0.length l0) (hc0 : l0.length ≤ c0) (hr2_3 : Kd.C (Kd.int .i64) w A2_3 l2_3.length l2_3) (hc2_3 : l2_3.length ≤ c2_3) (hs_ : a2_11.size < 4611686018427387904) (hk_ : a2_11.size + 310 < k) (h : topiaryref07_Why.f k l0 a1 a2_0 a2_1 a2_2 l2_3 a2_4 a2_5 a2_6 a2_7 a2_8 a2_9 a2_10 a2_11 a2_12 = some r) :
  Calls Try.prog 31 #[.slice A0 l0.length c0, .int .i64 a1, .agg #[.int .i64 a2_0, .int .i64 a2_1, .int .i64 a2_2, .slice A2_3 l2_3.length c2_3, .int .i64 a2_4, .int .i64 a2_5, .int .i64 a2_6, .int .i64 a2_7, .int .i64 a2_8, .int .i64 a2_9, .int .i64 a2_10, .string a2_11, .string a2_12]] w fun e w' => e = .returned (.int .i64 r) ∧ Below w.heap.size w w' := by
 have HSK := Aside0.mk hs_
 have HKK := Aside0.mk hk_
 clear hs_ hk_
 have hu32 := Try.underlying32
 have hu30 := Try.underlying30
 have HR0 := Aside0.mk hr0
 have HC0 := Aside0.mk hc0
 clear hr0 hc0
 have HR2_3 := Aside0.mk hr2_3
 have HC2_3 := Aside0.mk hc2_3
 clear hr2_3 hc2_3
 have HB := Aside0.mk (Below.refl w.heap.size w)
 have H : ((topiaryref05_Check.f k a2_0 a2_1 a2_2 l2_3 a2_4 a2_5 a2_6 a2_7 a2_8 a2_9 a2_10 a2_11 a2_12).bind fun t222 => (if t222 = 0 then ((topiaryref07_Find.f k l0 a2_0 a2_1).bind fun t224 => (if t224 ≥ 0 then (if 0 ≤ t224 then (if t224 < (l0.length : Int) then ((topiaryref05_Same.f k ((rd_T32 l0 t224).f0.f0) ((rd_T32 l0 t224).f0.f1) ((rd_T32 l0 t224).f1) ((rd_T32 l0 t224).f2) ((rd_T32 l0 t224).f3) ((rd_T32 l0 t224).f4.f0) ((rd_T32 l0 t224).f4.f1) ((rd_T32 l0 t224).f5.f0) ((rd_T32 l0 t224).f5.f1) ((rd_T32 l0 t224).f6.f0) ((rd_T32 l0 t224).f6.f1) ((rd_T32 l0 t224).f7) ((rd_T32 l0 t224).f8) a2_0 a2_1 a2_2 l2_3 a2_4 a2_5 a2_6 a2_7 a2_8 a2_9 a2_10 a2_11 a2_12).bind fun t226 => (topiaryref07_Why.j0 k l0 a1 t224 t226 a2_0 a2_1 a2_2 l2_3 a2_4 a2_5 a2_6 a2_7 a2_8 a2_9 a2_10 a2_11 a2_12)) else (none)) else (none)) else (topiaryref07_Why.j0 k l0 a1 t224 false a2_0 a2_1 a2_2 l2_3 a2_4 a2_5 a2_6 a2_7 a2_8 a2_9 a2_10 a2_11 a2_12))) else ((topiaryref05_Check.f k a2_0 a2_1 a2_2 l2_3 a2_4 a2_5 a2_6 a2_7 a2_8 a2_9 a2_10 a2_11 a2_12).bind fun t223 => (some t223)))) = some r := h
 clear h
 replace H := Option.bind_eq_some_iff.mp H
 obtain ⟨t222, A40, H⟩ := H
 replace H : (if t222 = 0 then ((topiaryref07_Find.f k l0 a2_0 a2_1).bind fun t224 => (if t224 ≥ 0 then (if 0 ≤ t224 then (if t224 < (l0.length : Int) then ((topiaryref05_Same.f k ((rd_T32 l0 t224).f0.f0) ((rd_T32 l0 t224).f0.f1) ((rd_T32 l0 t224).f1) ((rd_T32 l0 t224).f2) ((rd_T32 l0 t224).f3) ((rd_T32 l0 t224).f4.f0) ((rd_T32 l0 t224).f4.f1) ((rd_T32 l0 t224).f5.f0) ((rd_T32 l0 t224).f5.f1) ((rd_T32 l0 t224).f6.f0) ((rd_T32 l0 t224).f6.f1) ((rd_T32 l0 t224).f7) ((rd_T32 l0 t224).f8) a2_0 a2_1 a2_2 l2_3 a2_4 a2_5 a2_6 a2_7 a2_8 a2_9 a2_10 a2_11 a2_12).bind fun t226 => (topiaryref07_Why.j0 k l0 a1 t224 t226 a2_0 a2_1 a2_2 l2_3 a2_4 a2_5 a2_6 a2_7 a2_8 a2_9 a2_10 a2_11 a2_12)) else (none)) else (none)) else (topiaryref07_Why.j0 k l0 a1 t224 false a2_0 a2_1 a2_2 l2_3 a2_4 a2_5 a2_6 a2_7 a2_8 a2_9 a2_10 a2_11 a2_12))) else ((topiaryref05_Check.f k a2_0 a2_1 a2_2 l2_3 a2_4 a2_5 a2_6 a2_7 a2_8 a2_9 a2_10 a2_11 a2_12).bind fun t223 => (some t223))) = some r := H
 have A4 := Aside0.mk A40
 clear A40
 by_cases c5 : t222 = 0
 ·rw [if_pos c5] at H
  have c5b0 : (t222 == 0) = true := beq_iff_eq.mpr c5
  have c5b1 : (t222 != 0) = false := bne_eq_false_iff_eq.mpr c5
  clear c5
  replace H := Option.bind_eq_some_iff.mp H
  obtain ⟨t224, A60, H⟩ := H
  replace H : (if t224 ≥ 0 then (if 0 ≤ t224 then (if t224 < (l0.length : Int) then ((topiaryref05_Same.f k ((rd_T32 l0 t224).f0.f0) ((rd_T32 l0 t224).f0.f1) ((rd_T32 l0 t224).f1) ((rd_T32 l0 t224).f2) ((rd_T32 l0 t224).f3) ((rd_T32 l0 t224).f4.f0) ((rd_T32 l0 t224).f4.f1) ((rd_T32 l0 t224).f5.f0) ((rd_T32 l0 t224).f5.f1) ((rd_T32 l0 t224).f6.f0) ((rd_T32 l0 t224).f6.f1) ((rd_T32 l0 t224).f7) ((rd_T32 l0 t224).f8) a2_0 a2_1 a2_2 l2_3 a2_4 a2_5 a2_6 a2_7 a2_8 a2_9 a2_10 a2_11 a2_12).bind fun t226 => (topiaryref07_Why.j0 k l0 a1 t224 t226 a2_0 a2_1 a2_2 l2_3 a2_4 a2_5 a2_6 a2_7 a2_8 a2_9 a2_10 a2_11 a2_12)) else (none)) else (none)) else (topiaryref07_Why.j0 k l0 a1 t224 false a2_0 a2_1 a2_2 l2_3 a2_4 a2_5 a2_6 a2_7 a2_8 a2_9 a2_10 a2_11 a2_12)) = some r := H
  have A6 := Aside0.mk A60
  clear A60
  have HC7 := Aside0.mk H
  clear H
  go_enter Try.func31, Try.ntmps31
  go_upto_region 4 with (first | ((with_reducible refine gate_dst (N := 5) rfl ?_); refine boxE (N := 5) (cs := #[.int .i64 a2_0, .int .i64 a2_1, .int .i64 a2_2, .slice A2_3 l2_3.length c2_3, .int .i64 a2_4, .int .i64 a2_5, .int .i64 a2_6, .int .i64 a2_7, .int .i64 a2_8, .int .i64 a2_9, .int .i64 a2_10, .string a2_11, .string a2_12]) (t := 32) ?_; intro gb221 hg w8 hbox hb; have BK221 := Aside0.mk (hbox); have GW221 := Aside0.mk ((by rw [hg]; exact (below_size (bS HB)) : w.heap.size ≤ gb221)); have GE221 := Aside0.mk ((by rw [hg]; exact (below_size (bS HB)) : w.heap.size ≤ gb221)); replace HB := Aside0.mk (below_step (bS HB) hb); clear hb hbox hg; obtain ⟨hcz9_0, hcz9_1, hcz9_2, hcz9_3, hcz9_4, hcz9_5, hcz9_6, hcz9_7, hcz9_8, hcz9_9, hcz9_10, hcz9_11, hcz9_12⟩ := cells13 BK221.out) | ((with_reducible refine gate_callee (f := 47) rfl ?_); refine goesL_ (some 10) rfl rfl Try.func47 (by kernel_rfl) rfl #[.agg #[.int .i64 a2_0, .int .i64 a2_1, .int .i64 a2_2, .slice A2_3 l2_3.length c2_3, .int .i64 a2_4, .int .i64 a2_5, .int .i64 a2_6, .int .i64 a2_7, .int .i64 a2_8, .int .i64 a2_9, .int .i64 a2_10, .string a2_11, .string a2_12]] rfl argS ?_; (with_reducible refine (check05_k HSK.out HKK.out a2_0 a2_1 a2_2 _ _ l2_3 a2_4 a2_5 a2_6 a2_7 a2_8 a2_9 a2_10 t222 _ ?side1 ?side2 A4.out).mono ?_); (case side1 => exact CS (Kd.C_below HR2_3.out HB.out)); (case side2 => exact HC2_3.out); rintro e w10 ⟨rfl, hb⟩; refine ⟨_, rfl, ?_⟩; replace BK221 := Aside0.mk (blk_below (blkS BK221) hb); replace HB := Aside0.mk (below_step (bS1 HB GE221) hb); (try clear hb); obtain ⟨hcz11_0, hcz11_1, hcz11_2, hcz11_3, hcz11_4, hcz11_5, hcz11_6, hcz11_7, hcz11_8, hcz11_9, hcz11_10, hcz11_11, hcz11_12⟩ := cells13 BK221.out) | ((with_reducible refine gate_callee (f := 57) rfl ?_); refine goesL_ (some 17) rfl rfl Try.func57 (by kernel_rfl) rfl #[.slice A0 l0.length c0, .agg #[.int .i64 a2_0, .int .i64 a2_1]] rfl argS ?_; (with_reducible refine (topiaryref07_Find.calls k _ _ l0 a2_0 a2_1 t224 _ ?side1 ?side2 A6.out).mono ?_); (case side1 => exact CS (Kd.C_below HR0.out HB.out)); (case side2 => exact HC0.out); rintro e w12 ⟨rfl, hb⟩; refine ⟨_, rfl, ?_⟩; replace BK221 := Aside0.mk (blk_below (blkS BK221) hb); replace HB := Aside0.mk (below_step (bS1 HB GE221) hb); (try clear hb)))
  (try simp only [Act.put, List.setIfInBounds_toArray, List.set_cons_zero, List.set_cons_succ])
  go_cut [27] (fun v27 wc => ∃ (kq : Nat) (x27_6 : Bool), v27 = .bool x27_6 ∧ Aside0 (topiaryref07_Why.j0 kq l0 a1 t224 x27_6 a2_0 a2_1 a2_2 l2_3 a2_4 a2_5 a2_6 a2_7 a2_8 a2_9 a2_10 a2_11 a2_12 = some r) ∧ Aside0 (kq ≤ k) ∧ Aside0 (wc.heap[gb221]? = some (.cells #[.int .i64 a2_0, .int .i64 a2_1, .int .i64 a2_2, (.slice A2_3 l2_3.length c2_3), .int .i64 a2_4, .int .i64 a2_5, .int .i64 a2_6, .int .i64 a2_7, .int .i64 a2_8, .int .i64 a2_9, .int .i64 a2_10, .string a2_11, .string a2_12] 32 (0, 0))) ∧ Aside0 (Below w.heap.size w wc))
  case first =>
   have H := HC7.out
   clear HC7
   by_cases c13 : t224 ≥ 0
   ·rw [if_pos c13] at H
    have c13b0 : decide (0 ≤ t224) = true := decide_eq_true c13
    clear c13
    (first | rw [c13b0] | (simp only [i64_w, i32_w]; rw [c13b0]) | skip)
    by_cases c14 : 0 ≤ t224
    ·rw [if_pos c14] at H
     have c14b0 : decide (0 ≤ t224) = true := decide_eq_true c14
     clear c14
     by_cases c15 : t224 < (l0.length : Int)
     ·rw [if_pos c15] at H
      have c15b0 : decide (t224 < (l0.length : Int)) = true := decide_eq_true c15
      clear c15
      replace H := Option.bind_eq_some_iff.mp H
      obtain ⟨t226, A160, H⟩ := H
      replace H : (topiaryref07_Why.j0 k l0 a1 t224 t226 a2_0 a2_1 a2_2 l2_3 a2_4 a2_5 a2_6 a2_7 a2_8 a2_9 a2_10 a2_11 a2_12) = some r := H
      have A16 := Aside0.mk A160
      clear A160
      have H' := Aside0.mk H
      clear H
      try go_wp2
      replace BK221 := Aside0.mk (blk_drew BK221.out)
      replace HB := Aside0.mk (below_drew1 HB.out)
      have p225 : 0 ≤ (t224 : Int) := of_decide_eq_true asmS
      have q225 : t224 < (l0.length : Int) := of_decide_eq_true asmS
      obtain ⟨ad225, A225_3, c225_3, e225, hx225_0, hx225_1, hx225_2, hx225_3, hx225_4, hx225_5, hx225_6, hx225_7, hx225_8, hx225_9, hx225_10, hx225_11, hx225_12, hl225_3, hi225_3⟩ := at_T32 HR0.out t224 p225 q225
      have hw225_12 := hx225_12
      have hw225_11 := hx225_11
      have hw225_10 := hx225_10
      have hw225_9 := hx225_9
      have hw225_8 := hx225_8
      have hw225_7 := hx225_7
      have hw225_6 := hx225_6
      have hw225_5 := hx225_5
      have hw225_4 := hx225_4
      have hw225_3 := hx225_3
      have hw225_2 := hx225_2
      have hw225_1 := hx225_1
      have hw225_0 := hx225_0
      cases e225
      replace hx225_0 := (HB.out.cell (World.block_lt_of_cell? w _ hx225_0)).trans hx225_0
      replace hx225_1 := (HB.out.cell (World.block_lt_of_cell? w _ hx225_1)).trans hx225_1
      replace hx225_2 := (HB.out.cell (World.block_lt_of_cell? w _ hx225_2)).trans hx225_2
      replace hx225_3 := (HB.out.cell (World.block_lt_of_cell? w _ hx225_3)).trans hx225_3
      replace hx225_4 := (HB.out.cell (World.block_lt_of_cell? w _ hx225_4)).trans hx225_4
      replace hx225_5 := (HB.out.cell (World.block_lt_of_cell? w _ hx225_5)).trans hx225_5
      replace hx225_6 := (HB.out.cell (World.block_lt_of_cell? w _ hx225_6)).trans hx225_6
      replace hx225_7 := (HB.out.cell (World.block_lt_of_cell? w _ hx225_7)).trans hx225_7
      replace hx225_8 := (HB.out.cell (World.block_lt_of_cell? w _ hx225_8)).trans hx225_8
      replace hx225_9 := (HB.out.cell (World.block_lt_of_cell? w _ hx225_9)).trans hx225_9
      replace hx225_10 := (HB.out.cell (World.block_lt_of_cell? w _ hx225_10)).trans hx225_10
      replace hx225_11 := (HB.out.cell (World.block_lt_of_cell? w _ hx225_11)).trans hx225_11
      replace hx225_12 := (HB.out.cell (World.block_lt_of_cell? w _ hx225_12)).trans hx225_12
      have HR225_3 := Aside0.mk hi225_3
      have HC225_3 := Aside0.mk hl225_3
      clear hi225_3 hl225_3
      replace p225 := eq_true p225
      replace q225 := eq_true q225
      refine startS (n := 10) (S := fun w' => C13 w' gb221 (.int .i64 a2_0) (.int .i64 a2_1) (.int .i64 a2_2) (.slice A2_3 l2_3.length c2_3) (.int .i64 a2_4) (.int .i64 a2_5) (.int .i64 a2_6) (.int .i64 a2_7) (.int .i64 a2_8) (.int .i64 a2_9) (.int .i64 a2_10) (.string a2_11) (.string a2_12) (E13e w' (ad225.add ((t224).toNat * 13)) (.int .i64 ((rd_T32 l0 t224).f0.f0)) (.int .i64 ((rd_T32 l0 t224).f0.f1)) (.int .i64 ((rd_T32 l0 t224).f1)) (.slice A225_3 ((rd_T32 l0 t224).f2).length c225_3) (.int .i64 ((rd_T32 l0 t224).f3)) (.int .i64 ((rd_T32 l0 t224).f4.f0)) (.int .i64 ((rd_T32 l0 t224).f4.f1)) (.int .i64 ((rd_T32 l0 t224).f5.f0)) (.int .i64 ((rd_T32 l0 t224).f5.f1)) (.int .i64 ((rd_T32 l0 t224).f6.f0)) (.int .i64 ((rd_T32 l0 t224).f6.f1)) (.string ((rd_T32 l0 t224).f7)) (.string ((rd_T32 l0 t224).f8)))) (ds := []) (c13 BK221 ⟨cS HB hw225_0, cS HB hw225_1, cS HB hw225_2, cS HB hw225_3, cS HB hw225_4, cS HB hw225_5, cS HB hw225_6, cS HB hw225_7, cS HB hw225_8, cS HB hw225_9, cS HB hw225_10, cS HB hw225_11, cS HB hw225_12⟩) (fun hHeld => ?_); refine with_tabW topiaryref07_Why.tab4 topiaryref07_Why.bits4 (fun HT_ HW_ => ?_)
      generalize w12.drew = w17 at BK221 HB HR225_3 hx225_0 hx225_1 hx225_10 hx225_11 hx225_12 hx225_2 hx225_3 hx225_4 hx225_5 hx225_6 hx225_7 hx225_8 hx225_9 hHeld ⊢
      refine pureT (i := 0) (N := some 18) HT_ ?_
      refine pureT (i := 1) (N := some 19) HT_ ?_
      refine pureT (i := 2) (N := some 20) HT_ ?_
      refine pureT (i := 3) (N := some 21) HT_ ?_
      refine pureT (i := 4) (N := some 22) HT_ ?_
      refine pureT (i := 5) (N := some 23) HT_ ?_
      refine takeS (i := 6) (N := some 24) (v := ?_) HT_ HW_ hHeld ?_ ?_
      rotate_left
      ·rintro w' ⟨s0, s1, s2, s3, s4, s5, s6, s7, s8, s9, s10, s11, s12, s13, s14, s15, s16, s17, s18, s19, s20, s21, s22, s23, s24, s25⟩
       go_simp
       with_reducible rfl
      refine normS (N := some 24) ?_
      refine takeS (i := 7) (N := some 25) (v := ?_) HT_ HW_ hHeld ?_ ?_
      rotate_left
      ·rintro w' ⟨s0, s1, s2, s3, s4, s5, s6, s7, s8, s9, s10, s11, s12, s13, s14, s15, s16, s17, s18, s19, s20, s21, s22, s23, s24, s25⟩
       go_simp
       with_reducible rfl
      refine normS (N := some 25) ?_
      refine oneS (i := 8) (N := some 26) HT_ (fun K hK => ?_)
      refine goes_ Try.func45 (by kernel_rfl) rfl #[.agg #[.int .i64 ((rd_T32 l0 t224).f0.f0), .int .i64 ((rd_T32 l0 t224).f0.f1), .int .i64 ((rd_T32 l0 t224).f1), .slice A225_3 ((rd_T32 l0 t224).f2).length c225_3, .int .i64 ((rd_T32 l0 t224).f3), .int .i64 ((rd_T32 l0 t224).f4.f0), .int .i64 ((rd_T32 l0 t224).f4.f1), .int .i64 ((rd_T32 l0 t224).f5.f0), .int .i64 ((rd_T32 l0 t224).f5.f1), .int .i64 ((rd_T32 l0 t224).f6.f0), .int .i64 ((rd_T32 l0 t224).f6.f1), .string ((rd_T32 l0 t224).f7), .string ((rd_T32 l0 t224).f8)], .agg #[.int .i64 a2_0, .int .i64 a2_1, .int .i64 a2_2, .slice A2_3 l2_3.length c2_3, .int .i64 a2_4, .int .i64 a2_5, .int .i64 a2_6, .int .i64 a2_7, .int .i64 a2_8, .int .i64 a2_9, .int .i64 a2_10, .string a2_11, .string a2_12]] (by rfl) rfl rfl argS ?_
      with_reducible refine (topiaryref05_Same.calls k ((rd_T32 l0 t224).f0.f0) ((rd_T32 l0 t224).f0.f1) ((rd_T32 l0 t224).f1) _ _ ((rd_T32 l0 t224).f2) ((rd_T32 l0 t224).f3) ((rd_T32 l0 t224).f4.f0) ((rd_T32 l0 t224).f4.f1) ((rd_T32 l0 t224).f5.f0) ((rd_T32 l0 t224).f5.f1) ((rd_T32 l0 t224).f6.f0) ((rd_T32 l0 t224).f6.f1) ((rd_T32 l0 t224).f7) ((rd_T32 l0 t224).f8) a2_0 a2_1 a2_2 _ _ l2_3 a2_4 a2_5 a2_6 a2_7 a2_8 a2_9 a2_10 a2_11 a2_12 t226 _ ?side1 ?side2 ?side3 ?side4 A16.out).mono ?_
      (case side1 => exact CS (Kd.C_below HR225_3.out HB.out))
      (case side2 => exact HC225_3.out)
      (case side3 => exact CS (Kd.C_below HR2_3.out HB.out))
      (case side4 => exact HC2_3.out)
      rintro e w18 ⟨rfl, hb⟩
      refine ⟨_, rfl, ?_⟩
      replace BK221 := Aside0.mk (blk_below (blkS BK221) hb)
      replace HB := Aside0.mk (below_step (bS1 HB GE221) hb)
      (try clear hb)
      refine hK.out _ _ (c13 BK221 ⟨cS HB hw225_0, cS HB hw225_1, cS HB hw225_2, cS HB hw225_3, cS HB hw225_4, cS HB hw225_5, cS HB hw225_6, cS HB hw225_7, cS HB hw225_8, cS HB hw225_9, cS HB hw225_10, cS HB hw225_11, cS HB hw225_12⟩) (fun hHeld => ?_)
      clear hK K
      refine normS (N := (some 26)) ?_
      refine pureT (i := 9) (N := some 27) HT_ ?_
      refine done_ (done_of HT_.out (by kernel_rfl)) ?_
      try go_wp2
      go_meet
      case rel => exact ⟨_, (t226), (by first | rfl | (simp; done) | (simp [*]; done)), H', ⟨by first | omega | exact Nat.le_refl _⟩, ⟨by (with_reducible repeat (first | refine blk_drewN ?_ _ | refine blk_drew ?_ | refine blk_alloc ?_ _)); exact BK221.out⟩, ⟨bS1 HB GE221⟩⟩
     ·rw [if_neg c15] at H
      exact absurd H (by simp)
    ·rw [if_neg c14] at H
     exact absurd H (by simp)
   ·rw [if_neg c13] at H
    have c13b0 : decide (0 ≤ t224) = false := decide_eq_false c13
    clear c13
    (first | rw [c13b0] | (simp only [i64_w, i32_w]; rw [c13b0]) | skip)
    have H' := Aside0.mk H
    clear H
    try go_wp2
    replace BK221 := Aside0.mk (blk_drew BK221.out)
    replace HB := Aside0.mk (below_drew1 HB.out)
    refine start_ (n := 10) (S := fun w' => True) (ds := []) #[false, false, false, false, false, false, false, false, false, false] (by kernel_rfl) rfl rfl trivial (fun hHeld => ?_); refine with_tabW topiaryref07_Why.tab4 topiaryref07_Why.bits4 (fun HT_ HW_ => ?_)
    generalize w12.drew = w19 at BK221 HB hHeld ⊢
    refine pureT (i := 0) (N := some 18) HT_ ?_
    refine pureT (i := 1) (N := some 19) HT_ ?_
    refine pureT (i := 2) (N := some 20) HT_ ?_
    refine pureV (i := 3) (N := some 21) HT_ ?_
    refine pureV (i := 4) (N := some 22) HT_ ?_
    refine pureV (i := 5) (N := some 23) HT_ ?_
    refine pureV (i := 6) (N := some 24) HT_ ?_
    refine pureV (i := 7) (N := some 25) HT_ ?_
    refine pureV (i := 8) (N := some 26) HT_ ?_
    refine pureT (i := 9) (N := some 27) HT_ ?_
    refine done_ (done_of HT_.out (by kernel_rfl)) ?_
    try go_wp2
    go_meet
    case rel => exact ⟨_, (false), (by first | rfl | (simp; done) | (simp [*]; done)), H', ⟨by first | omega | exact Nat.le_refl _⟩, ⟨by (with_reducible repeat (first | refine blk_drewN ?_ _ | refine blk_drew ?_ | refine blk_alloc ?_ _)); exact BK221.out⟩, ⟨bS1 HB GE221⟩⟩
  case rest =>
   clear HC7
   (try clear c1); (try clear c2); (try clear p2); (try clear q2); (try clear hx2); (try clear c3); (try clear c4); (try clear c5); (try clear c5b0); (try clear c5b1); (try clear c13); (try clear c13b0); (try clear c14); (try clear c14b0); (try clear c15); (try clear c15b0); (try clear hcz11_0 hcz11_1 hcz11_10 hcz11_11 hcz11_12 hcz11_2 hcz11_3 hcz11_4 hcz11_5 hcz11_6 hcz11_7 hcz11_8 hcz11_9); (try clear hcz9_0 hcz9_1 hcz9_10 hcz9_11 hcz9_12 hcz9_2 hcz9_3 hcz9_4 hcz9_5 hcz9_6 hcz9_7 hcz9_8 hcz9_9); (try clear hfz11_0 hfz11_1 hfz11_10 hfz11_11 hfz11_12 hfz11_2 hfz11_3 hfz11_4 hfz11_5 hfz11_6 hfz11_7 hfz11_8 hfz11_9); (try clear hfz9_0 hfz9_1 hfz9_10 hfz9_11 hfz9_12 hfz9_2 hfz9_3 hfz9_4 hfz9_5 hfz9_6 hfz9_7 hfz9_8 hfz9_9); (try clear hx225_0); (try clear hx225_1); (try clear hx225_10); (try clear hx225_11); (try clear hx225_12); (try clear hx225_2); (try clear hx225_3); (try clear hx225_4); (try clear hx225_5); (try clear hx225_6); (try clear hx225_7); (try clear hx225_8); (try clear hx225_9); (try clear p225); (try clear q225)
   obtain ⟨kq, x27_6, rfl, HA, HJ6, BK221, HB⟩ := hcut
   cases kq with
   | zero => exact absurd HA.out (by simp [topiaryref07_Why.j0])
   | succ kj6 =>
    have H := HA.out
    clear HA
    simp only [topiaryref07_Why.j0] at H
    by_cases c20 : x27_6 = true
    ·subst c20
     have H1 : (some 5) = some r := by rw [if_pos rfl] at H; exact H
     clear H
     have H := H1
     clear H1
     obtain rfl := Option.some.inj H
     go_wp2
     go_ret
     exact ⟨by first | rfl | (simp [errW_none, errW_some] <;> rfl) | (simp [*, errW_none, errW_some] <;> rfl), bS1 HB GE221⟩
    ·replace c20 := Bool.eq_false_iff.mpr c20
     subst c20
     have H1 : (if t224 ≥ 0 then (topiaryref07_Why.j1 kj6 l0 a1 true a2_0 a2_1 a2_2 l2_3 a2_4 a2_5 a2_6 a2_7 a2_8 a2_9 a2_10 a2_11 a2_12) else ((topiaryref07_Own.f kj6 l0 a2_1 a2_2).bind fun t227 => (topiaryref07_Why.j1 kj6 l0 a1 (decide (t227 ≥ 0)) a2_0 a2_1 a2_2 l2_3 a2_4 a2_5 a2_6 a2_7 a2_8 a2_9 a2_10 a2_11 a2_12))) = some r := by rw [if_neg (show ¬ (false = true) by decide)] at H; exact H
     clear H
     have H := H1
     clear H1
     have HC21 := Aside0.mk H
     clear H
     go_upto_region 6 with (fail)
     go_cut [39] (fun v39 wc => ∃ (kq : Nat) (x39_20 : Bool), v39 = .bool x39_20 ∧ Aside0 (topiaryref07_Why.j1 kq l0 a1 x39_20 a2_0 a2_1 a2_2 l2_3 a2_4 a2_5 a2_6 a2_7 a2_8 a2_9 a2_10 a2_11 a2_12 = some r) ∧ Aside0 (kq ≤ kj6) ∧ Aside0 (wc.heap[gb221]? = some (.cells #[.int .i64 a2_0, .int .i64 a2_1, .int .i64 a2_2, (.slice A2_3 l2_3.length c2_3), .int .i64 a2_4, .int .i64 a2_5, .int .i64 a2_6, .int .i64 a2_7, .int .i64 a2_8, .int .i64 a2_9, .int .i64 a2_10, .string a2_11, .string a2_12] 32 (0, 0))) ∧ Aside0 (Below w.heap.size w wc))
     case first =>
      have H := HC21.out
      clear HC21
      by_cases c22 : t224 ≥ 0
      ·rw [if_pos c22] at H
       have c22b0 : decide (0 ≤ t224) = true := decide_eq_true c22
       clear c22
       (first | rw [c22b0] | (simp only [i64_w, i32_w]; rw [c22b0]) | skip)
       have H' := Aside0.mk H
       clear H
       go_wp2
       go_meet
       case rel => exact ⟨_, (true), (by first | rfl | (simp; done) | (simp [*]; done)), H', ⟨by have := HJ6.out; first | omega | exact Nat.le_refl _⟩, ⟨by (with_reducible repeat (first | refine blk_drewN ?_ _ | refine blk_drew ?_ | refine blk_alloc ?_ _)); exact BK221.out⟩, ⟨bS1 HB GE221⟩⟩
      ·rw [if_neg c22] at H
       have c22b0 : decide (0 ≤ t224) = false := decide_eq_false c22
       clear c22
       (first | rw [c22b0] | (simp only [i64_w, i32_w]; rw [c22b0]) | skip)
       replace H := Option.bind_eq_some_iff.mp H
       obtain ⟨t227, A230, H⟩ := H
       replace H : (topiaryref07_Why.j1 kj6 l0 a1 (decide (t227 ≥ 0)) a2_0 a2_1 a2_2 l2_3 a2_4 a2_5 a2_6 a2_7 a2_8 a2_9 a2_10 a2_11 a2_12) = some r := H
       have A23 := Aside0.mk A230
       clear A230
       have H' := Aside0.mk H
       clear H
       obtain ⟨hcz24_0, hcz24_1, hcz24_2, hcz24_3, hcz24_4, hcz24_5, hcz24_6, hcz24_7, hcz24_8, hcz24_9, hcz24_10, hcz24_11, hcz24_12⟩ := cells13 BK221.out
       go_wp2_with (first | (go_at_call 51; (try simp only [← List.length_take, ← List.length_drop]); (with_reducible refine (topiaryref07_Own.calls kj6 _ _ l0 a2_1 a2_2 t227 _ ?side1 ?side2 A23.out).mono ?_); (case side1 => exact CS (Kd.C_below HR0.out HB.out)); (case side2 => exact HC0.out); rintro e w' ⟨rfl, ⟨nd, rfl⟩⟩))
       go_meet
       case rel => exact ⟨_, (decide (t227 ≥ 0)), (by first | rfl | (simp; done) | (simp [*]; done)), H', ⟨by have := HJ6.out; first | omega | exact Nat.le_refl _⟩, ⟨by (with_reducible repeat (first | refine blk_drewN ?_ _ | refine blk_drew ?_ | refine blk_alloc ?_ _)); exact BK221.out⟩, ⟨bS1 HB GE221⟩⟩
     case rest =>
      clear HC21
      (try clear c1); (try clear c2); (try clear p2); (try clear p2); (try clear q2); (try clear q2); (try clear hx2); (try clear c3); (try clear c4); (try clear c5); (try clear c5b0); (try clear c5b1); (try clear c13); (try clear c13b0); (try clear c14); (try clear c14b0); (try clear c15); (try clear c15b0); (try clear c20); (try clear c22); (try clear c22b0); (try clear p22); (try clear q22); (try clear hx22); (try clear hcz11_0 hcz11_1 hcz11_10 hcz11_11 hcz11_12 hcz11_2 hcz11_3 hcz11_4 hcz11_5 hcz11_6 hcz11_7 hcz11_8 hcz11_9); (try clear hcz24_0 hcz24_1 hcz24_10 hcz24_11 hcz24_12 hcz24_2 hcz24_3 hcz24_4 hcz24_5 hcz24_6 hcz24_7 hcz24_8 hcz24_9); (try clear hcz9_0 hcz9_1 hcz9_10 hcz9_11 hcz9_12 hcz9_2 hcz9_3 hcz9_4 hcz9_5 hcz9_6 hcz9_7 hcz9_8 hcz9_9); (try clear hfz11_0 hfz11_1 hfz11_10 hfz11_11 hfz11_12 hfz11_2 hfz11_3 hfz11_4 hfz11_5 hfz11_6 hfz11_7 hfz11_8 hfz11_9); (try clear hfz24_0 hfz24_1 hfz24_10 hfz24_11 hfz24_12 hfz24_2 hfz24_3 hfz24_4 hfz24_5 hfz24_6 hfz24_7 hfz24_8 hfz24_9); (try clear hfz9_0 hfz9_1 hfz9_10 hfz9_11 hfz9_12 hfz9_2 hfz9_3 hfz9_4 hfz9_5 hfz9_6 hfz9_7 hfz9_8 hfz9_9); (try clear hx225_0); (try clear hx225_1); (try clear hx225_10); (try clear hx225_11); (try clear hx225_12); (try clear hx225_2); (try clear hx225_3); (try clear hx225_4); (try clear hx225_5); (try clear hx225_6); (try clear hx225_7); (try clear hx225_8); (try clear hx225_9); (try clear p225); (try clear q225)
      obtain ⟨kq, x39_20, rfl, HA, HJ20, BK221, HB⟩ := hcut
      cases kq with
      | zero => exact absurd HA.out (by simp [topiaryref07_Why.j1])
      | succ kj20 =>
       have H := HA.out
       clear HA
       simp only [topiaryref07_Why.j1] at H
       by_cases c25 : x39_20 = true
       ·subst c25
        have H1 : (some 7) = some r := by rw [if_pos rfl] at H; exact H
        clear H
        have H := H1
        clear H1
        obtain rfl := Option.some.inj H
        go_wp2
        go_ret
        exact ⟨by first | rfl | (simp [errW_none, errW_some] <;> rfl) | (simp [*, errW_none, errW_some] <;> rfl), bS1 HB GE221⟩
       ·replace c25 := Bool.eq_false_iff.mpr c25
        subst c25
        have H1 : ((topiaryref07_Clock.f kj20 l0).bind fun t228 => ((topiaryref02_At.f t228 a2_1).bind fun t231 => (if a2_2 = (wrap64 (t231 + 1)) then ((topiaryref02_Under.f kj20 l2_3 t228).bind fun t232 => (topiaryref07_Why.j2 kj20 l0 a1 (!t232) a2_0 a2_1 a2_2 l2_3 a2_4 a2_5 a2_6 a2_7 a2_8 a2_9 a2_10 a2_11 a2_12)) else (topiaryref07_Why.j2 kj20 l0 a1 true a2_0 a2_1 a2_2 l2_3 a2_4 a2_5 a2_6 a2_7 a2_8 a2_9 a2_10 a2_11 a2_12)))) = some r := by rw [if_neg (show ¬ (false = true) by decide)] at H; exact H
        clear H
        have H := H1
        clear H1
        replace H := Option.bind_eq_some_iff.mp H
        obtain ⟨t228, A260, H⟩ := H
        replace H : ((topiaryref02_At.f t228 a2_1).bind fun t231 => (if a2_2 = (wrap64 (t231 + 1)) then ((topiaryref02_Under.f kj20 l2_3 t228).bind fun t232 => (topiaryref07_Why.j2 kj20 l0 a1 (!t232) a2_0 a2_1 a2_2 l2_3 a2_4 a2_5 a2_6 a2_7 a2_8 a2_9 a2_10 a2_11 a2_12)) else (topiaryref07_Why.j2 kj20 l0 a1 true a2_0 a2_1 a2_2 l2_3 a2_4 a2_5 a2_6 a2_7 a2_8 a2_9 a2_10 a2_11 a2_12))) = some r := H
        have A26 := Aside0.mk A260
        clear A260
        have HC27 := Aside0.mk H
        clear H
        go_upto_region 9 with (first | ((with_reducible refine gate_callee (f := 14) rfl ?_); refine goesL_ (some 41) rfl rfl Try.func14 (by kernel_rfl) rfl #[.slice A0 l0.length c0] rfl argS ?_; (with_reducible refine (topiaryref07_Clock.calls kj20 _ _ l0 t228 _ ?side1 ?side2 A26.out).mono ?_); (case side1 => exact CS (Kd.C_below HR0.out HB.out)); (case side2 => exact HC0.out); rintro e w28 ⟨v229, rfl, ho0, hb⟩; refine ⟨_, rfl, ?_⟩; have HO230 := Aside0.mk (Kd.R_lower ho0 (below_size (bS1 HB GE221))); replace BK221 := Aside0.mk (blk_below (blkS BK221) hb); replace HB := Aside0.mk (below_step (bS1 HB GE221) hb); (try clear hb); (try clear ho0)))
        (try simp only [Act.put, List.setIfInBounds_toArray, List.set_cons_zero, List.set_cons_succ])
        go_cut [57] (fun v57 wc => ∃ (kq : Nat) (x57_26 : Bool), v57 = .bool x57_26 ∧ Aside0 (topiaryref07_Why.j2 kq l0 a1 x57_26 a2_0 a2_1 a2_2 l2_3 a2_4 a2_5 a2_6 a2_7 a2_8 a2_9 a2_10 a2_11 a2_12 = some r) ∧ Aside0 (kq ≤ kj20) ∧ Aside0 (wc.heap[gb221]? = some (.cells #[.int .i64 a2_0, .int .i64 a2_1, .int .i64 a2_2, (.slice A2_3 l2_3.length c2_3), .int .i64 a2_4, .int .i64 a2_5, .int .i64 a2_6, .int .i64 a2_7, .int .i64 a2_8, .int .i64 a2_9, .int .i64 a2_10, .string a2_11, .string a2_12] 32 (0, 0))) ∧ Aside0 (Below w.heap.size w wc))
        case first =>
         have H := HC27.out
         clear HC27
         replace H := Option.bind_eq_some_iff.mp H
         obtain ⟨t231, A290, H⟩ := H
         replace H : (if a2_2 = (wrap64 (t231 + 1)) then ((topiaryref02_Under.f kj20 l2_3 t228).bind fun t232 => (topiaryref07_Why.j2 kj20 l0 a1 (!t232) a2_0 a2_1 a2_2 l2_3 a2_4 a2_5 a2_6 a2_7 a2_8 a2_9 a2_10 a2_11 a2_12)) else (topiaryref07_Why.j2 kj20 l0 a1 true a2_0 a2_1 a2_2 l2_3 a2_4 a2_5 a2_6 a2_7 a2_8 a2_9 a2_10 a2_11 a2_12)) = some r := H
         have A29 := Aside0.mk A290
         clear A290
         by_cases c30 : a2_2 = (wrap64 (t231 + 1))
         ·rw [if_pos c30] at H
          have c30b0 : (a2_2 == (wrap64 (t231 + 1))) = true := beq_iff_eq.mpr c30
          have c30b1 : (a2_2 != (wrap64 (t231 + 1))) = false := bne_eq_false_iff_eq.mpr c30
          clear c30
          (first | rw [c30b0] | (simp only [i64_w, i32_w]; rw [c30b0]) | skip)
          replace H := Option.bind_eq_some_iff.mp H
          obtain ⟨t232, A310, H⟩ := H
          replace H : (topiaryref07_Why.j2 kj20 l0 a1 (!t232) a2_0 a2_1 a2_2 l2_3 a2_4 a2_5 a2_6 a2_7 a2_8 a2_9 a2_10 a2_11 a2_12) = some r := H
          have A31 := Aside0.mk A310
          clear A310
          have H' := Aside0.mk H
          clear H
          try go_wp2
          replace HO230 := Aside0.mk (Kd.R_drew HO230.out)
          replace BK221 := Aside0.mk (blk_drew BK221.out)
          replace HB := Aside0.mk (below_drew1 HB.out)
          obtain ⟨Ao33, co33, eo33⟩ := Kd.R_slice HO230.out
          (first | subst eo33 | (injection eo33 with f1_ f2_ f3_; have f4_ := f1_.symm; have f5_ := f3_.symm; clear f1_ f2_ f3_; subst f4_; subst f5_))
          refine startS (n := 16) (S := fun w' => C13e w' gb221 (.int .i64 a2_0) (.int .i64 a2_1) (.int .i64 a2_2) (.slice A2_3 l2_3.length c2_3) (.int .i64 a2_4) (.int .i64 a2_5) (.int .i64 a2_6) (.int .i64 a2_7) (.int .i64 a2_8) (.int .i64 a2_9) (.int .i64 a2_10) (.string a2_11) (.string a2_12)) (ds := []) (c13e BK221) (fun hHeld => ?_); refine with_tabW topiaryref07_Why.tab9 topiaryref07_Why.bits9 (fun HT_ HW_ => ?_)
          generalize w28.drew = w32 at HO230 BK221 HB hHeld ⊢
          refine pureT (i := 0) (N := some 42) HT_ ?_
          refine pureT (i := 2) (N := some 44) HT_ ?_
          refine pureT (i := 3) (N := some 45) HT_ ?_
          refine pureT (i := 4) (N := some 46) HT_ ?_
          refine takeS (i := 1) (N := some 43) (v := ?_) HT_ HW_ hHeld ?_ ?_
          rotate_left
          ·rintro w' ⟨s0, s1, s2, s3, s4, s5, s6, s7, s8, s9, s10, s11, s12⟩
           go_simp
           with_reducible rfl
          refine normS (N := some 43) ?_
          refine takeS (i := 5) (N := some 47) (v := ?_) HT_ HW_ hHeld ?_ ?_
          rotate_left
          ·rintro w' ⟨s0, s1, s2, s3, s4, s5, s6, s7, s8, s9, s10, s11, s12⟩
           go_simp
           with_reducible rfl
          refine normS (N := some 47) ?_
          refine oneS (i := 6) (N := some 48) HT_ (fun K hK => ?_)
          refine goes_ Try.func49 (by kernel_rfl) rfl #[.slice Ao33 t228.length co33, .int .i64 a2_1] (by rfl) rfl rfl argS ?_
          with_reducible refine (topiaryref02_At.calls _ _ t228 a2_1 t231 _ ?side1 ?side2 A29.out).mono ?_
          (case side1 => exact CS (Kd.R_reads' HO230.out).2.2)
          (case side2 => exact (Kd.R_reads' HO230.out).2.1)
          rintro e w' ⟨rfl, ⟨nd, rfl⟩⟩
          refine ⟨_, rfl, ?_⟩
          refine hK.out _ _ (c13e BK221) (fun hHeld => ?_)
          clear hK K
          refine normS (N := (some 48)) ?_
          refine pureT (i := 7) (N := some 49) HT_ ?_
          refine pureT (i := 8) (N := some 50) HT_ ?_
          refine pureT (i := 9) (N := some 51) HT_ ?_
          refine pureT (i := 10) (N := some 52) HT_ ?_
          refine pureT (i := 12) (N := some 54) HT_ ?_
          refine takeS (i := 11) (N := some 53) (v := ?_) HT_ HW_ hHeld ?_ ?_
          rotate_left
          ·rintro w' ⟨s0, s1, s2, s3, s4, s5, s6, s7, s8, s9, s10, s11, s12⟩
           go_simp
           with_reducible rfl
          refine normS (N := some 53) ?_
          refine oneS (i := 13) (N := some 55) HT_ (fun K hK => ?_)
          refine goes_ Try.func58 (by kernel_rfl) rfl #[.slice A2_3 l2_3.length c2_3, .slice Ao33 t228.length co33] (by rfl) rfl rfl argS ?_
          with_reducible refine (topiaryref02_Under.calls kj20 _ _ l2_3 _ _ t228 t232 _ ?side1 ?side2 ?side3 ?side4 A31.out).mono ?_
          (case side1 => exact CS (Kd.C_below HR2_3.out (bS1 HB GE221)))
          (case side2 => exact HC2_3.out)
          (case side3 => exact CS (Kd.R_reads' HO230.out).2.2)
          (case side4 => exact (Kd.R_reads' HO230.out).2.1)
          rintro e w' ⟨rfl, ⟨nd, rfl⟩⟩
          refine ⟨_, rfl, ?_⟩
          refine hK.out _ _ (c13e BK221) (fun hHeld => ?_)
          clear hK K
          refine normS (N := (some 55)) ?_
          refine pureT (i := 14) (N := some 56) HT_ ?_
          refine pureT (i := 15) (N := some 57) HT_ ?_
          refine done_ (done_of HT_.out (by kernel_rfl)) ?_
          try go_wp2
          go_meet
          case rel => exact ⟨_, (!t232), (by first | rfl | (simp; done) | (simp [*]; done)), H', ⟨by have := HJ6.out; have := HJ20.out; first | omega | exact Nat.le_refl _⟩, ⟨by (with_reducible repeat (first | refine blk_drewN ?_ _ | refine blk_drew ?_ | refine blk_alloc ?_ _)); exact BK221.out⟩, ⟨bS1 HB GE221⟩⟩
         ·rw [if_neg c30] at H
          have c30b0 : (a2_2 == (wrap64 (t231 + 1))) = false := beq_eq_false_iff_ne.mpr c30
          have c30b1 : (a2_2 != (wrap64 (t231 + 1))) = true := bne_iff_ne.mpr c30
          (first | rw [c30b0] | (simp only [i64_w, i32_w]; rw [c30b0]) | skip)
          have H' := Aside0.mk H
          clear H
          try go_wp2
          replace HO230 := Aside0.mk (Kd.R_drew HO230.out)
          replace BK221 := Aside0.mk (blk_drew BK221.out)
          replace HB := Aside0.mk (below_drew1 HB.out)
          obtain ⟨Ao35, co35, eo35⟩ := Kd.R_slice HO230.out
          (first | subst eo35 | (injection eo35 with f1_ f2_ f3_; have f4_ := f1_.symm; have f5_ := f3_.symm; clear f1_ f2_ f3_; subst f4_; subst f5_))
          refine startS (n := 16) (S := fun w' => C13e w' gb221 (.int .i64 a2_0) (.int .i64 a2_1) (.int .i64 a2_2) (.slice A2_3 l2_3.length c2_3) (.int .i64 a2_4) (.int .i64 a2_5) (.int .i64 a2_6) (.int .i64 a2_7) (.int .i64 a2_8) (.int .i64 a2_9) (.int .i64 a2_10) (.string a2_11) (.string a2_12)) (ds := []) (c13e BK221) (fun hHeld => ?_); refine with_tabW topiaryref07_Why.tab9 topiaryref07_Why.bits9 (fun HT_ HW_ => ?_)
          generalize w28.drew = w34 at HO230 BK221 HB hHeld ⊢
          refine pureT (i := 0) (N := some 42) HT_ ?_
          refine pureT (i := 2) (N := some 44) HT_ ?_
          refine pureT (i := 3) (N := some 45) HT_ ?_
          refine pureT (i := 4) (N := some 46) HT_ ?_
          refine takeS (i := 1) (N := some 43) (v := ?_) HT_ HW_ hHeld ?_ ?_
          rotate_left
          ·rintro w' ⟨s0, s1, s2, s3, s4, s5, s6, s7, s8, s9, s10, s11, s12⟩
           go_simp
           with_reducible rfl
          refine normS (N := some 43) ?_
          refine takeS (i := 5) (N := some 47) (v := ?_) HT_ HW_ hHeld ?_ ?_
          rotate_left
          ·rintro w' ⟨s0, s1, s2, s3, s4, s5, s6, s7, s8, s9, s10, s11, s12⟩
           go_simp
           with_reducible rfl
          refine normS (N := some 47) ?_
          refine oneS (i := 6) (N := some 48) HT_ (fun K hK => ?_)
          refine goes_ Try.func49 (by kernel_rfl) rfl #[.slice Ao35 t228.length co35, .int .i64 a2_1] (by rfl) rfl rfl argS ?_
          with_reducible refine (topiaryref02_At.calls _ _ t228 a2_1 t231 _ ?side1 ?side2 A29.out).mono ?_
          (case side1 => exact CS (Kd.R_reads' HO230.out).2.2)
          (case side2 => exact (Kd.R_reads' HO230.out).2.1)
          rintro e w' ⟨rfl, ⟨nd, rfl⟩⟩
          refine ⟨_, rfl, ?_⟩
          refine hK.out _ _ (c13e BK221) (fun hHeld => ?_)
          clear hK K
          refine normS (N := (some 48)) ?_
          refine pureT (i := 7) (N := some 49) HT_ ?_
          refine pureT (i := 8) (N := some 50) HT_ ?_
          refine pureT (i := 9) (N := some 51) HT_ ?_
          refine pureV (i := 10) (N := some 52) HT_ ?_
          refine pureV (i := 11) (N := some 53) HT_ ?_
          refine pureV (i := 12) (N := some 54) HT_ ?_
          refine pureV (i := 13) (N := some 55) HT_ ?_
          refine pureV (i := 14) (N := some 56) HT_ ?_
          refine pureT (i := 15) (N := some 57) HT_ ?_
          refine done_ (done_of HT_.out (by kernel_rfl)) ?_
          try go_wp2
          go_meet
          case rel => exact ⟨_, (true), (by first | rfl | (simp; done) | (simp [*]; done)), H', ⟨by have := HJ6.out; have := HJ20.out; first | omega | exact Nat.le_refl _⟩, ⟨by (with_reducible repeat (first | refine blk_drewN ?_ _ | refine blk_drew ?_ | refine blk_alloc ?_ _)); exact BK221.out⟩, ⟨bS1 HB GE221⟩⟩
        case rest =>
         clear HC27
         (try clear c1); (try clear c2); (try clear p2); (try clear p2); (try clear q2); (try clear q2); (try clear hx2); (try clear c3); (try clear c4); (try clear c5); (try clear c5b0); (try clear c5b1); (try clear p6); (try clear c13); (try clear c13b0); (try clear c14); (try clear c14b0); (try clear c15); (try clear c15b0); (try clear c20); (try clear c22); (try clear c22b0); (try clear p22); (try clear p22); (try clear q22); (try clear q22); (try clear hx22); (try clear c25); (try clear c30); (try clear c30b0); (try clear c30b1); (try clear hcz11_0 hcz11_1 hcz11_10 hcz11_11 hcz11_12 hcz11_2 hcz11_3 hcz11_4 hcz11_5 hcz11_6 hcz11_7 hcz11_8 hcz11_9); (try clear hcz24_0 hcz24_1 hcz24_10 hcz24_11 hcz24_12 hcz24_2 hcz24_3 hcz24_4 hcz24_5 hcz24_6 hcz24_7 hcz24_8 hcz24_9); (try clear hcz9_0 hcz9_1 hcz9_10 hcz9_11 hcz9_12 hcz9_2 hcz9_3 hcz9_4 hcz9_5 hcz9_6 hcz9_7 hcz9_8 hcz9_9); (try clear hfz11_0 hfz11_1 hfz11_10 hfz11_11 hfz11_12 hfz11_2 hfz11_3 hfz11_4 hfz11_5 hfz11_6 hfz11_7 hfz11_8 hfz11_9); (try clear hfz24_0 hfz24_1 hfz24_10 hfz24_11 hfz24_12 hfz24_2 hfz24_3 hfz24_4 hfz24_5 hfz24_6 hfz24_7 hfz24_8 hfz24_9); (try clear hfz9_0 hfz9_1 hfz9_10 hfz9_11 hfz9_12 hfz9_2 hfz9_3 hfz9_4 hfz9_5 hfz9_6 hfz9_7 hfz9_8 hfz9_9); (try clear hx225_0); (try clear hx225_1); (try clear hx225_10); (try clear hx225_11); (try clear hx225_12); (try clear hx225_2); (try clear hx225_3); (try clear hx225_4); (try clear hx225_5); (try clear hx225_6); (try clear hx225_7); (try clear hx225_8); (try clear hx225_9); (try clear p225); (try clear q225)
         obtain ⟨kq, x57_26, rfl, HA, HJ26, BK221, HB⟩ := hcut
         cases kq with
         | zero => exact absurd HA.out (by simp [topiaryref07_Why.j2])
         | succ kj26 =>
          have H := HA.out
          clear HA
          simp only [topiaryref07_Why.j2] at H
          by_cases c36 : x57_26 = true
          ·subst c36
           have H1 : (some 4) = some r := by rw [if_pos rfl] at H; exact H
           clear H
           have H := H1
           clear H1
           obtain rfl := Option.some.inj H
           go_wp2
           go_ret
           exact ⟨by first | rfl | (simp [errW_none, errW_some] <;> rfl) | (simp [*, errW_none, errW_some] <;> rfl), bS1 HB GE221⟩
          ·replace c36 := Bool.eq_false_iff.mpr c36
           subst c36
           have H1 : ((topiaryref07_behind.f kj26 l0 a2_0 a2_1 a2_2 l2_3 a2_4 a2_5 a2_6 a2_7 a2_8 a2_9 a2_10 a2_11 a2_12).bind fun t233 => (if t233 = true then (if (l0.length : Int) ≥ a1 then (some 6) else (some 0)) else (some 2))) = some r := by rw [if_neg (show ¬ (false = true) by decide)] at H; exact H
           clear H
           have H := H1
           clear H1
           replace H := Option.bind_eq_some_iff.mp H
           obtain ⟨t233, A370, H⟩ := H
           replace H : (if t233 = true then (if (l0.length : Int) ≥ a1 then (some 6) else (some 0)) else (some 2)) = some r := H
           have A37 := Aside0.mk A370
           clear A370
           by_cases c38 : t233 = true
           ·subst c38
            have H1 : (if (l0.length : Int) ≥ a1 then (some 6) else (some 0)) = some r := by rw [if_pos rfl] at H; exact H
            clear H
            have H := H1
            clear H1
            by_cases c39 : (l0.length : Int) ≥ a1
            ·rw [if_pos c39] at H
             have c39b0 : decide (a1 ≤ (l0.length : Int)) = true := decide_eq_true c39
             clear c39
             obtain rfl := Option.some.inj H
             obtain ⟨hcz40_0, hcz40_1, hcz40_2, hcz40_3, hcz40_4, hcz40_5, hcz40_6, hcz40_7, hcz40_8, hcz40_9, hcz40_10, hcz40_11, hcz40_12⟩ := cells13 BK221.out
             go_wp2_with (first | ((with_reducible refine gate_callee (f := 59) rfl ?_); refine goesL_ (some 60) rfl rfl Try.func59 (by kernel_rfl) rfl #[.slice A0 l0.length c0, .agg #[.int .i64 a2_0, .int .i64 a2_1, .int .i64 a2_2, .slice A2_3 l2_3.length c2_3, .int .i64 a2_4, .int .i64 a2_5, .int .i64 a2_6, .int .i64 a2_7, .int .i64 a2_8, .int .i64 a2_9, .int .i64 a2_10, .string a2_11, .string a2_12]] rfl argS ?_; (with_reducible refine (topiaryref07_behind.calls kj26 _ _ l0 a2_0 a2_1 a2_2 _ _ l2_3 a2_4 a2_5 a2_6 a2_7 a2_8 a2_9 a2_10 a2_11 a2_12 true _ ?side1 ?side2 ?side3 ?side4 A37.out).mono ?_); (case side1 => exact CS (Kd.C_below HR0.out HB.out)); (case side2 => exact HC0.out); (case side3 => exact CS (Kd.C_below HR2_3.out HB.out)); (case side4 => exact HC2_3.out); rintro e w41 ⟨rfl, hb⟩; refine ⟨_, rfl, ?_⟩; replace BK221 := Aside0.mk (blk_below (blkS BK221) hb); replace HB := Aside0.mk (below_step (bS1 HB GE221) hb); (try clear hb)))
             go_ret
             exact ⟨by first | rfl | (simp [errW_none, errW_some] <;> rfl) | (simp [*, errW_none, errW_some] <;> rfl), bS1 HB GE221⟩
            ·rw [if_neg c39] at H
             have c39b0 : decide (a1 ≤ (l0.length : Int)) = false := decide_eq_false c39
             clear c39
             obtain rfl := Option.some.inj H
             obtain ⟨hcz42_0, hcz42_1, hcz42_2, hcz42_3, hcz42_4, hcz42_5, hcz42_6, hcz42_7, hcz42_8, hcz42_9, hcz42_10, hcz42_11, hcz42_12⟩ := cells13 BK221.out
             go_wp2_with (first | ((with_reducible refine gate_callee (f := 59) rfl ?_); refine goesL_ (some 60) rfl rfl Try.func59 (by kernel_rfl) rfl #[.slice A0 l0.length c0, .agg #[.int .i64 a2_0, .int .i64 a2_1, .int .i64 a2_2, .slice A2_3 l2_3.length c2_3, .int .i64 a2_4, .int .i64 a2_5, .int .i64 a2_6, .int .i64 a2_7, .int .i64 a2_8, .int .i64 a2_9, .int .i64 a2_10, .string a2_11, .string a2_12]] rfl argS ?_; (with_reducible refine (topiaryref07_behind.calls kj26 _ _ l0 a2_0 a2_1 a2_2 _ _ l2_3 a2_4 a2_5 a2_6 a2_7 a2_8 a2_9 a2_10 a2_11 a2_12 true _ ?side1 ?side2 ?side3 ?side4 A37.out).mono ?_); (case side1 => exact CS (Kd.C_below HR0.out HB.out)); (case side2 => exact HC0.out); (case side3 => exact CS (Kd.C_below HR2_3.out HB.out)); (case side4 => exact HC2_3.out); rintro e w43 ⟨rfl, hb⟩; refine ⟨_, rfl, ?_⟩; replace BK221 := Aside0.mk (blk_below (blkS BK221) hb); replace HB := Aside0.mk (below_step (bS1 HB GE221) hb); (try clear hb)))
             go_ret
             exact ⟨by first | rfl | (simp [errW_none, errW_some] <;> rfl) | (simp [*, errW_none, errW_some] <;> rfl), bS1 HB GE221⟩
           ·replace c38 := Bool.eq_false_iff.mpr c38
            subst c38
            have H1 : (some 2) = some r := by rw [if_neg (show ¬ (false = true) by decide)] at H; exact H
            clear H
            have H := H1
            clear H1
            obtain rfl := Option.some.inj H
            obtain ⟨hcz44_0, hcz44_1, hcz44_2, hcz44_3, hcz44_4, hcz44_5, hcz44_6, hcz44_7, hcz44_8, hcz44_9, hcz44_10, hcz44_11, hcz44_12⟩ := cells13 BK221.out
            go_wp2_with (first | ((with_reducible refine gate_callee (f := 59) rfl ?_); refine goesL_ (some 60) rfl rfl Try.func59 (by kernel_rfl) rfl #[.slice A0 l0.length c0, .agg #[.int .i64 a2_0, .int .i64 a2_1, .int .i64 a2_2, .slice A2_3 l2_3.length c2_3, .int .i64 a2_4, .int .i64 a2_5, .int .i64 a2_6, .int .i64 a2_7, .int .i64 a2_8, .int .i64 a2_9, .int .i64 a2_10, .string a2_11, .string a2_12]] rfl argS ?_; (with_reducible refine (topiaryref07_behind.calls kj26 _ _ l0 a2_0 a2_1 a2_2 _ _ l2_3 a2_4 a2_5 a2_6 a2_7 a2_8 a2_9 a2_10 a2_11 a2_12 false _ ?side1 ?side2 ?side3 ?side4 A37.out).mono ?_); (case side1 => exact CS (Kd.C_below HR0.out HB.out)); (case side2 => exact HC0.out); (case side3 => exact CS (Kd.C_below HR2_3.out HB.out)); (case side4 => exact HC2_3.out); rintro e w45 ⟨rfl, hb⟩; refine ⟨_, rfl, ?_⟩; replace BK221 := Aside0.mk (blk_below (blkS BK221) hb); replace HB := Aside0.mk (below_step (bS1 HB GE221) hb); (try clear hb)))
            go_ret
            exact ⟨by first | rfl | (simp [errW_none, errW_some] <;> rfl) | (simp [*, errW_none, errW_some] <;> rfl), bS1 HB GE221⟩
 ·rw [if_neg c5] at H
  have c5b0 : (t222 == 0) = false := beq_eq_false_iff_ne.mpr c5
  have c5b1 : (t222 != 0) = true := bne_iff_ne.mpr c5
  replace H := Option.bind_eq_some_iff.mp H
  obtain ⟨t223, A460, H⟩ := H
  replace H : (some t223) = some r := H
  have A46 := Aside0.mk A460
  clear A460
  obtain rfl := Option.some.inj H
  go_enter Try.func31, Try.ntmps31
  go_wp2_with (first | ((with_reducible refine gate_dst (N := 5) rfl ?_); refine boxE (N := 5) (cs := #[.int .i64 a2_0, .int .i64 a2_1, .int .i64 a2_2, .slice A2_3 l2_3.length c2_3, .int .i64 a2_4, .int .i64 a2_5, .int .i64 a2_6, .int .i64 a2_7, .int .i64 a2_8, .int .i64 a2_9, .int .i64 a2_10, .string a2_11, .string a2_12]) (t := 32) ?_; intro gb221 hg w47 hbox hb; have BK221 := Aside0.mk (hbox); have GW221 := Aside0.mk ((by rw [hg]; exact (below_size (bS HB)) : w.heap.size ≤ gb221)); have GE221 := Aside0.mk ((by rw [hg]; exact (below_size (bS HB)) : w.heap.size ≤ gb221)); replace HB := Aside0.mk (below_step (bS HB) hb); clear hb hbox hg; obtain ⟨hcz48_0, hcz48_1, hcz48_2, hcz48_3, hcz48_4, hcz48_5, hcz48_6, hcz48_7, hcz48_8, hcz48_9, hcz48_10, hcz48_11, hcz48_12⟩ := cells13 BK221.out) | ((with_reducible refine gate_callee (f := 47) rfl ?_); refine goesL_ (some 10) rfl rfl Try.func47 (by kernel_rfl) rfl #[.agg #[.int .i64 a2_0, .int .i64 a2_1, .int .i64 a2_2, .slice A2_3 l2_3.length c2_3, .int .i64 a2_4, .int .i64 a2_5, .int .i64 a2_6, .int .i64 a2_7, .int .i64 a2_8, .int .i64 a2_9, .int .i64 a2_10, .string a2_11, .string a2_12]] rfl argS ?_; (with_reducible refine (check05_k HSK.out HKK.out a2_0 a2_1 a2_2 _ _ l2_3 a2_4 a2_5 a2_6 a2_7 a2_8 a2_9 a2_10 t222 _ ?side1 ?side2 A4.out).mono ?_); (case side1 => exact CS (Kd.C_below HR2_3.out HB.out)); (case side2 => exact HC2_3.out); rintro e w49 ⟨rfl, hb⟩; refine ⟨_, rfl, ?_⟩; replace BK221 := Aside0.mk (blk_below (blkS BK221) hb); replace HB := Aside0.mk (below_step (bS1 HB GE221) hb); (try clear hb); obtain ⟨hcz50_0, hcz50_1, hcz50_2, hcz50_3, hcz50_4, hcz50_5, hcz50_6, hcz50_7, hcz50_8, hcz50_9, hcz50_10, hcz50_11, hcz50_12⟩ := cells13 BK221.out) | ((with_reducible refine gate_callee (f := 47) rfl ?_); refine goesL_ (some 13) rfl rfl Try.func47 (by kernel_rfl) rfl #[.agg #[.int .i64 a2_0, .int .i64 a2_1, .int .i64 a2_2, .slice A2_3 l2_3.length c2_3, .int .i64 a2_4, .int .i64 a2_5, .int .i64 a2_6, .int .i64 a2_7, .int .i64 a2_8, .int .i64 a2_9, .int .i64 a2_10, .string a2_11, .string a2_12]] rfl argS ?_; (with_reducible refine (check05_k HSK.out HKK.out a2_0 a2_1 a2_2 _ _ l2_3 a2_4 a2_5 a2_6 a2_7 a2_8 a2_9 a2_10 t223 _ ?side1 ?side2 A46.out).mono ?_); (case side1 => exact CS (Kd.C_below HR2_3.out HB.out)); (case side2 => exact HC2_3.out); rintro e w51 ⟨rfl, hb⟩; refine ⟨_, rfl, ?_⟩; replace BK221 := Aside0.mk (blk_below (blkS BK221) hb); replace HB := Aside0.mk (below_step (bS1 HB GE221) hb); (try clear hb)))
  go_ret
  exact ⟨by first | rfl | (simp [errW_none, errW_some] <;> rfl) | (simp [*, errW_none, errW_some] <;> rfl), bS1 HB GE221⟩
def topiaryref07_Add.f (k : Nat) (a0_0 : Int) (l0_1 : List (S32)) (a1_0 : Int) (a1_1 : Int) (a1_2 : Int) (l1_3 : List Int) (a1_4 : Int) (a1_5 : Int) (a1_6 : Int) (a1_7 : Int) (a1_8 : Int) (a1_9 : Int) (a1_10 : Int) (a1_11 : ByteArray) (a1_12 : ByteArray) : Option (Int × (List (S32)) × Int) := (topiaryref07_Why.f k l0_1 a0_0 a1_0 a1_1 a1_2 l1_3 a1_4 a1_5 a1_6 a1_7 a1_8 a1_9 a1_10 a1_11 a1_12).bind fun t299 => (if t299 = 0 then ((topiaryref07_Put.f k l0_1 a1_0 a1_1 a1_2 l1_3 a1_4 a1_5 a1_6 a1_7 a1_8 a1_9 a1_10 a1_11 a1_12).bind fun t300 => (some (a0_0, t300, 0))) else (some (a0_0, l0_1, t299)))
def topiaryref07_Add.T4 : Bool × List (List Nat × List Nat) := (true, [([], []), ([0], [0]), ([], []), ([2], [2]), ([], []), ([3, 4], [3, 4]), ([1, 5], [1, 5]), ([6, 5, 0, 1, 2, 3, 4, 5, 6], [6]), ([7, 0, 1, 2, 3, 4, 5, 6, 7], [])])
def topiaryref07_Add.B4 : List Nat := [0, 1, 0, 4, 0, 28, 63, 127, 255]
theorem topiaryref07_Add.tab4 : rtab .any (opsOf Try.f10 4) = topiaryref07_Add.T4 := by kernel_rfl
theorem topiaryref07_Add.bits4 : waitsOk topiaryref07_Add.T4.2 topiaryref07_Add.B4 = true := by kernel_rfl
set_option maxHeartbeats 8000000 in
set_option maxRecDepth 100000 in
theorem topiaryref07_Add.calls (k : Nat) (a0_0 : Int) (P0_1_ : Nat → Prop) (A0_1 : Option Addr) (c0_1 : Nat) (l0_1 : List (S32)) (a1_0 : Int) (a1_1 : Int) (a1_2 : Int) (A1_3 : Option Addr) (c1_3 : Nat) (l1_3 : List Int) (a1_4 : Int) (a1_5 : Int) (a1_6 : Int) (a1_7 : Int) (a1_8 : Int) (a1_9 : Int) (a1_10 : Int) (a1_11 : ByteArray) (a1_12 : ByteArray) (r1 : Int) (r2 : List (S32)) (r3 : Int) (w : World) (hs0_1 : Kd.V k32 32 w w.heap.size (fun k_ => P0_1_ k_) (.slice A0_1 l0_1.length c0_1) l0_1) (hr1_3 : Kd.C (Kd.int .i64) w A1_3 l1_3.length l1_3) (hc1_3 : l1_3.length ≤ c1_3) (hs_ : a1_11.size < 4611686018427387904) (hk_ : a1_11.size + 310 < k) (h : topiaryref07_Add.f k a0_0 l0_1 a1_0 a1_1 a1_2 l1_3 a1_4 a1_5 a1_6 a1_7 a1_8 a1_9 a1_10 a1_11 a1_12 = some (r1, r2, r3)) :
  Calls Try.prog 10 #[.agg #[.int .i64 a0_0, .slice A0_1 l0_1.length c0_1], .agg #[.int .i64 a1_0, .int .i64 a1_1, .int .i64 a1_2, .slice A1_3 l1_3.length c1_3, .int .i64 a1_4, .int .i64 a1_5, .int .i64 a1_6, .int .i64 a1_7, .int .i64 a1_8, .int .i64 a1_9, .int .i64 a1_10, .string a1_11, .string a1_12]] w fun e w' => ∃ v1_ : Value, e = .returned (.tuple #[.agg #[.int .i64 r1, v1_], .int .i64 r3]) ∧ Kd.V k32 32 w' w.heap.size (fun k_ => (P0_1_ k_ ∨ w.heap.size ≤ k_)) v1_ r2 ∧ Below w.heap.size w w' := by
 have HSK := Aside0.mk hs_
 have HKK := Aside0.mk hk_
 clear hs_ hk_
 have hu25 := Try.underlying25
 have hu32 := Try.underlying32
 have HO0_1 := Aside0.mk (show Kd.V k32 32 w w.heap.size (fun k_ => (P0_1_ k_ ∨ w.heap.size ≤ k_)) (.slice A0_1 l0_1.length c0_1) l0_1 from Kd.V_mono hs0_1 (fun k_ hk => .inl hk))
 have HR1_3 := Aside0.mk hr1_3
 have HC1_3 := Aside0.mk hc1_3
 clear hr1_3 hc1_3
 have HB := Aside0.mk (Below.refl w.heap.size w)
 have H : ((topiaryref07_Why.f k l0_1 a0_0 a1_0 a1_1 a1_2 l1_3 a1_4 a1_5 a1_6 a1_7 a1_8 a1_9 a1_10 a1_11 a1_12).bind fun t299 => (if t299 = 0 then ((topiaryref07_Put.f k l0_1 a1_0 a1_1 a1_2 l1_3 a1_4 a1_5 a1_6 a1_7 a1_8 a1_9 a1_10 a1_11 a1_12).bind fun t300 => (some (a0_0, t300, 0))) else (some (a0_0, l0_1, t299)))) = some (r1, r2, r3) := h
 clear h
 replace H := Option.bind_eq_some_iff.mp H
 obtain ⟨t299, A30, H⟩ := H
 replace H : (if t299 = 0 then ((topiaryref07_Put.f k l0_1 a1_0 a1_1 a1_2 l1_3 a1_4 a1_5 a1_6 a1_7 a1_8 a1_9 a1_10 a1_11 a1_12).bind fun t300 => (some (a0_0, t300, 0))) else (some (a0_0, l0_1, t299))) = some (r1, r2, r3) := H
 have A3 := Aside0.mk A30
 clear A30
 by_cases c4 : t299 = 0
 ·rw [if_pos c4] at H
  have c4b0 : (t299 == 0) = true := beq_iff_eq.mpr c4
  have c4b1 : (t299 != 0) = false := bne_eq_false_iff_eq.mpr c4
  clear c4
  replace H := Option.bind_eq_some_iff.mp H
  obtain ⟨t300, A50, H⟩ := H
  replace H : (some (a0_0, t300, 0)) = some (r1, r2, r3) := H
  have A5 := Aside0.mk A50
  clear A50
  simp only [Option.some.injEq, Prod.mk.injEq] at H
  obtain ⟨rfl, rfl, rfl⟩ := H
  go_enter Try.func10, Try.ntmps10
  try go_wp2_with (first | ((with_reducible refine gate_dst (N := 2) rfl ?_); refine boxE (N := 2) (cs := #[.int .i64 a0_0, .slice A0_1 l0_1.length c0_1]) (t := 25) ?_; intro gb296 hg w6 hbox hb; have BK296 := Aside0.mk (hbox); have GW296 := Aside0.mk ((by rw [hg]; exact (below_size (bS HB)) : w.heap.size ≤ gb296)); have GE296 := Aside0.mk ((by rw [hg]; exact (below_size (bS HB)) : w.heap.size ≤ gb296)); replace HO0_1 := Aside0.mk (Kd.V_below (Kd.V_elderB (VS HO0_1) gb296 (Nat.le_of_eq hg.symm)) hb); replace HB := Aside0.mk (below_step (bS HB) hb); clear hb hbox hg) | ((with_reducible refine gate_dst (N := 3) rfl ?_); refine boxE (N := 3) (cs := #[.int .i64 a1_0, .int .i64 a1_1, .int .i64 a1_2, .slice A1_3 l1_3.length c1_3, .int .i64 a1_4, .int .i64 a1_5, .int .i64 a1_6, .int .i64 a1_7, .int .i64 a1_8, .int .i64 a1_9, .int .i64 a1_10, .string a1_11, .string a1_12]) (t := 32) ?_; intro gb297 hg w7 hbox hb; have BK297 := Aside0.mk (hbox); have GW297 := Aside0.mk ((by rw [hg]; exact (below_size (bS1 HB GE296)) : w.heap.size ≤ gb297)); have GE297 := Aside0.mk ((by rw [hg]; exact (below_size (bS1 HB GE296)) : w.heap.size ≤ gb297)); have NB296_297 := Aside0.mk ((by rw [hg]; exact Nat.ne_of_lt (blk_lt (blkS BK296)) : gb296 ≠ gb297)); have NB297_296 := Aside0.mk ((by rw [hg]; exact Nat.ne_of_gt (blk_lt (blkS BK296)) : gb297 ≠ gb296)); replace HO0_1 := Aside0.mk (Kd.V_below (Kd.V_elderB (VS HO0_1) gb297 (Nat.le_of_eq hg.symm)) hb); replace BK296 := Aside0.mk (blk_below (blkS BK296) hb); replace HB := Aside0.mk (below_step (bS1 HB GE296) hb); clear hb hbox hg) | ((with_reducible refine gate_dst (N := 4) rfl ?_); refine boxE (N := 4) (cs := #[.int .i64 0, .slice none 0 0]) (t := 25) ?_; intro gb298 hg w8 hbox hb; have BK298 := Aside0.mk (hbox); have GW298 := Aside0.mk ((by rw [hg]; exact (below_size (bS2 HB GE296 GE297)) : w.heap.size ≤ gb298)); have GE298 := Aside0.mk ((by rw [hg]; exact (below_size (bS2 HB GE296 GE297)) : w.heap.size ≤ gb298)); have NB296_298 := Aside0.mk ((by rw [hg]; exact Nat.ne_of_lt (blk_lt (blkS BK296)) : gb296 ≠ gb298)); have NB298_296 := Aside0.mk ((by rw [hg]; exact Nat.ne_of_gt (blk_lt (blkS BK296)) : gb298 ≠ gb296)); have NB297_298 := Aside0.mk ((by rw [hg]; exact Nat.ne_of_lt (blk_lt (blkS BK297)) : gb297 ≠ gb298)); have NB298_297 := Aside0.mk ((by rw [hg]; exact Nat.ne_of_gt (blk_lt (blkS BK297)) : gb298 ≠ gb297)); replace HO0_1 := Aside0.mk (Kd.V_below (Kd.V_elderB (VS HO0_1) gb298 (Nat.le_of_eq hg.symm)) hb); replace BK296 := Aside0.mk (blk_below (blkS BK296) hb); replace BK297 := Aside0.mk (blk_below (blkS BK297) hb); replace HB := Aside0.mk (below_step (bS2 HB GE296 GE297) hb); clear hb hbox hg; have hnb9 := NB296_297.out; have hnc9 := NB297_296.out; have hnb10 := NB296_298.out; have hnc10 := NB298_296.out; have hcz11_0 : w8.cell? ⟨gb296, 0, none⟩ = some (.int .i64 a0_0) := (blk_cell BK296.out 0).trans rfl; have hcz11_1 : w8.cell? ⟨gb296, 1, none⟩ = some (.slice A0_1 l0_1.length c0_1) := (blk_cell BK296.out 1).trans rfl; have hfz11_0 := blk_frozen BK296.out 0; have hfz11_1 := blk_frozen BK296.out 1; have hnb12 := NB297_298.out; have hnc12 := NB298_297.out; obtain ⟨hcz13_0, hcz13_1, hcz13_2, hcz13_3, hcz13_4, hcz13_5, hcz13_6, hcz13_7, hcz13_8, hcz13_9, hcz13_10, hcz13_11, hcz13_12⟩ := cells13 BK297.out) | ((with_reducible refine gate_callee (f := 31) rfl ?_); refine goesL_ (some 12) rfl rfl Try.func31 (by kernel_rfl) rfl #[.slice A0_1 l0_1.length c0_1, .int .i64 a0_0, .agg #[.int .i64 a1_0, .int .i64 a1_1, .int .i64 a1_2, .slice A1_3 l1_3.length c1_3, .int .i64 a1_4, .int .i64 a1_5, .int .i64 a1_6, .int .i64 a1_7, .int .i64 a1_8, .int .i64 a1_9, .int .i64 a1_10, .string a1_11, .string a1_12]] rfl argS ?_; (with_reducible refine (topiaryref07_Why.calls k _ _ l0_1 a0_0 a1_0 a1_1 a1_2 _ _ l1_3 a1_4 a1_5 a1_6 a1_7 a1_8 a1_9 a1_10 a1_11 a1_12 t299 _ ?side1 ?side2 ?side3 ?side4 HSK.out HKK.out A3.out).mono ?_); (case side1 => exact CS (Kd.V_reads' HO0_1.out).2.2); (case side2 => exact (Kd.V_reads' HO0_1.out).2.1); (case side3 => exact CS (Kd.C_below HR1_3.out HB.out)); (case side4 => exact HC1_3.out); rintro e w14 ⟨rfl, hb⟩; refine ⟨_, rfl, ?_⟩; replace HO0_1 := Aside0.mk (Kd.V_below (VS HO0_1) hb); replace BK296 := Aside0.mk (blk_below (blkS BK296) hb); replace BK297 := Aside0.mk (blk_below (blkS BK297) hb); replace BK298 := Aside0.mk (blk_below (blkS BK298) hb); replace HB := Aside0.mk (below_step (bS3 HB GE296 GE297 GE298) hb); (try clear hb)))
  replace HO0_1 := Aside0.mk (Kd.V_drew HO0_1.out)
  replace BK296 := Aside0.mk (blk_drew BK296.out)
  replace BK297 := Aside0.mk (blk_drew BK297.out)
  replace BK298 := Aside0.mk (blk_drew BK298.out)
  replace HB := Aside0.mk (below_drew1 HB.out)
  refine startS (n := 9) (S := fun w' => w'.cell? ⟨gb296, 0, none⟩ = some (.int .i64 a0_0) ∧ w'.cell? ⟨gb296, 1, none⟩ = some (.slice A0_1 l0_1.length c0_1) ∧ C13e w' gb297 (.int .i64 a1_0) (.int .i64 a1_1) (.int .i64 a1_2) (.slice A1_3 l1_3.length c1_3) (.int .i64 a1_4) (.int .i64 a1_5) (.int .i64 a1_6) (.int .i64 a1_7) (.int .i64 a1_8) (.int .i64 a1_9) (.int .i64 a1_10) (.string a1_11) (.string a1_12)) (ds := []) ⟨(blk_cell BK296.out 0).trans rfl, (blk_cell BK296.out 1).trans rfl, c13e BK297⟩ (fun hHeld => ?_); refine with_tabW topiaryref07_Add.tab4 topiaryref07_Add.bits4 (fun HT_ HW_ => ?_)
  generalize w14.drew = w15 at HO0_1 BK296 BK297 BK298 HB hHeld ⊢
  refine pureT (i := 0) (N := some 17) HT_ ?_
  refine pureT (i := 2) (N := some 19) HT_ ?_
  refine takeS (i := 1) (N := some 18) (v := ?_) HT_ HW_ hHeld ?_ ?_
  rotate_left
  ·rintro w' ⟨s0, s1, s2, s3, s4, s5, s6, s7, s8, s9, s10, s11, s12, s13, s14⟩
   go_simp
   with_reducible rfl
  refine normS (N := some 18) ?_
  refine takeS (i := 3) (N := some 20) (v := ?_) HT_ HW_ hHeld ?_ ?_
  rotate_left
  ·rintro w' ⟨s0, s1, s2, s3, s4, s5, s6, s7, s8, s9, s10, s11, s12, s13, s14⟩
   go_simp
   with_reducible rfl
  refine normS (N := some 20) ?_
  refine takeS (i := 4) (N := some 21) (v := ?_) HT_ HW_ hHeld ?_ ?_
  rotate_left
  ·rintro w' ⟨s0, s1, s2, s3, s4, s5, s6, s7, s8, s9, s10, s11, s12, s13, s14⟩
   go_simp
   with_reducible rfl
  refine normS (N := some 21) ?_
  refine oneS (i := 5) (N := some 22) HT_ (fun K hK => ?_)
  refine goes_ Try.func32 (by kernel_rfl) rfl #[.slice A0_1 l0_1.length c0_1, .agg #[.int .i64 a1_0, .int .i64 a1_1, .int .i64 a1_2, .slice A1_3 l1_3.length c1_3, .int .i64 a1_4, .int .i64 a1_5, .int .i64 a1_6, .int .i64 a1_7, .int .i64 a1_8, .int .i64 a1_9, .int .i64 a1_10, .string a1_11, .string a1_12]] (by rfl) rfl rfl argS ?_
  with_reducible refine (topiaryref07_Put.calls k (fun k_ => ((((P0_1_ k_ ∨ w.heap.size ≤ k_) ∧ k_ ≠ gb296) ∧ k_ ≠ gb297) ∧ k_ ≠ gb298)) _ _ l0_1 a1_0 a1_1 a1_2 _ _ l1_3 a1_4 a1_5 a1_6 a1_7 a1_8 a1_9 a1_10 a1_11 a1_12 t300 _ ?side1 ?side2 ?side3 A5.out).mono ?_
  (case side1 => exact HO0_1.out)
  (case side2 => exact CS (Kd.C_below HR1_3.out HB.out))
  (case side3 => exact HC1_3.out)
  rintro e w16 ⟨v301, rfl, ho0, hb⟩
  refine ⟨_, rfl, ?_⟩
  have HO302 := Aside0.mk (Kd.N_lower (Kd.N_mono (ok' := fun k_ => (P0_1_ k_ ∨ w.heap.size ≤ k_) ∧ k_ ≠ gb296 ∧ k_ ≠ gb297 ∧ k_ ≠ gb298) ho0 (fun k_ hk_ => ⟨Or.elim hk_ (fun hs_ => hs_.1.1.1) (fun hn_ => (.inr (Nat.le_trans (below_size (bS3 HB GE296 GE297 GE298)) hn_))), Or.elim hk_ (fun hs_ => hs_.1.1.2) (fun hn_ => (Kd.freshB (g := gb296) (o := .cells #[.int .i64 a0_0, .slice A0_1 l0_1.length c0_1] 25 (0, 0)) (blkS BK296) k_ hn_)), Or.elim hk_ (fun hs_ => hs_.1.2) (fun hn_ => (Kd.freshB (g := gb297) (o := .cells #[.int .i64 a1_0, .int .i64 a1_1, .int .i64 a1_2, .slice A1_3 l1_3.length c1_3, .int .i64 a1_4, .int .i64 a1_5, .int .i64 a1_6, .int .i64 a1_7, .int .i64 a1_8, .int .i64 a1_9, .int .i64 a1_10, .string a1_11, .string a1_12] 32 (0, 0)) (blkS BK297) k_ hn_)), Or.elim hk_ (fun hs_ => hs_.2) (fun hn_ => (Kd.freshB (g := gb298) (o := .cells #[.int .i64 0, .slice none 0 0] 25 (0, 0)) (blkS BK298) k_ hn_))⟩)) (below_size (bS3 HB GE296 GE297 GE298)))
  replace HO0_1 := Aside0.mk (Kd.V_elder' (VS HO0_1) (Kd.N_base ho0) hb)
  replace BK296 := Aside0.mk (blk_below (blkS BK296) hb)
  replace BK297 := Aside0.mk (blk_below (blkS BK297) hb)
  replace BK298 := Aside0.mk (blk_below (blkS BK298) hb)
  replace HB := Aside0.mk (below_step (bS3 HB GE296 GE297 GE298) hb)
  (try clear hb)
  (try clear ho0)
  obtain ⟨Ao17, co17, eo17⟩ := Kd.N_slice HO302.out
  (first | subst eo17 | (injection eo17 with f1_ f2_ f3_; have f4_ := f1_.symm; have f5_ := f3_.symm; clear f1_ f2_ f3_; subst f4_; subst f5_))
  refine hK.out _ _ ⟨(blk_cell BK296.out 0).trans rfl, (blk_cell BK296.out 1).trans rfl, c13e BK297⟩ (fun hHeld => ?_)
  clear hK K
  refine normS (N := (some 22)) ?_
  refine pureT (i := 6) (N := some 23) HT_ ?_
  refine oneS (i := 7) (N := none) HT_ (fun K hK => ?_)
  have hs18 : w16.cell? ⟨gb298, 0, none⟩ = some (.int .i64 0) := (blk_cell BK298.out 0).trans rfl
  have hfs18 := blk_frozen BK298.out 0
  have hns18_0 := NB296_298.out
  have hns18_1 := NB297_298.out
  have hms18_0 := NB298_296.out
  have hms18_1 := NB298_297.out
  have hs19 : w16.cell? ⟨gb298, 1, none⟩ = some (.slice none 0 0) := (blk_cell BK298.out 1).trans rfl
  have hfs19 := blk_frozen BK298.out 1
  have hns19_0 := NB296_298.out
  have hns19_1 := NB297_298.out
  have hms19_0 := NB298_296.out
  have hms19_1 := NB298_297.out
  refine skip_ (w1 := ?_) (by rfl) rfl ?_ ?_
  rotate_left
  ·go_simp
   rfl
  refine hK.out _ _ ⟨((cell_far (p := ⟨gb298, _, none⟩) NB296_298.out _).trans (((cell_far (p := ⟨gb298, _, none⟩) NB296_298.out _).trans (hHeld.1)))), ((cell_far (p := ⟨gb298, _, none⟩) NB296_298.out _).trans (((cell_far (p := ⟨gb298, _, none⟩) NB296_298.out _).trans (hHeld.2.1)))), ((cell_far (p := ⟨gb298, _, none⟩) NB297_298.out _).trans (((cell_far (p := ⟨gb298, _, none⟩) NB297_298.out _).trans (hHeld.2.2.1)))), ((cell_far (p := ⟨gb298, _, none⟩) NB297_298.out _).trans (((cell_far (p := ⟨gb298, _, none⟩) NB297_298.out _).trans (hHeld.2.2.2.1)))), ((cell_far (p := ⟨gb298, _, none⟩) NB297_298.out _).trans (((cell_far (p := ⟨gb298, _, none⟩) NB297_298.out _).trans (hHeld.2.2.2.2.1)))), ((cell_far (p := ⟨gb298, _, none⟩) NB297_298.out _).trans (((cell_far (p := ⟨gb298, _, none⟩) NB297_298.out _).trans (hHeld.2.2.2.2.2.1)))), ((cell_far (p := ⟨gb298, _, none⟩) NB297_298.out _).trans (((cell_far (p := ⟨gb298, _, none⟩) NB297_298.out _).trans (hHeld.2.2.2.2.2.2.1)))), ((cell_far (p := ⟨gb298, _, none⟩) NB297_298.out _).trans (((cell_far (p := ⟨gb298, _, none⟩) NB297_298.out _).trans (hHeld.2.2.2.2.2.2.2.1)))), ((cell_far (p := ⟨gb298, _, none⟩) NB297_298.out _).trans (((cell_far (p := ⟨gb298, _, none⟩) NB297_298.out _).trans (hHeld.2.2.2.2.2.2.2.2.1)))), ((cell_far (p := ⟨gb298, _, none⟩) NB297_298.out _).trans (((cell_far (p := ⟨gb298, _, none⟩) NB297_298.out _).trans (hHeld.2.2.2.2.2.2.2.2.2.1)))), ((cell_far (p := ⟨gb298, _, none⟩) NB297_298.out _).trans (((cell_far (p := ⟨gb298, _, none⟩) NB297_298.out _).trans (hHeld.2.2.2.2.2.2.2.2.2.2.1)))), ((cell_far (p := ⟨gb298, _, none⟩) NB297_298.out _).trans (((cell_far (p := ⟨gb298, _, none⟩) NB297_298.out _).trans (hHeld.2.2.2.2.2.2.2.2.2.2.2.1)))), ((cell_far (p := ⟨gb298, _, none⟩) NB297_298.out _).trans (((cell_far (p := ⟨gb298, _, none⟩) NB297_298.out _).trans (hHeld.2.2.2.2.2.2.2.2.2.2.2.2.1)))), ((cell_far (p := ⟨gb298, _, none⟩) NB297_298.out _).trans (((cell_far (p := ⟨gb298, _, none⟩) NB297_298.out _).trans (hHeld.2.2.2.2.2.2.2.2.2.2.2.2.2.1)))), ((cell_far (p := ⟨gb298, _, none⟩) NB297_298.out _).trans (((cell_far (p := ⟨gb298, _, none⟩) NB297_298.out _).trans (hHeld.2.2.2.2.2.2.2.2.2.2.2.2.2.2))))⟩ (fun hHeld => ?_)
  clear hK K
  refine pureT (i := 8) (N := some 5) HT_ ?_
  refine done_ (done_of HT_.out (by kernel_rfl)) ?_
  try go_wp2
  refine bodyPost_ret (results_ct rfl _ _ gb298 25 #[.int .i64 a0_0, .slice Ao17 t300.length co17] (0, 0) _ rfl (by (with_reducible repeat (first | refine blk_drewN ?_ _ | refine blk_drew ?_ | refine blk_alloc ?_ _)); refine blk_put (cs := #[.int .i64 a0_0, .slice none 0 0]) ?_ 1 _ rfl; (with_reducible repeat (first | refine blk_drewN ?_ _ | refine blk_drew ?_ | refine blk_alloc ?_ _)); refine blk_put (cs := #[.int .i64 0, .slice none 0 0]) ?_ 0 _ rfl; (with_reducible repeat (first | refine blk_drewN ?_ _ | refine blk_drew ?_ | refine blk_alloc ?_ _)); exact BK298.out) Try.underlying25 rfl (by kernel_rfl)) rfl ?_
  exact ⟨_, by first | rfl | (simp [errW_none, errW_some] <;> rfl) | (simp [*, errW_none, errW_some] <;> rfl), Kd.N_V (by (with_reducible repeat (first | apply Kd.N_alloc | apply Kd.N_drewN | apply Kd.N_drew)); exact Kd.N_mono (Kd.N_far (p := ⟨gb298, 1, none⟩) (Kd.N_far (p := ⟨gb298, 0, none⟩) (Kd.N_mono HO302.out (fun k_ hk => (⟨hk, hk.2.2.2⟩ : _ ∧ k_ ≠ gb298))) (fun _ hk => hk.2) (.int .i64 a0_0)) (fun _ hk => hk.2) (.slice Ao17 t300.length co17)) (fun _ hk => hk.1.1)), bS3 HB GE296 GE297 GE298⟩
 ·rw [if_neg c4] at H
  have c4b0 : (t299 == 0) = false := beq_eq_false_iff_ne.mpr c4
  have c4b1 : (t299 != 0) = true := bne_iff_ne.mpr c4
  simp only [Option.some.injEq, Prod.mk.injEq] at H
  obtain ⟨rfl, rfl, rfl⟩ := H
  go_enter Try.func10, Try.ntmps10
  go_wp2_with (first | ((with_reducible refine gate_dst (N := 2) rfl ?_); refine boxE (N := 2) (cs := #[.int .i64 a0_0, .slice A0_1 l0_1.length c0_1]) (t := 25) ?_; intro gb296 hg w20 hbox hb; have BK296 := Aside0.mk (hbox); have GW296 := Aside0.mk ((by rw [hg]; exact (below_size (bS HB)) : w.heap.size ≤ gb296)); have GE296 := Aside0.mk ((by rw [hg]; exact (below_size (bS HB)) : w.heap.size ≤ gb296)); replace HO0_1 := Aside0.mk (Kd.V_below (Kd.V_elderB (VS HO0_1) gb296 (Nat.le_of_eq hg.symm)) hb); replace HB := Aside0.mk (below_step (bS HB) hb); clear hb hbox hg) | ((with_reducible refine gate_dst (N := 3) rfl ?_); refine boxE (N := 3) (cs := #[.int .i64 a1_0, .int .i64 a1_1, .int .i64 a1_2, .slice A1_3 l1_3.length c1_3, .int .i64 a1_4, .int .i64 a1_5, .int .i64 a1_6, .int .i64 a1_7, .int .i64 a1_8, .int .i64 a1_9, .int .i64 a1_10, .string a1_11, .string a1_12]) (t := 32) ?_; intro gb297 hg w21 hbox hb; have BK297 := Aside0.mk (hbox); have GW297 := Aside0.mk ((by rw [hg]; exact (below_size (bS1 HB GE296)) : w.heap.size ≤ gb297)); have GE297 := Aside0.mk ((by rw [hg]; exact (below_size (bS1 HB GE296)) : w.heap.size ≤ gb297)); have NB296_297 := Aside0.mk ((by rw [hg]; exact Nat.ne_of_lt (blk_lt (blkS BK296)) : gb296 ≠ gb297)); have NB297_296 := Aside0.mk ((by rw [hg]; exact Nat.ne_of_gt (blk_lt (blkS BK296)) : gb297 ≠ gb296)); replace HO0_1 := Aside0.mk (Kd.V_below (Kd.V_elderB (VS HO0_1) gb297 (Nat.le_of_eq hg.symm)) hb); replace BK296 := Aside0.mk (blk_below (blkS BK296) hb); replace HB := Aside0.mk (below_step (bS1 HB GE296) hb); clear hb hbox hg) | ((with_reducible refine gate_dst (N := 4) rfl ?_); refine boxE (N := 4) (cs := #[.int .i64 0, .slice none 0 0]) (t := 25) ?_; intro gb298 hg w22 hbox hb; have BK298 := Aside0.mk (hbox); have GW298 := Aside0.mk ((by rw [hg]; exact (below_size (bS2 HB GE296 GE297)) : w.heap.size ≤ gb298)); have GE298 := Aside0.mk ((by rw [hg]; exact (below_size (bS2 HB GE296 GE297)) : w.heap.size ≤ gb298)); have NB296_298 := Aside0.mk ((by rw [hg]; exact Nat.ne_of_lt (blk_lt (blkS BK296)) : gb296 ≠ gb298)); have NB298_296 := Aside0.mk ((by rw [hg]; exact Nat.ne_of_gt (blk_lt (blkS BK296)) : gb298 ≠ gb296)); have NB297_298 := Aside0.mk ((by rw [hg]; exact Nat.ne_of_lt (blk_lt (blkS BK297)) : gb297 ≠ gb298)); have NB298_297 := Aside0.mk ((by rw [hg]; exact Nat.ne_of_gt (blk_lt (blkS BK297)) : gb298 ≠ gb297)); replace HO0_1 := Aside0.mk (Kd.V_below (Kd.V_elderB (VS HO0_1) gb298 (Nat.le_of_eq hg.symm)) hb); replace BK296 := Aside0.mk (blk_below (blkS BK296) hb); replace BK297 := Aside0.mk (blk_below (blkS BK297) hb); replace HB := Aside0.mk (below_step (bS2 HB GE296 GE297) hb); clear hb hbox hg; have hnb23 := NB296_297.out; have hnc23 := NB297_296.out; have hnb24 := NB296_298.out; have hnc24 := NB298_296.out; have hcz25_0 : w22.cell? ⟨gb296, 0, none⟩ = some (.int .i64 a0_0) := (blk_cell BK296.out 0).trans rfl; have hcz25_1 : w22.cell? ⟨gb296, 1, none⟩ = some (.slice A0_1 l0_1.length c0_1) := (blk_cell BK296.out 1).trans rfl; have hfz25_0 := blk_frozen BK296.out 0; have hfz25_1 := blk_frozen BK296.out 1; have hnb26 := NB297_298.out; have hnc26 := NB298_297.out; obtain ⟨hcz27_0, hcz27_1, hcz27_2, hcz27_3, hcz27_4, hcz27_5, hcz27_6, hcz27_7, hcz27_8, hcz27_9, hcz27_10, hcz27_11, hcz27_12⟩ := cells13 BK297.out) | ((with_reducible refine gate_callee (f := 31) rfl ?_); refine goesL_ (some 12) rfl rfl Try.func31 (by kernel_rfl) rfl #[.slice A0_1 l0_1.length c0_1, .int .i64 a0_0, .agg #[.int .i64 a1_0, .int .i64 a1_1, .int .i64 a1_2, .slice A1_3 l1_3.length c1_3, .int .i64 a1_4, .int .i64 a1_5, .int .i64 a1_6, .int .i64 a1_7, .int .i64 a1_8, .int .i64 a1_9, .int .i64 a1_10, .string a1_11, .string a1_12]] rfl argS ?_; (with_reducible refine (topiaryref07_Why.calls k _ _ l0_1 a0_0 a1_0 a1_1 a1_2 _ _ l1_3 a1_4 a1_5 a1_6 a1_7 a1_8 a1_9 a1_10 a1_11 a1_12 t299 _ ?side1 ?side2 ?side3 ?side4 HSK.out HKK.out A3.out).mono ?_); (case side1 => exact CS (Kd.V_reads' HO0_1.out).2.2); (case side2 => exact (Kd.V_reads' HO0_1.out).2.1); (case side3 => exact CS (Kd.C_below HR1_3.out HB.out)); (case side4 => exact HC1_3.out); rintro e w28 ⟨rfl, hb⟩; refine ⟨_, rfl, ?_⟩; replace HO0_1 := Aside0.mk (Kd.V_below (VS HO0_1) hb); replace BK296 := Aside0.mk (blk_below (blkS BK296) hb); replace BK297 := Aside0.mk (blk_below (blkS BK297) hb); replace BK298 := Aside0.mk (blk_below (blkS BK298) hb); replace HB := Aside0.mk (below_step (bS3 HB GE296 GE297 GE298) hb); (try clear hb); have hcz29_0 : w28.cell? ⟨gb296, 0, none⟩ = some (.int .i64 a0_0) := (blk_cell BK296.out 0).trans rfl; have hcz29_1 : w28.cell? ⟨gb296, 1, none⟩ = some (.slice A0_1 l0_1.length c0_1) := (blk_cell BK296.out 1).trans rfl; have hfz29_0 := blk_frozen BK296.out 0; have hfz29_1 := blk_frozen BK296.out 1; have hcz30_0 : w28.cell? ⟨gb298, 0, none⟩ = some (.int .i64 0) := (blk_cell BK298.out 0).trans rfl; have hcz30_1 : w28.cell? ⟨gb298, 1, none⟩ = some (.slice none 0 0) := (blk_cell BK298.out 1).trans rfl; have hfz30_0 := blk_frozen BK298.out 0; have hfz30_1 := blk_frozen BK298.out 1))
  refine bodyPost_ret (results_ct rfl _ _ gb298 25 #[.int .i64 a0_0, .slice A0_1 l0_1.length c0_1] (0, 0) _ rfl (by (with_reducible repeat (first | refine blk_drewN ?_ _ | refine blk_drew ?_ | refine blk_alloc ?_ _)); refine blk_put (cs := #[.int .i64 a0_0, .slice none 0 0]) ?_ 1 _ rfl; (with_reducible repeat (first | refine blk_drewN ?_ _ | refine blk_drew ?_ | refine blk_alloc ?_ _)); refine blk_put (cs := #[.int .i64 0, .slice none 0 0]) ?_ 0 _ rfl; (with_reducible repeat (first | refine blk_drewN ?_ _ | refine blk_drew ?_ | refine blk_alloc ?_ _)); exact BK298.out) Try.underlying25 rfl (by kernel_rfl)) rfl ?_
  exact ⟨_, by first | rfl | (simp [errW_none, errW_some] <;> rfl) | (simp [*, errW_none, errW_some] <;> rfl), by (with_reducible repeat (first | apply Kd.V_alloc | apply Kd.V_drewN | apply Kd.V_drew)); exact Kd.V_mono (Kd.V_far (p := ⟨gb298, 1, none⟩) (Kd.V_far (p := ⟨gb298, 0, none⟩) (Kd.V_mono HO0_1.out (fun k_ hk => (⟨hk, hk.2⟩ : _ ∧ k_ ≠ gb298))) (fun _ hk => hk.2) (.int .i64 a0_0)) (fun _ hk => hk.2) (.slice A0_1 l0_1.length c0_1)) (fun _ hk => hk.1.1.1.1), bS3 HB GE296 GE297 GE298⟩
theorem has_tot (l : List S30) (a b : Int) (hl : l.length < 90000) : ∀ (n i k : Nat), i + n = l.length → n < k → ∃ r, topiaryref01_Has.l0 k l (i : Int) a b = some r := by
 intro n
 induction n with
 | zero =>
  intro i k hi hk
  obtain ⟨k, rfl⟩ : ∃ m, k = m + 1 := ⟨k - 1, by omega⟩
  exact ⟨false, by rw [topiaryref01_Has.l0, if_neg (by omega)]⟩
 | succ n ih =>
  intro i k hi hk
  obtain ⟨k, rfl⟩ : ∃ m, k = m + 1 := ⟨k - 1, by omega⟩
  rw [topiaryref01_Has.l0, if_pos (by omega), if_pos (by omega), w1 (by omega)]
  by_cases h : ((rd_T30 l (i : Int)).f0 == a && ((rd_T30 l (i : Int)).f1 == b)) = true
  ·rw [if_pos h]; exact ⟨true, rfl⟩
  ·rw [if_neg h]; exact ih (i + 1) k (by omega) (by omega)
theorem put01_loop (l : List S30) (a b : Int) (hl : l.length < 90000) : ∀ (n i k : Nat) (done : Bool) (out : List S30), i + n = l.length → n < k → out.length ≤ i + done.toNat →
  ∃ r, topiaryref01_Put.l0 k l out done (i : Int) a b = some r ∧ r.length ≤ l.length + 1 := by
 intro n
 induction n with
 | zero =>
  intro i k done out hi hk ho
  obtain ⟨k, rfl⟩ : ∃ m, k = m + 1 := ⟨k - 1, by omega⟩
  rw [topiaryref01_Put.l0, if_neg (by omega)]
  cases done with
  | true => rw [if_pos rfl]; exact ⟨_, rfl, by have : out.length ≤ i + 1 := ho; omega⟩
  | false =>
   have ho' : out.length ≤ i + 0 := ho
   rw [if_neg (by decide), if_pos (by omega)]
   exact ⟨_, rfl, by rw [List.length_append, List.length_singleton]; omega⟩
 | succ n ih =>
  intro i k done out hi hk ho
  obtain ⟨k, rfl⟩ : ∃ m, k = m + 1 := ⟨k - 1, by omega⟩
  have hb : out.length ≤ i + 1 := Nat.le_trans ho (Nat.add_le_add_left (by cases done <;> decide) _)
  rw [topiaryref01_Put.l0, if_pos (by omega), w1 (by omega)]
  cases done with
  | true =>
   rw [if_pos rfl, if_pos (by omega), if_pos (by omega)]
   exact ih (i + 1) k true _ (by omega) (by omega) (by rw [List.length_append, List.length_singleton]; show out.length + 1 ≤ i + 1 + 1; omega)
  | false =>
   have ho' : out.length ≤ i + 0 := ho
   have hf0 : ¬ (false = true) := by decide
   rw [if_neg hf0, if_pos (by omega), ref_Less_is, Option.bind_some]
   cases lessC a b (rd_T30 l (i : Int)).f0 (rd_T30 l (i : Int)).f1 with
   | true =>
    rw [if_pos rfl, if_pos (by omega), Option.bind_some, if_pos (by rw [List.length_append, List.length_singleton]; omega)]
    exact ih (i + 1) k true _ (by omega) (by omega) (by rw [List.length_append, List.length_append, List.length_singleton, List.length_singleton]; show out.length + 1 + 1 ≤ i + 1 + 1; omega)
   | false =>
    have hf : ¬ (false = true) := by decide
    rw [if_neg hf, if_pos (by omega)]
    exact ih (i + 1) k false _ (by omega) (by omega) (by rw [List.length_append, List.length_singleton]; show out.length + 1 ≤ i + 1 + 0; omega)
theorem put01_tot (l : List S30) (a b : Int) (hl : l.length < 1000) (k : Nat) (hk : l.length < k) : ∃ r, topiaryref01_Put.f k l a b = some r ∧ r.length ≤ l.length + 1 := by
 obtain ⟨h, hh⟩ := has_tot l a b (by omega) l.length 0 k (by omega) hk
 unfold topiaryref01_Put.f topiaryref01_Has.f
 rw [show topiaryref01_Has.l0 k l 0 a b = some h from hh, Option.bind_some]
 cases h with
 | true => rw [if_pos rfl]; exact ⟨l, rfl, Nat.le_succ _⟩
 | false =>
  rw [if_neg (by decide)]
  exact put01_loop l a b (by omega) l.length 0 k false [] (by omega) hk (Nat.zero_le _)
theorem names_loop (c : S32) (l : List S30) (hl : l.length ≤ 3) : ∀ (n i k : Nat) (out : List S30), i + n = l.length → n + 20 < k → out.length ≤ i → ∃ r, topiaryref05_Names.l0 k l out (i : Int) c.f0.f0 c.f0.f1 c.f1 c.f2 c.f3 c.f4.f0 c.f4.f1 c.f5.f0 c.f5.f1 c.f6.f0 c.f6.f1 c.f7 c.f8 = some r := by
 intro n
 induction n with
 | zero =>
  intro i k out hi hk ho
  obtain ⟨k, rfl⟩ : ∃ m, k = m + 1 := ⟨k - 1, by omega⟩
  exact ⟨out, by rw [topiaryref05_Names.l0, if_neg (by omega)]⟩
 | succ n ih =>
  intro i k out hi hk ho
  obtain ⟨k, rfl⟩ : ∃ m, k = m + 1 := ⟨k - 1, by omega⟩
  rw [topiaryref05_Names.l0, if_pos (by omega), if_pos (by omega), ref_Right_is, Option.bind_some, w1 (by omega)]
  cases rightC (rd_T30 l (i : Int)).f0 (rd_T30 l (i : Int)).f1 with
  | true =>
   rw [if_pos rfl]
   split
   ·obtain ⟨r, h1, h2⟩ := put01_tot out (rd_T30 l (i : Int)).f0 (rd_T30 l (i : Int)).f1 (by omega) k (by omega)
    rw [h1, Option.bind_some]
    exact ih (i + 1) k r (by omega) (by omega) (by omega)
   ·exact ih (i + 1) k out (by omega) (by omega) (by omega)
  | false =>
   rw [if_neg (by decide)]
   exact ih (i + 1) k out (by omega) (by omega) (by omega)
/-- What a change names. -/
def namesC (c : S32) : List S30 := (topiaryref05_Names.f 200 c.f0.f0 c.f0.f1 c.f1 c.f2 c.f3 c.f4.f0 c.f4.f1 c.f5.f0 c.f5.f1 c.f6.f0 c.f6.f1 c.f7 c.f8).getD []
theorem Names_is (c : S32) (k : Nat) (hk : 200 ≤ k) : topiaryref05_Names.f k c.f0.f0 c.f0.f1 c.f1 c.f2 c.f3 c.f4.f0 c.f4.f1 c.f5.f0 c.f5.f1 c.f6.f0 c.f6.f1 c.f7 c.f8 = some (namesC c) := by
 induction k with
 | zero => omega
 | succ k ih =>
  rcases Nat.eq_or_lt_of_le hk with e | e
  ·rw [← e]
   obtain ⟨r, h⟩ := names_loop c [(⟨c.f4.f0, c.f4.f1⟩ : S30), (⟨c.f5.f0, c.f5.f1⟩ : S30), (⟨c.f6.f0, c.f6.f1⟩ : S30)] (Nat.le_refl _) 3 0 200 [] rfl (by decide) (Nat.le_refl _)
   have h2 : topiaryref05_Names.f 200 c.f0.f0 c.f0.f1 c.f1 c.f2 c.f3 c.f4.f0 c.f4.f1 c.f5.f0 c.f5.f1 c.f6.f0 c.f6.f1 c.f7 c.f8 = some r := h
   unfold namesC
   rw [h2]
   rfl
  ·exact topiaryref05_Names.mono _ _ _ _ _ _ _ _ _ _ _ _ _ k _ (ih (by omega))
theorem names_len (c : S32) (l : List S30) (hl : l.length ≤ 3) : ∀ (n i k : Nat) (out r : List S30), i + n = l.length → n + 20 < k → out.length ≤ i → topiaryref05_Names.l0 k l out (i : Int) c.f0.f0 c.f0.f1 c.f1 c.f2 c.f3 c.f4.f0 c.f4.f1 c.f5.f0 c.f5.f1 c.f6.f0 c.f6.f1 c.f7 c.f8 = some r → r.length ≤ 3 := by
 intro n
 induction n with
 | zero =>
  intro i k out r hi hk ho h
  obtain ⟨k, rfl⟩ : ∃ m, k = m + 1 := ⟨k - 1, by omega⟩
  rw [topiaryref05_Names.l0, if_neg (by omega)] at h
  injection h with h
  subst h
  omega
 | succ n ih =>
  intro i k out r hi hk ho h
  obtain ⟨k, rfl⟩ : ∃ m, k = m + 1 := ⟨k - 1, by omega⟩
  rw [topiaryref05_Names.l0, if_pos (by omega), if_pos (by omega), ref_Right_is, Option.bind_some, w1 (by omega)] at h
  by_cases hq : rightC (rd_T30 l (i : Int)).f0 (rd_T30 l (i : Int)).f1 = true
  ·rw [if_pos hq] at h
   split at h
   ·obtain ⟨r', h1, h2⟩ := put01_tot out (rd_T30 l (i : Int)).f0 (rd_T30 l (i : Int)).f1 (by omega) k (by omega)
    rw [h1, Option.bind_some] at h
    exact ih (i + 1) k r' r (by omega) (by omega) (by omega) h
   ·exact ih (i + 1) k out r (by omega) (by omega) (by omega) h
  ·rw [if_neg hq] at h
   exact ih (i + 1) k out r (by omega) (by omega) (by omega) h
theorem namesC_len (c : S32) : (namesC c).length < 1000 := by
 have h := Names_is c 200 (Nat.le_refl _)
 have := names_len c [(⟨c.f4.f0, c.f4.f1⟩ : S30), (⟨c.f5.f0, c.f5.f1⟩ : S30), (⟨c.f6.f0, c.f6.f1⟩ : S30)] (Nat.le_refl _) 3 0 200 [] (namesC c) rfl (by decide) (Nat.le_refl _) h
 omega
section
variable {l : List S32} {c : S32}
theorem behind_l1 (hl : l.length < 1000) (hu : l.Pairwise (fun a b => lessX a b = true)) (ns : List S30) (hn : ns.length < 90000) : ∀ (n i k : Nat), i + n = ns.length → n + 1100 < k →
  ∃ b, topiaryref07_behind.l1 k l ns (i : Int) c.f0.f0 c.f0.f1 c.f1 c.f2 c.f3 c.f4.f0 c.f4.f1 c.f5.f0 c.f5.f1 c.f6.f0 c.f6.f1 c.f7 c.f8 = some b ∧ (b = true ↔ ∀ s ∈ ns.drop i, ∃ z ∈ l, z.f0 = s ∧ z.f1 ≤ atC c.f2 z.f0.f1) := by
 intro n
 induction n with
 | zero =>
  intro i k hi hk
  obtain ⟨k, rfl⟩ : ∃ m, k = m + 1 := ⟨k - 1, by omega⟩
  refine ⟨true, by rw [topiaryref07_behind.l1, if_neg (by omega)], ⟨fun _ s hs => ?_, fun _ => rfl⟩⟩
  rw [List.drop_of_length_le (by omega)] at hs
  exact absurd hs List.not_mem_nil
 | succ n ih =>
  intro i k hi hk
  obtain ⟨k, rfl⟩ : ∃ m, k = m + 1 := ⟨k - 1, by omega⟩
  have hd : ns.drop i = rd_T30 ns (i : Int) :: ns.drop (i + 1) := by
   rw [List.drop_eq_getElem_cons (by omega : i < ns.length)]
   congr 1
   unfold rd_T30
   rw [Int.toNat_natCast, List.getD_eq_getElem?_getD, List.getElem?_eq_getElem (by omega), Option.getD_some]
  rw [hd, topiaryref07_behind.l1, if_pos (by omega), if_pos (by omega), w1 (by omega)]
  generalize rd_T30 ns (i : Int) = s at *
  obtain ⟨b, h1, h2⟩ := ih (i + 1) k (by omega) (by omega)
  rcases Find_is l s.f0 s.f1 (by omega) k (by omega) with ⟨f1, f2⟩ | ⟨j, f1, f2, f3⟩
  ·rw [f1, Option.bind_some, if_pos (by decide)]
   refine ⟨false, rfl, ⟨fun h => absurd h (by decide), fun h => ?_⟩⟩
   obtain ⟨z, hz, e, _⟩ := h s List.mem_cons_self
   exact absurd e (f2 z hz)
  ·rw [f2, Option.bind_some, if_neg (by omega), if_pos (by omega), if_pos (by omega), within_is, Option.bind_some]
   by_cases hw : withinX c.f2 (rd_T32 l (j : Int)) = true
   ·rw [if_pos hw]
    refine ⟨b, h1, h2.trans ⟨fun h u hu' => ?_, fun h u hu' => h u (List.mem_cons_of_mem _ hu')⟩⟩
    rcases List.mem_cons.1 hu' with e | hu'
    ·subst e
     exact ⟨_, rd_mem f1, f3, of_decide_eq_true hw⟩
    ·exact h u hu'
   ·rw [if_neg hw]
    refine ⟨false, rfl, ⟨fun h => absurd h (by decide), fun h => ?_⟩⟩
    obtain ⟨z, hz, e, e2⟩ := h s List.mem_cons_self
    have : z = rd_T32 l (j : Int) := stamp_uniq hu hz (rd_mem f1) (e.trans f3.symm)
    subst this
    exact absurd (decide_eq_true e2) hw
theorem behind_l0 (hl : l.length < 1000) (hu : l.Pairwise (fun a b => lessX a b = true)) (hk' : (l.map keyOf).Nodup) (hc : c.f2.length ≤ 64) : ∀ (n i k : Nat), i + n = c.f2.length → n + 4000 < k →
  ∃ b, topiaryref07_behind.l0 k l (i : Int) c.f0.f0 c.f0.f1 c.f1 c.f2 c.f3 c.f4.f0 c.f4.f1 c.f5.f0 c.f5.f1 c.f6.f0 c.f6.f1 c.f7 c.f8 = some b ∧ (b = true ↔ (∀ r : Nat, i ≤ r → r < c.f2.length → rd c.f2 (r : Int) ≠ 0 → ∃ z ∈ l, z.f0.f1 = (r : Int) ∧ z.f1 = rd c.f2 (r : Int) ∧ lessX z c = true) ∧ ∀ s ∈ namesC c, ∃ z ∈ l, z.f0 = s ∧ z.f1 ≤ atC c.f2 z.f0.f1) := by
 intro n
 induction n with
 | zero =>
  intro i k hi hk
  obtain ⟨k, rfl⟩ : ∃ m, k = m + 1 := ⟨k - 1, by omega⟩
  rw [topiaryref07_behind.l0, if_neg (by omega), Names_is c k (by omega), Option.bind_some]
  have hnl : (namesC c).length < 1000 := namesC_len c
  obtain ⟨b, h1, h2⟩ := behind_l1 (c := c) hl hu (namesC c) (by omega) (namesC c).length 0 k (by omega) (by omega)
  refine ⟨b, h1, h2.trans ⟨fun h => ⟨fun r h3 h4 => by omega, h⟩, fun h => h.2⟩⟩
 | succ n ih =>
  intro i k hi hk
  obtain ⟨k, rfl⟩ : ∃ m, k = m + 1 := ⟨k - 1, by omega⟩
  obtain ⟨b, h1, h2⟩ := ih (i + 1) k (by omega) (by omega)
  rw [topiaryref07_behind.l0, if_pos (by omega), if_pos (by omega), w1 (by omega)]
  by_cases h0 : rd c.f2 (i : Int) = 0
  ·rw [if_pos h0]
   refine ⟨b, h1, h2.trans ⟨fun h => ⟨fun r h3 h4 h5 => ?_, h.2⟩, fun h => ⟨fun r h3 => h.1 r (by omega), h.2⟩⟩⟩
   rcases Nat.eq_or_lt_of_le h3 with e | e
   ·subst e; exact absurd h0 h5
   ·exact h.1 r e h4 h5
  ·rw [if_neg h0]
   rcases Own_is2 l (i : Int) (rd c.f2 (i : Int)) (by omega) k (by omega) with ⟨f1, f2⟩ | ⟨j, f1, f2, f3, f4⟩
   ·rw [f1, Option.bind_some, if_pos (by decide)]
    refine ⟨false, rfl, ⟨fun h => absurd h (by decide), fun h => ?_⟩⟩
    obtain ⟨z, hz, e1, e2, _⟩ := h.1 i (Nat.le_refl _) (by omega) h0
    exact absurd ⟨e1, e2⟩ (f2 z hz)
   ·rw [f2, Option.bind_some, if_neg (by omega), if_pos (by omega), if_pos (by omega), ref_Less_is, Option.bind_some]
    by_cases hw : lessX (rd_T32 l (j : Int)) c = true
    ·rw [if_pos (show lessC _ _ _ _ = true from hw)]
     refine ⟨b, h1, h2.trans ⟨fun h => ⟨fun r h3 h4 h5 => ?_, h.2⟩, fun h => ⟨fun r h3 => h.1 r (by omega), h.2⟩⟩⟩
     rcases Nat.eq_or_lt_of_le h3 with e | e
     ·subst e; exact ⟨_, rd_mem f1, f3, f4, hw⟩
     ·exact h.1 r e h4 h5
    ·rw [if_neg (show ¬ lessC _ _ _ _ = true from hw)]
     refine ⟨false, rfl, ⟨fun h => absurd h (by decide), fun h => ?_⟩⟩
     obtain ⟨z, hz, e1, e2, e3⟩ := h.1 i (Nat.le_refl _) (by omega) h0
     rw [nodup_keys hk' hz (rd_mem f1) (e1.trans f3.symm) (e2.trans f4.symm)] at e3
     exact absurd e3 hw
theorem behind_is (hl : l.length < 1000) (hu : l.Pairwise (fun a b => lessX a b = true)) (hk' : (l.map keyOf).Nodup) (hc : c.f2.length ≤ 64) (k : Nat) (hk : 5000 < k) : ∃ b, topiaryref07_behind.f k l c.f0.f0 c.f0.f1 c.f1 c.f2 c.f3 c.f4.f0 c.f4.f1 c.f5.f0 c.f5.f1 c.f6.f0 c.f6.f1 c.f7 c.f8 = some b ∧ (b = true ↔ BehindOk namesC l c) := by
 obtain ⟨b, h1, h2⟩ := behind_l0 (c := c) hl hu hk' hc c.f2.length 0 k (by omega) (by omega)
 exact ⟨b, h1, h2.trans ⟨fun h => ⟨fun r h3 h4 => h.1 r (Nat.zero_le _) h3 h4, h.2⟩, fun h => ⟨fun r _ h3 h4 => h.1 r h3 h4, h.2⟩⟩⟩
theorem Why_is (h : LogOk namesC l) (hl : l.length ≤ 256) (room : Int) (hs : c.f7.size < 4611686018427387904) (k : Nat) (hk : 6000 < k) (hk2 : c.f7.size + 20 < k) : ∃ e, topiaryref07_Why.f k l room c.f0.f0 c.f0.f1 c.f1 c.f2 c.f3 c.f4.f0 c.f4.f1 c.f5.f0 c.f5.f1 c.f6.f0 c.f6.f1 c.f7 c.f8 = some e ∧ (e = 0 ↔ WhyOk namesC l room c) := by
 unfold topiaryref07_Why.f
 rw [ref_Check05_is _ _ _ _ _ _ _ _ _ _ _ _ _ _ hs (by omega) (by omega), Option.bind_some, Option.bind_some, show checkC c.f0.f0 c.f0.f1 c.f1 c.f2 c.f3 c.f4.f0 c.f4.f1 c.f5.f0 c.f5.f1 c.f6.f0 c.f6.f1 c.f7 c.f8 = checkX c from rfl]
 by_cases c1 : checkX c = 0
 ·rw [if_pos c1]
  have hx := check_ok c1
  have hrr := right_r c1
  have j2 : ∀ (m : Nat) (b : Bool), 5500 < m → ∃ e, topiaryref07_Why.j2 m l room b c.f0.f0 c.f0.f1 c.f1 c.f2 c.f3 c.f4.f0 c.f4.f1 c.f5.f0 c.f5.f1 c.f6.f0 c.f6.f1 c.f7 c.f8 = some e ∧ (e = 0 ↔ (b = false ∧ BehindOk namesC l c ∧ (l.length : Int) < room)) := by
   intro m b hm
   obtain ⟨m, rfl⟩ : ∃ q, m = q + 1 := ⟨m - 1, by omega⟩
   rw [topiaryref07_Why.j2]
   cases b with
   | true => rw [if_pos rfl]; exact ⟨4, rfl, ⟨fun h => absurd h (by decide), fun h => absurd h.1 (by decide)⟩⟩
   | false =>
    obtain ⟨b, h1, h2⟩ := behind_is (c := c) (by omega) h.ord h.nk hx.2.2.2.2.2 m (by omega)
    rw [if_neg (by decide), h1, Option.bind_some]
    cases b with
    | true =>
     rw [if_pos rfl]
     by_cases h3 : (l.length : Int) ≥ room
     ·rw [if_pos h3]; exact ⟨6, rfl, ⟨fun h => absurd h (by decide), fun h => by omega⟩⟩
     ·rw [if_neg h3]; exact ⟨0, rfl, ⟨fun _ => ⟨rfl, h2.1 rfl, by omega⟩, fun _ => rfl⟩⟩
    | false => rw [if_neg (by decide)]; exact ⟨2, rfl, ⟨fun h => absurd h (by decide), fun h => absurd (h2.2 h.2.1) (by decide)⟩⟩
  have j1 : ∀ (m : Nat) (b : Bool), 5600 < m → ∃ e, topiaryref07_Why.j1 m l room b c.f0.f0 c.f0.f1 c.f1 c.f2 c.f3 c.f4.f0 c.f4.f1 c.f5.f0 c.f5.f1 c.f6.f0 c.f6.f1 c.f7 c.f8 = some e ∧ (e = 0 ↔ (b = false ∧ c.f1 = (numR l c.f0.f1 : Int) + 1 ∧ (∀ r : Nat, r < c.f2.length → rd c.f2 (r : Int) ≤ (numR l (r : Int) : Int)) ∧ BehindOk namesC l c ∧ (l.length : Int) < room)) := by
   intro m b hm
   obtain ⟨m, rfl⟩ : ∃ q, m = q + 1 := ⟨m - 1, by omega⟩
   rw [topiaryref07_Why.j1]
   cases b with
   | true => rw [if_pos rfl]; exact ⟨7, rfl, ⟨fun h => absurd h (by decide), fun h => absurd h.1 (by decide)⟩⟩
   | false =>
    have ha := clock_agree hl
    have hn := numR_le l c.f0.f1
    rw [if_neg (by decide), Clock_is l (by omega) m (by omega), Option.bind_some, ref_At_is, Option.bind_some, ha.at_ _ hrr.1 hrr.2, w1 (by omega)]
    by_cases h1 : c.f1 = ((numR l c.f0.f1 + 1 : Nat) : Int)
    ·rw [if_pos h1]
     have hun : topiaryref02_Under.f m c.f2 (clockL l) = some (underN c.f2 (clockL l) c.f2.length 0) := under_loop c.f2 (clockL l) hx.2.2.2.2.2 c.f2.length 0 m (by omega) (by omega)
     rw [hun, Option.bind_some]
     obtain ⟨e, e1, e2⟩ := j2 m (!underN c.f2 (clockL l) c.f2.length 0) (by omega)
     refine ⟨e, e1, e2.trans ?_⟩
     have hui : (!underN c.f2 (clockL l) c.f2.length 0) = false ↔ ∀ r : Nat, r < c.f2.length → rd c.f2 (r : Int) ≤ (numR l (r : Int) : Int) := by
      rw [Bool.not_eq_false', under_iff]
      constructor
      ·intro q r hr
       rw [← ha.at_ (r : Int) (by omega) (by omega)]
       exact q r (Nat.zero_le _) (by omega)
      ·intro q r _ hr
       rw [ha.at_ (r : Int) (by omega) (by omega)]
       exact q r (by omega)
     rw [hui]
     exact ⟨fun q => ⟨rfl, by omega, q⟩, fun q => q.2.2⟩
    ·rw [if_neg h1]
     obtain ⟨e, e1, e2⟩ := j2 m true (by omega)
     exact ⟨e, e1, e2.trans ⟨fun q => absurd q.1 (by decide), fun q => absurd (by omega) h1⟩⟩
  have hj0 : ∀ (m : Nat) (b : Bool), 5700 < m → ∃ e, topiaryref07_Why.j0 m l room (-1) b c.f0.f0 c.f0.f1 c.f1 c.f2 c.f3 c.f4.f0 c.f4.f1 c.f5.f0 c.f5.f1 c.f6.f0 c.f6.f1 c.f7 c.f8 = some e ∧ (e = 0 ↔ (b = false ∧ keyOf c ∉ l.map keyOf ∧ c.f1 = (numR l c.f0.f1 : Int) + 1 ∧ (∀ r : Nat, r < c.f2.length → rd c.f2 (r : Int) ≤ (numR l (r : Int) : Int)) ∧ BehindOk namesC l c ∧ (l.length : Int) < room)) := by
   intro m b hm
   obtain ⟨m, rfl⟩ : ∃ q, m = q + 1 := ⟨m - 1, by omega⟩
   rw [topiaryref07_Why.j0]
   cases b with
   | true => rw [if_pos rfl]; exact ⟨5, rfl, ⟨fun h => absurd h (by decide), fun h => absurd h.1 (by decide)⟩⟩
   | false =>
    rw [if_neg (by decide), if_neg (by decide)]
    rcases Own_is2 l c.f0.f1 c.f1 (by omega) m (by omega) with ⟨f1, f2⟩ | ⟨j, f1, f2, f3, f4⟩
    ·rw [f1, Option.bind_some]
     obtain ⟨e, e1, e2⟩ := j1 m (decide ((-1 : Int) ≥ 0)) (by omega)
     refine ⟨e, e1, e2.trans ⟨fun q => ⟨rfl, fun hm' => ?_, q.2⟩, fun q => ⟨rfl, q.2.2⟩⟩⟩
     obtain ⟨z, hz, e⟩ := List.mem_map.1 hm'
     unfold keyOf at e
     injection e with e1 e2
     exact f2 z hz ⟨e1, e2⟩
    ·rw [f2, Option.bind_some]
     obtain ⟨e, e1, e2⟩ := j1 m (decide ((j : Int) ≥ 0)) (by omega)
     have ht : decide ((j : Int) ≥ 0) = true := decide_eq_true (by omega)
     rw [ht] at e1 e2
     rw [ht]
     refine ⟨e, e1, e2.trans ⟨fun q => absurd q.1 (by decide), fun q => absurd ?_ q.2.1⟩⟩
     rw [show keyOf c = keyOf (rd_T32 l (j : Int)) from by unfold keyOf; rw [f3, f4]]
     exact List.mem_map_of_mem (rd_mem f1)
  have heta : (⟨c.f0.f0, c.f0.f1⟩ : S30) = c.f0 := rfl
  rcases Find_is l c.f0.f0 c.f0.f1 (by omega) k (by omega) with ⟨f1, f2⟩ | ⟨j, f1, f2, f3⟩
  ·rw [f1, Option.bind_some, if_neg (by decide)]
   obtain ⟨e, e1, e2⟩ := hj0 k false (by omega)
   refine ⟨e, e1, e2.trans ⟨fun q => ⟨c1, fun y hy he => f2 y hy (he.symm.trans heta.symm), q.2⟩, fun q => ⟨rfl, q.2.2⟩⟩⟩
  ·rw [f2, Option.bind_some, if_pos (by omega), if_pos (by omega), if_pos (by omega)]
   obtain ⟨r, hr⟩ := same05_tot (rd_T32 l (j : Int)) c (check_ok (h.ok _ (rd_mem f1))).2.2.2.2.2 k (by omega)
   rw [hr, Option.bind_some]
   obtain ⟨m, rfl⟩ : ∃ q, k = q + 1 := ⟨k - 1, by omega⟩
   have hne : ∀ e : Int, e ≠ 0 → (e = 0 ↔ WhyOk namesC l room c) := fun e he => ⟨fun q => absurd q he, fun q => absurd (f3.trans heta).symm (q.2.1 _ (rd_mem f1))⟩
   rw [topiaryref07_Why.j0]
   cases r with
   | true => rw [if_pos rfl]; exact ⟨5, rfl, hne 5 (by decide)⟩
   | false =>
    rw [if_neg (by decide), if_pos (by omega)]
    obtain ⟨m, rfl⟩ : ∃ q, m = q + 1 := ⟨m - 1, by omega⟩
    rw [topiaryref07_Why.j1, if_pos rfl]
    exact ⟨7, rfl, hne 7 (by decide)⟩
 ·rw [if_neg c1]
  exact ⟨_, rfl, ⟨fun q => absurd q c1, fun q => absurd q.1 c1⟩⟩
theorem Add_is (h : LogOk namesC l) (hl : l.length ≤ 256) (room : Int) (hs : c.f7.size < 4611686018427387904) (k : Nat) (hk : 6000 < k) (hk2 : c.f7.size + 20 < k) :
  (WhyOk namesC l room c ∧ topiaryref07_Add.f k room l c.f0.f0 c.f0.f1 c.f1 c.f2 c.f3 c.f4.f0 c.f4.f1 c.f5.f0 c.f5.f1 c.f6.f0 c.f6.f1 c.f7 c.f8 = some (room, insS c l, 0)) ∨ (¬ WhyOk namesC l room c ∧ ∃ e, topiaryref07_Add.f k room l c.f0.f0 c.f0.f1 c.f1 c.f2 c.f3 c.f4.f0 c.f4.f1 c.f5.f0 c.f5.f1 c.f6.f0 c.f6.f1 c.f7 c.f8 = some (room, l, e)) := by
 obtain ⟨e, h1, h2⟩ := Why_is h hl room hs k hk hk2
 unfold topiaryref07_Add.f
 rw [h1, Option.bind_some]
 by_cases he : e = 0
 ·have hw := h2.1 he
  rw [if_pos he, Put07_is l c (check_ok hw.1).2.2.2.2.2 (by omega) k (by omega), Option.bind_some]
  exact .inl ⟨hw, rfl⟩
 ·rw [if_neg he]
  exact .inr ⟨fun q => he (h2.2 q), e, rfl⟩
end
theorem erase_perm {l : List S32} {j : Nat} (hj : j < l.length) : (rd_T32 l (j : Int) :: l.eraseIdx j).Perm l := by
 have h1 : l = l.take j ++ rd_T32 l (j : Int) :: l.drop (j + 1) := by rw [← rd32_drop hj, List.take_append_drop]
 have h2 : l.eraseIdx j = l.take j ++ l.drop (j + 1) := List.eraseIdx_eq_take_drop_succ ..
 rw [h2]
 exact List.perm_middle.symm.trans (List.Perm.of_eq h1.symm)
theorem relF_perm : ∀ (n : Nat) (now : List Int) (out left : List S32), ((relF n now out left).1 ++ (relF n now out left).2).Perm (out ++ left)
 | 0, _, _, _ => List.Perm.refl _
 | n + 1, now, out, left => by
  rw [relF]
  by_cases h0 : 0 ≤ nextI now left 0
  ·rw [if_pos h0]
   obtain ⟨j, hj, he⟩ := next_lt now left 0 h0
   rw [Nat.zero_add] at he
   rw [he, Int.toNat_natCast]
   refine (relF_perm n _ _ _).trans ?_
   rw [List.append_assoc]
   exact (erase_perm hj).append_left out
  ·rw [if_neg h0]
def addAll (z : List S32) (out : List S32) : List S32 := out.foldl (fun z c => insS c z) z
def AddOk (nm : S32 → List S30) (z : List S32) : List S32 → Prop
 | [] => True
 | x :: t => WhyOk nm z 256 x ∧ AddOk nm (insS x z) t
theorem AddOk.at {nm : S32 → List S30} : ∀ {out z : List S32} {j : Nat}, AddOk nm z out → j < out.length → WhyOk nm (addAll z (out.take j)) 256 (rd_T32 out (j : Int))
 | [], _, _, _, h => absurd h (Nat.not_lt_zero _)
 | x :: t, z, 0, h, _ => h.1
 | x :: t, z, j + 1, h, hj => by
  have := AddOk.at (j := j) h.2 (by simpa using hj)
  have e : rd_T32 (x :: t) ((j + 1 : Nat) : Int) = rd_T32 t (j : Int) := by unfold rd_T32; rw [Int.toNat_natCast, Int.toNat_natCast]; rfl
  rw [e]
  exact this
theorem addAll_more (z out : List S32) {j : Nat} (hj : j < out.length) : addAll z (out.take (j + 1)) = insS (rd_T32 out (j : Int)) (addAll z (out.take j)) := by
 unfold addAll
 rw [List.take_add_one, rd32_at hj, List.foldl_append]
 rfl
theorem putC_perm {L : List S32} {c : S32} (hg : Good L) (ho : ownX L c = false) : (L.take (cntX c L) ++ c :: L.drop (cntX c L)).Perm (c :: L) := by
 refine List.perm_middle.trans ?_
 rw [List.take_append_drop]
section
variable {nm : S32 → List S30} {y : List S32}
/-- What comes may be added, one after the other. -/
theorem come_all (hy : LogOk nm y) (hl : y.length ≤ 256) : ∀ (out z left rest : List S32) (known : List Int), LogOk nm z → Agree known z → (z ++ (out ++ (left ++ rest))).Perm y → AllR known out →
  AddOk nm z out ∧ LogOk nm (addAll z out) ∧ Agree (ticks known out) (addAll z out) ∧ (addAll z out ++ (left ++ rest)).Perm y
 | [], z, left, rest, known, hz, ha, hp, _ => ⟨trivial, hz, ha, hp⟩
 | x :: t, z, left, rest, known, hz, ha, hp, hr => by
  obtain ⟨h1, h2⟩ := hr
  have hxy : x ∈ y := hp.mem_iff.1 (List.mem_append.2 (.inr (List.mem_append.2 (.inl List.mem_cons_self))))
  have hx := hy.ok x hxy
  have hrr := right_r hx
  have hripe : RipeZ z x := by
   unfold readyC at h1
   simp only [Bool.and_eq_true, decide_eq_true_eq] at h1
   exact (ripe_iff ha hx).1 h1.2.2
  have hw := ripe_why (L := x :: t) (rest := left ++ rest) hy hz hp hl (.inl List.mem_cons_self) hripe
  have hzl : z.length ≤ 256 := by
   have := hp.length_eq
   rw [List.length_append] at this
   omega
  have hp2 : (insS x z ++ (t ++ (left ++ rest))).Perm y := by
   refine List.Perm.trans ?_ hp
   refine ((insS_perm x z).append_right _).trans ?_
   rw [List.cons_append, List.cons_append]
   exact List.perm_middle.symm
  have ih := come_all hy hl t (insS x z) left rest _ (hz.add hw) (ha.tick hrr.1 hrr.2 hzl) hp2 h2
  exact ⟨⟨hw, ih.1⟩, ih.2.1, ih.2.2.1, ih.2.2.2⟩
/-- One step: a change of the rest comes. -/
theorem step_all {z L rest : List S32} {known : List Int} (hy : LogOk nm y) (hl : y.length ≤ 256) (hz : LogOk nm z) (hp : (z ++ (L ++ rest)).Perm y) (ha : Agree known z) (hg : Good L) (hno : ∀ x ∈ L, ¬ RipeZ z x) {i : Nat} (hi : i < rest.length) :
  ∃ L' out, takeF 256 L known (rd_T32 rest (i : Int)) = (L', out, 0) ∧ AddOk nm z out ∧ LogOk nm (addAll z out) ∧ (addAll z out ++ (L' ++ rest.eraseIdx i)).Perm y ∧ (∀ x ∈ L', ¬ RipeZ (addAll z out) x) := by
 have hm : rd_T32 rest (i : Int) ∈ rest := List.mem_of_getElem? (rd32_at hi)
 have hre := erase_perm hi
 generalize rd_T32 rest (i : Int) = c at *
 have hcy : c ∈ y := (mem_y hp).2 (.inr (.inr hm))
 have hx := hy.ok c hcy
 have hrr := right_r hx
 have hny := not_yet hy hz hp (.inr hm)
 have hnow : ownX L c = false := by
  unfold ownX
  refine decide_eq_false (fun h => ?_)
  have hn : ((z ++ (L ++ rest)).map keyOf).Nodup := (hp.map keyOf).nodup_iff.2 hy.nk
  rw [List.map_append, List.map_append, List.nodup_append] at hn
  exact (List.nodup_append.1 hn.2.1).2.2 _ h _ (List.mem_map_of_mem hm) rfl
 have hwi : withinX known c = false := by
  unfold withinX
  rw [ha.at_ _ hrr.1 hrr.2]
  exact decide_eq_false (by omega)
 have hLl : ¬ ((256 : Int) ≤ (L.length : Int)) := by
  have h1 := hp.length_eq
  have h2 := List.length_pos_of_mem hm
  rw [List.length_append, List.length_append] at h1
  omega
 have hLy : ∀ x ∈ L, checkX x = 0 := hg.ok
 unfold takeF
 rw [if_pos ha.chk, if_pos hx, hwi, hnow, Bool.or_false, if_neg Bool.false_ne_true]
 cases hr : ripeC known c with
 | false =>
  rw [if_neg Bool.false_ne_true, if_neg hLl]
  have hpc := putC_perm hg hnow
  refine ⟨_, _, rfl, trivial, hz, ?_, fun x hxm => ?_⟩
  ·refine List.Perm.trans (List.Perm.append_left z ?_) hp
   show (((L.take (cntX c L) ++ c :: L.drop (cntX c L)) ++ rest.eraseIdx i)).Perm (L ++ rest)
   refine (hpc.append_right _).trans ?_
   rw [List.cons_append]
   refine List.perm_middle.symm.trans ?_
   exact hre.append_left L
  ·rcases List.mem_cons.1 (hpc.mem_iff.1 hxm) with e | hxL
   ·rw [e]
    intro hq
    rw [(ripe_iff ha hx).2 hq] at hr
    cases hr
   ·exact hno x hxL
 | true =>
  rw [if_pos (rfl : true = true)]
  have hall := relF_all known L.length [c] L (Nat.le_refl _) (tick_chk _ _) ⟨ready_of ha.chk hx hr, trivial⟩ hLy
  have hpm := relF_perm L.length (tickC known c.f0.f1).1 [c] L
  have hsb := fun u hu => relF_sub L.length (tickC known c.f0.f1).1 [c] L u (.inr hu)
  have e1 : ticks known [c] = (tickC known c.f0.f1).1 := rfl
  rw [e1] at hall
  generalize hR : relF L.length (tickC known c.f0.f1).1 [c] L = R at *
  obtain ⟨out, left⟩ := R
  have hp2 : (z ++ (out ++ (left ++ rest.eraseIdx i))).Perm y := by
   refine List.Perm.trans (List.Perm.append_left z ?_) hp
   rw [← List.append_assoc]
   refine (hpm.append_right _).trans ?_
   show (c :: L ++ rest.eraseIdx i).Perm (L ++ rest)
   rw [List.cons_append]
   refine List.perm_middle.symm.trans ?_
   exact hre.append_left L
  obtain ⟨q1, q2, q3, q4⟩ := come_all hy hl out z left (rest.eraseIdx i) known hz ha hp2 hall.1
  refine ⟨left, out, rfl, q1, q2, q4, fun x hxm hq => ?_⟩
  have hxc : checkX x = 0 := by
   rcases hsb x hxm with h | h
   ·rw [List.mem_singleton.1 h]; exact hx
   ·exact hLy x h
  have h1 := hall.2 x hxm
  rw [ready_of q3.chk hxc ((ripe_iff q3 hxc).2 hq)] at h1
  cases h1
/-- At the end nothing is held, and the log is y. -/
theorem end_all {z L : List S32} (hy : LogOk nm y) (hz : LogOk nm z) (hp : (z ++ (L ++ [])).Perm y) (hg : Good L) (hno : ∀ x ∈ L, ¬ RipeZ z x) : L = [] ∧ z = y := by
 have hL : L = [] := by
  cases L with
  | nil => rfl
  | cons x t =>
   exfalso
   have hpw := (List.pairwise_cons.1 hg.ord).1
   have hxy : x ∈ y := (mem_y hp).2 (.inr (.inl List.mem_cons_self))
   have hx := hy.ok x hxy
   have hx1 := (check_ok hx).1
   have hxd := check_ok hx
   have hny := not_yet hy hz hp (.inl (List.mem_cons_self (a := x) (l := t)))
   have hlow : ∀ u ∈ y, lessX u x = true → u ∈ z := fun u hu hlt => by
    rcases (mem_y hp).1 hu with h | h | h
    ·exact h
    ·rcases List.mem_cons.1 h with e | h
     ·exact absurd (less_irr hlt (by rw [e])) id
     ·have h1 := hpw u h
      rw [bef_iff] at h1
      rw [less_iff] at hlt
      omega
    ·exact absurd h List.not_mem_nil
   refine hno x List.mem_cons_self ⟨?_, fun r h1 => ?_⟩
   ·have ho := check_own hx
    by_cases hs : x.f1 = 1
    ·omega
    ·unfold atC at ho
     split at ho
     ·omega
     ·rename_i hq
      have hrr := right_r hx
      obtain ⟨j, hj⟩ := Int.eq_ofNat_of_zero_le hrr.1
      rw [hj] at ho hq
      obtain ⟨u, hu, e1, e2, e3⟩ := (hy.deps x hxy).1 j (by omega) (by omega)
      have hm := (hz.clk x.f0.f1 (x.f1 - 1)).1 ⟨u, hlow u hu e3, by rw [e1, hj], by rw [e2, ho]⟩
      omega
   ·by_cases h2 : rd x.f2 (r : Int) = 0
    ·omega
    ·obtain ⟨u, hu, e1, e2, e3⟩ := (hy.deps x hxy).1 r h1 h2
     exact ((hz.clk (r : Int) (rd x.f2 (r : Int))).1 ⟨u, hlow u hu e3, e1, e2⟩).2
 subst hL
 refine ⟨rfl, sorted_eq hz.ord hy.ord ?_⟩
 rwa [List.append_nil, List.append_nil] at hp
end
end Go.Proofs.Ytnopjjilpgekfaa.PCa
