/- The document's list of a tree's nodes; its Check. -/
import Derived.Test.YtnkbgimihikhoaaMVtI
import Derived.Test.YtnkbgimihikhoaaMVtB
import Derived.Test.YtnkbgimihikhoaaMVtR
import Derived.Test.YtnkbgimihikhoaaMVtPa
import Derived.Deep.QuietTactic
import Derived.BigQuiet
import Derived.WalkKit
import Derived.IntWalk
import Derived.Laws.Cover1
namespace Go.Proofs.Ytnkbgimihikhoaa.PVt
open Go.RowKit Go.Proofs.YtnkbgimihikhoaaW.PrintWords Go.Proofs.YtnkbgimihikhoaaW.PrintLast Go.Proofs.YtnkbgimihikhoaaW.PrintMore
set_option linter.unusedVariables false
set_option linter.unusedSimpArgs false
mutual
/-- A tree's nodes in its order. -/
def flatL : S27 → List S27
  | ⟨k, t, x, a, l⟩ => ⟨k, t, x, a, l⟩ :: flatLs l
def flatLs : List S27 → List S27
  | [] => []
  | x :: l => flatL x ++ flatLs l
end
theorem flatL_eq (x : S27) : flatL x = x :: flatLs x.f4 := by cases x; simp [flatL]
theorem flatLs_append : ∀ l m : List S27, flatLs (l ++ m) = flatLs l ++ flatLs m
  | [], m => by simp [flatLs]
  | x :: l, m => by simp [flatLs, flatLs_append l m]
theorem flatLs_snoc (l : List S27) {k : Nat} (h : k < l.length) : flatLs (l.take (k + 1)) = flatLs (l.take k) ++ flatL (l.getD k z27) := by
  rw [take_snoc27 l h, flatLs_append]; simp [flatLs]
mutual
theorem flatL_map : ∀ (d : Nat) (x : S27), (flatD d x).map (·.2) = flatL x
  | d, ⟨k, t, x, a, l⟩ => by simp [flatD, flatL, flatLs_map (d + 1) l]
theorem flatLs_map : ∀ (d : Nat) (l : List S27), (flatDs d l).map (·.2) = flatLs l
  | _, [] => by simp [flatDs, flatLs]
  | d, x :: l => by simp [flatDs, flatLs, flatL_map d x, flatLs_map d l]
end
theorem flatL_length (x : S27) : (flatL x).length = szT x := by rw [← flatL_map 0 x, List.length_map, flatD_length]
theorem flatLs_length (l : List S27) : (flatLs l).length = szTs l := by rw [← flatLs_map 0 l, List.length_map, flatDs_length]
/-- The row that a call was handed has grown, or moved to a new block. -/
def Moved (b : Nat) (v v' : Value) : Prop := v'.ownBlock = v.ownBlock ∨ ∃ k, v'.ownBlock = some k ∧ b ≤ k
/-- The list so far has room for more nodes. -/
def Room (m k : Nat) : Prop := (m + k) * 96 ≤ 140737488355328
theorem Room.one {m k : Nat} (h : Room m k) (hk : 1 ≤ k) : (m + 1) * 96 ≤ 140737488355328 := by unfold Room at h; omega
theorem Room.kid {m k : Nat} {x : S27} (h : Room m (szT x)) (hk : k < x.f4.length) {l : List S27} (hl : l.length = m + 1 + szTs (x.f4.take k)) : Room l.length (szT (x.f4.getD k z27)) := by
  have h1 := szTs_snoc x.f4 hk
  have h2 := szTs_take x.f4 (k + 1)
  have h3 := szT_eq x
  unfold Room at h ⊢
  rw [hl]
  omega
theorem flat_len (ys : List S27) (x : S27) (l : List S27) : (ys ++ x :: flatLs l).length = ys.length + 1 + szTs l := by rw [List.length_append, List.length_cons, flatLs_length]; omega
theorem Moved.trans {b c : Nat} {v v' v'' : Value} (h : Moved b v v') (k : Moved c v' v'') (hbc : b ≤ c) : Moved b v v'' := by
  rcases k with k | ⟨j, k, hj⟩
  · rcases h with h | ⟨i, h, hi⟩
    · exact .inl (k.trans h)
    · exact .inr ⟨i, k.trans h, hi⟩
  · exact .inr ⟨j, k, Nat.le_trans hbc hj⟩
theorem Moved.low {b c : Nat} {v v' : Value} (h : Moved b v v') (hc : c ≤ b) : Moved c v v' := h.imp id (fun ⟨k, h1, h2⟩ => ⟨k, h1, Nat.le_trans hc h2⟩)
theorem grown_moved {U wr w3 : World} {v v' : Value} (h : U.grownBy wr v.ownBlock) (m : Moved U.heap.size v v') (g : wr.grownBy w3 v'.ownBlock) : U.grownBy w3 v.ownBlock :=
  ⟨g.os.trans h.os, g.tape.trans h.tape, g.output.trans h.output, Nat.le_trans h.size g.size, fun k hk hne => (g.block k (Nat.lt_of_lt_of_le hk h.size) (fun e => by
    rcases m with m | ⟨j, m, hj⟩
    · exact hne (e.trans m)
    · rw [m] at e
      injection e with e
      omega)).trans (h.block k hk hne)⟩
theorem grown_alloc {w w' : World} {o : Obj} {r : Option Nat} (h : (w.alloc o).grownBy w' r) : w.grownBy w' r :=
  ⟨h.os, h.tape, h.output, Nat.le_trans (by rw [Mem.alloc_size]; omega) h.size, fun k hk hne => (h.block k (by rw [Mem.alloc_size]; omega) hne).trans ((below_alloc (Below.refl w.heap.size w) o).block k hk)⟩
theorem low_grown {base : Nat} {w w1 : World} {v : Value} (h : w.grownBy w1 v.ownBlock) (hb : base ≤ w.heap.size) (hv : ∀ k, v.ownBlock = some k → base ≤ k) : Below base w w1 := (Below.refl base w).grown h hb hv
theorem TK.rows {w : World} {n0 : Nat} {x : S27} {A4 : Option Addr} {c4 : Nat} {A5 : Option Addr} {c5 : Nat} (h : TK w n0 x (cs27 x A4 c4 A5 c5).toList) : x.f3.length ≤ c4 ∧ Kd.F k99 w (fun k => k < n0) A4 x.f3.length x.f3 ∧ x.f4.length ≤ c5 ∧ Kd.F k27 w (fun k => k < n0) A5 x.f4.length x.f4 := by
  obtain ⟨B4, e4, B5, e5, he, l4, g4, l5, g5⟩ := h.open
  injection he with _ he
  injection he with _ he
  injection he with _ he
  injection he with _ he
  injection he with he he2
  injection he with e1 e2 e3
  subst e1 e3
  injection he2 with he2
  injection he2 with e1 e2 e3
  subst e1 e3
  exact ⟨l4, g4, l5, g5⟩
set_option maxHeartbeats 4000000 in
set_option maxRecDepth 100000 in
theorem flat_calls (n0 base : Nat) (hn : n0 ≤ base) : ∀ (q : Nat) (w : World) (x : S27) (A4 : Option Addr) (c4 : Nat) (A5 : Option Addr) (c5 : Nat) (v : Value) (ys : List S27), szT x ≤ q → TK w n0 x (cs27 x A4 c4 A5 c5).toList → Kd.N k27 27 w base (fun _ => True) v ys → base ≤ w.heap.size → Room ys.length (szT x) →
    Calls Try.prog 61 #[.agg (cs27 x A4 c4 A5 c5), v] w fun e w' => ∃ v', e = .returned v' ∧ Kd.N k27 27 w' base (fun _ => True) v' (ys ++ flatL x) ∧ Below base w w' ∧ w.grownBy w' v.ownBlock ∧ Moved w.heap.size v v'
  | 0, w, x, _, _, _, _, _, _, h, _, _, _, _ => by have := szT_pos x; omega
  | q + 1, w, x, A4, c4, A5, c5, v, ys, hq, hx, hv, hb, hr => by
    have IH := Aside0.mk (flat_calls n0 base hn q)
    have HX := Aside0.mk hx
    have HV := Aside0.mk hv
    have HBS := Aside0.mk hb
    have HR := Aside0.mk hr
    have HQ := Aside0.mk hq
    have HN := Aside0.mk hn
    clear hq hx hv hb hr hn
    go_enter Try.func61, Try.ntmps61
    go_wp2_with (first | ((with_reducible refine gate_builtin (b := .append) (xs := #[.tmp 6, .tmp 8]) rfl ?_); at_builtin; go_loud (refine Kd.N_append k27 (w0 := w) base rfl (.tmp 6) (.tmp 8) 25 27 (.agg #[(.int .i64 0), (.int .i64 0), (.string ⟨#[]⟩), (.string ⟨#[]⟩), (.slice none 0 0), (.slice none 0 0)]) 96 rfl Try.underlying25 info27 rfl (by decide) (by omega) v ys x (cs27 x A4 c4 A5 c5).toList (fun _ => True) (fun k => k < n0) rfl (by rw [Mem.alloc_size]; rfl) ?aP ?aK (fun _ _ => trivial) ?aO ?aB ?aS ?aL ?_); (case aP => exact Kd.FK_below HX.out (below_alloc (Below.refl _ _) _)); (case aK => exact fun k hk => ⟨trivial, fun e => by have := Kd.N_base HV.out k e.symm; have := HN.out; omega⟩); (case aO => exact Kd.N_alloc HV.out _); (case aB => exact (Below.refl base w).alloc HBS.out _); (case aS => have := HBS.out; rw [Mem.alloc_size]; omega); (case aL => exact HR.out.one (szT_pos x)); intro v1 w1 hv1 hb1 hg1 hm1; have HV1 := Aside0.mk hv1; have HB1 := Aside0.mk hb1; have HG1 := Aside0.mk hg1; have HM1 := Aside0.mk hm1; clear hv1 hb1 hg1 hm1))
    have HSU : Aside0 ((w.alloc (.cells (cs27 x A4 c4 A5 c5) 27)).heap.size = w.heap.size + 1) := ⟨Mem.alloc_size _ _⟩
    have HB0 : Aside0 ((w.alloc (.cells (cs27 x A4 c4 A5 c5) 27)).heap[w.heap.size]? = some (.cells (cs27 x A4 c4 A5 c5) 27 (0, 0))) := ⟨Mem.alloc_new _ _⟩
    have HWU : Aside0 (∀ w', (w.alloc (.cells (cs27 x A4 c4 A5 c5) 27)).grownBy w' v.ownBlock → w.grownBy w' v.ownBlock) := ⟨fun _ h => grown_alloc h⟩
    generalize w.alloc (.cells (cs27 x A4 c4 A5 c5) 27) = U at *
    have HNE : Aside0 (some w.heap.size ≠ v.ownBlock) := ⟨fun e => by have := Kd.N_lt HV.out _ e.symm; omega⟩
    obtain ⟨_, _, hl5, hF5⟩ := HX.out.rows
    have hmax : x.f4.length ≤ 9223372036854775807 := (Kd.F_now hF5).2.1
    have HMX := Aside0.mk hmax
    have HF5 := Aside0.mk hF5
    clear hl5 hF5 hmax
    go_loopw [1, 5] (fun v' i wr => ∃ k : Nat, i = .int .i64 (k : Int) ∧ Aside0 (k ≤ x.f4.length) ∧ Aside0 (Kd.N k27 27 wr base (fun _ => True) v' (ys ++ x :: flatLs (x.f4.take k))) ∧ Aside0 (Below base w wr) ∧ Aside0 (U.grownBy wr v.ownBlock) ∧ Aside0 (Moved U.heap.size v v')) (fun _ i _ => x.f4.length - (intOf i).toNat)
    case atStart => exact ⟨0, rfl, ⟨Nat.zero_le _⟩, HV1, HB1, HG1, HM1⟩
    case round =>
      clear HV1 HB1 HG1 HM1
      obtain ⟨k, rfl, HK, HVR, HBR, HGR, HMR⟩ := hrel
      have HBX : Aside0 (wr.heap[w.heap.size]? = some (.cells (cs27 x A4 c4 A5 c5) 27 (0, 0))) := ⟨(HGR.out.block _ (by have := HSU.out; omega) HNE.out).trans HB0.out⟩
      have b5 := Mem.cell_of HBX.out 5
      by_cases hlt : k < x.f4.length
      · have HW := Aside0.mk (wrap_in hlt HMX.out)
        have HFR : Kd.F k27 wr (fun k => k < n0) A5 x.f4.length x.f4 := Kd.F_step HF5.out (fun i hi _ => HBR.out.block i (Nat.lt_of_lt_of_le hi HN.out))
        obtain ⟨ad, B4, d4, B5, d5, rfl, hc, hk⟩ := kid_at HFR k hlt
        have HKD := Aside0.mk hk
        have HRK := Aside0.mk (HR.out.kid hlt (flat_len ys x (x.f4.take k)))
        have HQK : Aside0 (szT (x.f4.getD k z27) ≤ q) := ⟨by have := szT_kid x.f4 hlt; have := szT_eq x; have := HQ.out; omega⟩
        have HSN : Aside0 ((ys ++ x :: flatLs (x.f4.take k)) ++ flatL (x.f4.getD k z27) = ys ++ x :: flatLs (x.f4.take (k + 1))) := ⟨by rw [flatLs_snoc x.f4 hlt, List.append_assoc, List.cons_append]⟩
        have HLT := Aside0.mk hlt
        obtain ⟨x0, x1, x2, x3, x4, x5⟩ := hc
        have e6 : ((k : Int) < (x.f4.length : Int)) = True := eq_true (Int.ofNat_lt.2 hlt)
        have e7 : (k < x.f4.length) = True := eq_true hlt
        have hkn : (k : Int).toNat = k := Int.toNat_natCast k
        have hkp : (0 : Int) ≤ (k : Int) := Int.natCast_nonneg k
        generalize x.f4.getD k z27 = y at *
        obtain ⟨p, hp⟩ : ∃ p, ad.add (k * 6) = p := ⟨_, rfl⟩
        rw [hp] at x0 x1 x2 x3 x4 x5
        clear hk HFR hlt
        go_wp2_with (fail)
        refine (IH.out wr y B4 d4 B5 d5 _ _ HQK.out HKD.out HVR.out (Nat.le_trans HBS.out HBR.out.size) HRK.out).mono ?_
        rintro e w3 ⟨v3, rfl, hv3, hb3, hg3, hm3⟩
        rw [HSN.out] at hv3
        dsimp only
        have HV3 := Aside0.mk hv3
        have HB3 := Aside0.mk (HBR.out.trans hb3)
        have HG3 := Aside0.mk (grown_moved HGR.out HMR.out hg3)
        have HM3 := Aside0.mk (HMR.out.trans hm3 HGR.out.size)
        clear hv3 hb3 hg3 hm3 b5 x0 x1 x2 x3 x4 x5
        go_wp2_with (fail)
        exact ⟨⟨k + 1, by rw [HW.out], ⟨by have := HLT.out; omega⟩, HV3, HB3, HG3, HM3⟩, dec_kid HLT.out HW.out⟩
      · have e6 : ((k : Int) < (x.f4.length : Int)) = False := eq_false (by omega)
        have e7 : (k < x.f4.length) = False := eq_false hlt
        have HTA : Aside0 (x.f4.take k = x.f4) := ⟨List.take_of_length_le (by omega)⟩
        clear hlt
        go_wp2_with (fail)
        go_ret
        rw [HTA.out] at HVR
        exact ⟨_, rfl, by rw [flatL_eq]; exact HVR.out, HBR.out, HWU.out _ HGR.out, HMR.out.low (by have := HSU.out; omega)⟩
theorem empty_N (W : World) (base b : Nat) (hb : b = W.heap.size) (h : base ≤ W.heap.size) : Kd.N k27 27 (W.alloc (.cells #[] 27)) base (fun _ => True) (.slice (some ⟨b, 0, none⟩) 0 0) [] := by
  subst hb
  exact Kd.R_N ⟨fun _ _ => trivial, [], World.ownsRow_made W #[] 0 h (Nat.zero_le _) rfl, Reps.none _ _⟩
set_option maxHeartbeats 4000000 in
set_option maxRecDepth 100000 in
/-- A tree's nodes in a new list. -/
theorem flatten_calls (n0 : Nat) (w : World) (x : S27) (A4 : Option Addr) (c4 : Nat) (A5 : Option Addr) (c5 : Nat) (hx : TK w n0 x (cs27 x A4 c4 A5 c5).toList) (hn : n0 ≤ w.heap.size) (hr : Room 0 (szT x)) :
    Calls Try.prog 29 #[.agg (cs27 x A4 c4 A5 c5)] w fun e w' => ∃ v, e = .returned v ∧ Kd.N k27 27 w' w.heap.size (fun _ => True) v (flatL x) ∧ Below w.heap.size w w' := by
  have HX := Aside0.mk hx
  have HN := Aside0.mk hn
  have HR := Aside0.mk hr
  clear hx hn hr
  go_enter Try.func29, Try.ntmps29
  go_wp2_with (fail)
  have HB := Aside0.mk (below_alloc (below_alloc (Below.refl w.heap.size w) (.cells (cs27 x A4 c4 A5 c5) 27)) (.cells #[] 27))
  refine (flat_calls n0 w.heap.size HN.out (szT x) _ x _ _ _ _ _ [] (Nat.le_refl _) (HX.out.low (fun i hi => HB.out.block i (Nat.lt_of_lt_of_le hi HN.out))) (empty_N _ _ _ (by rw [Mem.alloc_size]) (by rw [Mem.alloc_size]; omega)) HB.out.size HR.out).mono ?_
  rintro e w3 ⟨v3, rfl, hv3, hb3, _, _⟩
  dsimp only
  have HV3 := Aside0.mk hv3
  have HB3 := Aside0.mk (HB.out.trans hb3)
  clear hv3 hb3 HB
  go_wp2_with (fail)
  go_ret
  exact ⟨_, rfl, HV3.out, HB3.out⟩
end Go.Proofs.Ytnkbgimihikhoaa.PVt
namespace Go.Proofs.Ytnkbgimihikhoaa.PVt
open Go.RowKit Go.Proofs.YtnkbgimihikhoaaW.PrintWords Go.Proofs.YtnkbgimihikhoaaW.PrintLast Go.Proofs.YtnkbgimihikhoaaW.PrintMore
set_option linter.unusedVariables false
set_option linter.unusedSimpArgs false
theorem wrap_s {i n : Nat} (h : i < n) (hn : n ≤ 140737488351232) : wrap64 ((i : Int) + 1) = ((i + 1 : Nat) : Int) := by unfold wrap64; omega
theorem rname_l (s : ByteArray) (hs : s.size ≤ 140737488351232) (h0 : 0 < s.size) : ∀ (n i k : Nat), 0 < i → i + n = s.size → n + 1 ≤ k → topiaryref05_Name.l0 k s (i : Int) = some (okFrom s n i && decide (s.size ≤ 32))
  | 0, i, 0, h1, h, hk => by omega
  | 0, i, k + 1, h1, h, hk => by
    simp only [topiaryref05_Name.l0]
    rw [if_neg (by omega), if_pos (by omega)]
    show some (decide ((s.size : Int) ≤ 32)) = some (true && decide (s.size ≤ 32))
    rw [Bool.true_and, show decide ((s.size : Int) ≤ 32) = decide (s.size ≤ 32) from decide_eq_decide.2 (by omega)]
  | n + 1, i, 0, h1, h, hk => by omega
  | n + 1, i, k + 1, h1, h, hk => by
    have go := rname_l s hs h0 n (i + 1) k (by omega) (by omega) (by omega)
    have hw := wrap_s (i := i) (n := s.size) (by omega) hs
    have c1 : (i : Int) < (s.size : Int) := by omega
    have c2 : (0 : Int) ≤ (i : Int) := by omega
    have c3 : ¬ (i : Int) = 0 := by omega
    clear h hk hs h0 h1
    simp only [topiaryref05_Name.l0]
    rw [if_pos c1, if_pos c2, hw, go, okFrom_succ, if_neg c3]
    generalize bt s (i : Int) = c
    by_cases a1 : c ≥ 97
    · rw [if_pos a1]
      by_cases a2 : c ≤ 122
      · rw [if_pos a2, okB_t (by omega), Bool.true_and]
      · rw [if_neg a2, if_neg (by omega), if_neg (by omega), if_pos (by omega), okB_f (by omega), Bool.false_and, Bool.false_and]
    · rw [if_neg a1]
      by_cases a3 : c = 45
      · rw [if_pos a3, okB_t (by omega), Bool.true_and]
      · rw [if_neg a3]
        by_cases a4 : c < 48
        · rw [if_pos a4, okB_f (by omega), Bool.false_and, Bool.false_and]
        · rw [if_neg a4]
          by_cases a5 : c > 57
          · rw [if_pos a5, okB_f (by omega), Bool.false_and, Bool.false_and]
          · rw [if_neg a5, okB_t (by omega), Bool.true_and]
theorem rname_f (s : ByteArray) (hs : s.size ≤ 140737488351232) : topiaryref05_Name.f (s.size + 1) s = some (nameP s) := by
  unfold topiaryref05_Name.f nameP
  by_cases h0 : s.size = 0
  · rw [h0]
    simp only [topiaryref05_Name.l0]
    rw [if_neg (by omega), if_neg (by omega), show decide (0 < 0 ∧ 0 ≤ 32) = false from rfl, Bool.false_and]
  · obtain ⟨n, hn⟩ : ∃ n, s.size = n + 1 := ⟨s.size - 1, by omega⟩
    have go := rname_l s hs (by omega) n 1 s.size (by omega) (by omega) (by omega)
    have hw := wrap_s (i := 0) (n := s.size) (by omega) hs
    rw [show ((0 : Nat) : Int) = 0 from rfl] at hw
    have c1 : (0 : Int) < (s.size : Int) := by omega
    have hd : decide (0 < s.size ∧ s.size ≤ 32) = decide (s.size ≤ 32) := decide_eq_decide.2 (by omega)
    have ho : okFrom s s.size 0 = (okB (bt s 0) && okFrom s n 1) := by rw [hn, okFrom_succ]; rfl
    simp only [topiaryref05_Name.l0]
    rw [if_pos c1, if_pos (Int.le_refl 0), hw, show ((0 + 1 : Nat) : Int) = ((1 : Nat) : Int) from rfl, go, if_pos trivial, hd, ho]
    clear go hw c1 hd ho hn h0 hs
    generalize bt s 0 = c
    by_cases a1 : c ≥ 97
    · rw [if_pos a1]
      by_cases a2 : c ≤ 122
      · rw [if_pos a2, okB_t (by omega), Bool.true_and, show decide (97 ≤ c ∧ c ≤ 122) = true from decide_eq_true (by omega), Bool.true_and, Bool.and_comm]
      · rw [if_neg a2, show decide (97 ≤ c ∧ c ≤ 122) = false from decide_eq_false (by omega), Bool.false_and, Bool.and_false]
    · rw [if_neg a1, show decide (97 ≤ c ∧ c ≤ 122) = false from decide_eq_false (by omega), Bool.false_and, Bool.and_false]
theorem rname_calls (w : World) (s : ByteArray) (hs : s.size ≤ 140737488351232) : Calls Try.prog 68 #[.string s] w fun e w' => e = .returned (.bool (nameP s)) ∧ Below w.heap.size w w' :=
  (topiaryref05_Name.calls _ s (nameP s) w (rname_f s hs)).mono fun e w' ⟨h1, h2⟩ => ⟨h1, drawn_below h2⟩
theorem get_mem {l : List S99} {k : Nat} (h : k < l.length) : l.getD k z99 ∈ l := by rw [List.getD_eq_getElem?_getD, List.getElem?_eq_getElem h]; exact List.getElem_mem h
set_option maxHeartbeats 8000000 in
set_option maxRecDepth 100000 in
theorem rnode_calls (w : World) (x : S27) (A : Option Addr) (c : Nat) (v5 : Value) (hA : Kd.C k99 w A x.f3.length x.f3) (hs : x.f1.size ≤ 140737488351232) (ha : ∀ p ∈ x.f3, p.f0.size ≤ 140737488351232) :
    Calls Try.prog 47 #[.agg #[.int .i64 x.f0.f0, .int .i64 x.f0.f1, .string x.f1, .string x.f2, .slice A x.f3.length c, v5]] w fun e w' => e = .returned (.int .i64 (nodeP x)) ∧ Below w.heap.size w w' := by
  have HA := Aside0.mk hA
  have HN := Aside0.mk (rname_calls (w.alloc (.cells #[.int .i64 x.f0.f0, .int .i64 x.f0.f1, .string x.f1, .string x.f2, .slice A x.f3.length c, v5] 27)) x.f1 hs)
  have HSZ := Aside0.mk ha
  clear hA hs ha
  by_cases h1 : nameP x.f1 = true
  · have HP : Aside0 (nodeP x = if x.f2.size > 256 then 3 else if x.f3.length > 4096 then 3 else attrsFrom x.f3 x.f3.length 0) := ⟨by unfold nodeP; rw [if_pos h1]⟩
    rw [h1] at HN
    clear h1
    go_enter Try.func47, Try.ntmps47
    go_wp2_with (fail)
    refine HN.out.mono ?_
    rintro e w1 ⟨rfl, hb1⟩
    have HB : Aside0 (Below w.heap.size w w1) := ⟨(below_alloc (Below.refl _ _) _).trans (hb1.mono (by rw [Mem.alloc_size]; omega))⟩
    have hx1 : Aside0 (w1.heap[w.heap.size]? = some (.cells #[.int .i64 x.f0.f0, .int .i64 x.f0.f1, .string x.f1, .string x.f2, .slice A x.f3.length c, v5] 27 (0, 0))) := ⟨(hb1.block _ (by rw [Mem.alloc_size]; omega)).trans (Mem.alloc_new _ _)⟩
    have b3 := Mem.cell_of hx1.out 3
    have b4 := Mem.cell_of hx1.out 4
    clear hb1 HN
    by_cases h2 : 256 < x.f2.size
    · rw [if_pos h2] at HP
      have e2 : ((256 : Int) < (x.f2.size : Int)) = True := eq_true (by omega)
      have e3 : (256 < x.f2.size) = True := eq_true h2
      clear h2
      go_wp2
      go_ret
      exact ⟨ret_eq (by rw [HP.out]; rfl), HB.out⟩
    · rw [if_neg h2] at HP
      have e2 : ((256 : Int) < (x.f2.size : Int)) = False := eq_false (by omega)
      have e3 : (256 < x.f2.size) = False := eq_false h2
      clear h2
      by_cases h3 : 4096 < x.f3.length
      · rw [if_pos h3] at HP
        have e4 : ((4096 : Int) < (x.f3.length : Int)) = True := eq_true (by omega)
        have e5 : (4096 < x.f3.length) = True := eq_true h3
        clear h3
        go_wp2
        go_ret
        exact ⟨ret_eq (by rw [HP.out]; rfl), HB.out⟩
      · rw [if_neg h3] at HP
        have e4 : ((4096 : Int) < (x.f3.length : Int)) = False := eq_false (by omega)
        have e5 : (4096 < x.f3.length) = False := eq_false h3
        have hlm := Aside0.mk h3
        clear h3
        go_wp2
        go_loopw [3] (fun i wr => ∃ k : Nat, i = .int .i64 (k : Int) ∧ Aside0 (k ≤ x.f3.length) ∧ Aside0 (attrsFrom x.f3 (x.f3.length - k) k = nodeP x) ∧ Aside0 (Below w1.heap.size w1 wr)) (fun i _ => x.f3.length - (intOf i).toNat)
        case atStart => exact ⟨0, rfl, ⟨Nat.zero_le _⟩, ⟨by rw [HP.out]; rfl⟩, ⟨Below.refl _ _⟩⟩
        case round =>
          obtain ⟨k, rfl, HK, HAT, HBW⟩ := hrel
          have HX2 := Aside0.mk ((HBW.out.block _ (blk_lt hx1.out)).trans hx1.out)
          have b4' := Mem.cell_of HX2.out 4
          by_cases hlt : k < x.f3.length
          · have HW := Aside0.mk (next_kid hlt (Nat.le_of_not_lt hlm.out))
            obtain ⟨n, hn⟩ : ∃ n, x.f3.length - k = n + 1 := ⟨x.f3.length - k - 1, by omega⟩
            have HN : Aside0 (x.f3.length - (k + 1) = n) := ⟨by omega⟩
            rw [hn] at HAT
            clear hn
            have HC := Aside0.mk (Kd.C_below HA.out (HB.out.trans (HBW.out.mono HB.out.size)))
            obtain ⟨ad, hA', x0, x1⟩ := at_T99 HC.out (k : Int) (Int.natCast_nonneg _) (Int.ofNat_lt.2 hlt)
            rw [Int.toNat_natCast, rd99] at x0 x1
            obtain ⟨y, hy⟩ : ∃ y, x.f3.getD k z99 = y := ⟨_, rfl⟩
            have HY := Aside0.mk hy
            rw [hy] at x0 x1
            obtain ⟨p, hp⟩ : ∃ p, ad.add (k * 2) = p := ⟨_, rfl⟩
            have HPA := Aside0.mk hp
            rw [hp] at x0 x1
            subst hA'
            have HNM := Aside0.mk (rname_calls wr y.f0 (by rw [← HY.out]; exact HSZ.out _ (get_mem hlt)))
            have e6 : ((k : Int) < (x.f3.length : Int)) = True := eq_true (Int.ofNat_lt.2 hlt)
            have e7 : (k < x.f3.length) = True := eq_true hlt
            have HLT := Aside0.mk hlt
            have hkn : (k : Int).toNat = k := Int.toNat_natCast k
            have hkp : (0 : Int) ≤ (k : Int) := Int.natCast_nonneg k
            have b3' := Mem.cell_of HX2.out 3
            clear hy hlt b3
            by_cases h4 : nameP y.f0 = true
            · rw [h4] at HNM
              have HA1 : Aside0 (nodeP x = if y.f1.size > 256 then 3 else if 0 < k ∧ ¬ Op.bytesLess (x.f3.getD (k - 1) z99).f0.toList y.f0.toList = true then 2 else attrsFrom x.f3 n (k + 1)) := ⟨by rw [← HAT.out]; show (if nameP (x.f3.getD k z99).f0 = true then _ else _) = _; rw [HY.out, if_pos h4]⟩
              clear h4
              go_wp2_with (fail)
              refine HNM.out.mono ?_
              rintro e w3 ⟨rfl, hb3⟩
              have HB3 : Aside0 (Below wr.heap.size wr w3) := ⟨hb3⟩
              have HX3 : Aside0 (w3.heap[w.heap.size]? = some (.cells #[.int .i64 x.f0.f0, .int .i64 x.f0.f1, .string x.f1, .string x.f2, .slice (some ad) x.f3.length c, v5] 27 (0, 0))) := ⟨(HB3.out.block _ (blk_lt HX2.out)).trans HX2.out⟩
              have y0 := pw_cell_below hb3 x0
              have y1 := pw_cell_below hb3 x1
              have b3 : w3.cell? ⟨w.heap.size, 4, none⟩ = some (.slice (some ad) x.f3.length c) := Mem.cell_of HX3.out 4
              clear hb3 HNM x0 x1 b3' b4 b4'
              by_cases h5 : 256 < y.f1.size
              · rw [if_pos h5] at HA1
                have e8 : ((256 : Int) < (y.f1.size : Int)) = True := eq_true (by omega)
                have e9 : (256 < y.f1.size) = True := eq_true h5
                clear h5
                go_wp2
                go_ret
                exact ⟨ret_eq (by rw [HA1.out]; rfl), HB.out.trans ((HBW.out.trans (HB3.out.mono HBW.out.size)).mono HB.out.size)⟩
              · rw [if_neg h5] at HA1
                have e8 : ((256 : Int) < (y.f1.size : Int)) = False := eq_false (by omega)
                have e9 : (256 < y.f1.size) = False := eq_false h5
                clear h5
                by_cases h6 : 0 < k
                · have H6a := Aside0.mk h6
                  have e10 : ((0 : Int) < (k : Int)) = True := eq_true (by omega)
                  have e11 : (0 < k) = True := eq_true h6
                  have hw_ : wrap64 ((k : Int) - 1) = ((k - 1 : Nat) : Int) := by have h_ := HLT.out; have h2_ := hlm.out; clear e4 e5 e6 e7 e8 e9 e10 e11; unfold wrap64; omega
                  have hw3 := wrap_pred H6a.out HLT.out hlm.out
                  have HC3 := Aside0.mk (Kd.C_below HC.out HB3.out)
                  obtain ⟨ad2, hA2, z0, z1⟩ := at_T99 HC3.out ((k - 1 : Nat) : Int) (Int.natCast_nonneg _) (Int.ofNat_lt.2 (by have h_ := HLT.out; omega))
                  obtain rfl : ad = ad2 := by injection hA2
                  rw [Int.toNat_natCast, rd99] at z0 z1
                  obtain ⟨q, hq⟩ : ∃ q, ad.add ((k - 1) * 2) = q := ⟨_, rfl⟩
                  obtain ⟨u, hu⟩ : ∃ u, x.f3.getD (k - 1) z99 = u := ⟨_, rfl⟩
                  have HU := Aside0.mk hu
                  rw [hq, hu] at z0
                  rw [hu] at HA1
                  have HQ := Aside0.mk hq
                  have hk1 : ((k - 1 : Nat) : Int).toNat = k - 1 := Int.toNat_natCast _
                  have hk2 : (0 : Int) ≤ ((k - 1 : Nat) : Int) := Int.natCast_nonneg _
                  have hk3 : ((k - 1 : Nat) : Int) < (x.f3.length : Int) := Int.ofNat_lt.2 (by have h_ := HLT.out; omega)
                  clear hA2 z1
                  have H6 := Aside0.mk h6
                  clear h6
                  by_cases h7 : Op.bytesLess u.f0.toList y.f0.toList = true
                  · rw [if_neg (fun h => h.2 h7)] at HA1
                    go_wp2_with (fail)
                    go_quiet ((fail))
                    go_wp2_with (fail)
                    go_roundw
                    case rel => exact ⟨k + 1, congrArg (Value.int .i64) HW.out, ⟨HLT.out⟩, ⟨by rw [HN.out]; exact HA1.out.symm⟩, ⟨HBW.out.trans ((HB3.out.trans (pw_below_drewN (Below.refl _ _) _)).mono HBW.out.size)⟩⟩
                    case measure => exact dec_kid HLT.out HW.out
                  · rw [if_pos ⟨H6.out, h7⟩] at HA1
                    have h8 : Op.bytesLess u.f0.toList y.f0.toList = false := Bool.eq_false_iff.2 h7
                    clear h7
                    go_wp2_with (fail)
                    go_quiet ((fail))
                    go_wp2
                    go_ret
                    exact ⟨ret_eq (by rw [HA1.out]; rfl), HB.out.trans ((HBW.out.trans ((HB3.out.trans (pw_below_drewN (Below.refl _ _) _)).mono HBW.out.size)).mono HB.out.size)⟩
                · have e10 : ((0 : Int) < (k : Int)) = False := eq_false (by omega)
                  have e11 : (0 < k) = False := eq_false h6
                  rw [if_neg (fun h => h6 h.1)] at HA1
                  clear h6
                  go_wp2_with (fail)
                  go_quiet ((fail))
                  go_wp2_with (fail)
                  go_roundw
                  case rel => exact ⟨k + 1, congrArg (Value.int .i64) HW.out, ⟨HLT.out⟩, ⟨by rw [HN.out]; exact HA1.out.symm⟩, ⟨HBW.out.trans ((HB3.out.trans (pw_below_drewN (Below.refl _ _) _)).mono HBW.out.size)⟩⟩
                  case measure => exact dec_kid HLT.out HW.out
            · have HA1 : Aside0 (nodeP x = 8) := ⟨by rw [← HAT.out]; show (if nameP (x.f3.getD k z99).f0 = true then _ else _) = _; rw [HY.out, if_neg h4]⟩
              rw [Bool.eq_false_iff.2 h4] at HNM
              clear h4
              go_wp2_with (fail)
              refine HNM.out.mono ?_
              rintro e w3 ⟨rfl, hb3⟩
              have HB3 : Aside0 (Below wr.heap.size wr w3) := ⟨hb3⟩
              clear hb3 HNM
              go_wp2
              go_ret
              exact ⟨ret_eq (by rw [HA1.out]; rfl), HB.out.trans ((HBW.out.trans (HB3.out.mono HBW.out.size)).mono HB.out.size)⟩
          · have e6 : ((k : Int) < (x.f3.length : Int)) = False := eq_false (by omega)
            have e7 : (k < x.f3.length) = False := eq_false hlt
            have hk : x.f3.length - k = 0 := by omega
            rw [hk] at HAT
            clear hk hlt
            go_wp2
            go_ret
            exact ⟨ret_eq (by rw [← HAT.out]; rfl), HB.out.trans (HBW.out.mono HB.out.size)⟩
  · have HP : Aside0 (nodeP x = 8) := ⟨by unfold nodeP; rw [if_neg h1]⟩
    rw [Bool.eq_false_iff.2 h1] at HN
    clear h1
    go_enter Try.func47, Try.ntmps47
    go_wp2_with (fail)
    refine HN.out.mono ?_
    rintro e w1 ⟨rfl, hb1⟩
    have HB : Aside0 (Below w.heap.size w w1) := ⟨(below_alloc (Below.refl _ _) _).trans (hb1.mono (by rw [Mem.alloc_size]; omega))⟩
    clear hb1 HN
    go_wp2
    go_ret
    exact ⟨ret_eq (by rw [HP.out]; rfl), HB.out⟩
end Go.Proofs.Ytnkbgimihikhoaa.PVt
namespace Go.Proofs.Ytnkbgimihikhoaa.PVt
open Go.RowKit Go.Proofs.YtnkbgimihikhoaaW.PrintWords Go.Proofs.YtnkbgimihikhoaaW.PrintLast Go.Proofs.YtnkbgimihikhoaaW.PrintMore
set_option linter.unusedVariables false
theorem rright_f (k : S23) : topiaryref01_Right.f k.f0 k.f1 = some (rightK k) := by
  unfold topiaryref01_Right.f rightK
  by_cases h1 : 1 ≤ k.f0
  · rw [if_pos h1]
    by_cases h2 : k.f0 ≤ 1099511627776
    · rw [if_pos h2]
      by_cases h3 : 0 ≤ k.f1
      · rw [if_pos h3]; simp [h1, h2, h3]
      · rw [if_neg h3]; simp [h1, h2, h3]
    · rw [if_neg h2, decide_eq_false (fun h => h2 h.2.1)]
  · rw [if_neg h1, decide_eq_false (fun h => h1 h.1)]
theorem rnodeK_f (k : S23) : topiaryref01_Node.f k.f0 k.f1 = some (nodeK k) := by
  unfold topiaryref01_Node.f nodeK
  rw [rright_f, Option.bind_some]
  cases rightK k with
  | true => rfl
  | false =>
    rw [if_neg (by simp)]
    by_cases h : k.f0 = 0
    · rw [if_pos h]
      by_cases h2 : k.f1 = 0
      · rw [if_pos h2]; simp [h, h2]
      · rw [if_neg h2]; simp [h, h2]
    · rw [if_neg h]; simp [h]
theorem rright_calls (w : World) (k : S23) : Calls Try.prog 46 #[.agg #[.int .i64 k.f0, .int .i64 k.f1]] w fun e w' => e = .returned (.bool (rightK k)) ∧ Below w.heap.size w w' := topiaryref01_Right.calls _ _ _ w (rright_f k)
theorem rnodeK_calls (w : World) (k : S23) : Calls Try.prog 45 #[.agg #[.int .i64 k.f0, .int .i64 k.f1]] w fun e w' => e = .returned (.bool (nodeK k)) ∧ Below w.heap.size w w' := topiaryref01_Node.calls _ _ _ w (rnodeK_f k)
theorem has_l (l : List S23) (k : S23) (hl : l.length ≤ 9223372036854775807) : ∀ (n i m : Nat), i + n = l.length → n + 1 ≤ m → topiaryref01_Has.l0 m l (i : Int) k.f0 k.f1 = some ((l.drop i).any (sameK k))
  | 0, i, 0, h, hm => by omega
  | 0, i, m + 1, h, hm => by
    simp only [topiaryref01_Has.l0]
    rw [if_neg (by omega), List.drop_eq_nil_of_le (show l.length ≤ i by omega)]
    rfl
  | n + 1, i, 0, h, hm => by omega
  | n + 1, i, m + 1, h, hm => by
    have go := has_l l k hl n (i + 1) m (by omega) (by omega)
    have hw := wrap_in (k := i) (n := l.length) (by omega) hl
    have hi : i < l.length := by omega
    have he : rd_T23 l (i : Int) = l[i] := by unfold rd_T23; rw [Int.toNat_natCast, List.getD_eq_getElem?_getD, List.getElem?_eq_getElem hi]; rfl
    have hs : sameK k l[i] = (l[i].f0 == k.f0 && (l[i].f1 == k.f1)) := by unfold sameK; rw [Bool.beq_comm (a := k.f0), Bool.beq_comm (a := k.f1)]
    simp only [topiaryref01_Has.l0]
    rw [if_pos (by omega), if_pos (by omega), hw, go, he, List.drop_eq_getElem_cons hi, List.any_cons, hs]
    cases (l[i].f0 == k.f0 && (l[i].f1 == k.f1)) <;> rfl
theorem has_f (l : List S23) (k : S23) (hl : l.length ≤ 9223372036854775807) : topiaryref01_Has.f (l.length + 1) l k.f0 k.f1 = some (l.any (sameK k)) := by
  have := has_l l k hl l.length 0 (l.length + 1) (by omega) (by omega)
  rw [show ((0 : Nat) : Int) = 0 from rfl, List.drop_zero] at this
  exact this
/-- The nodes in order, the first one marked. -/
def markL : List S27 → List (Nat × S27)
  | [] => []
  | x :: l => (0, x) :: l.map fun y => (1, y)
theorem badK_deep {d : Nat} (x : S27) (h : 0 < d) : badK (d, x) = badK (1, x) := by
  unfold badK
  dsimp only
  rw [show ((d == 0) : Bool) = false from beq_eq_false_iff_ne.2 (by omega), show decide (0 < d) = true from decide_eq_true h]
  rfl
theorem goC_deep : ∀ (l : List (Nat × S27)) (ks : List S23), (∀ p ∈ l, 0 < p.1) → goC ks l = goC ks ((l.map (·.2)).map fun y => (1, y))
  | [], ks, _ => rfl
  | (d, x) :: l, ks, h => by
    have h1 := h (d, x) (List.mem_cons_self ..)
    have ih := fun ks => goC_deep l ks (fun p hp => h p (List.mem_cons_of_mem _ hp))
    rw [List.map_cons, List.map_cons, goC, goC, badK_deep x h1, ih]
mutual
theorem flatD_deep : ∀ (d : Nat) (x : S27), ∀ p ∈ flatD d x, d ≤ p.1
  | d, ⟨k, t, x, a, l⟩ => by
    intro p hp
    rw [flatD] at hp
    rcases List.mem_cons.1 hp with rfl | hp
    · exact Nat.le_refl _
    · exact Nat.le_of_succ_le (flatDs_deep (d + 1) l p hp)
theorem flatDs_deep : ∀ (d : Nat) (l : List S27), ∀ p ∈ flatDs d l, d ≤ p.1
  | d, [] => by intro p hp; rw [flatDs] at hp; cases hp
  | d, x :: l => by
    intro p hp
    rw [flatDs] at hp
    rcases List.mem_append.1 hp with hp | hp
    · exact flatD_deep d x p hp
    · exact flatDs_deep d l p hp
end
theorem goC_mark (x : S27) : goC [] (flatD 0 x) = goC [] (markL (flatL x)) := by
  rw [flatD_eq, flatL_eq, markL, goC, goC]
  rw [goC_deep _ _ (fun p hp => flatDs_deep 1 x.f4 p hp), flatLs_map]
theorem markL_length (l : List S27) : (markL l).length = l.length := by cases l <;> simp [markL]
theorem markL_get (l : List S27) {k : Nat} (h : k < l.length) : (markL l).drop k = ((if k = 0 then 0 else 1), l.getD k z27) :: (markL l).drop (k + 1) := by
  have hk : k < (markL l).length := by rw [markL_length]; exact h
  rw [List.drop_eq_getElem_cons hk]
  congr 1
  cases l with
  | nil => exact absurd h (Nat.not_lt_zero _)
  | cons x l =>
    cases k with
    | zero => rfl
    | succ k =>
      have h2 : k < l.length := Nat.lt_of_succ_lt_succ h
      simp [markL, List.getD_eq_getElem?_getD, h2]
end Go.Proofs.Ytnkbgimihikhoaa.PVt
namespace Go.Proofs.Ytnkbgimihikhoaa.PVt
open Go.RowKit Go.Proofs.YtnkbgimihikhoaaW.PrintWords Go.Proofs.YtnkbgimihikhoaaW.PrintLast Go.Proofs.YtnkbgimihikhoaaW.PrintMore
set_option linter.unusedVariables false
set_option linter.unusedSimpArgs false
mutual
theorem fit_flat : ∀ (x : S27), fitT x → ∀ y ∈ flatL x, fitT y
  | ⟨k, t, u, a, l⟩, h => by
    intro y hy
    rw [flatL] at hy
    rcases List.mem_cons.1 hy with rfl | hy
    · exact h
    · rw [fitT] at h
      exact fit_flats l h.2.2.2.2 y hy
theorem fit_flats : ∀ (l : List S27), fitTs l → ∀ y ∈ flatLs l, fitT y
  | [], h => by intro y hy; rw [flatLs] at hy; cases hy
  | x :: l, h => by
    intro y hy
    rw [fitTs] at h
    rw [flatLs] at hy
    rcases List.mem_append.1 hy with hy | hy
    · exact fit_flat x h.1 y hy
    · exact fit_flats l h.2 y hy
end
theorem get27_mem {l : List S27} {k : Nat} (h : k < l.length) : l.getD k z27 ∈ l := by rw [List.getD_eq_getElem?_getD, List.getElem?_eq_getElem h]; exact List.getElem_mem h
theorem cells27.below {w w1 : World} {p : Addr} {x : S27} {A4 : Option Addr} {c4 : Nat} {A5 : Option Addr} {c5 : Nat} (h : cells27 w p x A4 c4 A5 c5) (hb : Below w.heap.size w w1) : cells27 w1 p x A4 c4 A5 c5 :=
  ⟨pw_cell_below hb h.1, pw_cell_below hb h.2.1, pw_cell_below hb h.2.2.1, pw_cell_below hb h.2.2.2.1, pw_cell_below hb h.2.2.2.2.1, pw_cell_below hb h.2.2.2.2.2⟩
theorem seen_calls (w : World) (v : Value) (ks : List S23) (base : Nat) (ok : Nat → Prop) (h : Kd.R k23 23 w base ok v ks) (k : S23) : Calls Try.prog 24 #[v, .agg #[.int .i64 k.f0, .int .i64 k.f1]] w fun e w' => e = .returned (.bool (ks.any (sameK k))) ∧ Below w.heap.size w w' := by
  obtain ⟨A, c, rfl⟩ := Kd.R_slice h
  obtain ⟨_, hc, hC⟩ := Kd.R_reads' h
  exact topiaryref01_Has.calls _ A c ks k.f0 k.f1 _ w hC hc (has_f ks k hC.2.1)
theorem fit_node {w : World} {y : S27} {B4 : Option Addr} {d4 : Nat} {B5 : Option Addr} {d5 : Nat} (h : RK w y B4 d4 B5 d5) (hf : fitT y) : Calls Try.prog 47 #[.agg #[.int .i64 y.f0.f0, .int .i64 y.f0.f1, .string y.f1, .string y.f2, .slice B4 y.f3.length d4, .slice B5 y.f4.length d5]] w fun e w' => e = .returned (.int .i64 (nodeP y)) ∧ Below w.heap.size w w' := by
  obtain ⟨f1, _, ⟨_, f3⟩, _⟩ := (fitT_eq y).1 hf
  rw [reach_eq] at f1
  exact rnode_calls w y B4 d4 _ h.2.1 f1 (fun p hp => by have := (f3 p hp).1; rw [reach_eq] at this; exact this)
def keysL (l : List S27) : List S23 := l.map (·.f0)
theorem keysL_snoc (l : List S27) {k : Nat} (h : k < l.length) : keysL (l.take (k + 1)) = keysL (l.take k) ++ [(l.getD k z27).f0] := by rw [take_snoc27 l h]; simp [keysL]
theorem keysL_len (l : List S27) (k : Nat) : (keysL (l.take k)).length ≤ l.length := by unfold keysL; rw [List.length_map]; exact List.length_take_le' _ _
theorem empty_R (W : World) (base b : Nat) (hb : b = W.heap.size) (h : base ≤ W.heap.size) : Kd.R k23 23 (W.alloc (.cells #[] 23)) base (fun _ => True) (.slice (some ⟨b, 0, none⟩) 0 0) [] := by
  subst hb
  exact ⟨fun _ _ => trivial, [], World.ownsRow_made W #[] 0 h (Nat.zero_le _) rfl, Reps.none _ _⟩
theorem badK_zero (y : S27) : badK (0, y) = !nodeK y.f0 := by simp [badK]
theorem badK_one (y : S27) : badK (1, y) = !rightK y.f0 := by simp [badK]
set_option maxHeartbeats 8000000 in
set_option maxRecDepth 100000 in
theorem rcheck_calls (n0 : Nat) (w : World) (x : S27) (A4 : Option Addr) (c4 : Nat) (A5 : Option Addr) (c5 : Nat) (hx : TK w n0 x (cs27 x A4 c4 A5 c5).toList) (hn : n0 ≤ w.heap.size) (hr : Room 0 (szT x)) (hf : fitT x) :
    Calls Try.prog 13 #[.agg (cs27 x A4 c4 A5 c5)] w fun e w' => e = .returned (.int .i64 (checkP x)) ∧ Below w.heap.size w w' := by
  have hB := below_alloc (Below.refl w.heap.size w) (.cells (cs27 x A4 c4 A5 c5) 27)
  have HB := Aside0.mk hB
  have HX := Aside0.mk (hx.low (fun i hi => hB.block i (Nat.lt_of_lt_of_le hi hn)))
  have HN : Aside0 (n0 ≤ (w.alloc (.cells (cs27 x A4 c4 A5 c5) 27)).heap.size) := ⟨by rw [Mem.alloc_size]; omega⟩
  have HR := Aside0.mk hr
  have HF := Aside0.mk (fit_flat x hf)
  have HL := Aside0.mk (flatL_length x)
  have HP : Aside0 (checkP x = if 8192 < (flatL x).length then 3 else goC [] (markL (flatL x))) := ⟨by unfold checkP; rw [goC_mark, flatL_length]⟩
  clear hx hn hr hf hB
  go_enter Try.func13, Try.ntmps13
  go_wp2_with (fail)
  refine (flatten_calls n0 _ x _ _ _ _ HX.out HN.out HR.out).mono ?_
  rintro e w2 ⟨v, rfl, hv, hb2⟩
  obtain ⟨A, c, rfl⟩ := Kd.N_slice hv
  have HC := Aside0.mk (Kd.N_reads' hv).2.2
  have HB2 := Aside0.mk (HB.out.trans (hb2.mono HB.out.size))
  dsimp only
  clear hv hb2 HB HX HN
  generalize flatL x = L at *
  by_cases h1 : 8192 < L.length
  · have e1 : ((8192 : Int) < (L.length : Int)) = True := eq_true (by omega)
    have e2 : (8192 < L.length) = True := eq_true h1
    rw [if_pos h1] at HP
    clear h1
    go_wp2
    go_ret
    exact ⟨ret_eq (by rw [HP.out]; rfl), HB2.out⟩
  · have e1 : ((8192 : Int) < (L.length : Int)) = False := eq_false (by omega)
    have e2 : (8192 < L.length) = False := eq_false h1
    rw [if_neg h1] at HP
    have HMX := Aside0.mk h1
    clear h1
    go_wp2_with (fail)
    -- LOOP
    go_loopw [4, 5] (fun v4 i wr => ∃ k : Nat, i = .int .i64 (k : Int) ∧ Aside0 (k ≤ L.length) ∧ Aside0 (Kd.R k23 23 wr w2.heap.size (fun _ => True) v4 (keysL (L.take k))) ∧ Aside0 (goC (keysL (L.take k)) ((markL L).drop k) = goC [] (markL L)) ∧ Aside0 (Below w2.heap.size w2 wr)) (fun _ i _ => L.length - (intOf i).toNat)
    case atStart => exact ⟨0, rfl, ⟨Nat.zero_le _⟩, ⟨empty_R _ _ _ rfl (Nat.le_refl _)⟩, ⟨rfl⟩, ⟨below_alloc (Below.refl _ _) _⟩⟩
    case round =>
      obtain ⟨k, rfl, HK, HSR, HGO, HBW⟩ := hrel
      by_cases hlt : k < L.length
      case neg =>
        have e6 : ((k : Int) < (L.length : Int)) = False := eq_false (by omega)
        have e7 : (k < L.length) = False := eq_false hlt
        have HG0 : Aside0 (goC [] (markL L) = 0) := ⟨by rw [← HGO.out, List.drop_of_length_le (by rw [markL_length]; omega)]; rfl⟩
        clear hlt
        go_wp2_with (fail)
        go_ret
        exact ⟨ret_eq (by rw [HP.out, HG0.out]; rfl), HB2.out.trans (HBW.out.mono HB2.out.size)⟩
      have HW := Aside0.mk (wrap_in (k := k) (n := L.length) hlt (by have := HMX.out; omega))
      obtain ⟨ad, B4, d4, B5, d5, rfl, hyc, hyr⟩ := kid_read HC.out k hlt
      have HLT := Aside0.mk hlt
      have HFY := Aside0.mk (HF.out _ (get27_mem hlt))
      have HKS := Aside0.mk (keysL_snoc L hlt)
      obtain ⟨y, hy⟩ : ∃ y, L.getD k z27 = y := ⟨_, rfl⟩
      rw [hy] at hyc hyr HFY HKS
      have HYD := Aside0.mk hy
      obtain ⟨p, hp⟩ : ∃ p, ad.add (k * 6) = p := ⟨_, rfl⟩
      rw [hp] at hyc
      have HYC := Aside0.mk hyc
      have HYR := Aside0.mk hyr
      have e6 : ((k : Int) < (L.length : Int)) = True := eq_true (Int.ofNat_lt.2 hlt)
      have e7 : (k < L.length) = True := eq_true hlt
      have hkn : (k : Int).toNat = k := Int.toNat_natCast k
      have hkp : (0 : Int) ≤ (k : Int) := Int.natCast_nonneg k
      clear hlt hyc hyr hy
      by_cases hk0 : k = 0
      · have HK0 := Aside0.mk hk0
        have f1 : ((k : Int) == 0) = true := by rw [hk0]; rfl
        have f2 : ((k : Int) = 0) = True := eq_true (by omega)
        have f3 : ((0 : Int) < (k : Int)) = False := eq_false (by omega)
        have f4 : (0 < k) = False := eq_false (by omega)
        have f5 : (k = 0) = True := eq_true hk0
        clear hk0
        have HG1 : Aside0 (goC [] (markL L) = goC (keysL (L.take k)) ((0, y) :: (markL L).drop (k + 1))) := ⟨by rw [← HGO.out, markL_get L HLT.out, HYD.out, if_pos HK0.out]⟩
        have HNK := Aside0.mk (rnodeK_calls wr y.f0)
        obtain ⟨x0, x1, x2, x3, x4, x5⟩ := HYC.out.below HBW.out
        go_wp2_with (fail)
        refine HNK.out.mono ?_
        rintro e w3 ⟨rfl, hb3⟩
        dsimp only
        have HB3 := Aside0.mk hb3
        have HBS3 : Aside0 (Below w2.heap.size w2 w3) := ⟨HBW.out.trans (HB3.out.mono HBW.out.size)⟩
        clear x0 x1 x2 x3 x4 x5 hb3 HNK
        by_cases h2 : nodeK y.f0 = true
        case neg =>
          rw [Bool.eq_false_iff.2 h2]
          have HG2 : Aside0 (goC [] (markL L) = 2) := ⟨by rw [HG1.out, goC, if_pos (by rw [badK_zero, Bool.eq_false_iff.2 h2]; rfl)]⟩
          clear h2
          go_wp2_with (fail)
          go_ret
          exact ⟨ret_eq (by rw [HP.out, HG2.out]; rfl), HB2.out.trans ((HBW.out.trans (HB3.out.mono HBW.out.size)).mono HB2.out.size)⟩
        rw [h2]
        have HG2 : Aside0 (goC [] (markL L) = if ((keysL (L.take k)).any (sameK y.f0)) = true then 5 else if nodeP y = 0 then goC (keysL (L.take k) ++ [y.f0]) ((markL L).drop (k + 1)) else nodeP y) := ⟨by rw [HG1.out, goC, if_neg (by rw [badK_zero, h2]; simp)]⟩
        clear h2 HG1
        have HS3 := Aside0.mk (Kd.R_below HSR.out HB3.out)
        have HSC := Aside0.mk (seen_calls w3 u4 _ _ _ HS3.out y.f0)
        obtain ⟨x0, x1, x2, x3, x4, x5⟩ := HYC.out.below HBS3.out
        go_wp2_with (fail)
        refine HSC.out.mono ?_
        rintro e w4 ⟨rfl, hb4⟩
        dsimp only
        have HB4 := Aside0.mk (HB3.out.trans (hb4.mono HB3.out.size))
        have HS4 := Aside0.mk (Kd.R_below HS3.out hb4)
        clear x0 x1 x2 x3 x4 x5 hb4 HSC HS3
        by_cases h3 : ((keysL (L.take k)).any (sameK y.f0)) = true
        · rw [h3]
          rw [if_pos h3] at HG2
          clear h3
          go_wp2_with (fail)
          go_ret
          exact ⟨ret_eq (by rw [HP.out, HG2.out]; rfl), HB2.out.trans ((HBW.out.trans (HB4.out.mono HBW.out.size)).mono HB2.out.size)⟩
        rw [if_neg h3] at HG2
        rw [Bool.eq_false_iff.2 h3]
        clear h3
        have HBS4 : Aside0 (Below w2.heap.size w2 w4) := ⟨HBW.out.trans (HB4.out.mono HBW.out.size)⟩
        obtain ⟨x0, x1, x2, x3, x4, x5⟩ := HYC.out.below HBS4.out
        go_wp2_with (first | ((with_reducible refine gate_builtin (b := .append) (xs := #[.tmp 49, .tmp 55]) rfl ?_); at_builtin; go_loud (refine Kd.R_append k23 (w0 := w2) w2.heap.size rfl (.tmp 49) (.tmp 55) 48 23 (.agg #[(.int .i64 0), (.int .i64 0)]) 16 rfl Try.underlying48 info23 rfl (by decide) (by omega) u4 (keysL (L.take k)) y.f0 [.int .i64 y.f0.f0, .int .i64 y.f0.f1] (fun _ => True) (fun _ => False) rfl rfl ?aP (fun _ hk => hk.elim) (fun _ _ => trivial) ?aO ?aB ?aS ?aL ?_); (case aP => exact k23_mkM _ _ _ y.f0); (case aO => exact HS4.out); (case aB => exact HBS4.out); (case aS => exact HBS4.out.size); (case aL => have := keysL_len L k; have := HMX.out; omega); intro v5 w5 ho hb hg hat; have HS5 := Aside0.mk ho; have HB5 := Aside0.mk hb; obtain ⟨z0, z1, z2, z3, z4, z5⟩ := HYC.out.below hb; clear ho hb hg hat x0 x1 x2 x3 x4 x5))
        refine (fit_node (HYR.out.below HB5.out) HFY.out).mono ?_
        rintro e w6 ⟨rfl, hb6⟩
        dsimp only
        have HB6 := Aside0.mk (HB5.out.trans (hb6.mono HB5.out.size))
        have HS6 := Aside0.mk (Kd.R_below HS5.out hb6)
        have HNC := Aside0.mk (fit_node (HYR.out.below HB6.out) HFY.out)
        clear z0 z1 z2 z3 z4 z5 hb6
        obtain ⟨r, hr⟩ : ∃ r, nodeP y = r := ⟨_, rfl⟩
        rw [hr] at HG2 HNC ⊢
        clear hr
        by_cases h4 : r = 0
        · rw [if_pos h4] at HG2
          subst h4
          go_wp2_with (fail)
          exact ⟨⟨k + 1, by rw [HW.out], ⟨HLT.out⟩, ⟨by rw [HKS.out]; exact HS6.out⟩, ⟨by rw [HKS.out]; exact HG2.out.symm⟩, HB6⟩, dec_kid HLT.out HW.out⟩
        · rw [if_neg h4] at HG2
          have g1 : (r != 0) = true := bne_iff_ne.2 h4
          have g2 : (r = 0) = False := eq_false h4
          clear h4
          obtain ⟨z0, z1, z2, z3, z4, z5⟩ := HYC.out.below HB6.out
          go_wp2_with (fail)
          refine HNC.out.mono ?_
          rintro e w7 ⟨rfl, hb7⟩
          dsimp only
          have HB7 := Aside0.mk (HB6.out.trans (hb7.mono HB6.out.size))
          clear hb7 z0 z1 z2 z3 z4 z5
          go_wp2_with (fail)
          go_ret
          exact ⟨ret_eq (by rw [HP.out, HG2.out]; rfl), HB2.out.trans (HB7.out.mono HB2.out.size)⟩
      · have HK0 := Aside0.mk hk0
        have f1 : ((k : Int) == 0) = false := beq_eq_false_iff_ne.2 (by omega)
        have f2 : ((k : Int) = 0) = False := eq_false (by omega)
        have f3 : ((0 : Int) < (k : Int)) = True := eq_true (by omega)
        have f4 : (0 < k) = True := eq_true (by omega)
        have f5 : (k = 0) = False := eq_false hk0
        clear hk0
        have HG1 : Aside0 (goC [] (markL L) = goC (keysL (L.take k)) ((1, y) :: (markL L).drop (k + 1))) := ⟨by rw [← HGO.out, markL_get L HLT.out, HYD.out, if_neg HK0.out]⟩
        have HNK := Aside0.mk (rright_calls wr y.f0)
        obtain ⟨x0, x1, x2, x3, x4, x5⟩ := HYC.out.below HBW.out
        go_wp2_with (fail)
        refine HNK.out.mono ?_
        rintro e w3 ⟨rfl, hb3⟩
        dsimp only
        have HB3 := Aside0.mk hb3
        have HBS3 : Aside0 (Below w2.heap.size w2 w3) := ⟨HBW.out.trans (HB3.out.mono HBW.out.size)⟩
        clear x0 x1 x2 x3 x4 x5 hb3 HNK
        by_cases h2 : rightK y.f0 = true
        case neg =>
          rw [Bool.eq_false_iff.2 h2]
          have HG2 : Aside0 (goC [] (markL L) = 2) := ⟨by rw [HG1.out, goC, if_pos (by rw [badK_one, Bool.eq_false_iff.2 h2]; rfl)]⟩
          clear h2
          go_wp2_with (fail)
          go_ret
          exact ⟨ret_eq (by rw [HP.out, HG2.out]; rfl), HB2.out.trans ((HBW.out.trans (HB3.out.mono HBW.out.size)).mono HB2.out.size)⟩
        rw [h2]
        have HG2 : Aside0 (goC [] (markL L) = if ((keysL (L.take k)).any (sameK y.f0)) = true then 5 else if nodeP y = 0 then goC (keysL (L.take k) ++ [y.f0]) ((markL L).drop (k + 1)) else nodeP y) := ⟨by rw [HG1.out, goC, if_neg (by rw [badK_one, h2]; simp)]⟩
        clear h2 HG1
        have HS3 := Aside0.mk (Kd.R_below HSR.out HB3.out)
        have HSC := Aside0.mk (seen_calls w3 u4 _ _ _ HS3.out y.f0)
        obtain ⟨x0, x1, x2, x3, x4, x5⟩ := HYC.out.below HBS3.out
        go_wp2_with (fail)
        refine HSC.out.mono ?_
        rintro e w4 ⟨rfl, hb4⟩
        dsimp only
        have HB4 := Aside0.mk (HB3.out.trans (hb4.mono HB3.out.size))
        have HS4 := Aside0.mk (Kd.R_below HS3.out hb4)
        clear x0 x1 x2 x3 x4 x5 hb4 HSC HS3
        by_cases h3 : ((keysL (L.take k)).any (sameK y.f0)) = true
        · rw [h3]
          rw [if_pos h3] at HG2
          clear h3
          go_wp2_with (fail)
          go_ret
          exact ⟨ret_eq (by rw [HP.out, HG2.out]; rfl), HB2.out.trans ((HBW.out.trans (HB4.out.mono HBW.out.size)).mono HB2.out.size)⟩
        rw [if_neg h3] at HG2
        rw [Bool.eq_false_iff.2 h3]
        clear h3
        have HBS4 : Aside0 (Below w2.heap.size w2 w4) := ⟨HBW.out.trans (HB4.out.mono HBW.out.size)⟩
        obtain ⟨x0, x1, x2, x3, x4, x5⟩ := HYC.out.below HBS4.out
        go_wp2_with (first | ((with_reducible refine gate_builtin (b := .append) (xs := #[.tmp 49, .tmp 55]) rfl ?_); at_builtin; go_loud (refine Kd.R_append k23 (w0 := w2) w2.heap.size rfl (.tmp 49) (.tmp 55) 48 23 (.agg #[(.int .i64 0), (.int .i64 0)]) 16 rfl Try.underlying48 info23 rfl (by decide) (by omega) u4 (keysL (L.take k)) y.f0 [.int .i64 y.f0.f0, .int .i64 y.f0.f1] (fun _ => True) (fun _ => False) rfl rfl ?aP (fun _ hk => hk.elim) (fun _ _ => trivial) ?aO ?aB ?aS ?aL ?_); (case aP => exact k23_mkM _ _ _ y.f0); (case aO => exact HS4.out); (case aB => exact HBS4.out); (case aS => exact HBS4.out.size); (case aL => have := keysL_len L k; have := HMX.out; omega); intro v5 w5 ho hb hg hat; have HS5 := Aside0.mk ho; have HB5 := Aside0.mk hb; obtain ⟨z0, z1, z2, z3, z4, z5⟩ := HYC.out.below hb; clear ho hb hg hat x0 x1 x2 x3 x4 x5))
        refine (fit_node (HYR.out.below HB5.out) HFY.out).mono ?_
        rintro e w6 ⟨rfl, hb6⟩
        dsimp only
        have HB6 := Aside0.mk (HB5.out.trans (hb6.mono HB5.out.size))
        have HS6 := Aside0.mk (Kd.R_below HS5.out hb6)
        have HNC := Aside0.mk (fit_node (HYR.out.below HB6.out) HFY.out)
        clear z0 z1 z2 z3 z4 z5 hb6
        obtain ⟨r, hr⟩ : ∃ r, nodeP y = r := ⟨_, rfl⟩
        rw [hr] at HG2 HNC ⊢
        clear hr
        by_cases h4 : r = 0
        · rw [if_pos h4] at HG2
          subst h4
          go_wp2_with (fail)
          exact ⟨⟨k + 1, by rw [HW.out], ⟨HLT.out⟩, ⟨by rw [HKS.out]; exact HS6.out⟩, ⟨by rw [HKS.out]; exact HG2.out.symm⟩, HB6⟩, dec_kid HLT.out HW.out⟩
        · rw [if_neg h4] at HG2
          have g1 : (r != 0) = true := bne_iff_ne.2 h4
          have g2 : (r = 0) = False := eq_false h4
          clear h4
          obtain ⟨z0, z1, z2, z3, z4, z5⟩ := HYC.out.below HB6.out
          go_wp2_with (fail)
          refine HNC.out.mono ?_
          rintro e w7 ⟨rfl, hb7⟩
          dsimp only
          have HB7 := Aside0.mk (HB6.out.trans (hb7.mono HB6.out.size))
          clear hb7 z0 z1 z2 z3 z4 z5
          go_wp2_with (fail)
          go_ret
          exact ⟨ret_eq (by rw [HP.out, HG2.out]; rfl), HB2.out.trans (HB7.out.mono HB2.out.size)⟩
end Go.Proofs.Ytnkbgimihikhoaa.PVt
