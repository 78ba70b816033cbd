/- A node's own fields looked at: the contract of node. -/
import Derived.Test.YtnkbgimihikhoaaVtN
import Derived.Deep.QuietTactic
import Derived.BigQuiet
import Derived.WalkKit
import Derived.IntWalk
import Derived.Laws.Cover1
namespace Go.Proofs.Ytnkbgimihikhoaa.PVt
open Go.RowKit Go.Proofs.YtnkbgimihikhoaaW.PrintWords Go.Proofs.YtnkbgimihikhoaaW.PrintLast Go.Proofs.YtnkbgimihikhoaaW.PrintMore
set_option linter.unusedVariables false
set_option linter.unusedSimpArgs false
theorem drawn_below {w w' : World} (h : Drawn0 w w') : Below w.heap.size w w' := by
  obtain ⟨n, rfl⟩ := h
  exact pw_below_drewN (Below.refl _ _) n
theorem name_calls (w : World) (s : ByteArray) : Calls Try.prog 67 #[.string s] w fun e w' => e = .returned (.bool (nameP s)) ∧ Below w.heap.size w w' :=
  (change_Name.calls 35 s (nameP s) w (name_f s 35 (Nat.le_refl _))).mono fun e w' ⟨h1, h2⟩ => ⟨h1, drawn_below h2⟩
theorem next_kid {k n : Nat} (h : k < n) (hn : n ≤ 4096) : wrap64 ((k : Int) + 1) = ((k + 1 : Nat) : Int) := by unfold wrap64; omega
theorem dec_kid {i q : Nat} (h : i < q) (hw : wrap64 ((i : Int) + 1) = ((i + 1 : Nat) : Int)) : q - (intOf (Value.int .i64 (wrap64 ((i : Int) + 1)))).toNat < q - (intOf (Value.int .i64 (i : Int))).toNat := by
  rw [hw]
  show q - (((i + 1 : Nat) : Int)).toNat < q - (i : Int).toNat
  omega
theorem wrap_pred {k n : Nat} (h0 : 0 < k) (h1 : k < n) (h2 : ¬ 4096 < n) : IntKind.i64.wrap ((k : Int) - 1) = ((k - 1 : Nat) : Int) := by rw [IntWalk.i64_in _ (by omega)]; omega
theorem ret_eq {v : Value} {r : Int} (h : v = .int .i64 r) : Ending.returned v = .returned (.int .i64 r) := by rw [h]
set_option maxHeartbeats 8000000 in
set_option maxRecDepth 100000 in
theorem node_calls (w : World) (x : S27) (A : Option Addr) (c : Nat) (v5 : Value) (hA : Kd.C k99 w A x.f3.length x.f3) :
    Calls Try.prog 44 #[.agg #[.int .i64 x.f0.f0, .int .i64 x.f0.f1, .string x.f1, .string x.f2, .slice A x.f3.length c, v5]] w fun e w' => e = .returned (.int .i64 (nodeP x)) ∧ Below w.heap.size w w' := by
  have HA := Aside0.mk hA
  have HN := Aside0.mk (name_calls (w.alloc (.cells #[.int .i64 x.f0.f0, .int .i64 x.f0.f1, .string x.f1, .string x.f2, .slice A x.f3.length c, v5] 27)) x.f1)
  clear hA
  by_cases h1 : nameP x.f1 = true
  · have HP : Aside0 (nodeP x = if x.f2.size > 256 then 3 else if x.f3.length > 4096 then 3 else attrsFrom x.f3 x.f3.length 0) := ⟨by unfold nodeP; rw [if_pos h1]⟩
    rw [h1] at HN
    clear h1
    go_enter Try.func44, Try.ntmps44
    go_wp2_with (fail)
    refine HN.out.mono ?_
    rintro e w1 ⟨rfl, hb1⟩
    have HB : Aside0 (Below w.heap.size w w1) := ⟨(below_alloc (Below.refl _ _) _).trans (hb1.mono (by rw [Mem.alloc_size]; omega))⟩
    have hx1 : Aside0 (w1.heap[w.heap.size]? = some (.cells #[.int .i64 x.f0.f0, .int .i64 x.f0.f1, .string x.f1, .string x.f2, .slice A x.f3.length c, v5] 27 (0, 0))) := ⟨(hb1.block _ (by rw [Mem.alloc_size]; omega)).trans (Mem.alloc_new _ _)⟩
    have b3 := Mem.cell_of hx1.out 3
    have b4 := Mem.cell_of hx1.out 4
    clear hb1 HN
    by_cases h2 : 256 < x.f2.size
    · rw [if_pos h2] at HP
      have e2 : ((256 : Int) < (x.f2.size : Int)) = True := eq_true (by omega)
      have e3 : (256 < x.f2.size) = True := eq_true h2
      clear h2
      go_wp2
      go_ret
      exact ⟨ret_eq (by rw [HP.out]; rfl), HB.out⟩
    · rw [if_neg h2] at HP
      have e2 : ((256 : Int) < (x.f2.size : Int)) = False := eq_false (by omega)
      have e3 : (256 < x.f2.size) = False := eq_false h2
      clear h2
      by_cases h3 : 4096 < x.f3.length
      · rw [if_pos h3] at HP
        have e4 : ((4096 : Int) < (x.f3.length : Int)) = True := eq_true (by omega)
        have e5 : (4096 < x.f3.length) = True := eq_true h3
        clear h3
        go_wp2
        go_ret
        exact ⟨ret_eq (by rw [HP.out]; rfl), HB.out⟩
      · rw [if_neg h3] at HP
        have e4 : ((4096 : Int) < (x.f3.length : Int)) = False := eq_false (by omega)
        have e5 : (4096 < x.f3.length) = False := eq_false h3
        have hlm := Aside0.mk h3
        clear h3
        go_wp2
        go_loopw [22] (fun i wr => ∃ k : Nat, i = .int .i64 (k : Int) ∧ Aside0 (k ≤ x.f3.length) ∧ Aside0 (attrsFrom x.f3 (x.f3.length - k) k = nodeP x) ∧ Aside0 (Below w1.heap.size w1 wr)) (fun i _ => x.f3.length - (intOf i).toNat)
        case atStart => exact ⟨0, rfl, ⟨Nat.zero_le _⟩, ⟨by rw [HP.out]; rfl⟩, ⟨Below.refl _ _⟩⟩
        case round =>
          obtain ⟨k, rfl, HK, HAT, HBW⟩ := hrel
          have HX2 := Aside0.mk ((HBW.out.block _ (blk_lt hx1.out)).trans hx1.out)
          by_cases hlt : k < x.f3.length
          · have HW := Aside0.mk (next_kid hlt (Nat.le_of_not_lt hlm.out))
            obtain ⟨n, hn⟩ : ∃ n, x.f3.length - k = n + 1 := ⟨x.f3.length - k - 1, by omega⟩
            have HN : Aside0 (x.f3.length - (k + 1) = n) := ⟨by omega⟩
            rw [hn] at HAT
            clear hn
            have HC := Aside0.mk (Kd.C_below HA.out (HB.out.trans (HBW.out.mono HB.out.size)))
            obtain ⟨ad, hA', x0, x1⟩ := at_T99 HC.out (k : Int) (Int.natCast_nonneg _) (Int.ofNat_lt.2 hlt)
            rw [Int.toNat_natCast, rd99] at x0 x1
            obtain ⟨y, hy⟩ : ∃ y, x.f3.getD k z99 = y := ⟨_, rfl⟩
            have HY := Aside0.mk hy
            rw [hy] at x0 x1
            obtain ⟨p, hp⟩ : ∃ p, ad.add (k * 2) = p := ⟨_, rfl⟩
            have HPA := Aside0.mk hp
            rw [hp] at x0 x1
            subst hA'
            have HNM := Aside0.mk (name_calls (wr.alloc (.cells #[.string y.f0, .string y.f1] 99)) y.f0)
            have e6 : ((k : Int) < (x.f3.length : Int)) = True := eq_true (Int.ofNat_lt.2 hlt)
            have e7 : (k < x.f3.length) = True := eq_true hlt
            have HLT := Aside0.mk hlt
            have hkn : (k : Int).toNat = k := Int.toNat_natCast k
            have hkp : (0 : Int) ≤ (k : Int) := Int.natCast_nonneg k
            have b3' := Mem.cell_of HX2.out 3
            clear hy hlt b3
            by_cases h4 : nameP y.f0 = true
            · rw [h4] at HNM
              have HA1 : Aside0 (nodeP x = if y.f1.size > 256 then 3 else if 0 < k ∧ ¬ Op.bytesLess (x.f3.getD (k - 1) z99).f0.toList y.f0.toList = true then 2 else attrsFrom x.f3 n (k + 1)) := ⟨by rw [← HAT.out]; show (if nameP (x.f3.getD k z99).f0 = true then _ else _) = _; rw [HY.out, if_pos h4]⟩
              clear h4
              go_wp2_with (fail)
              refine HNM.out.mono ?_
              rintro e w3 ⟨rfl, hb3⟩
              have HB3 : Aside0 (Below wr.heap.size wr w3) := ⟨(below_alloc (Below.refl _ _) _).trans (hb3.mono (by rw [Mem.alloc_size]; omega))⟩
              have HYB : Aside0 (w3.heap[wr.heap.size]? = some (.cells #[.string y.f0, .string y.f1] 99 (0, 0))) := ⟨(hb3.block _ (by rw [Mem.alloc_size]; omega)).trans (Mem.alloc_new _ _)⟩
              have HX3 : Aside0 (w3.heap[w.heap.size]? = some (.cells #[.int .i64 x.f0.f0, .int .i64 x.f0.f1, .string x.f1, .string x.f2, .slice (some ad) x.f3.length c, v5] 27 (0, 0))) := ⟨(HB3.out.block _ (blk_lt HX2.out)).trans HX2.out⟩
              have y0 : w3.cell? ⟨wr.heap.size, 0, none⟩ = some (.string y.f0) := Mem.cell_of HYB.out 0
              have y1 : w3.cell? ⟨wr.heap.size, 1, none⟩ = some (.string y.f1) := Mem.cell_of HYB.out 1
              have b3 : w3.cell? ⟨w.heap.size, 4, none⟩ = some (.slice (some ad) x.f3.length c) := Mem.cell_of HX3.out 4
              clear hb3 HNM x0 x1 b3' b4
              by_cases h5 : 256 < y.f1.size
              · rw [if_pos h5] at HA1
                have e8 : ((256 : Int) < (y.f1.size : Int)) = True := eq_true (by omega)
                have e9 : (256 < y.f1.size) = True := eq_true h5
                clear h5
                go_wp2
                go_ret
                exact ⟨ret_eq (by rw [HA1.out]; rfl), HB.out.trans ((HBW.out.trans (HB3.out.mono HBW.out.size)).mono HB.out.size)⟩
              · rw [if_neg h5] at HA1
                have e8 : ((256 : Int) < (y.f1.size : Int)) = False := eq_false (by omega)
                have e9 : (256 < y.f1.size) = False := eq_false h5
                clear h5
                by_cases h6 : 0 < k
                · have H6a := Aside0.mk h6
                  have e10 : ((0 : Int) < (k : Int)) = True := eq_true (by omega)
                  have e11 : (0 < k) = True := eq_true h6
                  have hw_ : wrap64 ((k : Int) - 1) = ((k - 1 : Nat) : Int) := by have h_ := HLT.out; have h2_ := hlm.out; clear e4 e5 e6 e7 e8 e9 e10 e11; unfold wrap64; omega
                  have hw3 := wrap_pred H6a.out HLT.out hlm.out
                  have HC3 := Aside0.mk (Kd.C_below HC.out HB3.out)
                  obtain ⟨ad2, hA2, z0, z1⟩ := at_T99 HC3.out ((k - 1 : Nat) : Int) (Int.natCast_nonneg _) (Int.ofNat_lt.2 (by have h_ := HLT.out; omega))
                  obtain rfl : ad = ad2 := by injection hA2
                  rw [Int.toNat_natCast, rd99] at z0 z1
                  obtain ⟨q, hq⟩ : ∃ q, ad.add ((k - 1) * 2) = q := ⟨_, rfl⟩
                  obtain ⟨u, hu⟩ : ∃ u, x.f3.getD (k - 1) z99 = u := ⟨_, rfl⟩
                  have HU := Aside0.mk hu
                  rw [hq, hu] at z0
                  rw [hu] at HA1
                  have HQ := Aside0.mk hq
                  have hk1 : ((k - 1 : Nat) : Int).toNat = k - 1 := Int.toNat_natCast _
                  have hk2 : (0 : Int) ≤ ((k - 1 : Nat) : Int) := Int.natCast_nonneg _
                  have hk3 : ((k - 1 : Nat) : Int) < (x.f3.length : Int) := Int.ofNat_lt.2 (by have h_ := HLT.out; omega)
                  clear hA2 z1
                  have H6 := Aside0.mk h6
                  clear h6
                  by_cases h7 : Op.bytesLess u.f0.toList y.f0.toList = true
                  · rw [if_neg (fun h => h.2 h7)] at HA1
                    go_wp2_with (fail)
                    go_quiet ((fail))
                    go_wp2_with (fail)
                    go_roundw
                    case rel => exact ⟨k + 1, congrArg (Value.int .i64) HW.out, ⟨HLT.out⟩, ⟨by rw [HN.out]; exact HA1.out.symm⟩, ⟨HBW.out.trans ((HB3.out.trans (pw_below_drewN (Below.refl _ _) _)).mono HBW.out.size)⟩⟩
                    case measure => exact dec_kid HLT.out HW.out
                  · rw [if_pos ⟨H6.out, h7⟩] at HA1
                    have h8 : Op.bytesLess u.f0.toList y.f0.toList = false := Bool.eq_false_iff.2 h7
                    clear h7
                    go_wp2_with (fail)
                    go_quiet ((fail))
                    go_wp2
                    go_ret
                    exact ⟨ret_eq (by rw [HA1.out]; rfl), HB.out.trans ((HBW.out.trans ((HB3.out.trans (pw_below_drewN (Below.refl _ _) _)).mono HBW.out.size)).mono HB.out.size)⟩
                · have e10 : ((0 : Int) < (k : Int)) = False := eq_false (by omega)
                  have e11 : (0 < k) = False := eq_false h6
                  rw [if_neg (fun h => h6 h.1)] at HA1
                  clear h6
                  go_wp2_with (fail)
                  go_quiet ((fail))
                  go_wp2_with (fail)
                  go_roundw
                  case rel => exact ⟨k + 1, congrArg (Value.int .i64) HW.out, ⟨HLT.out⟩, ⟨by rw [HN.out]; exact HA1.out.symm⟩, ⟨HBW.out.trans ((HB3.out.trans (pw_below_drewN (Below.refl _ _) _)).mono HBW.out.size)⟩⟩
                  case measure => exact dec_kid HLT.out HW.out
            · have HA1 : Aside0 (nodeP x = 8) := ⟨by rw [← HAT.out]; show (if nameP (x.f3.getD k z99).f0 = true then _ else _) = _; rw [HY.out, if_neg h4]⟩
              rw [Bool.eq_false_iff.2 h4] at HNM
              clear h4
              go_wp2_with (fail)
              refine HNM.out.mono ?_
              rintro e w3 ⟨rfl, hb3⟩
              have HB3 : Aside0 (Below wr.heap.size wr w3) := ⟨(below_alloc (Below.refl _ _) _).trans (hb3.mono (by rw [Mem.alloc_size]; omega))⟩
              clear hb3 HNM
              go_wp2
              go_ret
              exact ⟨ret_eq (by rw [HA1.out]; rfl), HB.out.trans ((HBW.out.trans (HB3.out.mono HBW.out.size)).mono HB.out.size)⟩
          · have e6 : ((k : Int) < (x.f3.length : Int)) = False := eq_false (by omega)
            have e7 : (k < x.f3.length) = False := eq_false hlt
            have hk : x.f3.length - k = 0 := by omega
            rw [hk] at HAT
            clear hk hlt
            go_wp2
            go_ret
            exact ⟨ret_eq (by rw [← HAT.out]; rfl), HB.out.trans (HBW.out.mono HB.out.size)⟩
  · have HP : Aside0 (nodeP x = 8) := ⟨by unfold nodeP; rw [if_neg h1]⟩
    rw [Bool.eq_false_iff.2 h1] at HN
    clear h1
    go_enter Try.func44, Try.ntmps44
    go_wp2_with (fail)
    refine HN.out.mono ?_
    rintro e w1 ⟨rfl, hb1⟩
    have HB : Aside0 (Below w.heap.size w w1) := ⟨(below_alloc (Below.refl _ _) _).trans (hb1.mono (by rw [Mem.alloc_size]; omega))⟩
    clear hb1 HN
    go_wp2
    go_ret
    exact ⟨ret_eq (by rw [HP.out]; rfl), HB.out⟩
end Go.Proofs.Ytnkbgimihikhoaa.PVt
