/- How many nodes a tree has; does the program answer at all? -/
import Derived.Test.YtnkbgimihikhoaaVtD
import Derived.Test.YtnkbgimihikhoaaVtE
namespace Go.Proofs.Ytnkbgimihikhoaa.PVt
open Go.RowKit Go.Proofs.YtnkbgimihikhoaaW.PrintWords Go.Proofs.YtnkbgimihikhoaaW.PrintLast Go.Proofs.YtnkbgimihikhoaaW.PrintMore
set_option linter.unusedVariables false
set_option linter.unusedSimpArgs false
set_option maxHeartbeats 4000000 in
theorem count_calls (w : World) (x : S27) (A4 : Option Addr) (c4 : Nat) (A5 : Option Addr) (c5 : Nat) (hd : szT x ≤ 1099511627776)
    (hT : TK w w.heap.size x [.int .i64 x.f0.f0, .int .i64 x.f0.f1, .string x.f1, .string x.f2, .slice A4 x.f3.length c4, .slice A5 x.f4.length c5]) :
    Calls Try.prog 32 #[.agg #[.int .i64 x.f0.f0, .int .i64 x.f0.f1, .string x.f1, .string x.f2, .slice A4 x.f3.length c4, .slice A5 x.f4.length c5]] w fun e w' => e = .returned (.int .i64 ((szT x : Nat) : Int)) ∧ Below w.heap.size w w' := by
  have hb := below_alloc (Below.refl w.heap.size w) (.cells #[.int .i64 x.f0.f0, .int .i64 x.f0.f1, .string x.f1, .string x.f2, .slice A4 x.f3.length c4, .slice A5 x.f4.length c5] 27)
  have HK := Aside0.mk (keys_calls (w.alloc (.cells #[.int .i64 x.f0.f0, .int .i64 x.f0.f1, .string x.f1, .string x.f2, .slice A4 x.f3.length c4, .slice A5 x.f4.length c5] 27)) x A4 c4 A5 c5 hd (Kd.FK_mono (hT.low (fun i hi => hb.block i hi)) (fun i hi => Nat.lt_of_lt_of_le hi hb.size)))
  have HB := Aside0.mk hb
  have HL : Aside0 ((keysP (flatD 0 x)).length = szT x) := ⟨by unfold keysP; rw [List.length_map, flatD_length]⟩
  clear hT hb
  go_enter Try.func32, Try.ntmps32
  go_wp2_with (fail)
  refine HK.out.mono ?_
  rintro e w' ⟨v, rfl, hR, hB⟩
  obtain ⟨A, c, rfl⟩ := Kd.R_slice hR
  rw [HL.out]
  have HB2 := Aside0.mk hB
  clear hR hB HK
  go_wp2
  go_ret
  exact ⟨rfl, HB.out.trans (HB2.out.mono HB.out.size)⟩
def rootS : ByteArray := { data := #[114, 111, 111, 116] }
def rootT : S27 := ⟨⟨0, 0⟩, rootS, ⟨#[]⟩, [], []⟩
theorem TK_bare (w : World) (x : S27) (h3 : x.f3 = []) (h4 : x.f4 = []) : TK w w.heap.size x [.int .i64 x.f0.f0, .int .i64 x.f0.f1, .string x.f1, .string x.f2, .slice none 0 0, .slice none 0 0] := by
  obtain ⟨a, b, c, d, e⟩ := x
  cases h3
  cases h4
  exact TK.of (k27_mk w _ (Nat.le_refl _) (Kd.C_nil _ _) (Nat.le_refl _) (Kd.C_nil _ _))
theorem check_root : checkP rootT = 0 := by decide
theorem check_zero : checkP z27 = 8 := by decide
theorem max_root : maxD (flatD 0 rootT) = 1 := by decide
set_option maxHeartbeats 8000000 in
set_option maxRecDepth 100000 in
theorem awake_calls (w : World) : Calls Try.prog 15 #[] w fun e w' => e = .returned (.bool true) ∧ Below w.heap.size w w' := by
  have HO := Aside0.mk (tree_empty w)
  go_enter Try.func15, Try.ntmps15
  go_wp2_with (fail)
  refine HO.out.mono ?_
  rintro e w1 ⟨rfl, hb1⟩
  have HB1 : Aside0 (Below w.heap.size w (w1.alloc (.cells #[.int .i64 0, .int .i64 0, .string { data := #[114, 111, 111, 116] }, .string ⟨#[]⟩, .slice none 0 0, .slice none 0 0] 27))) := ⟨hb1.alloc hb1.size _⟩
  have h1 : (w1.alloc (.cells #[.int .i64 0, .int .i64 0, .string { data := #[114, 111, 111, 116] }, .string ⟨#[]⟩, .slice none 0 0, .slice none 0 0] 27)).heap[w1.heap.size]? = some (.cells #[.int .i64 0, .int .i64 0, .string { data := #[114, 111, 111, 116] }, .string ⟨#[]⟩, .slice none 0 0, .slice none 0 0] 27 (0, 0)) := Mem.alloc_new _ _
  clear hb1 HO
  go_upto_region 2 with (fail)
  generalize w1.alloc (.cells #[.int .i64 0, .int .i64 0, .string { data := #[114, 111, 111, 116] }, .string ⟨#[]⟩, .slice none 0 0, .slice none 0 0] 27) = u1 at *
  have HX1 := Aside0.mk h1
  have y0 : u1.cell? ⟨w1.heap.size, 0, none⟩ = some (.int .i64 0) := Mem.cell_of h1 0
  have y1 : u1.cell? ⟨w1.heap.size, 1, none⟩ = some (.int .i64 0) := Mem.cell_of h1 1
  have y2 : u1.cell? ⟨w1.heap.size, 2, none⟩ = some (.string { data := #[114, 111, 111, 116] }) := Mem.cell_of h1 2
  have y3 : u1.cell? ⟨w1.heap.size, 3, none⟩ = some (.string ⟨#[]⟩) := Mem.cell_of h1 3
  have y4 : u1.cell? ⟨w1.heap.size, 4, none⟩ = some (.slice none 0 0) := Mem.cell_of h1 4
  have y5 : u1.cell? ⟨w1.heap.size, 5, none⟩ = some (.slice none 0 0) := Mem.cell_of h1 5
  clear h1
  have HC := Aside0.mk (check_calls u1 rootT none 0 none 0 (by decide) (TK_bare u1 rootT rfl rfl))
  rw [check_root] at HC
  have e1 : (({ data := #[114, 111, 111, 116] } : ByteArray).toList == ({ data := #[114, 111, 111, 116] } : ByteArray).toList) = true := beq_self_eq_true _
  go_wp2_with (fail)
  refine HC.out.mono ?_
  rintro e w2 ⟨rfl, hb2⟩
  have HX2 : Aside0 (w2.heap[w1.heap.size]? = some (.cells #[.int .i64 0, .int .i64 0, .string { data := #[114, 111, 111, 116] }, .string ⟨#[]⟩, .slice none 0 0, .slice none 0 0] 27 (0, 0))) := ⟨(hb2.block _ (blk_lt' HX1.out)).trans HX1.out⟩
  have HB2 : Aside0 (Below w.heap.size w w2) := ⟨HB1.out.trans (hb2.mono HB1.out.size)⟩
  clear hb2 HC y0 y1 y2 y3 y4 y5
  have y0 : w2.cell? ⟨w1.heap.size, 0, none⟩ = some (.int .i64 0) := Mem.cell_of HX2.out 0
  have y1 : w2.cell? ⟨w1.heap.size, 1, none⟩ = some (.int .i64 0) := Mem.cell_of HX2.out 1
  have y2 : w2.cell? ⟨w1.heap.size, 2, none⟩ = some (.string { data := #[114, 111, 111, 116] }) := Mem.cell_of HX2.out 2
  have y3 : w2.cell? ⟨w1.heap.size, 3, none⟩ = some (.string ⟨#[]⟩) := Mem.cell_of HX2.out 3
  have y4 : w2.cell? ⟨w1.heap.size, 4, none⟩ = some (.slice none 0 0) := Mem.cell_of HX2.out 4
  have y5 : w2.cell? ⟨w1.heap.size, 5, none⟩ = some (.slice none 0 0) := Mem.cell_of HX2.out 5
  have HC := Aside0.mk (count_calls w2 rootT none 0 none 0 (by decide) (TK_bare w2 rootT rfl rfl))
  rw [show szT rootT = 1 from by decide] at HC
  go_wp2_with (fail)
  refine HC.out.mono ?_
  rintro e w3 ⟨rfl, hb3⟩
  have HX3 : Aside0 (w3.heap[w1.heap.size]? = some (.cells #[.int .i64 0, .int .i64 0, .string { data := #[114, 111, 111, 116] }, .string ⟨#[]⟩, .slice none 0 0, .slice none 0 0] 27 (0, 0))) := ⟨(hb3.block _ (blk_lt' HX2.out)).trans HX2.out⟩
  have HB3 : Aside0 (Below w.heap.size w w3) := ⟨HB2.out.trans (hb3.mono HB2.out.size)⟩
  clear hb3 HC y0 y1 y2 y3 y4 y5
  have y0 : w3.cell? ⟨w1.heap.size, 0, none⟩ = some (.int .i64 0) := Mem.cell_of HX3.out 0
  have y1 : w3.cell? ⟨w1.heap.size, 1, none⟩ = some (.int .i64 0) := Mem.cell_of HX3.out 1
  have y2 : w3.cell? ⟨w1.heap.size, 2, none⟩ = some (.string { data := #[114, 111, 111, 116] }) := Mem.cell_of HX3.out 2
  have y3 : w3.cell? ⟨w1.heap.size, 3, none⟩ = some (.string ⟨#[]⟩) := Mem.cell_of HX3.out 3
  have y4 : w3.cell? ⟨w1.heap.size, 4, none⟩ = some (.slice none 0 0) := Mem.cell_of HX3.out 4
  have y5 : w3.cell? ⟨w1.heap.size, 5, none⟩ = some (.slice none 0 0) := Mem.cell_of HX3.out 5
  have HC := Aside0.mk (depth_calls w3 rootT none 0 none 0 (by decide) (TK_bare w3 rootT rfl rfl))
  rw [max_root] at HC
  go_wp2_with (fail)
  refine HC.out.mono ?_
  rintro e w4 ⟨rfl, hb4⟩
  have HX4 : Aside0 (w4.heap[w1.heap.size]? = some (.cells #[.int .i64 0, .int .i64 0, .string { data := #[114, 111, 111, 116] }, .string ⟨#[]⟩, .slice none 0 0, .slice none 0 0] 27 (0, 0))) := ⟨(hb4.block _ (blk_lt' HX3.out)).trans HX3.out⟩
  have HB4 : Aside0 (Below w.heap.size w w4) := ⟨HB3.out.trans (hb4.mono HB3.out.size)⟩
  clear hb4 HC y0 y1 y2 y3 y4 y5
  have y0 : w4.cell? ⟨w1.heap.size, 0, none⟩ = some (.int .i64 0) := Mem.cell_of HX4.out 0
  have y1 : w4.cell? ⟨w1.heap.size, 1, none⟩ = some (.int .i64 0) := Mem.cell_of HX4.out 1
  have y2 : w4.cell? ⟨w1.heap.size, 2, none⟩ = some (.string { data := #[114, 111, 111, 116] }) := Mem.cell_of HX4.out 2
  have y3 : w4.cell? ⟨w1.heap.size, 3, none⟩ = some (.string ⟨#[]⟩) := Mem.cell_of HX4.out 3
  have y4 : w4.cell? ⟨w1.heap.size, 4, none⟩ = some (.slice none 0 0) := Mem.cell_of HX4.out 4
  have y5 : w4.cell? ⟨w1.heap.size, 5, none⟩ = some (.slice none 0 0) := Mem.cell_of HX4.out 5
  have HC := Aside0.mk (check_calls w4 z27 none 0 none 0 (by decide) (TK_bare w4 z27 rfl rfl))
  rw [check_zero] at HC
  go_wp2_with (fail)
  refine HC.out.mono ?_
  rintro e w5 ⟨rfl, hb5⟩
  have HB5 := Aside0.mk hb5
  clear hb5
  go_wp2
  go_ret
  exact ⟨rfl, HB4.out.trans (HB5.out.mono HB4.out.size)⟩
end Go.Proofs.Ytnkbgimihikhoaa.PVt
