/- A copy of a tree: the law's contract (6). -/
import Derived.Test.YtnkbgimihikhoaaVtJ
namespace Go.Proofs.Ytnkbgimihikhoaa.PVt
open Go.RowKit Go.Proofs.YtnkbgimihikhoaaW.PrintWords Go.Proofs.YtnkbgimihikhoaaW.PrintLast Go.Proofs.YtnkbgimihikhoaaW.PrintMore
set_option linter.unusedVariables false
set_option linter.unusedSimpArgs false
/-- The tree lies in blocks from lo on, below hi. -/
theorem made_keeps {w w' : World} {lo : Nat} {x : S27} {A4 : Option Addr} {c4 : Nat} {A5 : Option Addr} {c5 : Nat} (h : k27.M w lo (fun _ => True) x (cs27 x A4 c4 A5 c5).toList) (hk : ∀ k, lo ≤ k → k < w.heap.size → w'.heap[k]? = w.heap[k]?) : RK w' x A4 c4 A5 c5 :=
  RK.of (k27.K_of_M (k27.M_move (fun k hk' => hk k hk'.2.1 hk'.2.2.1) (k27.M_bound h)))
theorem rk_low {w w' : World} {x : S27} {A4 : Option Addr} {c4 : Nat} {A5 : Option Addr} {c5 : Nat} (h : RK w x A4 c4 A5 c5) (hb : Below w.heap.size w w') : RK w' x A4 c4 A5 c5 := h.below hb
set_option maxHeartbeats 8000000 in
set_option maxRecDepth 100000 in
theorem copies_calls (w : World) (x : S27) (A4 : Option Addr) (c4 : Nat) (A5 : Option Addr) (c5 : Nat) (hx : RK w x A4 c4 A5 c5) (hf : fitT x) :
    Calls Try.prog 6 #[.agg #[.int .i64 x.f0.f0, .int .i64 x.f0.f1, .string x.f1, .string x.f2, .slice A4 x.f3.length c4, .slice A5 x.f4.length c5]] w fun e w' => e = .returned (.bool true) ∧ Below w.heap.size w w' := by
  have hB := below_alloc (Below.refl w.heap.size w) (.cells #[.int .i64 x.f0.f0, .int .i64 x.f0.f1, .string x.f1, .string x.f2, .slice A4 x.f3.length c4, .slice A5 x.f4.length c5] 27)
  have HRX := Aside0.mk (hx.below hB)
  have HX : Aside0 ((w.alloc (.cells #[.int .i64 x.f0.f0, .int .i64 x.f0.f1, .string x.f1, .string x.f2, .slice A4 x.f3.length c4, .slice A5 x.f4.length c5] 27)).heap[w.heap.size]? = some (.cells #[.int .i64 x.f0.f0, .int .i64 x.f0.f1, .string x.f1, .string x.f2, .slice A4 x.f3.length c4, .slice A5 x.f4.length c5] 27 (0, 0))) := ⟨Mem.alloc_new _ _⟩
  have HB0 := Aside0.mk hB
  have HF := Aside0.mk hf
  have HU : Aside0 (w.heap.size < (w.alloc (.cells #[.int .i64 x.f0.f0, .int .i64 x.f0.f1, .string x.f1, .string x.f2, .slice A4 x.f3.length c4, .slice A5 x.f4.length c5] 27)).heap.size) := ⟨by rw [Mem.alloc_size]; omega⟩
  clear hx hB hf
  go_enter Try.func6, Try.ntmps6
  go_wp2_with (fail)
  refine (rcopyM_calls _ x _ _ _ _ HRX.out HF.out).mono ?_
  rintro e w1 ⟨B4, d4, B5, d5, rfl, hM1, hb1⟩
  dsimp only
  generalize (w.alloc (.cells #[.int .i64 x.f0.f0, .int .i64 x.f0.f1, .string x.f1, .string x.f2, .slice A4 x.f3.length c4, .slice A5 x.f4.length c5] 27)) = U at *
  have HM1 := Aside0.mk hM1
  have HB1 := Aside0.mk hb1
  have HBA := Aside0.mk (below_alloc hb1 (.cells #[.int .i64 x.f0.f0, .int .i64 x.f0.f1, .string x.f1, .string x.f2, .slice B4 x.f3.length d4, .slice B5 x.f4.length d5] 27))
  have HXA : Aside0 ((w1.alloc (.cells #[.int .i64 x.f0.f0, .int .i64 x.f0.f1, .string x.f1, .string x.f2, .slice B4 x.f3.length d4, .slice B5 x.f4.length d5] 27)).heap[w.heap.size]? = some (.cells #[.int .i64 x.f0.f0, .int .i64 x.f0.f1, .string x.f1, .string x.f2, .slice A4 x.f3.length c4, .slice A5 x.f4.length c5] 27 (0, 0))) := ⟨(HBA.out.block _ HU.out).trans HX.out⟩
  have HYA : Aside0 ((w1.alloc (.cells #[.int .i64 x.f0.f0, .int .i64 x.f0.f1, .string x.f1, .string x.f2, .slice B4 x.f3.length d4, .slice B5 x.f4.length d5] 27)).heap[w1.heap.size]? = some (.cells #[.int .i64 x.f0.f0, .int .i64 x.f0.f1, .string x.f1, .string x.f2, .slice B4 x.f3.length d4, .slice B5 x.f4.length d5] 27 (0, 0))) := ⟨Mem.alloc_new _ _⟩
  have HOA : Aside0 (RK (w1.alloc (.cells #[.int .i64 x.f0.f0, .int .i64 x.f0.f1, .string x.f1, .string x.f2, .slice B4 x.f3.length d4, .slice B5 x.f4.length d5] 27)) x B4 d4 B5 d5) := ⟨(RK.of (k27.K_of_M hM1)).below (below_alloc (Below.refl _ _) _)⟩
  have HSZ : Aside0 ((w1.alloc (.cells #[.int .i64 x.f0.f0, .int .i64 x.f0.f1, .string x.f1, .string x.f2, .slice B4 x.f3.length d4, .slice B5 x.f4.length d5] 27)).heap.size = w1.heap.size + 1) := ⟨Mem.alloc_size _ _⟩
  have b0 := Mem.cell_of HYA.out 0
  have b1 := Mem.cell_of HYA.out 1
  have b2 := Mem.cell_of HYA.out 2
  have b3 := Mem.cell_of HYA.out 3
  have b4 := Mem.cell_of HYA.out 4
  have b5 := Mem.cell_of HYA.out 5
  clear hM1 hb1
  go_wp2_with (fail)
  refine (vcopy_calls _ x _ _ _ _ HOA.out HF.out).mono ?_
  rintro e w2 ⟨C4, g4, C5, g5, rfl, hM2, hb2⟩
  dsimp only
  clear b0 b1 b2 b3 b4 b5
  have HVK : Aside0 (∀ k, k < w1.heap.size → (w1.alloc (.cells #[.int .i64 x.f0.f0, .int .i64 x.f0.f1, .string x.f1, .string x.f2, .slice B4 x.f3.length d4, .slice B5 x.f4.length d5] 27)).heap[k]? = w1.heap[k]?) := ⟨fun k hk => (below_alloc (Below.refl w1.heap.size w1) _).block k hk⟩
  generalize (w1.alloc (.cells #[.int .i64 x.f0.f0, .int .i64 x.f0.f1, .string x.f1, .string x.f2, .slice B4 x.f3.length d4, .slice B5 x.f4.length d5] 27)) = V at *
  have HM2 := Aside0.mk hM2
  have HB2 := Aside0.mk hb2
  have HBC : Aside0 (Below V.heap.size V (w2.alloc (.cells #[.int .i64 x.f0.f0, .int .i64 x.f0.f1, .string x.f1, .string x.f2, .slice C4 x.f3.length g4, .slice C5 x.f4.length g5] 27))) := ⟨below_alloc hb2 _⟩
  have HSC : Aside0 ((w2.alloc (.cells #[.int .i64 x.f0.f0, .int .i64 x.f0.f1, .string x.f1, .string x.f2, .slice C4 x.f3.length g4, .slice C5 x.f4.length g5] 27)).heap.size = w2.heap.size + 1) := ⟨Mem.alloc_size _ _⟩
  have HUV : Aside0 (U.heap.size ≤ V.heap.size) := ⟨HBA.out.size⟩
  have HXC : Aside0 ((w2.alloc (.cells #[.int .i64 x.f0.f0, .int .i64 x.f0.f1, .string x.f1, .string x.f2, .slice C4 x.f3.length g4, .slice C5 x.f4.length g5] 27)).heap[w.heap.size]? = some (.cells #[.int .i64 x.f0.f0, .int .i64 x.f0.f1, .string x.f1, .string x.f2, .slice A4 x.f3.length c4, .slice A5 x.f4.length c5] 27 (0, 0))) := ⟨(HBC.out.block _ (blk_lt HXA.out)).trans HXA.out⟩
  have HYC : Aside0 ((w2.alloc (.cells #[.int .i64 x.f0.f0, .int .i64 x.f0.f1, .string x.f1, .string x.f2, .slice C4 x.f3.length g4, .slice C5 x.f4.length g5] 27)).heap[w1.heap.size]? = some (.cells #[.int .i64 x.f0.f0, .int .i64 x.f0.f1, .string x.f1, .string x.f2, .slice B4 x.f3.length d4, .slice B5 x.f4.length d5] 27 (0, 0))) := ⟨(HBC.out.block _ (blk_lt HYA.out)).trans HYA.out⟩
  have HZC : Aside0 ((w2.alloc (.cells #[.int .i64 x.f0.f0, .int .i64 x.f0.f1, .string x.f1, .string x.f2, .slice C4 x.f3.length g4, .slice C5 x.f4.length g5] 27)).heap[w2.heap.size]? = some (.cells #[.int .i64 x.f0.f0, .int .i64 x.f0.f1, .string x.f1, .string x.f2, .slice C4 x.f3.length g4, .slice C5 x.f4.length g5] 27 (0, 0))) := ⟨Mem.alloc_new _ _⟩
  have HRC : Aside0 (RK (w2.alloc (.cells #[.int .i64 x.f0.f0, .int .i64 x.f0.f1, .string x.f1, .string x.f2, .slice C4 x.f3.length g4, .slice C5 x.f4.length g5] 27)) x C4 g4 C5 g5) := ⟨(RK.of (k27.K_of_M hM2)).below (below_alloc (Below.refl _ _) _)⟩
  have HRT : Aside0 (RK (w2.alloc (.cells #[.int .i64 x.f0.f0, .int .i64 x.f0.f1, .string x.f1, .string x.f2, .slice C4 x.f3.length g4, .slice C5 x.f4.length g5] 27)) x A4 c4 A5 c5) := ⟨HRX.out.below (HBA.out.trans (HBC.out.mono HUV.out))⟩
  have a0 := Mem.cell_of HXC.out 0
  have a1 := Mem.cell_of HXC.out 1
  have a2 := Mem.cell_of HXC.out 2
  have a3 := Mem.cell_of HXC.out 3
  have a4 := Mem.cell_of HXC.out 4
  have a5 := Mem.cell_of HXC.out 5
  have q0 := Mem.cell_of HZC.out 0
  have q1 := Mem.cell_of HZC.out 1
  have q2 := Mem.cell_of HZC.out 2
  have q3 := Mem.cell_of HZC.out 3
  have q4 := Mem.cell_of HZC.out 4
  have q5 := Mem.cell_of HZC.out 5
  clear hM2 hb2
  go_wp2_with (fail)
  refine (rsame_calls _ x x _ _ _ _ _ _ _ _ HRC.out HRT.out HF.out).mono ?_
  rintro e w3 ⟨rfl, hb3⟩
  rw [eqT_self]
  dsimp only
  clear a0 a1 a2 a3 a4 a5 q0 q1 q2 q3 q4 q5
  have HCK : Aside0 (∀ k, k < w2.heap.size → (w2.alloc (.cells #[.int .i64 x.f0.f0, .int .i64 x.f0.f1, .string x.f1, .string x.f2, .slice C4 x.f3.length g4, .slice C5 x.f4.length g5] 27)).heap[k]? = w2.heap[k]?) := ⟨fun k hk => (below_alloc (Below.refl w2.heap.size w2) _).block k hk⟩
  generalize (w2.alloc (.cells #[.int .i64 x.f0.f0, .int .i64 x.f0.f1, .string x.f1, .string x.f2, .slice C4 x.f3.length g4, .slice C5 x.f4.length g5] 27)) = C at *
  have HB3 := Aside0.mk hb3
  have HW23 : Aside0 (∀ k, k < w2.heap.size → w3.heap[k]? = w2.heap[k]?) := ⟨fun k hk => (hb3.block k (by have := HSC.out; omega)).trans (HCK.out k hk)⟩
  have HY3 : Aside0 (w3.heap[w1.heap.size]? = some (.cells #[.int .i64 x.f0.f0, .int .i64 x.f0.f1, .string x.f1, .string x.f2, .slice B4 x.f3.length d4, .slice B5 x.f4.length d5] 27 (0, 0))) := ⟨(hb3.block _ (blk_lt HYC.out)).trans HYC.out⟩
  have HZ3 : Aside0 (w3.heap[w2.heap.size]? = some (.cells #[.int .i64 x.f0.f0, .int .i64 x.f0.f1, .string x.f1, .string x.f2, .slice C4 x.f3.length g4, .slice C5 x.f4.length g5] 27 (0, 0))) := ⟨(hb3.block _ (blk_lt HZC.out)).trans HZC.out⟩
  have HX3 : Aside0 (w3.heap[w.heap.size]? = some (.cells #[.int .i64 x.f0.f0, .int .i64 x.f0.f1, .string x.f1, .string x.f2, .slice A4 x.f3.length c4, .slice A5 x.f4.length c5] 27 (0, 0))) := ⟨(hb3.block _ (blk_lt HXC.out)).trans HXC.out⟩
  have b0 := Mem.cell_of HY3.out 0
  have b1 := Mem.cell_of HY3.out 1
  have b2 := Mem.cell_of HY3.out 2
  have b3 := Mem.cell_of HY3.out 3
  have b4 := Mem.cell_of HY3.out 4
  have b5 := Mem.cell_of HY3.out 5
  clear hb3
  go_wp2_with (fail)
  have HV1 : Aside0 (w1.heap.size + 1 = V.heap.size) := ⟨HSZ.out.symm⟩
  have hsz : w1.heap.size ≤ V.heap.size ∧ V.heap.size ≤ w2.heap.size ∧ w2.heap.size + 1 = C.heap.size ∧ C.heap.size ≤ w3.heap.size := ⟨by have := HV1.out; omega, HB2.out.size, HSC.out.symm, HB3.out.size⟩
  have HSIZE := Aside0.mk hsz
  have hV3 : Below V.heap.size V w3 := HBC.out.trans (HB3.out.mono HBC.out.size)
  have hU3 : Below U.heap.size U w3 := HBA.out.trans (hV3.mono HUV.out)
  have hw13 : ∀ k, U.heap.size ≤ k → k < w1.heap.size → w3.heap[k]? = w1.heap[k]? := fun k _ hk => (hV3.block k (by omega)).trans (HVK.out k hk)
  have hSp : Sp U.heap.size w1.heap.size w3 (szT x) [.int .i64 x.f0.f0, .int .i64 x.f0.f1, .string x.f1, .string x.f2, .slice B4 x.f3.length d4, .slice B5 x.f4.length d5] := Sp.step hw13 _ _ (Sp.made _ _ x _ (Nat.le_refl _) HM1.out)
  have HU3 := Aside0.mk hU3
  have hle : w1.heap.size ≤ w3.heap.size := by omega
  refine (spoil_calls U.heap.size w1.heap.size _ w3 _ hSp HB1.out.size hle).mono ?_
  rintro e w4 ⟨⟨v, rfl⟩, hw4⟩
  dsimp only
  have hZ4 : w4.heap[w2.heap.size]? = some (.cells #[.int .i64 x.f0.f0, .int .i64 x.f0.f1, .string x.f1, .string x.f2, .slice C4 x.f3.length g4, .slice C5 x.f4.length g5] 27 (0, 0)) := (hw4.high _ (by omega) (by omega)).trans HZ3.out
  have hX4 : w4.heap[w.heap.size]? = some (.cells #[.int .i64 x.f0.f0, .int .i64 x.f0.f1, .string x.f1, .string x.f2, .slice A4 x.f3.length c4, .slice A5 x.f4.length c5] 27 (0, 0)) := (hw4.low.block _ HU.out).trans HX3.out
  have hRC4 : RK w4 x C4 g4 C5 g5 := made_keeps HM2.out (fun k h1 h2 => (hw4.high k (by omega) (by omega)).trans (HW23.out k h2))
  have hRT4 : RK w4 x A4 c4 A5 c5 := HRX.out.below (hU3.trans hw4.low)
  have HB4 := Aside0.mk (hU3.trans hw4.low)
  have HR4 := Aside0.mk hRC4
  have HT4 := Aside0.mk hRT4
  clear hsz hV3 hU3 hw13 hSp hle hw4 hRC4 hRT4
  clear b0 b1 b2 b3 b4 b5
  have a0 := Mem.cell_of hX4 0
  have a1 := Mem.cell_of hX4 1
  have a2 := Mem.cell_of hX4 2
  have a3 := Mem.cell_of hX4 3
  have a4 := Mem.cell_of hX4 4
  have a5 := Mem.cell_of hX4 5
  have q0 := Mem.cell_of hZ4 0
  have q1 := Mem.cell_of hZ4 1
  have q2 := Mem.cell_of hZ4 2
  have q3 := Mem.cell_of hZ4 3
  have q4 := Mem.cell_of hZ4 4
  have q5 := Mem.cell_of hZ4 5
  clear hX4 hZ4
  go_wp2_with (fail)
  refine (rsame_calls _ x x _ _ _ _ _ _ _ _ HR4.out HT4.out HF.out).mono ?_
  rintro e w5 ⟨rfl, hb5⟩
  rw [eqT_self]
  dsimp only
  have HB5 := Aside0.mk (HB4.out.trans (hb5.mono HB4.out.size))
  clear hb5
  clear a0 a1 a2 a3 a4 a5 q0 q1 q2 q3 q4 q5
  go_wp2_with (fail)
  refine (awake_calls _).mono ?_
  rintro e w6 ⟨rfl, hb6⟩
  dsimp only
  have HB6 := Aside0.mk (HB5.out.trans (hb6.mono HB5.out.size))
  clear hb6
  go_wp2_with (fail)
  go_ret
  exact ⟨rfl, HB0.out.trans (HB6.out.mono HB0.out.size)⟩
end Go.Proofs.Ytnkbgimihikhoaa.PVt
