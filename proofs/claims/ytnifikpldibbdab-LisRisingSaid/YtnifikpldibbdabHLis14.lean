/- The contract of lis.lengths: of each place how long the longest rising part is that begins there. -/
import Derived.Test.YtnifikpldibbdabPLisx5
import Derived.Test.YtnifikpldibbdabHLis17
import Derived.Test.YtnifikpldibbdabLisPlain
import Derived.Test.YtnifikpldibbdabMem
import Derived.WalkSpells
import Derived.IntWalk
import Derived.Laws.MakeOwn
import Derived.Laws.OwnMore
namespace Go.Proofs.Ytnifikpldibbdab.PLis
open Go.RowKit Go.Proofs.YtnifikpldibbdabW.PrintWords Go.Proofs.YtnifikpldibbdabW.PrintLast Go.Proofs.YtnifikpldibbdabW.PrintMore
attribute [local go_sem] max2_int min2_int max_two min_two max_three min_three max_four min_four   -- for this text's walks alone
set_option linter.unusedVariables false
set_option linter.unusedSimpArgs false



def lens.T9 : Bool × List (List Nat × List Nat) := (true, [([], []), ([], []), ([], []), ([1, 2], [1, 2]), ([3], [3]), ([4], [4]), ([0, 5], [0, 5]), ([6, 6, 0, 1, 2, 3, 4, 5, 6], [6])])
def lens.B9 : List Nat := [0, 0, 0, 6, 14, 30, 63, 127]
theorem lens.tab9 : rtab .any (opsOf Try.f14 9) = lens.T9 := by kernel_rfl
theorem lens.bits9 : waitsOk lens.T9.2 lens.B9 = true := by kernel_rfl
def lens.T10 : Bool × List (List Nat × List Nat) := (true, [([], []), ([], []), ([], []), ([], []), ([2, 3], [2, 3]), ([4], [4]), ([0, 1, 0, 1, 2, 3, 4, 5], [0, 1]), ([6, 5, 0, 1, 2, 3, 4, 5], [5, 6])])
def lens.B10 : List Nat := [0, 0, 0, 0, 12, 28, 63, 127]
theorem lens.tab10 : rtab .any (opsOf Try.f14 10) = lens.T10 := by kernel_rfl
theorem lens.bits10 : waitsOk lens.T10.2 lens.B10 = true := by kernel_rfl
open LisPlain
/-- At the head of a round: k places done, from the end on. -/
def LInv (w : World) (A : Option Addr) (c : Nat) (l : List Int) (k : Nat) (wr : World) : Prop :=
  ∃ vh, wr.heap[w.heap.size]? = some (.cells #[.slice A l.length c] 22 (0, 0)) ∧
    wr.heap[w.heap.size + 1]? = some (.cells ((List.replicate (l.length - k) 0 ++ lens (l.drop (l.length - k))).map (Value.int .i64)).toArray 3 (0, 0)) ∧
    wr.heap[w.heap.size + 2]? = some (.cells #[vh] 22 (0, 0)) ∧ (Kd.int .i64).R 3 wr (w.heap.size + 3) (fun _ => True) vh (hd (l.drop (l.length - k))) ∧ Below w.heap.size w wr ∧ w.heap.size + 3 ≤ wr.heap.size
theorem drawN_cell (W : World) (m : Nat) (a : Addr) : (W.drewN m).cell? a = W.cell? a := rfl
set_option maxRecDepth 100000 in
theorem lens_search (W : World) (bh bl bi : Nat) (Ah : Option Addr) (al : Addr) (hs : List Int) (ch nl cl i : Nat) (x : Int) (HF : Falls hs)
    (hH : W.cell? ⟨bh, 0, none⟩ = some (.slice Ah hs.length ch)) (hL : W.cell? ⟨bl, 0, none⟩ = some (.slice (some al) nl cl)) (hI : W.cell? ⟨bi, 0, none⟩ = some (.int .i64 (i : Int)))
    (hC : Kd.C (Kd.int .i64) W Ah hs.length hs) (hX : W.cell? (al.add i) = some (.int .i64 x)) (hi : i < nl) (hn : hs.length ≤ 4611686018427387904) :
    Calls Try.prog 16 #[.int .i64 (hs.length : Int), .func (.func 17) #[] #[.pointer (some ⟨bh, 0, none⟩), .pointer (some ⟨bl, 0, none⟩), .pointer (some ⟨bi, 0, none⟩)]] W fun e w' => e = .returned (.int .i64 ((cnt hs x : Nat) : Int)) ∧ Drawn0 W w' := by
  refine search_calls W hs.length (cnt hs x) _ (fun j => decide (hs.getD j 0 ≤ x)) hn (cnt_le _ _) (fun j hj => ?_) (fun j h1 h2 => ?_) (fun m j hj => ?_)
  · have hl : j < hs.length := Nat.lt_of_lt_of_le hj (cnt_le _ _)
    have := cnt_before hs x j _ hj (List.getElem?_eq_getElem hl)
    refine decide_eq_false ?_
    rw [List.getD_eq_getElem?_getD, List.getElem?_eq_getElem hl]
    show ¬ hs[j] ≤ x
    omega
  · have := cnt_after HF x j _ h1 (List.getElem?_eq_getElem h2)
    refine decide_eq_true ?_
    rw [List.getD_eq_getElem?_getD, List.getElem?_eq_getElem h2]
    exact this
  · obtain ⟨ah, rfl, he⟩ := Kd.at_int hC (j : Int) (by omega) (by omega)
    rw [Int.toNat_natCast] at he
    have hr : rd hs (j : Int) = hs.getD j 0 := by unfold rd; rw [Int.toNat_natCast]
    rw [hr] at he
    exact clos_calls (W.drewN m) bh bl bi ah al hs.length ch nl cl i j (hs.getD j 0) x hH hL hI he hX hj hi
theorem linv_start (w : World) (A : Option Addr) (c : Nat) (l : List Int) : LInv w A c l 0 (((w.alloc (.cells #[.slice A l.length c] 22)).alloc (.cells (madeCells #[.int .i64 0] l.length) 3)).alloc (.cells #[.slice none 0 0] 22)) := by
  have s1 := Mem.alloc_size w (.cells #[.slice A l.length c] 22)
  have s2 := Mem.alloc_size (w.alloc (.cells #[.slice A l.length c] 22)) (.cells (madeCells #[.int .i64 0] l.length) 3)
  have s3 := Mem.alloc_size ((w.alloc (.cells #[.slice A l.length c] 22)).alloc (.cells (madeCells #[.int .i64 0] l.length) 3)) (.cells #[.slice none 0 0] 22)
  refine ⟨.slice none 0 0, Mem.alloc_old (Mem.alloc_old (Mem.alloc_new _ _) _) _, ?_, Mem.alloc_new_at _ _ _ (by omega), ?_, ?_, by omega⟩
  · rw [Nat.sub_zero, List.drop_length]
    have : (.cells (madeCells #[.int .i64 0] l.length) 3 : Obj) = .cells ((List.replicate l.length 0 ++ lens []).map (Value.int .i64)).toArray 3 (0, 0) := by
      congr 1
      have h := toList_madeCells_one (.int .i64 0) l.length
      rw [← Array.toArray_toList (xs := madeCells #[.int .i64 0] l.length), h, show lens [] = [] from rfl, List.append_nil, List.map_replicate]
    rw [← this]
    exact Mem.alloc_old (Mem.alloc_new_at _ _ _ (by omega)) _
  · rw [Nat.sub_zero, List.drop_length]
    exact Kd.R_nil _ _ _ _ _
  · exact (((Below.refl _ _).alloc (Nat.le_refl _) _).alloc (by omega) _).alloc (by omega) _
/-- The cells that are read, behind an append to the heads. -/
def Cells (w : World) (al : Addr) (n c : Nat) (vh : Value) (i bi : Nat) (x : Int) (W : World) : Prop :=
  W.cell? ⟨w.heap.size, 0, none⟩ = some (.slice (some al) n c) ∧ W.cell? ⟨w.heap.size + 1 + 1, 0, none⟩ = some vh ∧ W.cell? ⟨bi, 0, none⟩ = some (.int .i64 (i : Int)) ∧ W.cell? (al.add i) = some (.int .i64 x)
/-- In the midst of a round. -/
def Mid (w : World) (A : Option Addr) (c : Nat) (l : List Int) (k : Nat) (hs : List Int) (vh : Value) (i bi : Nat) (W : World) : Prop :=
  W.heap[w.heap.size]? = some (.cells #[.slice A l.length c] 22 (0, 0)) ∧
    W.heap[w.heap.size + 1]? = some (.cells ((List.replicate (l.length - k) 0 ++ lens (l.drop (l.length - k))).map (Value.int .i64)).toArray 3 (0, 0)) ∧
    W.heap[w.heap.size + 2]? = some (.cells #[vh] 22 (0, 0)) ∧ W.heap[bi]? = some (.cells #[.int .i64 (i : Int)] 3 (0, 0)) ∧
    (Kd.int .i64).R 3 W (w.heap.size + 3) (fun b => b ≠ bi) vh hs ∧ Below w.heap.size w W ∧ w.heap.size + 3 ≤ bi ∧ bi < W.heap.size
theorem R_not {α : Type} {d : Kd α} {e : Nat} {W : World} {base : Nat} {ok : Nat → Prop} {v : Value} {xs : List α} (h : d.R e W base ok v xs) : d.R e W base (fun b => ok b ∧ base ≤ b ∧ b < W.heap.size) v xs :=
  Kd.R_mono (Kd.R_bound h) (fun _ hk => ⟨hk.1, hk.2.1, hk.2.2.1⟩)
theorem R_form {α : Type} {d : Kd α} {e : Nat} {W : World} {base : Nat} {ok : Nat → Prop} {A : Option Addr} {n c : Nat} {xs : List α} (h : d.R e W base ok (.slice A n c) xs) (hn : 0 < n) : ∃ g, A = some ⟨g, 0, none⟩ := by
  obtain ⟨inner, ho⟩ := Kd.R_own h
  rcases ho.2 with ⟨h1, _⟩ | ⟨g, cap, cur, h1, _⟩
  · injection h1 with _ h2 _
    omega
  · injection h1 with h2 _ _
    exact ⟨g, h2⟩
theorem R_of_block {W : World} {base g : Nat} {ok : Nat → Prop} {xs : List Int} (h : W.heap[g]? = some (.cells (xs.map (Value.int .i64)).toArray 3 (0, 0))) (hb : base ≤ g) (hm : xs.length ≤ 9223372036854775807) (hok : ∀ k, ok k) :
    (Kd.int .i64).R 3 W base ok (.slice (some ⟨g, 0, none⟩) xs.length xs.length) xs := by
  refine Kd.R_of_own ⟨by simp [encs], .inr ⟨g, xs.length, _, rfl, hb, h, Nat.le_refl _, by simpa [maxLen] using hm, by simp, ?_⟩⟩ (fun k _ => hok k)
  rw [Nat.mul_one, show ((List.map (Value.int .i64) xs).toArray).toList = List.map (Value.int .i64) xs from rfl]
  exact List.take_of_length_le (by simp)
theorem mid_start {w wr : World} {A : Option Addr} {c : Nat} {l : List Int} {k : Nat} {hs : List Int} {vh : Value} (i nd : Nat)
    (e0 : wr.heap[w.heap.size]? = some (.cells #[.slice A l.length c] 22 (0, 0)))
    (e1 : wr.heap[w.heap.size + 1]? = some (.cells ((List.replicate (l.length - k) 0 ++ lens (l.drop (l.length - k))).map (Value.int .i64)).toArray 3 (0, 0)))
    (e2 : wr.heap[w.heap.size + 2]? = some (.cells #[vh] 22 (0, 0))) (hR : (Kd.int .i64).R 3 wr (w.heap.size + 3) (fun _ => True) vh hs) (hB : Below w.heap.size w wr) (hsz : w.heap.size + 3 ≤ wr.heap.size) :
    Mid w A c l k hs vh i wr.heap.size ((wr.alloc (.cells #[.int .i64 (i : Int)] 3)).drewN nd) := by
  refine ⟨Mem.alloc_old e0 _, Mem.alloc_old e1 _, Mem.alloc_old e2 _, Mem.alloc_new _ _, ?_, ?_, hsz, ?_⟩
  · refine Kd.R_drewN (Kd.R_alloc (Kd.R_mono (R_not hR) (fun b hb => ?_)) _) _
    omega
  · exact pw_below_drewN (hB.alloc (by omega) _) _
  · show wr.heap.size < (wr.alloc _).heap.size
    rw [Mem.alloc_size]
    omega
theorem mid_drew {w W : World} {A : Option Addr} {c : Nat} {l : List Int} {k : Nat} {hs : List Int} {vh : Value} {i bi : Nat} (h : Mid w A c l k hs vh i bi W) : Mid w A c l k hs vh i bi W.drew := by
  obtain ⟨h0, h1, h2, h3, h4, h5, h6, h7⟩ := h
  exact ⟨h0, h1, h2, h3, Kd.R_drew h4, below_drew1 h5, h6, h7⟩
theorem cells_append {w W w1 : World} {al : Addr} {c : Nat} {l : List Int} {k : Nat} {hs : List Int} {vh : Value} {i bi : Nat} {x : Int} (h : Mid w (some al) c l k hs vh i bi W) (hx : W.cell? (al.add i) = some (.int .i64 x)) (ha : (al.add i).block < w.heap.size)
    (hb : Below (w.heap.size + 3) W w1) (hg : W.grownBy w1 vh.ownBlock) : Cells w al l.length c vh i bi x w1 := by
  obtain ⟨h0, h1, h2, h3, h4, h5, h6, h7⟩ := h
  exact ⟨Mem.cell_of ((hb.block w.heap.size (by omega)).trans h0) 0, Mem.cell_of ((hb.block (w.heap.size + 2) (by omega)).trans h2) 0, Mem.cell_of ((hg.block bi h7 (fun e => h4.1 bi e.symm rfl)).trans h3) 0, (hb.cell (by omega)).trans hx⟩
theorem mid_append {w W w1 : World} {A : Option Addr} {c : Nat} {l : List Int} {k : Nat} {hs hs' : List Int} {vh v1 : Value} {i bi : Nat} (h : Mid w A c l k hs vh i bi W)
    (hr : (Kd.int .i64).R 3 w1 (w.heap.size + 3) (fun b => b ≠ bi) v1 hs') (hb : Below (w.heap.size + 3) W w1) (hg : W.grownBy w1 vh.ownBlock) : Mid w A c l k hs' v1 i bi (w1.setCell ⟨w.heap.size + 2, 0, none⟩ v1) := by
  obtain ⟨h0, h1, h2, h3, h4, h5, h6, h7⟩ := h
  have g0 := (hb.block w.heap.size (by omega)).trans h0
  have g1 := (hb.block (w.heap.size + 1) (by omega)).trans h1
  have g2 := (hb.block (w.heap.size + 2) (by omega)).trans h2
  have g3 := (hg.block bi h7 (fun e => h4.1 bi e.symm rfl)).trans h3
  have g4 := hb.size
  refine ⟨(Mem.set_other _ _ _ _ (by simp)).trans g0, (Mem.set_other _ _ _ _ (by simp)).trans g1, Mem.set_heap g2 0 v1, (Mem.set_other _ _ _ _ (by simp; omega)).trans g3, ?_, ?_, h6, by rw [Mem.set_size]; omega⟩
  · exact Kd.R_mono (Kd.R_far (p := ⟨w.heap.size + 2, 0, none⟩) (R_not hr) (fun b hk => by show b ≠ w.heap.size + 2; omega) v1) (fun _ hk => hk.1)
  · exact below_set (h5.trans (hb.mono (by omega))) (by simp)
theorem mid_put {w W : World} {A : Option Addr} {c : Nat} {l : List Int} {k : Nat} {hs : List Int} {g ch : Nat} {i bi n : Nat} (x : Int) (h : Mid w A c l k hs (.slice (some ⟨g, 0, none⟩) hs.length ch) i bi W) :
    Mid w A c l k (hs.set n x) (.slice (some ⟨g, 0, none⟩) (hs.set n x).length ch) i bi (W.setCell ⟨g, n, none⟩ (.int .i64 x)) := by
  obtain ⟨h0, h1, h2, h3, h4, h5, h6, h7⟩ := h
  have hgb : g ≠ bi := h4.1 g rfl
  have hg3 : w.heap.size + 3 ≤ g := Kd.R_base h4 g rfl
  refine ⟨(Mem.set_other _ _ _ _ (by simp; omega)).trans h0, (Mem.set_other _ _ _ _ (by simp; omega)).trans h1, ?_, (Mem.set_other _ _ _ _ (fun e => hgb e.symm)).trans h3, ?_, ?_, h6, by rw [Mem.set_size]; omega⟩
  · rw [List.length_set]
    exact (Mem.set_other _ _ _ _ (by simp; omega)).trans h2
  · have := Kd.R_putn h4 (n : Int) x
    rw [Int.toNat_natCast] at this
    rw [List.length_set]
    exact this
  · exact below_set h5 (by omega)
theorem out_step (m : Nat) (v : Int) (L : List Int) (hm : 0 < m) : ((List.replicate m 0 ++ L).map (Value.int .i64)).set (m - 1) (.int .i64 v) = (List.replicate (m - 1) 0 ++ v :: L).map (Value.int .i64) := by
  obtain ⟨q, rfl⟩ : ∃ q, m = q + 1 := ⟨m - 1, by omega⟩
  rw [Nat.add_sub_cancel, ← List.map_set, List.replicate_succ', List.append_assoc]
  congr 1
  rw [List.set_append_right _ _ (by simp)]
  simp
theorem out_cell {w W : World} {A : Option Addr} {c : Nat} {l : List Int} {k : Nat} {hs : List Int} {vh : Value} {i bi : Nat} (h : Mid w A c l k hs vh i bi W) (hk : k ≤ l.length) (hi : i < l.length) : ∃ u, W.cell? ⟨w.heap.size + 1, i, none⟩ = some u := by
  refine ⟨_, (Mem.cell_of h.2.1 i).trans (Array.getElem?_eq_getElem ?_)⟩
  simp [lens_length]
  omega
theorem mid_end {w W : World} {A : Option Addr} {c : Nat} {l : List Int} {k : Nat} {hs : List Int} {vh : Value} {bi : Nat} {x : Int} (hk : k < l.length) (hx : l[l.length - 1 - k]? = some x) (hh : hd (l.drop (l.length - k)) = hs)
    (h : Mid w A c l k (put hs (cnt hs x) x) vh (l.length - 1 - k) bi W) : LInv w A c l (k + 1) (W.setCell ⟨w.heap.size + 1, l.length - 1 - k, none⟩ (.int .i64 ((cnt hs x : Int) + 1))) := by
  obtain ⟨h0, h1, h2, h3, h4, h5, h6, h7⟩ := h
  have hd1 : l.drop (l.length - (k + 1)) = x :: l.drop (l.length - k) := by
    have hl : l.length - (k + 1) < l.length := by omega
    rw [List.drop_eq_getElem_cons hl]
    have e1 : l.length - 1 - k = l.length - (k + 1) := by omega
    rw [e1, List.getElem?_eq_getElem hl] at hx
    rw [Option.some.inj hx]
    congr 2
    omega
  refine ⟨vh, (Mem.set_other _ _ _ _ (by simp)).trans h0, ?_, (Mem.set_other _ _ _ _ (by simp)).trans h2, ?_, below_set h5 (by simp), by rw [Mem.set_size]; omega⟩
  · rw [Mem.set_heap h1, hd1]
    rw [List.setIfInBounds_toArray, show l.length - 1 - k = l.length - k - 1 from by omega, out_step _ _ _ (by omega), show l.length - k - 1 = l.length - (k + 1) from by omega]
    unfold lens
    rw [ln_cons, List.map_cons, hh]
    rfl
  · rw [hd1, hd_cons, hh]
    exact Kd.R_mono (Kd.R_far (p := ⟨w.heap.size + 1, l.length - 1 - k, none⟩) (R_not h4) (fun b hk => by show b ≠ w.heap.size + 1; omega) _) (fun _ _ => trivial)
set_option maxHeartbeats 8000000 in
set_option maxRecDepth 100000 in
theorem lis_lengths.calls (k : Nat) (A0 : Option Addr) (c0 : Nat) (l0 : List Int) (r : List Int) (w : World) (hr0 : Kd.C (Kd.int .i64) w A0 l0.length l0) (hc0 : l0.length ≤ c0) (h : lis_lengths.f k l0 = some r) :
    Calls Try.prog 14 #[.slice A0 l0.length c0] w fun e w' => ∃ v0_ : Value, e = .returned (v0_) ∧ Kd.R (Kd.int .i64) 3 w' w.heap.size (fun _ => True) v0_ r ∧ Below w.heap.size w w' := by
  unfold lis_lengths.f at h
  by_cases hbig : l0.length ≤ 17592186044416
  case neg => rw [if_neg hbig] at h; cases h
  rw [if_pos hbig] at h
  obtain rfl := Option.some.inj h
  clear h
  have HR0 := Aside0.mk hr0
  have HC0 := Aside0.mk hc0
  clear hr0 hc0
  obtain ⟨i0, hi, hz0, hz1, hz2⟩ := info_parts info3
  have hmk : ∀ u : World, (Instr.makeSlice 22 (.int .i64 (l0.length : Int)) (.int .i64 (l0.length : Int))).run Try.prog u =
      .ok (.slice (some ⟨u.heap.size, 0, none⟩) l0.length l0.length) (u.alloc (.cells (madeCells #[.int .i64 0] l0.length) 3)) := fun u => by
    have h := run_make (P := Try.prog) u 22 3 i0 (.int .i64 0) Try.underlying22 hi hz0 .i64 .i64 (l0.length : Int) (l0.length : Int) (by omega) (Int.le_refl _) (by rw [hz2]; omega) (by omega)
    rw [Int.toNat_natCast, hz1, Nat.mul_one] at h
    exact h
  clear hz0 hz1 hz2 hi
  go_enter Try.func14, Try.ntmps14
  go_wp2
  clear hmk
  go_loopw [13] (fun v wr => ∃ k : Nat, v = .int .i64 (k : Int) ∧ k ≤ l0.length ∧ Aside0 (LInv w A0 c0 l0 k wr)) (fun v _ => l0.length - (intOf v).toNat)
  case atStart =>
    refine ⟨0, rfl, Nat.zero_le _, ⟨?_⟩⟩
    exact linv_start w A0 c0 l0
  case round =>
    obtain ⟨k, rfl, hk, HI⟩ := hrel
    by_cases hlt : k < l0.length
    · obtain ⟨x, hx⟩ : ∃ x, l0[l0.length - 1 - k]? = some x := ⟨_, List.getElem?_eq_getElem (by omega)⟩
      obtain ⟨vh, e0, e1, e2, hR, hB, hsz⟩ := HI.out
      clear HI
      generalize hhs : hd (l0.drop (l0.length - k)) = hs at hR
      have HH := Aside0.mk hhs
      clear hhs
      have HF := Aside0.mk (show Falls hs from by rw [← HH.out]; exact hd_falls _)
      obtain ⟨Ah, ch, rfl⟩ := Kd.R_slice hR
      have hC := (Kd.R_reads' hR).2.2
      have hch := (Kd.R_reads' hR).2.1
      have hsl : hs.length ≤ 9223372036854775807 := hC.2.1
      obtain ⟨al, hal, hxa⟩ := Kd.at_int HR0.out ((l0.length - 1 - k : Nat) : Int) (by omega) (by omega)
      rw [Int.toNat_natCast] at hxa
      have hrd : rd l0 ((l0.length - 1 - k : Nat) : Int) = x := by unfold rd; rw [Int.toNat_natCast, List.getD_eq_getElem?_getD, hx]; rfl
      rw [hrd] at hxa
      subst hal
      have halb : (al.add (l0.length - 1 - k)).block < w.heap.size := World.block_lt_of_cell? w _ hxa
      have HX := Aside0.mk ((hB.cell (World.block_lt_of_cell? w _ hxa)).trans hxa)
      have HE := Aside0.mk (And.intro e0 (And.intro e1 e2))
      have HR := Aside0.mk hR
      have HC := Aside0.mk hC
      have HB := Aside0.mk hB
      have HX0 := Aside0.mk hx
      have q0 := Mem.cell_of e0 0
      have q2 : wr.cell? ⟨w.heap.size + 1 + 1, 0, none⟩ = _ := Mem.cell_of e2 0
      rw [show (#[Value.slice (some al) l0.length c0] : Array Value)[0]? = some (.slice (some al) l0.length c0) from rfl] at q0
      rw [show (#[Value.slice Ah hs.length ch] : Array Value)[0]? = some (.slice Ah hs.length ch) from rfl] at q2
      have qa2 := fun o => Mem.cell_alloc q2 o
      clear e0 e1 e2 hR hC hB hxa hrd hx
      have hwi : wrap64 ((l0.length : Int) - 1) = (l0.length : Int) - 1 := by unfold wrap64; omega
      have hwj : wrap64 ((l0.length : Int) - 1 - (k : Int)) = (l0.length : Int) - 1 - (k : Int) := by unfold wrap64; omega
      go_wp2_with (fail)
      obtain ⟨i, hi⟩ : ∃ i, l0.length - 1 - k = i := ⟨_, rfl⟩
      have hij : (l0.length : Int) - 1 - (k : Int) = (i : Int) := by omega
      have hil : i < l0.length := by omega
      rw [hij]
      rw [hi] at HX halb
      refine (lens_search _ (w.heap.size + 1 + 1) w.heap.size wr.heap.size Ah al hs ch l0.length c0 i x HF.out (qa2 _) (Mem.cell_alloc q0 _) (Mem.cell_of (Mem.alloc_new _ _) 0) (Kd.C_alloc HC.out _) (Mem.cell_alloc HX.out _) hil (by have := hd_length (l0.drop (l0.length - k)); rw [HH.out] at this; have := List.length_drop (l := l0) (i := l0.length - k); omega)).mono ?_
      rintro e w' ⟨rfl, ⟨nd, rfl⟩⟩
      have HM := Aside0.mk (mid_start (w := w) (A := some al) (c := c0) (l := l0) (k := k) i nd HE.out.1 HE.out.2.1 HE.out.2.2 HR.out HB.out hsz)
      have HX1 := Aside0.mk (show ((wr.alloc (.cells #[.int .i64 (i : Int)] 3)).drewN nd).cell? (al.add i) = _ from Mem.cell_alloc HX.out _)
      have hbl : hs.length ≤ 17592186044415 := by have := hd_length (l0.drop (l0.length - k)); rw [HH.out] at this; have := List.length_drop (l := l0) (i := l0.length - k); omega
      have HI1 := Aside0.mk hi
      have HAL := Aside0.mk halb
      clear halb
      generalize (wr.alloc (.cells #[.int .i64 (i : Int)] 3)).drewN nd = W1 at HM HX1 ⊢
      have hbi : wr.heap.size < W1.heap.size := HM.out.2.2.2.2.2.2.2
      generalize wr.heap.size = bi at *
      clear q0 q2 qa2 HX HE HR HC HB hsz hwi hwj hij hi hch hsl
      have p2 : W1.cell? ⟨w.heap.size + 1 + 1, 0, none⟩ = some (.slice Ah hs.length ch) := Mem.cell_of HM.out.2.2.1 0
      have hnl := cnt_le hs x
      obtain ⟨n, hn⟩ : ∃ n, cnt hs x = n := ⟨_, rfl⟩
      rw [hn] at hnl
      rw [hn]
      by_cases hcase : n = hs.length
      · have e1 : ((n : Int) == (hs.length : Int)) = true := by rw [hcase]; exact beq_self_eq_true _
        have HN := Aside0.mk hn
        have HCA := Aside0.mk hcase
        clear hn hcase
        go_wp2_with (fail)
        have b3 : (0 ≤ (i : Int)) = True := eq_true (by omega)
        have b4 : ((i : Int) < (l0.length : Int)) = True := eq_true (by omega)
        have b6 : (i < l0.length) = True := eq_true hil
        have HS := Aside0.mk (And.intro (Mem.cell_of (mid_drew HM.out).1 0) (And.intro (Mem.cell_of (mid_drew HM.out).2.2.1 0) (And.intro (Mem.cell_of (mid_drew HM.out).2.2.2.1 0) (show W1.drew.cell? (al.add i) = _ from HX1.out))))
        have HMd := Aside0.mk (mid_drew HM.out)
        clear p2 HM
        refine start_ (n := 8) (S := (fun w' => w'.cell? ⟨w.heap.size, 0, none⟩ = some (.slice (some al) l0.length c0) ∧ w'.cell? ⟨w.heap.size + 1 + 1, 0, none⟩ = some (.slice Ah hs.length ch) ∧ w'.cell? ⟨bi, 0, none⟩ = some (.int .i64 (i : Int)) ∧ w'.cell? (al.add i) = some (.int .i64 x))) (ds := [7]) #[false, false, false, false, false, false, false, false] (by kernel_rfl) rfl rfl (HS.out) (fun hHeld => ?_)
        refine with_tabW lens.tab9 lens.bits9 (fun HT_ HW_ => ?_)
        refine take_ (i := 0) (N := (some 29)) (v := ?_) (a' := ?_) #[true, false, false, false, false, false, false, false] rfl rfl (take_ofW HT_.out HW_.out (by kernel_rfl)) (fun _ _ _ h => h) (Or.inl ⟨by rfl, ?_⟩) hHeld ?_ ?_
        rotate_left
        · rintro w' ⟨s0, s1, s2, s3⟩
          go_simp
          with_reducible rfl
        rotate_left
        · simp only [Act.put, List.setIfInBounds_toArray, List.set_cons_zero, List.set_cons_succ, i64_w, i32_w]
          rfl
        refine take_ (i := 1) (N := (some 30)) (v := ?_) (a' := ?_) #[true, true, false, false, false, false, false, false] rfl rfl (take_ofW HT_.out HW_.out (by kernel_rfl)) (fun _ _ _ h => h) (Or.inl ⟨by rfl, ?_⟩) hHeld ?_ ?_
        rotate_left
        · rintro w' ⟨s0, s1, s2, s3⟩
          go_simp
          with_reducible rfl
        rotate_left
        · simp only [Act.put, List.setIfInBounds_toArray, List.set_cons_zero, List.set_cons_succ, i64_w, i32_w]
          rfl
        refine take_ (i := 2) (N := (some 31)) (v := ?_) (a' := ?_) #[true, true, true, false, false, false, false, false] rfl rfl (take_ofW HT_.out HW_.out (by kernel_rfl)) (fun _ _ _ h => h) (Or.inl ⟨by rfl, ?_⟩) hHeld ?_ ?_
        rotate_left
        · rintro w' ⟨s0, s1, s2, s3⟩
          go_simp
          with_reducible rfl
        rotate_left
        · simp only [Act.put, List.setIfInBounds_toArray, List.set_cons_zero, List.set_cons_succ, i64_w, i32_w]
          rfl
        refine pure_ (i := 3) (N := (some 32)) (v := ?_) (a' := ?_) #[true, true, true, true, false, false, false, false] rfl rfl (any_of HT_.out (by kernel_rfl)) (fun _ _ _ h => h) (Or.inl ⟨by rfl, ?_⟩) ?_ ?_
        rotate_left
        · intro w'
          go_simp
          with_reducible rfl
        rotate_left
        · simp only [Act.put, List.setIfInBounds_toArray, List.set_cons_zero, List.set_cons_succ, i64_w, i32_w]
          rfl
        refine take_ (i := 4) (N := (some 33)) (v := ?_) (a' := ?_) #[true, true, true, true, true, false, false, false] rfl rfl (take_ofW HT_.out HW_.out (by kernel_rfl)) (fun _ _ _ h => h) (Or.inl ⟨by rfl, ?_⟩) hHeld ?_ ?_
        rotate_left
        · rintro w' ⟨s0, s1, s2, s3⟩
          go_simp
          with_reducible rfl
        rotate_left
        · simp only [Act.put, List.setIfInBounds_toArray, List.set_cons_zero, List.set_cons_succ, i64_w, i32_w]
          rfl
        refine one_ (i := 5) (N := (some 34)) #[true, true, true, true, true, true, false, false] rfl rfl (one_of HT_.out (by kernel_rfl)) (by decide) (fun K hK => ?_)
        refine value_ (w1 := ?_) (v := ?_) (by rfl) rfl ?_ ?_
        rotate_left 2
        · go_simp
          constructor
          · rfl
          · rfl
        refine hK.out _ _ (⟨Mem.cell_alloc hHeld.1 _, Mem.cell_alloc hHeld.2.1 _, Mem.cell_alloc hHeld.2.2.1 _, Mem.cell_alloc hHeld.2.2.2 _⟩) (fun hHeld => ?_)
        clear hK K
        refine norm_ (a' := ?_) ?_ ?_
        rotate_left
        · show Act.put _ (some 34) _ = _
          simp only [Act.put, List.setIfInBounds_toArray, List.set_cons_zero, List.set_cons_succ, i64_w, i32_w]
          rfl
        refine one_ (i := 6) (N := (some 35)) #[true, true, true, true, true, true, true, false] rfl rfl (one_of HT_.out (by kernel_rfl)) (by decide) (fun K hK => ?_)
        refine Kd.R_append_step (Kd.int .i64) (w0 := W1.drew) (w.heap.size + 3) (by rfl) (.tmp 29) (.tmp 34) 22 3 (.int .i64 0) 8 rfl Try.underlying22 info3 rfl (by decide) (by omega) (.slice Ah hs.length ch) hs x [.int .i64 x] (fun b => b ≠ bi) (fun _ => False) rfl rfl (show Kd.M (Kd.int .i64) _ _ _ x [.int .i64 x] from rfl) (fun _ h => h.elim) (fun b hk => by have h_ := HMd.out.2.2.2.2.2.2.2; omega) HMd.out.2.2.2.2.1 (Below.refl _ _) (by have h_ := HMd.out.2.2.2.2.2.2; omega) (by omega) ?_
        intro v1 w1 ho hb hg hat
        obtain ⟨A1, c1, rfl⟩ := Kd.R_slice ho
        have HA := Aside0.mk (And.intro ho (And.intro hb hg))
        have HCS := Aside0.mk (cells_append HMd.out (show W1.drew.cell? (al.add i) = _ from HX1.out) HAL.out hb hg)
        have fz : w1.frozen? ⟨w.heap.size + 1 + 1, 0, none⟩ = false := Mem.free_of ((hb.block (w.heap.size + 2) (by omega)).trans HMd.out.2.2.1) 0
        have cz := HCS.out.2.1
        clear ho hb hg hat
        refine hK.out _ _ (HCS.out) (fun hHeld => ?_)
        clear hK K
        refine norm_ (a' := ?_) ?_ ?_
        rotate_left
        · show Act.put _ (some 35) _ = _
          simp only [Act.put, List.setIfInBounds_toArray, List.set_cons_zero, List.set_cons_succ, i64_w, i32_w]
          rfl
        refine last_ (i := 7) (N := none) #[true, true, true, true, true, true, true, true] rfl rfl (one_of HT_.out (by kernel_rfl)) (by decide) (fun K hK => ?_)
        refine skip_ (w1 := w1.setCell ⟨w.heap.size + 1 + 1, 0, none⟩ (.slice A1 (hs ++ [x]).length c1)) (by rfl) rfl ?_ ?_
        · go_simp
        refine hK.out _ _ ?_
        clear hK K
        refine done_ (done_of HT_.out (by kernel_rfl)) ?_
        have HM2 : Aside0 (Mid w (some al) c0 l0 k (hs ++ [x]) (.slice A1 (hs ++ [x]).length c1) i bi (w1.setCell ⟨w.heap.size + 1 + 1, 0, none⟩ (.slice A1 (hs ++ [x]).length c1))) := Aside0.mk (mid_append HMd.out HA.out.1 HA.out.2.1 HA.out.2.2)
        generalize (w1.setCell ⟨w.heap.size + 1 + 1, 0, none⟩ (.slice A1 (hs ++ [x]).length c1)) = W2 at HM2 ⊢
        clear HA HCS fz cz HMd HS HX1 hHeld
        have p3 : W2.cell? ⟨bi, 0, none⟩ = some (.int .i64 (i : Int)) := Mem.cell_of HM2.out.2.2.2.1 0
        obtain ⟨u1, p1⟩ : ∃ u, W2.cell? ⟨w.heap.size + 1, i, none⟩ = some u := out_cell HM2.out hk hil
        have f1 : W2.frozen? ⟨w.heap.size + 1, i, none⟩ = false := Mem.free_of HM2.out.2.1 i
        go_wp2
        go_roundw
        case rel =>
          refine ⟨k + 1, by go_num, by omega, ⟨?_⟩⟩
          have hp : put hs (cnt hs x) x = hs ++ [x] := by unfold put; rw [if_pos (HN.out.trans HCA.out)]
          have h2 := mid_end hlt HX0.out HH.out (by rw [hp, HI1.out]; exact HM2.out)
          rw [HN.out, HI1.out] at h2
          exact h2
        case measure => simp [intOf]; omega
      · have e1 : ((n : Int) == (hs.length : Int)) = false := by rw [beq_eq_false_iff_ne]; omega
        have hlt2 : n < hs.length := by omega
        have HN := Aside0.mk hn
        clear hn hcase
        obtain ⟨g, rfl⟩ := R_form HM.out.2.2.2.2.1 (by omega)
        go_wp2_with (fail)
        have b3 : (0 ≤ (i : Int)) = True := eq_true (by omega)
        have b4 : ((i : Int) < (l0.length : Int)) = True := eq_true (by omega)
        have b6 : (i < l0.length) = True := eq_true hil
        have HS := Aside0.mk (And.intro (Mem.cell_of (mid_drew HM.out).1 0) (And.intro (Mem.cell_of (mid_drew HM.out).2.2.1 0) (And.intro (Mem.cell_of (mid_drew HM.out).2.2.2.1 0) (show W1.drew.cell? (al.add i) = _ from HX1.out))))
        have HMd := Aside0.mk (mid_drew HM.out)
        have b7 : (0 ≤ (n : Int)) = True := eq_true (by omega)
        have b8 : ((n : Int) < (hs.length : Int)) = True := eq_true (by omega)
        have b9 : (n < hs.length) = True := eq_true hlt2
        have hcl := Kd.R_celln 0 HMd.out.2.2.2.2.1 (n : Int) (by omega) (by omega)
        rw [Int.toNat_natCast] at hcl
        obtain ⟨cz, fz⟩ := hcl
        clear p2 HM
        refine start_ (n := 8) (S := (fun w' => w'.cell? ⟨w.heap.size, 0, none⟩ = some (.slice (some al) l0.length c0) ∧ w'.cell? ⟨w.heap.size + 1 + 1, 0, none⟩ = some (.slice (some ⟨g, 0, none⟩) hs.length ch) ∧ w'.cell? ⟨bi, 0, none⟩ = some (.int .i64 (i : Int)) ∧ w'.cell? (al.add i) = some (.int .i64 x))) (ds := [7]) #[false, false, false, false, false, false, false, false] (by kernel_rfl) rfl rfl (HS.out) (fun hHeld => ?_)
        refine with_tabW lens.tab10 lens.bits10 (fun HT_ HW_ => ?_)
        refine pure_ (i := 1) (N := (some 37)) (v := ?_) (a' := ?_) #[false, true, false, false, false, false, false, false] rfl rfl (any_of HT_.out (by kernel_rfl)) (fun _ _ _ h => h) (Or.inl ⟨by rfl, ?_⟩) ?_ ?_
        rotate_left
        · intro w'
          go_simp
          with_reducible rfl
        rotate_left
        · simp only [Act.put, List.setIfInBounds_toArray, List.set_cons_zero, List.set_cons_succ, i64_w, i32_w]
          rfl
        refine take_ (i := 0) (N := (some 36)) (v := ?_) (a' := ?_) #[true, true, false, false, false, false, false, false] rfl rfl (take_ofW HT_.out HW_.out (by kernel_rfl)) (fun _ _ _ h => h) (Or.inl ⟨by rfl, ?_⟩) hHeld ?_ ?_
        rotate_left
        · rintro w' ⟨s0, s1, s2, s3⟩
          go_simp
          with_reducible rfl
        rotate_left
        · simp only [Act.put, List.setIfInBounds_toArray, List.set_cons_zero, List.set_cons_succ, i64_w, i32_w]
          rfl
        refine take_ (i := 2) (N := (some 38)) (v := ?_) (a' := ?_) #[true, true, true, false, false, false, false, false] rfl rfl (take_ofW HT_.out HW_.out (by kernel_rfl)) (fun _ _ _ h => h) (Or.inl ⟨by rfl, ?_⟩) hHeld ?_ ?_
        rotate_left
        · rintro w' ⟨s0, s1, s2, s3⟩
          go_simp
          with_reducible rfl
        rotate_left
        · simp only [Act.put, List.setIfInBounds_toArray, List.set_cons_zero, List.set_cons_succ, i64_w, i32_w]
          rfl
        refine take_ (i := 3) (N := (some 39)) (v := ?_) (a' := ?_) #[true, true, true, true, false, false, false, false] rfl rfl (take_ofW HT_.out HW_.out (by kernel_rfl)) (fun _ _ _ h => h) (Or.inl ⟨by rfl, ?_⟩) hHeld ?_ ?_
        rotate_left
        · rintro w' ⟨s0, s1, s2, s3⟩
          go_simp
          with_reducible rfl
        rotate_left
        · simp only [Act.put, List.setIfInBounds_toArray, List.set_cons_zero, List.set_cons_succ, i64_w, i32_w]
          rfl
        refine pure_ (i := 4) (N := (some 40)) (v := ?_) (a' := ?_) #[true, true, true, true, true, false, false, false] rfl rfl (any_of HT_.out (by kernel_rfl)) (fun _ _ _ h => h) (Or.inl ⟨by rfl, ?_⟩) ?_ ?_
        rotate_left
        · intro w'
          go_simp
          with_reducible rfl
        rotate_left
        · simp only [Act.put, List.setIfInBounds_toArray, List.set_cons_zero, List.set_cons_succ, i64_w, i32_w]
          rfl
        refine take_ (i := 5) (N := (some 41)) (v := ?_) (a' := ?_) #[true, true, true, true, true, true, false, false] rfl rfl (take_ofW HT_.out HW_.out (by kernel_rfl)) (fun _ _ _ h => h) (Or.inl ⟨by rfl, ?_⟩) hHeld ?_ ?_
        rotate_left
        · rintro w' ⟨s0, s1, s2, s3⟩
          go_simp
          with_reducible rfl
        rotate_left
        · simp only [Act.put, List.setIfInBounds_toArray, List.set_cons_zero, List.set_cons_succ, i64_w, i32_w]
          rfl
        refine pure_ (i := 6) (N := (some 42)) (v := ?_) (a' := ?_) #[true, true, true, true, true, true, true, false] rfl rfl (any_of HT_.out (by kernel_rfl)) (fun _ _ _ h => h) (Or.inl ⟨by rfl, ?_⟩) ?_ ?_
        rotate_left
        · intro w'
          go_simp
          with_reducible rfl
        rotate_left
        · simp only [Act.put, List.setIfInBounds_toArray, List.set_cons_zero, List.set_cons_succ, i64_w, i32_w]
          rfl
        refine last_ (i := 7) (N := none) #[true, true, true, true, true, true, true, true] rfl rfl (one_of HT_.out (by kernel_rfl)) (by decide) (fun K hK => ?_)
        refine skip_ (w1 := W1.drew.setCell ⟨g, n, none⟩ (.int .i64 x)) (by rfl) rfl ?_ ?_
        · go_simp
        refine hK.out _ _ ?_
        clear hK K
        refine done_ (done_of HT_.out (by kernel_rfl)) ?_
        have HM2 := Aside0.mk (mid_put (n := n) x HMd.out)
        generalize (W1.drew.setCell ⟨g, n, none⟩ (.int .i64 x)) = W2 at HM2 ⊢
        clear HMd HS HX1 hHeld fz cz
        have p3 : W2.cell? ⟨bi, 0, none⟩ = some (.int .i64 (i : Int)) := Mem.cell_of HM2.out.2.2.2.1 0
        obtain ⟨u1, p1⟩ : ∃ u, W2.cell? ⟨w.heap.size + 1, i, none⟩ = some u := out_cell HM2.out hk hil
        have f1 : W2.frozen? ⟨w.heap.size + 1, i, none⟩ = false := Mem.free_of HM2.out.2.1 i
        go_wp2
        go_roundw
        case rel =>
          refine ⟨k + 1, by go_num, by omega, ⟨?_⟩⟩
          have hp : put hs (cnt hs x) x = hs.set n x := by unfold put; rw [if_neg (fun h => by have := HN.out; omega), HN.out]
          have h2 := mid_end hlt HX0.out HH.out (by rw [hp, HI1.out]; exact HM2.out)
          rw [HN.out, HI1.out] at h2
          exact h2
        case measure => simp [intOf]; omega
    · obtain ⟨vh, e0, e1, e2, hR, hB, hsz⟩ := HI.out
      have hkn : k = l0.length := by omega
      subst hkn
      clear hR HI HR0 HC0 hk
      rw [Nat.sub_self, List.drop_zero] at e1
      have HB := Aside0.mk hB
      have HE := Aside0.mk e1
      clear hB e0 e1 e2
      go_wp2
      go_ret
      refine ⟨_, rfl, ?_, HB.out⟩
      have hl := lens_length l0
      have := R_of_block (base := w.heap.size) (ok := fun _ => True) HE.out (by omega) (by rw [List.length_append, hl, List.length_replicate]; omega) (fun _ => trivial)
      rw [show (List.replicate 0 (0 : Int)) ++ lens l0 = lens l0 from rfl, hl] at this
      exact this
end Go.Proofs.Ytnifikpldibbdab.PLis
