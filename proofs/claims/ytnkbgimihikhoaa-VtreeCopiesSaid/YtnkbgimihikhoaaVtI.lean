/- A tree written over: the contract of spoil (26). -/
import Derived.Test.YtnkbgimihikhoaaVtS
import Derived.Test.YtnkbgimihikhoaaVtH
namespace Go.Proofs.Ytnkbgimihikhoaa.PVt
open Go.RowKit Go.Proofs.YtnkbgimihikhoaaW.PrintWords Go.Proofs.YtnkbgimihikhoaaW.PrintLast Go.Proofs.YtnkbgimihikhoaaW.PrintMore
set_option linter.unusedVariables false
set_option linter.unusedSimpArgs false
/-- The cells of a node that may be written over: rows of blocks from b on, below t, at most so deep. -/
def Sp (b t : Nat) (w : World) : Nat → List Value → Prop
  | 0, _ => False
  | n + 1, cs => ∃ (i0 i1 : Int) (s0 s1 : ByteArray) (A4 : Option Addr) (l4 c4 : Nat) (A5 : Option Addr) (l5 c5 : Nat), cs = [.int .i64 i0, .int .i64 i1, .string s0, .string s1, .slice A4 l4 c4, .slice A5 l5 c5] ∧ l4 ≤ 9223372036854775807 ∧ l5 ≤ 9223372036854775807 ∧
    (0 < l4 → ∃ g C, A4 = some ⟨g, 0, none⟩ ∧ b ≤ g ∧ g < t ∧ w.heap[g]? = some (.cells C 99 (0, 0)) ∧ l4 * 2 ≤ C.size) ∧
    (0 < l5 → ∃ g C, A5 = some ⟨g, 0, none⟩ ∧ b ≤ g ∧ g < t ∧ w.heap[g]? = some (.cells C 27 (0, 0)) ∧ ∀ j, j < l5 → ∃ ds : List Value, ds.length = 6 ∧ (∀ i u, ds[i]? = some u → C[j * 6 + i]? = some u) ∧ Sp b t w n ds)
theorem Sp.pos {b t : Nat} {w : World} {n : Nat} {cs : List Value} (h : Sp b t w n cs) : ∃ m, n = m + 1 := by
  cases n with
  | zero => exact h.elim
  | succ m => exact ⟨m, rfl⟩
def leaf27 : List Value := [.int .i64 0, .int .i64 0, .string ⟨#[115, 112, 111, 105, 108, 116]⟩, .string ⟨#[]⟩, .slice none 0 0, .slice none 0 0]
theorem Sp.leaf (b t : Nat) (w : World) (n : Nat) : Sp b t w (n + 1) leaf27 := ⟨_, _, _, _, _, _, _, _, _, _, rfl, by omega, by omega, fun h => absurd h (by omega), fun h => absurd h (by omega)⟩
/-- What is there stays. -/
theorem Sp.step {b t : Nat} {w w1 : World} (hk : ∀ k, b ≤ k → k < w.heap.size → w1.heap[k]? = w.heap[k]?) : ∀ (n : Nat) (cs : List Value), Sp b t w n cs → Sp b t w1 n cs
  | 0, _, h => h
  | n + 1, cs, ⟨i0, i1, s0, s1, A4, l4, c4, A5, l5, c5, e, h1, h2, h3, h4⟩ => by
    refine ⟨i0, i1, s0, s1, A4, l4, c4, A5, l5, c5, e, h1, h2, fun h0 => ?_, fun h0 => ?_⟩
    · obtain ⟨g, C, e1, e2, e3, e4, e5⟩ := h3 h0
      exact ⟨g, C, e1, e2, e3, (hk g e2 (Array.getElem?_eq_some_iff.1 e4).1).trans e4, e5⟩
    · obtain ⟨g, C, e1, e2, e3, e4, e5⟩ := h4 h0
      refine ⟨g, C, e1, e2, e3, (hk g e2 (Array.getElem?_eq_some_iff.1 e4).1).trans e4, fun j hj => ?_⟩
      obtain ⟨ds, f1, f2, f3⟩ := e5 j hj
      exact ⟨ds, f1, f2, Sp.step hk n ds f3⟩
theorem Sp.more {b t : Nat} {w : World} : ∀ (n : Nat) (cs : List Value), Sp b t w n cs → Sp b t w (n + 1) cs
  | 0, _, h => h.elim
  | n + 1, cs, ⟨i0, i1, s0, s1, A4, l4, c4, A5, l5, c5, e, h1, h2, h3, h4⟩ => by
    refine ⟨i0, i1, s0, s1, A4, l4, c4, A5, l5, c5, e, h1, h2, h3, fun h0 => ?_⟩
    obtain ⟨g, C, e1, e2, e3, e4, e5⟩ := h4 h0
    refine ⟨g, C, e1, e2, e3, e4, fun j hj => ?_⟩
    obtain ⟨ds, f1, f2, f3⟩ := e5 j hj
    exact ⟨ds, f1, f2, Sp.more n ds f3⟩
theorem Sp.upto {b t : Nat} {w : World} {n m : Nat} {cs : List Value} (h : Sp b t w n cs) (hm : n ≤ m) : Sp b t w m cs := by
  obtain ⟨d, rfl⟩ := Nat.le.dest hm
  clear hm
  induction d with
  | zero => exact h
  | succ d ih => exact Sp.more _ _ ih
/-- A block of attributes is written. -/
theorem Sp.attr {b t : Nat} {w w1 : World} {g : Nat} {C C' : Array Value} (ho : ∀ k, k ≠ g → w1.heap[k]? = w.heap[k]?) (hg : w.heap[g]? = some (.cells C 99 (0, 0))) (hg' : w1.heap[g]? = some (.cells C' 99 (0, 0))) (hs : C'.size = C.size) : ∀ (n : Nat) (cs : List Value), Sp b t w n cs → Sp b t w1 n cs
  | 0, _, h => h
  | n + 1, cs, ⟨i0, i1, s0, s1, A4, l4, c4, A5, l5, c5, e, h1, h2, h3, h4⟩ => by
    refine ⟨i0, i1, s0, s1, A4, l4, c4, A5, l5, c5, e, h1, h2, fun h0 => ?_, fun h0 => ?_⟩
    · obtain ⟨q, D, e1, e2, e3, e4, e5⟩ := h3 h0
      by_cases hq : q = g
      · subst hq
        rw [hg] at e4
        injection e4 with e4
        injection e4 with e4
        subst e4
        exact ⟨q, C', e1, e2, e3, hg', by rw [hs]; exact e5⟩
      · exact ⟨q, D, e1, e2, e3, (ho q hq).trans e4, e5⟩
    · obtain ⟨q, D, e1, e2, e3, e4, e5⟩ := h4 h0
      have hq : q ≠ g := by
        rintro rfl
        rw [hg] at e4
        injection e4 with e4
        injection e4 with _ e4
        exact absurd e4 (by decide)
      refine ⟨q, D, e1, e2, e3, (ho q hq).trans e4, fun j hj => ?_⟩
      obtain ⟨ds, f1, f2, f3⟩ := e5 j hj
      exact ⟨ds, f1, f2, Sp.attr ho hg hg' hs n ds f3⟩
/-- A node in a block is written over. -/
theorem Sp.kid {b t : Nat} {w w1 : World} {g q : Nat} {C C' : Array Value} (ho : ∀ k, k ≠ g → w1.heap[k]? = w.heap[k]?) (hg : w.heap[g]? = some (.cells C 27 (0, 0))) (hg' : w1.heap[g]? = some (.cells C' 27 (0, 0)))
    (hf : ∀ m, (m < q * 6 ∨ q * 6 + 6 ≤ m) → C'[m]? = C[m]?) (hl : ∀ i u, leaf27[i]? = some u → C'[q * 6 + i]? = some u) : ∀ (n : Nat) (cs : List Value), Sp b t w n cs → Sp b t w1 n cs
  | 0, _, h => h
  | n + 1, cs, ⟨i0, i1, s0, s1, A4, l4, c4, A5, l5, c5, e, h1, h2, h3, h4⟩ => by
    refine ⟨i0, i1, s0, s1, A4, l4, c4, A5, l5, c5, e, h1, h2, fun h0 => ?_, fun h0 => ?_⟩
    · obtain ⟨k, D, e1, e2, e3, e4, e5⟩ := h3 h0
      have hk : k ≠ g := by
        rintro rfl
        rw [hg] at e4
        injection e4 with e4
        injection e4 with _ e4
        exact absurd e4 (by decide)
      exact ⟨k, D, e1, e2, e3, (ho k hk).trans e4, e5⟩
    · obtain ⟨k, D, e1, e2, e3, e4, e5⟩ := h4 h0
      by_cases hk : k = g
      · subst hk
        rw [hg] at e4
        injection e4 with e4
        injection e4 with e4
        subst e4
        refine ⟨k, C', e1, e2, e3, hg', fun j hj => ?_⟩
        obtain ⟨ds, f1, f2, f3⟩ := e5 j hj
        by_cases hj' : j = q
        · subst hj'
          obtain ⟨m, rfl⟩ := f3.pos
          exact ⟨leaf27, rfl, hl, Sp.leaf b t w1 m⟩
        · refine ⟨ds, f1, fun i u hu => ?_, Sp.kid ho hg hg' hf hl n ds f3⟩
          have hi : i < 6 := by rw [← f1]; exact (List.getElem?_eq_some_iff.1 hu).1
          rw [hf _ (by omega)]
          exact f2 i u hu
      · refine ⟨k, D, e1, e2, e3, (ho k hk).trans e4, fun j hj => ?_⟩
        obtain ⟨ds, f1, f2, f3⟩ := e5 j hj
        exact ⟨ds, f1, f2, Sp.kid ho hg hg' hf hl n ds f3⟩
attribute [local irreducible] Sp
/-- What a spoiling leaves: all below b, all from t on, and that it may be spoilt again. -/
structure Wr (b t : Nat) (w w' : World) : Prop where
  low : Below b w w'
  high : ∀ k, t ≤ k → k < w.heap.size → w'.heap[k]? = w.heap[k]?
  sp : ∀ n cs, Sp b t w n cs → Sp b t w' n cs
theorem Wr.refl (b t : Nat) (w : World) : Wr b t w w := ⟨Below.refl _ _, fun _ _ _ => rfl, fun _ _ h => h⟩
theorem Wr.trans {b t : Nat} {w w1 w2 : World} (h : Wr b t w w1) (k : Wr b t w1 w2) : Wr b t w w2 := ⟨h.low.trans k.low, fun i hi hl => (k.high i hi (Nat.lt_of_lt_of_le hl h.low.size)).trans (h.high i hi hl), fun n cs hs => k.sp n cs (h.sp n cs hs)⟩
theorem Wr.below {b t : Nat} {w w1 : World} (h : Below w.heap.size w w1) (hb : b ≤ w.heap.size) : Wr b t w w1 := ⟨h.mono hb, fun k _ hl => h.block k hl, fun n cs hs => Sp.step (fun k _ hl => h.block k hl) n cs hs⟩
theorem setB {w : World} {g : Nat} {C : Array Value} {e : TypeId} (hg : w.heap[g]? = some (.cells C e (0, 0))) (o : Nat) (v : Value) : (w.setCell ⟨g, o, none⟩ v).heap[g]? = some (.cells (C.setIfInBounds o v) e (0, 0)) := Mem.set_heap hg o v
theorem low_set {b : Nat} {w : World} {g o : Nat} (hg : b ≤ g) (v : Value) : Below b w (w.setCell ⟨g, o, none⟩ v) := Below.setCell (Below.refl b w) (p := ⟨g, o, none⟩) hg v
/-- Two cells of a block of attributes. -/
theorem Wr.attr {b t : Nat} {w : World} {g : Nat} {C : Array Value} (hg : w.heap[g]? = some (.cells C 99 (0, 0))) (hb : b ≤ g) (ht : g < t) (o o' : Nat) (u v : Value) : Wr b t w ((w.setCell ⟨g, o, none⟩ u).setCell ⟨g, o', none⟩ v) where
  low := (low_set hb u).trans (low_set hb v)
  high := fun k hk hl => (Mem.set_other _ _ _ _ (by show k ≠ g; omega)).trans (Mem.set_other _ _ _ _ (by show k ≠ g; omega))
  sp := by
    have h1 := setB (setB hg o u) o' v
    have h2 : ((C.setIfInBounds o u).setIfInBounds o' v).size = C.size := by rw [Array.size_setIfInBounds, Array.size_setIfInBounds]
    have h3 : ∀ k, k ≠ g → ((w.setCell ⟨g, o, none⟩ u).setCell ⟨g, o', none⟩ v).heap[k]? = w.heap[k]? := fun k hk => (Mem.set_other _ _ _ _ hk).trans (Mem.set_other _ _ _ _ hk)
    exact Sp.attr h3 hg h1 h2
def putLeaf (w : World) (g o : Nat) : World := (((((w.setCell ⟨g, o, none⟩ (.int .i64 0)).setCell ⟨g, o + 1, none⟩ (.int .i64 0)).setCell ⟨g, o + 2, none⟩ (.string ⟨#[115, 112, 111, 105, 108, 116]⟩)).setCell ⟨g, o + 3, none⟩ (.string ⟨#[]⟩)).setCell ⟨g, o + 4, none⟩ (.slice none 0 0)).setCell ⟨g, o + 5, none⟩ (.slice none 0 0)
theorem Wr.leaf {b t : Nat} {w : World} {g q : Nat} {C : Array Value} (hg : w.heap[g]? = some (.cells C 27 (0, 0))) (hb : b ≤ g) (ht : g < t) (hq : q * 6 + 6 ≤ C.size) : Wr b t w (putLeaf w g (q * 6)) where
  low := (((((low_set hb _).trans (low_set hb _)).trans (low_set hb _)).trans (low_set hb _)).trans (low_set hb _)).trans (low_set hb _)
  high := fun k hk hl => (Mem.set_other _ _ _ _ (by show k ≠ g; omega)).trans ((Mem.set_other _ _ _ _ (by show k ≠ g; omega)).trans ((Mem.set_other _ _ _ _ (by show k ≠ g; omega)).trans ((Mem.set_other _ _ _ _ (by show k ≠ g; omega)).trans ((Mem.set_other _ _ _ _ (by show k ≠ g; omega)).trans (Mem.set_other _ _ _ _ (by show k ≠ g; omega))))))
  sp := by
    have h1 := setB (setB (setB (setB (setB (setB hg (q * 6) (.int .i64 0)) (q * 6 + 1) (.int .i64 0)) (q * 6 + 2) (.string ⟨#[115, 112, 111, 105, 108, 116]⟩)) (q * 6 + 3) (.string ⟨#[]⟩)) (q * 6 + 4) (.slice none 0 0)) (q * 6 + 5) (.slice none 0 0)
    have h3 : ∀ k, k ≠ g → (putLeaf w g (q * 6)).heap[k]? = w.heap[k]? := fun k hk => (Mem.set_other _ _ _ _ hk).trans ((Mem.set_other _ _ _ _ hk).trans ((Mem.set_other _ _ _ _ hk).trans ((Mem.set_other _ _ _ _ hk).trans ((Mem.set_other _ _ _ _ hk).trans (Mem.set_other _ _ _ _ hk)))))
    refine Sp.kid (q := q) h3 hg h1 (fun m hm => ?_) (fun i u hu => ?_)
    · simp only [Array.getElem?_setIfInBounds, Array.size_setIfInBounds]
      rw [if_neg (by omega), if_neg (by omega), if_neg (by omega), if_neg (by omega), if_neg (by omega), if_neg (by omega)]
    · have hi : i < 6 := (List.getElem?_eq_some_iff.1 hu).1
      simp only [Array.getElem?_setIfInBounds, Array.size_setIfInBounds]
      match i, hi with
      | 0, _ => rw [if_neg (by omega), if_neg (by omega), if_neg (by omega), if_neg (by omega), if_neg (by omega), if_pos (by omega), if_pos (by omega)]; exact hu
      | 1, _ => rw [if_neg (by omega), if_neg (by omega), if_neg (by omega), if_neg (by omega), if_pos (by omega), if_pos (by omega)]; exact hu
      | 2, _ => rw [if_neg (by omega), if_neg (by omega), if_neg (by omega), if_pos (by omega), if_pos (by omega)]; exact hu
      | 3, _ => rw [if_neg (by omega), if_neg (by omega), if_pos (by omega), if_pos (by omega)]; exact hu
      | 4, _ => rw [if_neg (by omega), if_pos (by omega), if_pos (by omega)]; exact hu
      | 5, _ => rw [if_pos (by omega), if_pos (by omega)]; exact hu
/-- The row of attributes, and that of the kids, of what may be spoilt. -/
theorem cell_lt {C : Array Value} {i : Nat} (h : i < C.size) : ∃ v, C[i]? = some v := ⟨C[i], Array.getElem?_eq_getElem h⟩
set_option maxHeartbeats 4000000 in
set_option maxRecDepth 100000 in
theorem spoil_calls (b t : Nat) : ∀ (n : Nat) (w : World) (cs : List Value), Sp b t w n cs → b ≤ t → t ≤ w.heap.size → Calls Try.prog 26 #[.agg cs.toArray] w fun e w' => (∃ v, e = .returned v) ∧ Wr b t w w'
  | 0, _, _, h, _, _ => by unfold Sp at h; exact h.elim
  | n + 1, w, cs, h, hbt, ht => by
    have HS0 := Aside0.mk h
    unfold Sp at h
    obtain ⟨i0, i1, s0, s1, A4, l4, c4, A5, l5, c5, rfl, h1, h2, h3, h4⟩ := h
    clear h3 h4
    have IH := Aside0.mk (spoil_calls b t n)
    have L4 := Aside0.mk h1
    have L5 := Aside0.mk h2
    have BT := Aside0.mk hbt
    have TW := Aside0.mk ht
    have HX : Aside0 ((w.alloc (.cells #[.int .i64 i0, .int .i64 i1, .string s0, .string s1, .slice A4 l4 c4, .slice A5 l5 c5] 27)).heap[w.heap.size]? = some (.cells #[.int .i64 i0, .int .i64 i1, .string s0, .string s1, .slice A4 l4 c4, .slice A5 l5 c5] 27 (0, 0))) := ⟨Mem.alloc_new _ _⟩
    have HW0 : Aside0 (Wr b t w (w.alloc (.cells #[.int .i64 i0, .int .i64 i1, .string s0, .string s1, .slice A4 l4 c4, .slice A5 l5 c5] 27))) := ⟨Wr.below (below_alloc (Below.refl _ _) _) (Nat.le_trans hbt ht)⟩
    clear h1 h2 hbt ht
    go_enter Try.func26, Try.ntmps26
    go_wp2_with (fail)
    go_loopw [2] (fun i wr => ∃ k : Nat, i = .int .i64 (k : Int) ∧ Aside0 (k ≤ l4) ∧ Aside0 (wr.heap[w.heap.size]? = some (.cells #[.int .i64 i0, .int .i64 i1, .string s0, .string s1, .slice A4 l4 c4, .slice A5 l5 c5] 27 (0, 0))) ∧ Aside0 (Wr b t w wr)) (fun i _ => l4 - (intOf i).toNat)
    case atStart => exact ⟨0, rfl, ⟨Nat.zero_le _⟩, HX, HW0⟩
    case round =>
      clear HX HW0
      obtain ⟨k, rfl, HK, HX, HW⟩ := hrel
      have hSp := HW.out.sp _ _ HS0.out
      unfold Sp at hSp
      obtain ⟨_, _, _, _, _, _, _, _, _, _, he, h1, h2, h3, h4⟩ := hSp
      injection he with _ he
      injection he with _ he
      injection he with _ he
      injection he with _ he
      injection he with he he2
      injection he with e1 e2 e3
      subst e1 e2 e3
      injection he2 with he2
      injection he2 with e1 e2 e3
      subst e1 e2 e3
      have b4 := Mem.cell_of HX.out 4
      have f4 := Mem.cell_of HX.out 5
      by_cases hlt : k < l4
      · obtain ⟨g, C, rfl, hbg, hgt, hg, hC⟩ := h3 (by omega)
        have HG := Aside0.mk hg
        have HBG := Aside0.mk hbg
        have HGT := Aside0.mk hgt
        have HCC := Aside0.mk hC
        have HLT := Aside0.mk hlt
        have HN := Aside0.mk (wrap_in hlt L4.out)
        obtain ⟨v0, hv0⟩ := cell_lt (C := C) (i := k * 2) (by omega)
        obtain ⟨v1, hv1⟩ := cell_lt (C := C) (i := k * 2 + 1) (by omega)
        have x0 := (Mem.cell_of hg (k * 2)).trans hv0
        have x1 := (Mem.cell_of hg (k * 2 + 1)).trans hv1
        have y0 := Mem.free_of hg (k * 2)
        have y1 := Mem.free_of hg (k * 2 + 1)
        have e6 : ((k : Int) < (l4 : Int)) = True := eq_true (Int.ofNat_lt.2 hlt)
        have e7 : (k < l4) = True := eq_true hlt
        have hkn : (k : Int).toNat = k := Int.toNat_natCast k
        have hkp : (0 : Int) ≤ (k : Int) := Int.natCast_nonneg k
        have ha : (⟨g, 0, none⟩ : Addr).add (k * 2) = ⟨g, k * 2, none⟩ := add_plain _ _
        clear hlt h1 h2 h3 h4 hbg hgt hg hC hv0 hv1
        go_wp2_with (fail)
        refine ⟨⟨k + 1, by rw [HN.out], ⟨by have := HLT.out; omega⟩, ⟨?_⟩, ⟨HW.out.trans (Wr.attr HG.out HBG.out HGT.out _ _ _ _)⟩⟩, dec_kid HLT.out HN.out⟩
        have hne : w.heap.size ≠ g := by have := TW.out; have := HGT.out; omega
        exact (Mem.set_other _ _ _ _ hne).trans ((Mem.set_other _ _ _ _ hne).trans HX.out)
      · have e6 : ((k : Int) < (l4 : Int)) = False := eq_false (by omega)
        have e7 : (k < l4) = False := eq_false hlt
        clear hlt h1 h2 h3 h4
        go_wp2_with (fail)
        go_loopw [3] (fun i wr => ∃ k : Nat, i = .int .i64 (k : Int) ∧ Aside0 (k ≤ l5) ∧ Aside0 (wr.heap[w.heap.size]? = some (.cells #[.int .i64 i0, .int .i64 i1, .string s0, .string s1, .slice A4 l4 c4, .slice A5 l5 c5] 27 (0, 0))) ∧ Aside0 (Wr b t w wr)) (fun i _ => l5 - (intOf i).toNat)
        case atStart => exact ⟨0, rfl, ⟨Nat.zero_le _⟩, HX, HW⟩
        case round =>
          clear HX HW b4 f4
          obtain ⟨q, rfl, HK, HX, HW⟩ := hrel
          have hSp := HW.out.sp _ _ HS0.out
          unfold Sp at hSp
          obtain ⟨_, _, _, _, _, _, _, _, _, _, he, h1, h2, h3, h4⟩ := hSp
          injection he with _ he
          injection he with _ he
          injection he with _ he
          injection he with _ he
          injection he with he he2
          injection he with e1 e2 e3
          subst e1 e2 e3
          injection he2 with he2
          injection he2 with e1 e2 e3
          subst e1 e2 e3
          have b4 := Mem.cell_of HX.out 4
          have f4 := Mem.cell_of HX.out 5
          by_cases hlt : q < l5
          · obtain ⟨g, C, rfl, hbg, hgt, hg, hD⟩ := h4 (by omega)
            obtain ⟨ds, hd6, hdc, hds⟩ := hD q hlt
            obtain ⟨m, rfl⟩ := hds.pos
            have hds2 := hds
            unfold Sp at hds2
            obtain ⟨j0, j1, u0, u1, B4, m4, e4, B5, m5, e5, rfl, _⟩ := hds2
            have HBG := Aside0.mk hbg
            have HGT := Aside0.mk hgt
            have HDS := Aside0.mk hds
            have HLT := Aside0.mk hlt
            have HN := Aside0.mk (wrap_in hlt L5.out)
            have x0 := (Mem.cell_of hg (q * 6)).trans (hdc 0 _ rfl)
            have x1 := (Mem.cell_of hg (q * 6 + 1)).trans (hdc 1 _ rfl)
            have x2 := (Mem.cell_of hg (q * 6 + 2)).trans (hdc 2 _ rfl)
            have x3 := (Mem.cell_of hg (q * 6 + 3)).trans (hdc 3 _ rfl)
            have x4 := (Mem.cell_of hg (q * 6 + 4)).trans (hdc 4 _ rfl)
            have x5 := (Mem.cell_of hg (q * 6 + 5)).trans (hdc 5 _ rfl)
            have e6' : ((q : Int) < (l5 : Int)) = True := eq_true (Int.ofNat_lt.2 hlt)
            have e7' : (q < l5) = True := eq_true hlt
            have hkn : (q : Int).toNat = q := Int.toNat_natCast q
            have hkp : (0 : Int) ≤ (q : Int) := Int.natCast_nonneg q
            have ha : (⟨g, 0, none⟩ : Addr).add (q * 6) = ⟨g, q * 6, none⟩ := add_plain _ _
            clear hlt h1 h2 h3 h4 hbg hgt hg hdc hds hD
            go_wp2_with (fail)
            refine (IH.out wr _ HDS.out BT.out (Nat.le_trans TW.out HW.out.low.size)).mono ?_
            rintro e w3 ⟨⟨v, rfl⟩, hw3⟩
            dsimp only
            have HW3 := Aside0.mk (HW.out.trans hw3)
            have HX3 := Aside0.mk ((hw3.high _ TW.out (blk_lt HX.out)).trans HX.out)
            clear hw3 b4 f4 x0 x1 x2 x3 x4 x5
            have hSp := HW3.out.sp _ _ HS0.out
            unfold Sp at hSp
            obtain ⟨_, _, _, _, _, _, _, _, _, _, he, _, _, _, h4⟩ := hSp
            injection he with _ he
            injection he with _ he
            injection he with _ he
            injection he with _ he
            injection he with he he2
            injection he with e1 e2 e3
            subst e1 e2 e3
            injection he2 with he2
            injection he2 with e1 e2 e3
            subst e1 e2 e3
            obtain ⟨g', C, eg, hbg, hgt, hg, hD⟩ := h4 (by have := HLT.out; omega)
            injection eg with eg
            injection eg with eg
            subst eg
            obtain ⟨ds, hd6, hdc, hds⟩ := hD q HLT.out
            have HG := Aside0.mk hg
            obtain ⟨u, hu⟩ : ∃ u, ds[5]? = some u := ⟨ds[5], List.getElem?_eq_getElem (by omega)⟩
            have HCC : Aside0 (q * 6 + 6 ≤ C.size) := ⟨by have := (Array.getElem?_eq_some_iff.1 (hdc 5 u hu)).1; omega⟩
            obtain ⟨v0, hv0⟩ := cell_lt (C := C) (i := q * 6) (by have := HCC.out; omega)
            obtain ⟨v1, hv1⟩ := cell_lt (C := C) (i := q * 6 + 1) (by have := HCC.out; omega)
            obtain ⟨v2, hv2⟩ := cell_lt (C := C) (i := q * 6 + 2) (by have := HCC.out; omega)
            obtain ⟨v3, hv3⟩ := cell_lt (C := C) (i := q * 6 + 3) (by have := HCC.out; omega)
            obtain ⟨v4, hv4⟩ := cell_lt (C := C) (i := q * 6 + 4) (by have := HCC.out; omega)
            obtain ⟨v5, hv5⟩ := cell_lt (C := C) (i := q * 6 + 5) (by have := HCC.out; omega)
            have x0 := (Mem.cell_of hg (q * 6)).trans hv0
            have x1 := (Mem.cell_of hg (q * 6 + 1)).trans hv1
            have x2 := (Mem.cell_of hg (q * 6 + 2)).trans hv2
            have x3 := (Mem.cell_of hg (q * 6 + 3)).trans hv3
            have x4 := (Mem.cell_of hg (q * 6 + 4)).trans hv4
            have x5 := (Mem.cell_of hg (q * 6 + 5)).trans hv5
            have y0 := Mem.free_of hg (q * 6)
            have y1 := Mem.free_of hg (q * 6 + 1)
            have y2 := Mem.free_of hg (q * 6 + 2)
            have y3 := Mem.free_of hg (q * 6 + 3)
            have y4 := Mem.free_of hg (q * 6 + 4)
            have y5 := Mem.free_of hg (q * 6 + 5)
            have b4 := Mem.cell_of HX3.out 4
            have f4 := Mem.cell_of HX3.out 5
            clear hbg hgt hg hD hd6 hdc hds hu h4 hv0 hv1 hv2 hv3 hv4 hv5
            go_wp2_with (fail)
            refine ⟨⟨q + 1, by rw [HN.out], ⟨by have := HLT.out; omega⟩, ⟨?_⟩, ⟨HW3.out.trans (Wr.leaf HG.out HBG.out HGT.out HCC.out)⟩⟩, dec_kid HLT.out HN.out⟩
            have hne : w.heap.size ≠ g := by have := TW.out; have := HGT.out; omega
            exact (Mem.set_other _ _ _ _ hne).trans ((Mem.set_other _ _ _ _ hne).trans ((Mem.set_other _ _ _ _ hne).trans ((Mem.set_other _ _ _ _ hne).trans ((Mem.set_other _ _ _ _ hne).trans ((Mem.set_other _ _ _ _ hne).trans HX3.out)))))
          · have e6' : ((q : Int) < (l5 : Int)) = False := eq_false (by omega)
            have e7' : (q < l5) = False := eq_false hlt
            clear hlt h1 h2 h3 h4
            go_wp2_with (fail)
            go_end0
            exact ⟨⟨_, rfl⟩, HW.out⟩
end Go.Proofs.Ytnkbgimihikhoaa.PVt
