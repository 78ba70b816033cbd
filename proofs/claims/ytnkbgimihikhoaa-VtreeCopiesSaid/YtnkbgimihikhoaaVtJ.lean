/- Copies of trees: new memory. -/
import Derived.Test.YtnkbgimihikhoaaVtI
namespace Go.Proofs.Ytnkbgimihikhoaa.PVt
open Go.RowKit Go.Proofs.YtnkbgimihikhoaaW.PrintWords Go.Proofs.YtnkbgimihikhoaaW.PrintLast Go.Proofs.YtnkbgimihikhoaaW.PrintMore
set_option linter.unusedVariables false
set_option linter.unusedSimpArgs false
def vcopyR (k : Nat) (x : S27) : Option (Int × Int × ByteArray × ByteArray × (List S99) × (List S27)) := vtree_Copy.f k x.f0.f0 x.f0.f1 x.f1 x.f2 x.f3 x.f4
section
attribute [local irreducible] wtT wtTs szT szTs eqT eqTs fitT fitTs
theorem vcopy_l (q : Nat) (ih : ∀ (x : S27) (k : Nat), szT x ≤ q → fitT x → wtT x ≤ k → vcopyR k x = some (x.f0.f0, x.f0.f1, x.f1, x.f2, x.f3, x.f4)) (x : S27) (hq : szTs x.f4 ≤ q) (hf : fitTs x.f4) (hl : x.f4.length ≤ 1466015503701) :
    ∀ (n i k : Nat), i + n = x.f4.length → wtTs (x.f4.drop i) + 1 ≤ k → vtree_Copy.l0 k (x.f4.take i) x.f4 (x.f4.length : Int) (i : Int) x.f0.f0 x.f0.f1 x.f1 x.f2 x.f3 x.f4 = some (x.f0.f0, x.f0.f1, x.f1, x.f2, x.f3, x.f4)
  | 0, i, 0, h, hk => by omega
  | 0, i, k + 1, h, hk => by
    simp only [vtree_Copy.l0]
    rw [if_neg (by omega), List.take_of_length_le (by omega)]
  | n + 1, i, 0, h, hk => by omega
  | n + 1, i, k + 1, h, hk => by
    rw [wtTs_drop x.f4 (k := i) (by omega)] at hk
    have hw4 := wtT_eq (x.f4.getD i z27)
    have go := vcopy_l q ih x hq hf hl n (i + 1) k (by omega) (by omega)
    have hw := wrap_in (k := i) (n := x.f4.length) (by omega) (Nat.le_trans hl (by decide))
    have hkid := ih (x.f4.getD i z27) k (Nat.le_trans (szT_kid x.f4 (by omega)) hq) (fitTs_get hf (by omega)) (by omega)
    unfold vcopyR at hkid
    have c1 : (i : Int) < (x.f4.length : Int) := by omega
    have c2 : (0 : Int) ≤ (i : Int) := Int.natCast_nonneg i
    have d1 : i < x.f4.length := by omega
    have c3 := take_small d1 hl
    clear hk hw4 h
    simp only [vtree_Copy.l0]
    rw [if_pos c1, if_pos c2, if_pos c1, rd27, hkid, Option.bind_some, if_pos c3, hw]
    rw [take_snoc27 x.f4 d1] at go
    rw [eta27]
    exact go
theorem make_small {n : Nat} (h : n ≤ 1466015503701) : ((n : Int)).toNat ≤ 2932031007402 := by omega
theorem vcopy_f : ∀ (q : Nat) (x : S27) (k : Nat), szT x ≤ q → fitT x → wtT x ≤ k → vcopyR k x = some (x.f0.f0, x.f0.f1, x.f1, x.f2, x.f3, x.f4)
  | 0, x, k, h, _, _ => by have := szT_pos x; omega
  | q + 1, x, k, h, hf, hk => by
    have hsz := szT_eq x
    have hwt := wtT_eq x
    obtain ⟨f1, f2, ⟨f3, _⟩, f4, f5⟩ := (fitT_eq x).1 hf
    rw [reach_eq] at f3 f4
    obtain ⟨k, rfl⟩ : ∃ j, k = j + 1 := ⟨k - 1, by omega⟩
    have := vcopy_l q (fun x k h1 h2 h3 => vcopy_f q x k h1 h2 h3) x (by omega) f5 (kid_small f4) x.f4.length 0 k (Nat.zero_add _) (by rw [List.drop_zero]; omega)
    rw [show ((0 : Nat) : Int) = 0 from rfl, List.take_zero] at this
    unfold vcopyR
    simp only [vtree_Copy.f]
    rw [Option.bind_some, if_pos (by rw [List.length_nil, Nat.zero_add]; exact attr_small f3), if_pos (Int.natCast_nonneg _), if_pos (make_small (kid_small f4)), List.nil_append]
    exact this
end
/-- A node's cells. -/
abbrev cs27 (x : S27) (A4 : Option Addr) (c4 : Nat) (A5 : Option Addr) (c5 : Nat) : Array Value := #[.int .i64 x.f0.f0, .int .i64 x.f0.f1, .string x.f1, .string x.f2, .slice A4 x.f3.length c4, .slice A5 x.f4.length c5]
/-- What a copy gives: the same in blocks from base on. -/
theorem made_of (w' : World) (base : Nat) (x : S27) (v4 v5 : Value) (h4 : Kd.R k99 99 w' base (fun _ => True) v4 x.f3) (h5 : Kd.R k27 27 w' base (fun k_ => some k_ ≠ (v4 : Value).ownBlock) v5 x.f4) :
    ∃ A4 c4 A5 c5, v4 = .slice A4 x.f3.length c4 ∧ v5 = .slice A5 x.f4.length c5 ∧ k27.M w' base (fun _ => True) x [.int .i64 x.f0.f0, .int .i64 x.f0.f1, .string x.f1, .string x.f2, .slice A4 x.f3.length c4, .slice A5 x.f4.length c5] := by
  obtain ⟨B4, e4, rfl⟩ := Kd.R_slice h4
  obtain ⟨B5, e5, rfl⟩ := Kd.R_slice h5
  exact ⟨B4, e4, B5, e5, rfl, rfl, k27_mkM _ _ _ x h4 (Kd.R_mono h5 (fun _ _ => trivial))⟩
theorem vcopy_calls (w : World) (x : S27) (A4 : Option Addr) (c4 : Nat) (A5 : Option Addr) (c5 : Nat) (hx : RK w x A4 c4 A5 c5) (hf : fitT x) :
    Calls Try.prog 25 #[.agg (cs27 x A4 c4 A5 c5)] w fun e w' => ∃ B4 e4 B5 e5, e = .returned (.agg (cs27 x B4 e4 B5 e5)) ∧ k27.M w' w.heap.size (fun _ => True) x (cs27 x B4 e4 B5 e5).toList ∧ Below w.heap.size w w' :=
  (vtree_Copy.calls (wtT x) _ _ _ _ A4 c4 x.f3 A5 c5 x.f4 _ _ _ _ _ _ w hx.2.1 hx.1 hx.2.2.2 hx.2.2.1 (vcopy_f (szT x) x (wtT x) (Nat.le_refl _) hf (Nat.le_refl _))).mono fun e w' ⟨v4, v5, he, h4, h5, hB⟩ => by
    obtain ⟨B4, e4, B5, e5, rfl, rfl, hM⟩ := made_of w' _ x v4 v5 h4 h5
    exact ⟨B4, e4, B5, e5, he, hM, hB⟩
theorem rcopyM_calls (w : World) (x : S27) (A4 : Option Addr) (c4 : Nat) (A5 : Option Addr) (c5 : Nat) (hx : RK w x A4 c4 A5 c5) (hf : fitT x) :
    Calls Try.prog 11 #[.agg (cs27 x A4 c4 A5 c5)] w fun e w' => ∃ B4 e4 B5 e5, e = .returned (.agg (cs27 x B4 e4 B5 e5)) ∧ k27.M w' w.heap.size (fun _ => True) x (cs27 x B4 e4 B5 e5).toList ∧ Below w.heap.size w w' :=
  (topiaryref15_Copy.calls (wtT x) _ _ _ _ A4 c4 x.f3 A5 c5 x.f4 _ _ _ _ _ _ w hx.2.1 hx.1 hx.2.2.2 hx.2.2.1 (rcopy_f (szT x) x (wtT x) (Nat.le_refl _) hf (Nat.le_refl _))).mono fun e w' ⟨v4, v5, he, h4, h5, hB⟩ => by
    obtain ⟨B4, e4, B5, e5, rfl, rfl, hM⟩ := made_of w' _ x v4 v5 h4 h5
    exact ⟨B4, e4, B5, e5, he, hM, hB⟩
/-- Cells that read. -/
theorem RK.of {w : World} {x : S27} {A4 : Option Addr} {c4 : Nat} {A5 : Option Addr} {c5 : Nat} (h : k27.K w x (cs27 x A4 c4 A5 c5).toList) : RK w x A4 c4 A5 c5 := by
  obtain ⟨B4, e4, B5, e5, he, l4, g4, l5, g5⟩ := k27_open h
  injection he with _ he
  injection he with _ he
  injection he with _ he
  injection he with _ he
  injection he with he he2
  injection he with e1 e2 e3
  subst e1 e3
  injection he2 with he2
  injection he2 with e1 e2 e3
  subst e1 e3
  exact ⟨l4, g4, l5, g5⟩
theorem RK.K {w : World} {x : S27} {A4 : Option Addr} {c4 : Nat} {A5 : Option Addr} {c5 : Nat} (h : RK w x A4 c4 A5 c5) : k27.K w x (cs27 x A4 c4 A5 c5).toList := k27_mk w x h.1 h.2.1 h.2.2.1 h.2.2.2
/-- What was made may be spoilt. -/
theorem Sp.made {w : World} {base : Nat} : ∀ (n : Nat) (ok : Nat → Prop) (x : S27) (cs : List Value), szT x ≤ n → k27.M w base ok x cs → Sp base w.heap.size w n cs
  | 0, _, x, _, h, _ => by have := szT_pos x; omega
  | n + 1, ok, x, cs, h, hM => by
    have hsz := szT_eq x
    obtain ⟨v4, v5, rfl, ⟨_, in4, ho4, hr4⟩, ⟨_, in5, ho5, hr5⟩⟩ := k27_openM hM
    have hkid : ∀ j, j < x.f4.length → szT (x.f4.getD j z27) ≤ n := fun j hj => by have := szT_kid x.f4 hj; omega
    clear h hsz hM
    unfold Sp
    have key4 : ∃ A4 c4, v4 = .slice A4 x.f3.length c4 ∧ x.f3.length ≤ 9223372036854775807 ∧ (0 < x.f3.length → ∃ g C, A4 = some ⟨g, 0, none⟩ ∧ base ≤ g ∧ g < w.heap.size ∧ w.heap[g]? = some (.cells C 99 (0, 0)) ∧ x.f3.length * 2 ≤ C.size) := by
      rcases ho4.2 with ⟨rfl, h0⟩ | ⟨g, cap, cur, rfl, hb, hh, hn, hm, hs, _⟩
      · exact ⟨none, 0, by rw [h0], by omega, fun h => by omega⟩
      · refine ⟨_, _, rfl, ?_, fun _ => ⟨g, cur, rfl, hb, (Array.getElem?_eq_some_iff.1 hh).1, hh, ?_⟩⟩
        · simp only [maxLen] at hm; omega
        · have hs2 : cur.size = cap * 2 := hs
          omega
    have key5 : ∃ A5 c5, v5 = .slice A5 x.f4.length c5 ∧ x.f4.length ≤ 9223372036854775807 ∧ (0 < x.f4.length → ∃ g C, A5 = some ⟨g, 0, none⟩ ∧ base ≤ g ∧ g < w.heap.size ∧ w.heap[g]? = some (.cells C 27 (0, 0)) ∧ ∀ j, j < x.f4.length → ∃ ds : List Value, ds.length = 6 ∧ (∀ i u, ds[i]? = some u → C[j * 6 + i]? = some u) ∧ Sp base w.heap.size w n ds) := by
      rcases ho5.2 with ⟨rfl, h0⟩ | ⟨g, cap, cur, rfl, hb, hh, hn, hm, hs, ht⟩
      · exact ⟨none, 0, by rw [h0], by omega, fun h => by omega⟩
      · refine ⟨_, _, rfl, by simp only [maxLen] at hm; omega, fun _ => ⟨g, cur, rfl, hb, (Array.getElem?_eq_some_iff.1 hh).1, hh, fun j hj => ?_⟩⟩
        have hp : x.f4[j]? = some (x.f4.getD j z27) := by rw [List.getD_eq_getElem?_getD, List.getElem?_eq_getElem hj]; rfl
        have hMk := hr5.2 j _ hp
        have hlen : ((in5.drop (j * 6)).take 6).length = 6 := k27.K_len (k27.K_of_M hMk)
        refine ⟨(in5.drop (j * 6)).take 6, hlen, fun i u hu => ?_, Sp.made n _ _ _ (hkid j hj) hMk⟩
        have hi : i < 6 := by rw [← hlen]; exact (List.getElem?_eq_some_iff.1 hu).1
        have ht2 : cur.toList.take (x.f4.length * 6) = in5 := ht
        rw [List.getElem?_take_of_lt hi, List.getElem?_drop, ← ht2, List.getElem?_take_of_lt (by omega), Array.getElem?_toList] at hu
        exact hu
    obtain ⟨A4, c4, rfl, k1, k2⟩ := key4
    obtain ⟨A5, c5, rfl, k3, k4⟩ := key5
    exact ⟨_, _, _, _, A4, _, c4, A5, _, c5, rfl, k1, k3, k2, k4⟩
end Go.Proofs.Ytnkbgimihikhoaa.PVt
