/- Are two trees the same? The contracts of Same. -/
import Derived.Test.YtnkbgimihikhoaaVtF
import Derived.Test.YtnkbgimihikhoaaPVtx92
import Derived.Test.YtnkbgimihikhoaaPVtx23
namespace Go.Proofs.Ytnkbgimihikhoaa.PVt
open Go.RowKit Go.Proofs.YtnkbgimihikhoaaW.PrintWords Go.Proofs.YtnkbgimihikhoaaW.PrintLast Go.Proofs.YtnkbgimihikhoaaW.PrintMore
set_option linter.unusedVariables false
set_option linter.unusedSimpArgs false
def eqA (a b : S99) : Bool := a.f0.toList == b.f0.toList && (a.f1.toList == b.f1.toList)
def eqAs : List S99 → List S99 → Bool
  | [], [] => true
  | a :: l, b :: m => eqA a b && eqAs l m
  | _, _ => false
mutual
def eqT : S27 → S27 → Bool
  | ⟨k, t, u, a, l⟩, ⟨k', t', u', a', l'⟩ => sameK k k' && (t.toList == t'.toList && (u.toList == u'.toList && (eqAs a a' && eqTs l l')))
def eqTs : List S27 → List S27 → Bool
  | [], [] => true
  | x :: l, y :: m => eqT x y && eqTs l m
  | _, _ => false
end
theorem eqT_eq (x y : S27) : eqT x y = (sameK x.f0 y.f0 && (x.f1.toList == y.f1.toList && (x.f2.toList == y.f2.toList && (eqAs x.f3 y.f3 && eqTs x.f4 y.f4)))) := by cases x; cases y; simp [eqT]
theorem sameK_self (k : S23) : sameK k k = true := sameK_iff.2 rfl
theorem eqA_self (a : S99) : eqA a a = true := by simp [eqA]
theorem eqAs_self : ∀ l : List S99, eqAs l l = true
  | [] => rfl
  | a :: l => by simp [eqAs, eqA_self, eqAs_self l]
mutual
theorem eqT_self : ∀ x : S27, eqT x x = true
  | ⟨k, t, u, a, l⟩ => by simp [eqT, sameK_self, eqAs_self, eqTs_self l]
theorem eqTs_self : ∀ l : List S27, eqTs l l = true
  | [] => by simp [eqTs]
  | x :: l => by simp [eqTs, eqT_self x, eqTs_self l]
end
theorem eqAs_len : ∀ (l m : List S99), l.length ≠ m.length → eqAs l m = false
  | [], [], h => absurd rfl h
  | [], b :: m, _ => rfl
  | a :: l, [], _ => rfl
  | a :: l, b :: m, h => by rw [eqAs, eqAs_len l m (fun e => h (by simp [e])), Bool.and_false]
theorem eqTs_len : ∀ (l m : List S27), l.length ≠ m.length → eqTs l m = false
  | [], [], h => absurd rfl h
  | [], b :: m, _ => by simp [eqTs]
  | a :: l, [], _ => by simp [eqTs]
  | a :: l, b :: m, h => by rw [eqTs, eqTs_len l m (fun e => h (by simp [e])), Bool.and_false]
theorem drop99 (l : List S99) {k : Nat} (h : k < l.length) : l.drop k = l.getD k z99 :: l.drop (k + 1) := by
  rw [List.drop_eq_getElem_cons h, List.getD_eq_getElem?_getD, List.getElem?_eq_getElem h]; rfl
theorem drop27 (l : List S27) {k : Nat} (h : k < l.length) : l.drop k = l.getD k z27 :: l.drop (k + 1) := by
  rw [List.drop_eq_getElem_cons h, List.getD_eq_getElem?_getD, List.getElem?_eq_getElem h]; rfl
theorem eqTs_drop {l m : List S27} {k : Nat} (h : k < l.length) (hm : k < m.length) : eqTs (l.drop k) (m.drop k) = (eqT (l.getD k z27) (m.getD k z27) && eqTs (l.drop (k + 1)) (m.drop (k + 1))) := by
  rw [drop27 l h, drop27 m hm, eqTs]
theorem eqAs_drop {l m : List S99} {k : Nat} (h : k < l.length) (hm : k < m.length) : eqAs (l.drop k) (m.drop k) = (eqA (l.getD k z99) (m.getD k z99) && eqAs (l.drop (k + 1)) (m.drop (k + 1))) := by
  rw [drop99 l h, drop99 m hm, eqAs]
theorem wrap_in {k n : Nat} (h : k < n) (hn : n ≤ 9223372036854775807) : wrap64 ((k : Int) + 1) = ((k + 1 : Nat) : Int) := by unfold wrap64; omega
theorem attrs_l (l m : List S99) (hl : l.length ≤ 9223372036854775807) (he : l.length = m.length) : ∀ (n i k : Nat), i + n = l.length → n + 1 ≤ k → api_Attr.l0 k l m (l.length : Int) (i : Int) = some (eqAs (l.drop i) (m.drop i))
  | 0, i, 0, h, hk => by omega
  | 0, i, k + 1, h, hk => by
    simp only [api_Attr.l0]
    rw [if_neg (by omega), List.drop_eq_nil_of_le (show l.length ≤ i by omega), List.drop_eq_nil_of_le (show m.length ≤ i by omega)]
    rfl
  | n + 1, i, 0, h, hk => by omega
  | n + 1, i, k + 1, h, hk => by
    have go := attrs_l l m hl he n (i + 1) k (by omega) (by omega)
    have hw := wrap_in (k := i) (n := l.length) (by omega) hl
    simp only [api_Attr.l0]
    rw [if_pos (by omega), if_pos (by omega), if_pos (by omega), if_pos (by omega), hw, go, rd99, rd99, show eqAs (l.drop i) (m.drop i) = _ from eqAs_drop (k := i) (by omega) (by omega)]
    unfold eqA
    cases (l.getD i z99).f0.toList == (m.getD i z99).f0.toList <;> cases (l.getD i z99).f1.toList == (m.getD i z99).f1.toList <;> rfl
theorem attrs_f (l m : List S99) (hl : l.length ≤ 9223372036854775807) : ∃ k, api_Attr.f k l m = some (eqAs l m) := by
  refine ⟨l.length + 1, ?_⟩
  unfold api_Attr.f
  by_cases h : l.length = m.length
  · rw [if_pos (by omega)]
    have := attrs_l l m hl h l.length 0 (l.length + 1) (by omega) (by omega)
    rw [show ((0 : Nat) : Int) = 0 from rfl] at this
    rw [this, List.drop_zero, List.drop_zero]
  · rw [if_neg (by omega), eqAs_len l m h]
theorem attrs_calls (w : World) (A : Option Addr) (c : Nat) (l : List S99) (B : Option Addr) (d : Nat) (m : List S99) (hl : Kd.C k99 w A l.length l) (hc : l.length ≤ c) (hm : Kd.C k99 w B m.length m) (hd : m.length ≤ d) :
    Calls Try.prog 63 #[.slice A l.length c, .slice B m.length d] w fun e w' => e = .returned (.bool (eqAs l m)) ∧ Below w.heap.size w w' := by
  obtain ⟨k, hk⟩ := attrs_f l m hl.2.1
  exact (api_Attr.calls k A c l B d m _ w hl hc hm hd hk).mono fun e w' ⟨h1, h2⟩ => ⟨h1, drawn_below h2⟩
/-- A node that is read, with all beneath it. -/
def RK (w : World) (x : S27) (A4 : Option Addr) (c4 : Nat) (A5 : Option Addr) (c5 : Nat) : Prop := x.f3.length ≤ c4 ∧ Kd.C k99 w A4 x.f3.length x.f3 ∧ x.f4.length ≤ c5 ∧ Kd.C k27 w A5 x.f4.length x.f4
theorem RK.below {w w' : World} {x : S27} {A4 : Option Addr} {c4 : Nat} {A5 : Option Addr} {c5 : Nat} (h : RK w x A4 c4 A5 c5) (hb : Below w.heap.size w w') : RK w' x A4 c4 A5 c5 := ⟨h.1, Kd.C_below h.2.1 hb, h.2.2.1, Kd.C_below h.2.2.2 hb⟩
theorem kid_read {w : World} {n : Nat} {A : Option Addr} {xs : List S27} (h : Kd.C k27 w A n xs) (k : Nat) (hk : k < n) :
    ∃ ad A4 c4 A5 c5, A = some ad ∧ cells27 w (ad.add (k * 6)) (xs.getD k z27) A4 c4 A5 c5 ∧ RK w (xs.getD k z27) A4 c4 A5 c5 := by
  obtain ⟨ad, A4, c4, A5, c5, e, h0, h1, h2, h3, h4, h5, l4, g4, l5, g5⟩ := at_T27 h (k : Int) (Int.natCast_nonneg _) (Int.ofNat_lt.2 hk)
  rw [Int.toNat_natCast] at h0 h1 h2 h3 h4 h5
  have e : rd_T27 xs (k : Int) = xs.getD k z27 := by unfold rd_T27; rw [Int.toNat_natCast]
  rw [e] at h0 h1 h2 h3 h4 h5 l4 g4 l5 g5
  exact ⟨ad, A4, c4, A5, c5, by assumption, ⟨h0, h1, h2, h3, h4, h5⟩, l4, g4, l5, g5⟩
theorem eql9 (W : World) (a b : ByteArray) : Sem.run Try.prog (binOp .eql 9 (.string a) (.string b)) W = .ok (.bool (a.toList == b.toList)) W := by
  have hu := Try.underlying9
  go_simp
attribute [local go_sem high] eqA23
theorem eql23 (W : World) (a b : S23) : Sem.run Try.prog (binOp .eql 23 (.agg #[.int .i64 a.f0, .int .i64 a.f1]) (.agg #[.int .i64 b.f0, .int .i64 b.f1])) W = .ok (.bool (sameK a b)) W := by
  unfold sameK
  go_simp
theorem measure_kid {k n : Nat} (h : k < n) (hw : wrap64 ((k : Int) + 1) = ((k + 1 : Nat) : Int)) : n - (intOf (Value.int .i64 (wrap64 ((k : Int) + 1)))).toNat < n - (intOf (Value.int .i64 (k : Int))).toNat := dec_kid h hw
theorem ret_bool {v : Value} {r : Bool} (h : v = .bool r) : Ending.returned v = .returned (.bool r) := by rw [h]
set_option maxHeartbeats 8000000 in
set_option maxRecDepth 100000 in
theorem eqfunc_calls (q : Nat) (ih : ∀ (x y : S27) (A4 : Option Addr) (c4 : Nat) (A5 : Option Addr) (c5 : Nat) (B4 : Option Addr) (e4 : Nat) (B5 : Option Addr) (e5 : Nat) (w : World), szT x ≤ q → RK w x A4 c4 A5 c5 → RK w y B4 e4 B5 e5 →
      Calls Try.prog 31 #[.agg #[.int .i64 x.f0.f0, .int .i64 x.f0.f1, .string x.f1, .string x.f2, .slice A4 x.f3.length c4, .slice A5 x.f4.length c5], .agg #[.int .i64 y.f0.f0, .int .i64 y.f0.f1, .string y.f1, .string y.f2, .slice B4 y.f3.length e4, .slice B5 y.f4.length e5]] w fun e w' => e = .returned (.bool (eqT x y)) ∧ Below w.heap.size w w')
    (w : World) (A : Option Addr) (c : Nat) (l : List S27) (B : Option Addr) (d : Nat) (m : List S27) (hq : szTs l ≤ q) (hl : Kd.C k27 w A l.length l) (hm : Kd.C k27 w B m.length m) :
    Calls Try.prog 64 #[.slice A l.length c, .slice B m.length d, .func (.func 31) #[] #[]] w fun e w' => e = .returned (.bool (eqTs l m)) ∧ Below w.heap.size w w' := by
  have HIH := Aside0.mk ih
  have HL := Aside0.mk hl
  have HM := Aside0.mk hm
  have HQ := Aside0.mk hq
  have hmax := hl.2.1
  clear hl hm hq ih
  by_cases hne : l.length = m.length
  · have e1 : ((l.length : Int) == (m.length : Int)) = true := beq_iff_eq.2 (by omega)
    have e0 : ((l.length : Int) != (m.length : Int)) = false := by rw [bne, e1]; rfl
    have e2 : ((l.length : Int) = (m.length : Int)) = True := eq_true (by omega)
    have e3 : (l.length = m.length) = True := eq_true hne
    have HNE := Aside0.mk hne
    clear hne
    go_enter Try.func64, Try.ntmps64
    go_wp2_with (fail)
    go_loopw [17] (fun i wr => ∃ k : Nat, i = .int .i64 (k : Int) ∧ Aside0 (k ≤ l.length) ∧ Aside0 (eqTs (l.drop k) (m.drop k) = eqTs l m) ∧ Aside0 (Below w.heap.size w wr)) (fun i _ => l.length - (intOf i).toNat)
    case atStart => exact ⟨0, rfl, ⟨Nat.zero_le _⟩, ⟨rfl⟩, ⟨Below.refl _ _⟩⟩
    case round =>
      obtain ⟨k, rfl, HK, HE, HB⟩ := hrel
      by_cases hlt : k < l.length
      · have hlm : k < m.length := by have := HNE.out; omega
        have HW := Aside0.mk (wrap_in hlt hmax)
        obtain ⟨ad, A4, c4, A5, c5, rfl, hc, hr⟩ := kid_read (Kd.C_below HL.out HB.out) k hlt
        obtain ⟨ad2, B4, e4, B5, e5, rfl, hc2, hr2⟩ := kid_read (Kd.C_below HM.out HB.out) k hlm
        have HQ1 : Aside0 (szT (l.getD k z27) ≤ q) := ⟨Nat.le_trans (szT_kid l hlt) HQ.out⟩
        have HE1 : Aside0 (eqTs l m = (eqT (l.getD k z27) (m.getD k z27) && eqTs (l.drop (k + 1)) (m.drop (k + 1)))) := ⟨by rw [← HE.out, eqTs_drop hlt hlm]⟩
        obtain ⟨x, hx⟩ : ∃ x, l.getD k z27 = x := ⟨_, rfl⟩
        obtain ⟨y, hy⟩ : ∃ y, m.getD k z27 = y := ⟨_, rfl⟩
        rw [hx] at hc hr HQ1 HE1
        rw [hy] at hc2 hr2 HE1
        obtain ⟨p, hp⟩ : ∃ p, ad.add (k * 6) = p := ⟨_, rfl⟩
        obtain ⟨r, hr'⟩ : ∃ r, ad2.add (k * 6) = r := ⟨_, rfl⟩
        rw [hp] at hc
        rw [hr'] at hc2
        obtain ⟨x0, x1, x2, x3, x4, x5⟩ := hc
        obtain ⟨y0, y1, y2, y3, y4, y5⟩ := hc2
        have hb2 : Below wr.heap.size wr ((wr.alloc (.cells #[.int .i64 x.f0.f0, .int .i64 x.f0.f1, .string x.f1, .string x.f2, .slice A4 x.f3.length c4, .slice A5 x.f4.length c5] 27)).alloc (.cells #[.int .i64 y.f0.f0, .int .i64 y.f0.f1, .string y.f1, .string y.f2, .slice B4 y.f3.length e4, .slice B5 y.f4.length e5] 27)) := below_alloc (below_alloc (Below.refl _ _) _) _
        have HC := Aside0.mk (HIH.out x y A4 c4 A5 c5 B4 e4 B5 e5 ((wr.alloc (.cells #[.int .i64 x.f0.f0, .int .i64 x.f0.f1, .string x.f1, .string x.f2, .slice A4 x.f3.length c4, .slice A5 x.f4.length c5] 27)).alloc (.cells #[.int .i64 y.f0.f0, .int .i64 y.f0.f1, .string y.f1, .string y.f2, .slice B4 y.f3.length e4, .slice B5 y.f4.length e5] 27)) HQ1.out (hr.below hb2) (hr2.below hb2))
        have HB2 := Aside0.mk (HB.out.trans (hb2.mono HB.out.size))
        have hkn : (k : Int).toNat = k := Int.toNat_natCast k
        have hkp : (0 : Int) ≤ (k : Int) := Int.natCast_nonneg k
        have e4_ : ((k : Int) < (l.length : Int)) = True := eq_true (Int.ofNat_lt.2 hlt)
        have e5_ : (k < l.length) = True := eq_true hlt
        have e6_ : ((k : Int) < (m.length : Int)) = True := eq_true (Int.ofNat_lt.2 hlm)
        have e7_ : (k < m.length) = True := eq_true hlm
        have z0 : (wr.alloc (.cells #[.int .i64 x.f0.f0, .int .i64 x.f0.f1, .string x.f1, .string x.f2, .slice A4 x.f3.length c4, .slice A5 x.f4.length c5] 27)).cell? r = some (.int .i64 y.f0.f0) := Mem.cell_alloc y0 _
        have z1 : (wr.alloc (.cells #[.int .i64 x.f0.f0, .int .i64 x.f0.f1, .string x.f1, .string x.f2, .slice A4 x.f3.length c4, .slice A5 x.f4.length c5] 27)).cell? ⟨r.block, r.off + 1, none⟩ = some (.int .i64 y.f0.f1) := Mem.cell_alloc y1 _
        have z2 : (wr.alloc (.cells #[.int .i64 x.f0.f0, .int .i64 x.f0.f1, .string x.f1, .string x.f2, .slice A4 x.f3.length c4, .slice A5 x.f4.length c5] 27)).cell? ⟨r.block, r.off + 2, none⟩ = some (.string y.f1) := Mem.cell_alloc y2 _
        have z3 : (wr.alloc (.cells #[.int .i64 x.f0.f0, .int .i64 x.f0.f1, .string x.f1, .string x.f2, .slice A4 x.f3.length c4, .slice A5 x.f4.length c5] 27)).cell? ⟨r.block, r.off + 3, none⟩ = some (.string y.f2) := Mem.cell_alloc y3 _
        have z4 : (wr.alloc (.cells #[.int .i64 x.f0.f0, .int .i64 x.f0.f1, .string x.f1, .string x.f2, .slice A4 x.f3.length c4, .slice A5 x.f4.length c5] 27)).cell? ⟨r.block, r.off + 4, none⟩ = some (.slice B4 y.f3.length e4) := Mem.cell_alloc y4 _
        have z5 : (wr.alloc (.cells #[.int .i64 x.f0.f0, .int .i64 x.f0.f1, .string x.f1, .string x.f2, .slice A4 x.f3.length c4, .slice A5 x.f4.length c5] 27)).cell? ⟨r.block, r.off + 5, none⟩ = some (.slice B5 y.f4.length e5) := Mem.cell_alloc y5 _
        have HLT := Aside0.mk hlt
        have w0 : ((wr.alloc (.cells #[.int .i64 x.f0.f0, .int .i64 x.f0.f1, .string x.f1, .string x.f2, .slice A4 x.f3.length c4, .slice A5 x.f4.length c5] 27)).alloc (.cells #[.int .i64 y.f0.f0, .int .i64 y.f0.f1, .string y.f1, .string y.f2, .slice B4 y.f3.length e4, .slice B5 y.f4.length e5] 27)).heap[wr.heap.size]? = some (.cells #[.int .i64 x.f0.f0, .int .i64 x.f0.f1, .string x.f1, .string x.f2, .slice A4 x.f3.length c4, .slice A5 x.f4.length c5] 27 (0, 0)) := Mem.alloc_old (Mem.alloc_new _ _) _
        clear hr hr2 hx hy hb2 hlt hlm y0 y1 y2 y3 y4 y5 w0
        go_wp2_with (fail)
        refine HC.out.mono ?_
        rintro e w5 ⟨rfl, hb5⟩
        have HB5 := Aside0.mk (HB2.out.trans (hb5.mono HB2.out.size))
        clear hb5 HC
        cases hxy : eqT x y with
        | true =>
          rw [hxy, Bool.true_and] at HE1
          go_wp2_with (fail)
          go_roundw
          case rel => exact ⟨k + 1, congrArg (Value.int .i64) HW.out, ⟨HLT.out⟩, ⟨HE1.out.symm⟩, HB5⟩
          case measure => exact measure_kid HLT.out HW.out
        | false =>
          rw [hxy, Bool.false_and] at HE1
          go_wp2
          go_ret
          exact ⟨ret_bool (by rw [HE1.out]; rfl), HB5.out⟩
      · have e4_ : ((k : Int) < (l.length : Int)) = False := eq_false (fun h => hlt (Int.ofNat_lt.1 h))
        have e5_ : (k < l.length) = False := eq_false hlt
        have HT : Aside0 (eqTs l m = true) := ⟨by rw [← HE.out, List.drop_eq_nil_of_le (show l.length ≤ k by omega), List.drop_eq_nil_of_le (show m.length ≤ k by have := HNE.out; omega)]; simp [eqTs]⟩
        clear hlt
        go_wp2
        go_ret
        exact ⟨ret_bool (by rw [HT.out]; rfl), HB.out⟩
  · have e1 : ((l.length : Int) == (m.length : Int)) = false := beq_eq_false_iff_ne.2 (by omega)
    have e0 : ((l.length : Int) != (m.length : Int)) = true := by rw [bne, e1]; rfl
    have e2 : ((l.length : Int) = (m.length : Int)) = False := eq_false (by omega)
    have e3 : (l.length = m.length) = False := eq_false hne
    have HF := Aside0.mk (eqTs_len l m hne)
    clear hne
    go_enter Try.func64, Try.ntmps64
    go_wp2
    go_ret
    exact ⟨ret_bool (by rw [HF.out]; rfl), Below.refl _ _⟩
set_option maxHeartbeats 8000000 in
set_option maxRecDepth 100000 in
theorem same_calls : ∀ (q : Nat) (x y : S27) (A4 : Option Addr) (c4 : Nat) (A5 : Option Addr) (c5 : Nat) (B4 : Option Addr) (e4 : Nat) (B5 : Option Addr) (e5 : Nat) (w : World), szT x ≤ q → RK w x A4 c4 A5 c5 → RK w y B4 e4 B5 e5 →
      Calls Try.prog 31 #[.agg #[.int .i64 x.f0.f0, .int .i64 x.f0.f1, .string x.f1, .string x.f2, .slice A4 x.f3.length c4, .slice A5 x.f4.length c5], .agg #[.int .i64 y.f0.f0, .int .i64 y.f0.f1, .string y.f1, .string y.f2, .slice B4 y.f3.length e4, .slice B5 y.f4.length e5]] w fun e w' => e = .returned (.bool (eqT x y)) ∧ Below w.heap.size w w' := by
  intro q
  induction q with
  | zero => intro x y _ _ _ _ _ _ _ _ _ h; have := szT_pos x; omega
  | succ q ih =>
    intro x y A4 c4 A5 c5 B4 e4 B5 e5 w hq hx hy
    have hB := below_alloc (below_alloc (Below.refl w.heap.size w) (.cells #[.int .i64 x.f0.f0, .int .i64 x.f0.f1, .string x.f1, .string x.f2, .slice A4 x.f3.length c4, .slice A5 x.f4.length c5] 27)) (.cells #[.int .i64 y.f0.f0, .int .i64 y.f0.f1, .string y.f1, .string y.f2, .slice B4 y.f3.length e4, .slice B5 y.f4.length e5] 27)
    have HX := Aside0.mk (hx.below hB)
    have HY := Aside0.mk (hy.below hB)
    have HB := Aside0.mk hB
    have HE := Aside0.mk (eqT_eq x y)
    have hq2 : szTs x.f4 ≤ q := by have h_ := szT_eq x; omega
    have HA := Aside0.mk (attrs_calls _ A4 c4 x.f3 B4 e4 y.f3 HX.out.2.1 HX.out.1 HY.out.2.1 HY.out.1)
    have HF := Aside0.mk (fun w' (hw : Below _ _ w') => eqfunc_calls q ih w' A5 c5 x.f4 B5 e5 y.f4 hq2 (Kd.C_below HX.out.2.2.2 hw) (Kd.C_below HY.out.2.2.2 hw))
    have rk : ∀ W, Sem.run Try.prog (binOp .eql 23 (.agg #[.int .i64 x.f0.f0, .int .i64 x.f0.f1]) (.agg #[.int .i64 y.f0.f0, .int .i64 y.f0.f1])) W = .ok (.bool (sameK x.f0 y.f0)) W := fun W => eql23 W x.f0 y.f0
    clear ih hx hy hB hq hq2
    cases h0 : sameK x.f0 y.f0 with
    | false =>
      rw [h0, Bool.false_and] at HE
      rw [h0] at rk
      clear h0
      go_enter Try.func31, Try.ntmps31
      go_wp2
      go_ret
      exact ⟨ret_bool (by rw [HE.out]; rfl), HB.out⟩
    | true =>
      rw [h0, Bool.true_and] at HE
      rw [h0] at rk
      clear h0
      cases h1 : x.f1.toList == y.f1.toList with
      | false =>
        rw [h1, Bool.false_and] at HE
        have h1' : (x.f1.toList = y.f1.toList) = False := eq_false (beq_eq_false_iff_ne.1 h1)
        go_enter Try.func31, Try.ntmps31
        go_wp2
        go_ret
        exact ⟨ret_bool (by rw [HE.out]; rfl), HB.out⟩
      | true =>
        rw [h1, Bool.true_and] at HE
        have h1' : (x.f1.toList = y.f1.toList) = True := eq_true (beq_iff_eq.1 h1)
        cases h2 : x.f2.toList == y.f2.toList with
        | false =>
          rw [h2, Bool.false_and] at HE
          have h2' : (x.f2.toList = y.f2.toList) = False := eq_false (beq_eq_false_iff_ne.1 h2)
          go_enter Try.func31, Try.ntmps31
          go_wp2
          go_ret
          exact ⟨ret_bool (by rw [HE.out]; rfl), HB.out⟩
        | true =>
          rw [h2, Bool.true_and] at HE
          have h2' : (x.f2.toList = y.f2.toList) = True := eq_true (beq_iff_eq.1 h2)
          have hq1 : Aside0 (∀ w', Below ((w.alloc (.cells #[.int .i64 x.f0.f0, .int .i64 x.f0.f1, .string x.f1, .string x.f2, .slice A4 x.f3.length c4, .slice A5 x.f4.length c5] 27)).alloc (.cells #[.int .i64 y.f0.f0, .int .i64 y.f0.f1, .string y.f1, .string y.f2, .slice B4 y.f3.length e4, .slice B5 y.f4.length e5] 27)).heap.size ((w.alloc (.cells #[.int .i64 x.f0.f0, .int .i64 x.f0.f1, .string x.f1, .string x.f2, .slice A4 x.f3.length c4, .slice A5 x.f4.length c5] 27)).alloc (.cells #[.int .i64 y.f0.f0, .int .i64 y.f0.f1, .string y.f1, .string y.f2, .slice B4 y.f3.length e4, .slice B5 y.f4.length e5] 27)) w' → w'.heap[w.heap.size]? = some (.cells #[.int .i64 x.f0.f0, .int .i64 x.f0.f1, .string x.f1, .string x.f2, .slice A4 x.f3.length c4, .slice A5 x.f4.length c5] 27 (0, 0)) ∧ w'.heap[w.heap.size + 1]? = some (.cells #[.int .i64 y.f0.f0, .int .i64 y.f0.f1, .string y.f1, .string y.f2, .slice B4 y.f3.length e4, .slice B5 y.f4.length e5] 27 (0, 0))) := ⟨fun w' hw => ⟨(hw.block _ (by rw [Mem.alloc_size, Mem.alloc_size]; omega)).trans (Mem.alloc_old (Mem.alloc_new _ _) _), (hw.block _ (by rw [Mem.alloc_size, Mem.alloc_size]; omega)).trans (Mem.alloc_new_at _ _ _ (by rw [Mem.alloc_size]))⟩⟩
          go_enter Try.func31, Try.ntmps31
          go_wp2_with (fail)
          refine HA.out.mono ?_
          rintro e w3 ⟨rfl, hb3⟩
          have HB3 := Aside0.mk hb3
          have hz := hq1.out w3 hb3
          have x5 : w3.cell? ⟨w.heap.size, 5, none⟩ = some (.slice A5 x.f4.length c5) := Mem.cell_of hz.1 5
          have y5 : w3.cell? ⟨w.heap.size + 1, 5, none⟩ = some (.slice B5 y.f4.length e5) := Mem.cell_of hz.2 5
          clear hb3 hz rk HA
          cases h3 : eqAs x.f3 y.f3 with
          | false =>
            rw [h3, Bool.false_and] at HE
            clear h3
            go_wp2
            go_ret
            exact ⟨ret_bool (by rw [HE.out]; rfl), HB.out.trans (HB3.out.mono HB.out.size)⟩
          | true =>
            rw [h3, Bool.true_and] at HE
            clear h3
            go_wp2_with (fail)
            refine (HF.out w3 HB3.out).mono ?_
            rintro e w4 ⟨rfl, hb4⟩
            have HB4 := Aside0.mk hb4
            clear hb4
            go_wp2
            go_ret
            exact ⟨ret_bool (by rw [HE.out]; rfl), HB.out.trans ((HB3.out.trans (HB4.out.mono HB3.out.size)).mono HB.out.size)⟩
end Go.Proofs.Ytnkbgimihikhoaa.PVt
