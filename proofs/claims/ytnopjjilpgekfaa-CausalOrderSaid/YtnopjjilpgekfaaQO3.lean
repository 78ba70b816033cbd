/- What the statement's row needs of this session's texts, joined by program: part 4. -/
import Derived.Test.YtnopjjilpgekfaaQO2
namespace Go.Proofs.Ytnopjjilpgekfaa.PCa
open Go.RowKit Go.Proofs.YtnopjjilpgekfaaW.PrintWords Go.Proofs.YtnopjjilpgekfaaW.PrintLast Go.Proofs.YtnopjjilpgekfaaW.PrintMore
set_option linter.unusedVariables false
set_option linter.unusedSimpArgs false
/-- What is held is right, and in order. -/
structure Good (l : List S32) : Prop where
 ok : ∀ y ∈ l, checkX y = 0
 ord : l.Pairwise (fun a b => befX a b = true)
theorem bef_iff (a b : S32) : befX a b = true ↔ a.f0.f0 < b.f0.f0 ∨ (a.f0.f0 = b.f0.f0 ∧ (a.f0.f1 < b.f0.f1 ∨ (a.f0.f1 = b.f0.f1 ∧ a.f1 < b.f1))) := by
 unfold befX lessC
 simp only [Bool.or_eq_true, Bool.and_eq_true, decide_eq_true_eq, beq_iff_eq]
 omega
theorem bef_trans {a b c : S32} (h1 : befX a b = true) (h2 : befX b c = true) : befX a c = true := by
 rw [bef_iff] at *
 omega
theorem bef_asymm {a b : S32} (h1 : befX a b = true) : befX b a = false := by
 rw [Bool.eq_false_iff]
 intro h2
 rw [bef_iff] at *
 omega
theorem bef_total {a b : S32} (h : befX a b = false) (hk : keyOf a ≠ keyOf b) : befX b a = true := by
 have h' : ¬ (befX a b = true) := by rw [h]; decide
 rw [bef_iff] at h' ⊢
 have : ¬ (a.f0.f1 = b.f0.f1 ∧ a.f1 = b.f1) := fun e => hk (by unfold keyOf; rw [e.1, e.2])
 omega
theorem Good.nil : Good [] := ⟨(fun _ h => nomatch h), List.Pairwise.nil⟩
theorem Good.erase {l : List S32} (h : Good l) (i : Nat) : Good (l.eraseIdx i) := ⟨fun y hy => h.ok y (List.mem_of_mem_eraseIdx hy), h.ord.sublist (List.eraseIdx_sublist _ _)⟩
theorem Good.filter {l : List S32} (h : Good l) (p : S32 → Bool) : Good (l.filter p) := ⟨fun y hy => h.ok y (List.mem_filter.1 hy).1, h.ord.sublist List.filter_sublist⟩
theorem Good.len {l : List S32} (h : Good l) : ∀ y ∈ l, y.f2.length ≤ 64 := fun y hy => (check_ok (h.ok y hy)).2.2.2.2.2
theorem Good.seq {l : List S32} (h : Good l) : ∀ y ∈ l, 0 ≤ y.f1 ∧ y.f1 ≤ 1099511627776 := fun y hy => by
 have := check_ok (h.ok y hy)
 omega
theorem Good.mono {l : List S32} (h : Good l) (x : S32) : ∀ a b, a ≤ b → b < l.length → cmpX (rd_T32 l (b : Nat)) x < 0 → cmpX (rd_T32 l (a : Nat)) x < 0 := fun a b hab hb hc => by
 rcases Nat.lt_or_eq_of_le hab with hlt | rfl
 ·have h1 := List.pairwise_iff_getElem.1 h.ord a b (by omega) hb hlt
  have ea : l[a]'(by omega) = rd_T32 l (a : Nat) := by
   have := rd32_at (l := l) (j := a) (by omega)
   rw [List.getElem?_eq_getElem (by omega)] at this
   exact Option.some.inj this
  have eb : l[b] = rd_T32 l (b : Nat) := by
   have := rd32_at hb
   rw [List.getElem?_eq_getElem hb] at this
   exact Option.some.inj this
  rw [ea, eb] at h1
  rw [cmp_neg] at hc ⊢
  exact bef_trans h1 hc
 ·exact hc
/-- Those ahead of x are the first ones. -/
theorem Good.split {l : List S32} (h : Good l) (x : S32) : (∀ y ∈ l.take (cntX x l), befX y x = true) ∧ ∀ y ∈ l.drop (cntX x l), befX y x = false := by
 induction l with
 | nil => exact ⟨fun _ h => (by simp at h), fun _ h => (by simp at h)⟩
 | cons a t ih =>
  have ht : Good t := ⟨fun y hy => h.ok y (List.mem_cons_of_mem _ hy), (List.pairwise_cons.1 h.ord).2⟩
  obtain ⟨i1, i2⟩ := ih ht
  by_cases ha : befX a x = true
  ·have hc : cntX x (a :: t) = cntX x t + 1 := by
    unfold cntX
    rw [List.countP_cons_of_pos (by rw [decide_eq_true_eq, cmp_neg]; exact ha)]
   rw [hc]
   refine ⟨fun y hy => ?_, fun y hy => i2 y (by simpa using hy)⟩
   rw [List.take_succ_cons] at hy
   rcases List.mem_cons.1 hy with rfl | hy
   ·exact ha
   ·exact i1 y hy
  ·have hall : ∀ y ∈ t, befX y x = false := fun y hy => by
    rw [Bool.eq_false_iff]
    intro hb
    exact ha (bef_trans ((List.pairwise_cons.1 h.ord).1 y hy) hb)
   have hc : cntX x (a :: t) = 0 := by
    unfold cntX
    rw [List.countP_eq_zero]
    intro y hy
    rw [decide_eq_true_eq, cmp_neg]
    rcases List.mem_cons.1 hy with rfl | hy
    ·exact ha
    ·rw [hall y hy]; decide
   rw [hc]
   refine ⟨fun y hy => (by simp at hy), fun y hy => ?_⟩
   rcases List.mem_cons.1 (by simpa using hy) with rfl | hy
   ·simpa using ha
   ·exact hall y hy
theorem putC_at (x : S32) : ∀ (l1 l2 : List S32), (∀ y ∈ l1, befX x y = false) → (∀ y ∈ l2, befX x y = true) → putC x (l1 ++ l2) = l1 ++ x :: l2
 | [], [], _, _ => rfl
 | [], y :: t, _, h2 => by
  rw [List.nil_append, putC, if_pos (h2 y List.mem_cons_self)]
  rfl
 | a :: l1, l2, h1, h2 => by
  rw [List.cons_append, putC, if_neg (by rw [h1 a List.mem_cons_self]; decide), putC_at x l1 l2 (fun y hy => h1 y (List.mem_cons_of_mem _ hy)) h2]
  rfl
theorem ownX_no {l : List S32} {x : S32} (h : ownX l x = false) : ∀ y ∈ l, keyOf y ≠ keyOf x := fun y hy e => of_decide_eq_false h (e ▸ List.mem_map_of_mem hy)
theorem Good.put {l : List S32} (h : Good l) {x : S32} (ho : ownX l x = false) : putC x l = l.take (cntX x l) ++ x :: l.drop (cntX x l) := by
 obtain ⟨h1, h2⟩ := h.split x
 have := putC_at x (l.take (cntX x l)) (l.drop (cntX x l)) (fun y hy => bef_asymm (h1 y hy)) (fun y hy => bef_total (h2 y hy) (ownX_no ho y (List.mem_of_mem_drop hy)))
 rwa [List.take_append_drop] at this
theorem Good.more {l : List S32} (h : Good l) {x : S32} (hx : checkX x = 0) (ho : ownX l x = false) : Good (l.take (cntX x l) ++ x :: l.drop (cntX x l)) := by
 obtain ⟨h1, h2⟩ := h.split x
 refine ⟨fun y hy => ?_, ?_⟩
 ·rcases List.mem_append.1 hy with hy | hy
  ·exact h.ok y (List.mem_of_mem_take hy)
  ·rcases List.mem_cons.1 hy with rfl | hy
   ·exact hx
   ·exact h.ok y (List.mem_of_mem_drop hy)
 ·have ht := h.ord.sublist (List.take_sublist (cntX x l) l)
  have hd := h.ord.sublist (List.drop_sublist (cntX x l) l)
  refine List.pairwise_append.2 ⟨ht, List.pairwise_cons.2 ⟨fun y hy => bef_total (h2 y hy) (ownX_no ho y (List.mem_of_mem_drop hy)), hd⟩, fun a ha b hb => ?_⟩
  rcases List.mem_cons.1 hb with rfl | hb
  ·exact h1 a ha
  ·have := h.ord
   rw [← List.take_append_drop (cntX x l) l] at this
   exact (List.pairwise_append.1 this).2.2 a ha b hb
theorem relF_good : ∀ (n : Nat) {now : List Int} {out left : List S32}, Good left → Good (relF n now out left).2
 | 0, _, _, _, h => h
 | n + 1, now, out, left, h => by
  rw [relF]
  split
  ·exact relF_good n (h.erase _)
  ·exact h
theorem relF_len : ∀ (n : Nat) {now : List Int} {out left : List S32}, (relF n now out left).2.length ≤ left.length
 | 0, _, _, _ => Nat.le_refl _
 | n + 1, now, out, left => by
  rw [relF]
  split
  ·exact Nat.le_trans (relF_len n) (List.length_eraseIdx_le _ _)
  ·exact Nat.le_refl _
theorem take_good {room : Int} {l : List S32} (h : Good l) (known : List Int) (x : S32) : Good (takeF room l known x).1 := by
 unfold takeF
 split
 ·split
  ·rename_i hx
   split
   ·exact h
   ·rename_i hw
    split
    ·exact relF_good _ h
    ·split
     ·exact h
     ·refine h.more hx ?_
      simp only [Bool.or_eq_true, not_or, Bool.not_eq_true] at hw
      exact hw.2
  ·exact h
 ·exact h
theorem take_room {room : Int} {l : List S32} (h : (l.length : Int) ≤ room) (known : List Int) (x : S32) : ((takeF room l known x).1.length : Int) ≤ room := by
 unfold takeF
 split
 ·split
  ·split
   ·exact h
   ·split
    ·have := relF_len l.length (now := (tickC known x.f0.f1).1) (out := [x]) (left := l)
     show ((relF l.length (tickC known x.f0.f1).1 [x] l).2.length : Int) ≤ room
     omega
    ·split
     ·exact h
     ·simp only [List.length_append, List.length_take, List.length_cons, List.length_drop]
      omega
  ·exact h
 ·exact h
/-- Take of the program. -/
theorem take13_calls {w : World} {base : Nat} {P : Nat → Prop} {g : Nat} {room : Int} {l : List S32} (hB : BufI w base P g room l) (hG : Good l) (hroom : (l.length : Int) ≤ room) (hr2 : room ≤ 256) (A0 : Option Addr) (c0 : Nat) (known : List Int) (hk : Kd.C (Kd.int .i64) w A0 known.length known) (hkc : known.length ≤ c0)
  (x : S32) (A3 : Option Addr) (c3 : Nat) {X : Nat → Prop} (hxF : Kd.F (Kd.int .i64) w X A3 x.f2.length x.f2) (hXP : ∀ k, X k → ¬ P k) (hx3 : x.f2.length ≤ c3) (hs : x.f7.size < 4611686018427387904) :
  Calls Try.prog 13 #[.pointer (some ⟨g, 0, none⟩), .slice A0 known.length c0, .agg (chA x (.slice A3 x.f2.length c3))] w (TakeB w base P g room (takeF room l known x)) := by
 have hn : l.length < 1000 := by omega
 unfold takeF
 by_cases c1 : chkC known = 0
 ·rw [if_pos c1]
  by_cases c2 : checkX x = 0
  ·rw [if_pos c2]
   cases hw : withinX known x with
   | true =>
    rw [Bool.true_or, if_pos rfl]
    exact take_within hB A0 c0 known hk hkc x A3 c3 (Kd.F_now hxF) hx3 hs c1 c2 hw
   | false =>
    rw [Bool.false_or]
    cases ho : ownX l x with
    | true =>
     rw [if_pos rfl]
     exact take_own hB A0 c0 known hk hkc x A3 c3 (Kd.F_now hxF) hx3 hs c1 c2 hw ho
    | false =>
     rw [if_neg (by decide)]
     cases hr : ripeC known x with
     | true =>
      rw [if_pos rfl]
      exact take_ripe hB A0 c0 known hk hkc x A3 c3 (Kd.F_now hxF) hx3 hs c1 c2 hw ho hr hn hG.len
     | false =>
      rw [if_neg (by decide)]
      by_cases hf : room ≤ l.length
      ·rw [if_pos hf]
       exact take_full hB A0 c0 known hk hkc x A3 c3 (Kd.F_now hxF) hx3 hs c1 c2 hw ho hr hf
      ·rw [if_neg hf]
       exact take_put hB A0 c0 known hk hkc x A3 c3 (Kd.F_now hxF) hx3 hs c1 c2 hw ho hr hf hn hG.seq (hG.mono x) hxF hXP
  ·rw [if_neg c2]
   exact take_bad hB A0 c0 known hk hkc x A3 c3 (Kd.F_now hxF) hx3 hs c1 c2 _
 ·rw [if_neg c1]
  exact take_chk hB A0 c0 known hk hkc x A3 c3 (Kd.F_now hxF) hx3 c1 _
theorem next_lt (known : List Int) : ∀ (l : List S32) (i : Nat), 0 ≤ nextI known l i → ∃ j, j < l.length ∧ nextI known l i = ((i + j : Nat) : Int)
 | [], _, h => by rw [nextI] at h; omega
 | x :: t, i, h => by
  rw [nextI] at h ⊢
  by_cases hr : ripeC known x = true
  ·rw [if_pos hr]
   exact ⟨0, by simp, rfl⟩
  ·rw [if_neg hr] at h ⊢
   obtain ⟨j, h1, h2⟩ := next_lt known t (i + 1) h
   refine ⟨j + 1, by simpa using h1, ?_⟩
   rw [h2]
   congr 1
   omega
/-- A clock behind the changes of a list. -/
def ticks (known : List Int) : List S32 → List Int
 | [] => known
 | x :: t => ticks (tickC known x.f0.f1).1 t
/-- Each one of a list is ready with what came ahead of it. -/
def AllR (known : List Int) : List S32 → Prop
 | [] => True
 | x :: t => readyC known x = true ∧ AllR (tickC known x.f0.f1).1 t
theorem ticks_more : ∀ (a : List S32) (known : List Int) (x : S32), ticks known (a ++ [x]) = (tickC (ticks known a) x.f0.f1).1
 | [], _, _ => rfl
 | y :: t, known, x => ticks_more t (tickC known y.f0.f1).1 x
theorem AllR_more : ∀ (a : List S32) (known : List Int) (x : S32), AllR known a → readyC (ticks known a) x = true → AllR known (a ++ [x])
 | [], _, _, _, h => ⟨h, trivial⟩
 | y :: t, known, x, h, hx => ⟨h.1, AllR_more t _ x h.2 hx⟩
theorem AllR_get : ∀ (l : List S32) (known : List Int) (j : Nat) (x : S32), AllR known l → l[j]? = some x → readyC (ticks known (l.take j)) x = true
 | [], _, _, _, _, h => by cases h
 | y :: t, known, 0, x, hl, h => by
  injection h with h
  subst h
  exact hl.1
 | y :: t, known, j + 1, x, hl, h => AllR_get t _ j x hl.2 h
theorem ticks_take : ∀ (l : List S32) (known : List Int) (j : Nat) (x : S32), l[j]? = some x → ticks known (l.take (j + 1)) = (tickC (ticks known (l.take j)) x.f0.f1).1
 | [], _, _, _, h => by cases h
 | y :: t, known, 0, x, h => by
  injection h with h
  subst h
  rfl
 | y :: t, known, j + 1, x, h => ticks_take t _ j x h
theorem next_ripe (known : List Int) : ∀ (l : List S32) (i j : Nat), nextI known l i = ((i + j : Nat) : Int) → j < l.length → ripeC known (rd_T32 l (j : Int)) = true
 | [], _, _, _, h => absurd h (Nat.not_lt_zero _)
 | x :: t, i, j, h, hj => by
  unfold nextI at h
  by_cases hx : ripeC known x = true
  ·rw [if_pos hx] at h
   obtain rfl : j = 0 := by omega
   exact hx
  ·rw [if_neg hx] at h
   cases j with
   | zero =>
    exfalso
    by_cases h0 : 0 ≤ nextI known t (i + 1)
    ·obtain ⟨m, _, hm⟩ := next_lt known t (i + 1) h0
     omega
    ·omega
   | succ j =>
    have h2 := next_ripe known t (i + 1) j (by rw [h]; congr 1; omega) (Nat.lt_of_succ_lt_succ hj)
    exact h2
theorem next_neg (known : List Int) : ∀ (l : List S32) (i : Nat), nextI known l i < 0 → ∀ y ∈ l, ripeC known y = false
 | [], _, _, _, h => absurd h List.not_mem_nil
 | x :: t, i, h, y, hy => by
  unfold nextI at h
  by_cases hx : ripeC known x = true
  ·rw [if_pos hx] at h
   omega
  ·rw [if_neg hx] at h
   rcases List.mem_cons.1 hy with rfl | hy
   ·simpa using hx
   ·exact next_neg known t (i + 1) h y hy
theorem ready_of {known : List Int} {x : S32} (h1 : chkC known = 0) (h2 : checkX x = 0) (h3 : ripeC known x = true) : readyC known x = true := by
 unfold readyC
 rw [h1, h2, h3]
 rfl
theorem unready_of {known : List Int} {x : S32} (h3 : ripeC known x = false) : readyC known x = false := by
 unfold readyC
 rw [h3, Bool.and_false, Bool.and_false]
theorem relF_all (known : List Int) : ∀ (n : Nat) (out left : List S32), left.length ≤ n → chkC (ticks known out) = 0 → AllR known out → (∀ y ∈ left, checkX y = 0) →
  AllR known (relF n (ticks known out) out left).1 ∧ (∀ y ∈ (relF n (ticks known out) out left).2, readyC (ticks known (relF n (ticks known out) out left).1) y = false)
 | 0, out, left, hn, _, ha, _ => by
  obtain rfl : left = [] := List.length_eq_zero_iff.1 (Nat.le_zero.1 hn)
  exact ⟨ha, fun y hy => absurd hy List.not_mem_nil⟩
 | n + 1, out, left, hn, hc, ha, hx => by
  unfold relF
  by_cases h0 : 0 ≤ nextI (ticks known out) left 0
  ·rw [if_pos h0]
   obtain ⟨j, hj, hje⟩ := next_lt (ticks known out) left 0 h0
   have hr := next_ripe (ticks known out) left 0 j hje hj
   rw [Nat.zero_add] at hje
   rw [hje, Int.toNat_natCast, ← ticks_more out known]
   have hm : rd_T32 left (j : Int) ∈ left := List.mem_of_getElem? (rd32_at hj)
   have hy := hx _ hm
   refine relF_all known n _ _ ?_ ?_ (AllR_more _ _ _ ha (ready_of hc hy hr)) (fun y h => hx y (List.mem_of_mem_eraseIdx h))
   ·rw [List.length_eraseIdx, if_pos hj]
    omega
   ·rw [ticks_more]
    exact tick_chk _ _
  ·rw [if_neg h0]
   have h1 : nextI (ticks known out) left 0 < 0 := by omega
   exact ⟨ha, fun y hy => unready_of (next_neg _ left 0 h1 y hy)⟩
theorem relF_sub : ∀ (n : Nat) (now : List Int) (out left : List S32) (y : S32), y ∈ (relF n now out left).1 ∨ y ∈ (relF n now out left).2 → y ∈ out ∨ y ∈ left
 | 0, _, _, _, _, h => h
 | n + 1, now, out, left, y, h => by
  unfold relF at h
  by_cases h0 : 0 ≤ nextI now left 0
  ·rw [if_pos h0] at h
   obtain ⟨j, hj, hje⟩ := next_lt now left 0 h0
   rw [Nat.zero_add] at hje
   rw [hje] at h
   rcases relF_sub n _ _ _ y h with h | h
   ·rcases List.mem_append.1 h with h | h
    ·exact .inl h
    ·rw [List.mem_singleton.1 h]
     exact .inr (List.mem_of_getElem? (rd32_at hj))
   ·exact .inr (List.mem_of_mem_eraseIdx h)
  ·rw [if_neg h0] at h
   exact h
/-- Nothing that Take tells or holds is new but the change. -/
theorem take_sub (room : Int) (l : List S32) (known : List Int) (x y : S32) : y ∈ (takeF room l known x).1 ∨ y ∈ (takeF room l known x).2.1 → y = x ∨ y ∈ l := by
 have h0 : y ∈ l ∨ y ∈ ([] : List S32) → y = x ∨ y ∈ l := fun h => h.elim .inr (fun h => absurd h List.not_mem_nil)
 unfold takeF
 split
 ·split
  ·split
   ·exact h0
   ·split
    ·intro h
     rcases relF_sub _ _ _ _ y h.symm with h | h
     ·exact .inl (List.mem_singleton.1 h)
     ·exact .inr h
    ·split
     ·exact h0
     ·intro h
      rcases h with h | h
      ·rcases List.mem_append.1 h with h | h
       ·exact .inr (List.mem_of_mem_take h)
       ·rcases List.mem_cons.1 h with h | h
        ·exact .inl h
        ·exact .inr (List.mem_of_mem_drop h)
      ·exact absurd h List.not_mem_nil
  ·exact h0
 ·exact h0
/-- What Take tells, with a right clock. -/
theorem take_order {room : Int} {l : List S32} (hg : Good l) (known : List Int) (x : S32) :
  ((takeF room l known x).2.2 ≠ 0 → (takeF room l known x).2.1 = []) ∧ AllR known (takeF room l known x).2.1 ∧
   ((takeF room l known x).2.1 ≠ [] → ∀ y ∈ (takeF room l known x).1, readyC (ticks known (takeF room l known x).2.1) y = false) := by
 have h0 : ∀ (L : List S32) (c : Int), ((c ≠ 0 → ([] : List S32) = []) ∧ AllR known [] ∧ (([] : List S32) ≠ [] → ∀ y ∈ L, readyC (ticks known []) y = false)) := fun L c => ⟨fun _ => rfl, trivial, fun h => absurd rfl h⟩
 unfold takeF
 by_cases c1 : chkC known = 0
 ·rw [if_pos c1]
  by_cases c2 : checkX x = 0
  ·rw [if_pos c2]
   split
   ·exact h0 _ _
   ·by_cases c3 : ripeC known x = true
    ·rw [if_pos c3]
     have h := relF_all known l.length [x] l (Nat.le_refl _) (tick_chk known x.f0.f1) ⟨ready_of c1 c2 c3, trivial⟩ hg.ok
     exact ⟨fun h => absurd rfl h, h.1, fun _ => h.2⟩
    ·rw [if_neg c3]
     split
     ·exact h0 _ _
     ·exact h0 _ _
  ·rw [if_neg c2]
   exact h0 _ _
 ·rw [if_neg c1]
  exact h0 _ _
end Go.Proofs.Ytnopjjilpgekfaa.PCa
namespace Go.Proofs.Ytnopjjilpgekfaa.PCa
open Go.RowKit Go.Proofs.YtnopjjilpgekfaaW.PrintWords Go.Proofs.YtnopjjilpgekfaaW.PrintLast Go.Proofs.YtnopjjilpgekfaaW.PrintMore
attribute [local go_sem] max2_int min2_int max_two min_two max_three min_three max_four min_four
set_option linter.unusedVariables false
set_option linter.unusedSimpArgs false
def topiarylaw09_second.f  : Option (Int × Int × Int × List Int × Int × Int × Int × Int × Int × Int × Int × ByteArray × ByteArray) := some (2, 1, 1, (([1] : List Int)), 5, 1, 0, 0, 0, 0, 0, (⟨#[]⟩ : ByteArray), (⟨#[97]⟩ : ByteArray))
set_option maxHeartbeats 8000000 in
set_option maxRecDepth 100000 in
theorem topiarylaw09_second.calls  (r1 : Int) (r2 : Int) (r3 : Int) (r4 : List Int) (r5 : Int) (r6 : Int) (r7 : Int) (r8 : Int) (r9 : Int) (r10 : Int) (r11 : Int) (r12 : ByteArray) (r13 : ByteArray) (w : World) (h : topiarylaw09_second.f  = some (r1, r2, r3, r4, r5, r6, r7, r8, r9, r10, r11, r12, r13)) :
  Calls Try.prog 28 #[] w fun e w' => ∃ v3_ : Value, e = .returned (.agg #[.int .i64 r1, .int .i64 r2, .int .i64 r3, v3_, .int .i64 r5, .int .i64 r6, .int .i64 r7, .int .i64 r8, .int .i64 r9, .int .i64 r10, .int .i64 r11, .string r12, .string r13]) ∧ Kd.R (Kd.int .i64) 3 w' w.heap.size (fun _ => True) v3_ r4 ∧ Below w.heap.size w w' := by
 have hu32 := Try.underlying32
 have hu30 := Try.underlying30
 have HB := Aside0.mk (Below.refl w.heap.size w)
 have H : (some (2, 1, 1, (([1] : List Int)), 5, 1, 0, 0, 0, 0, 0, (⟨#[]⟩ : ByteArray), (⟨#[97]⟩ : ByteArray))) = some (r1, r2, r3, r4, r5, r6, r7, r8, r9, r10, r11, r12, r13) := h
 clear h
 obtain ⟨y410, hy410⟩ : ∃ y_ : List Int, y_ = (([1] : List Int)) := ⟨_, rfl⟩
 replace H : (some (2, 1, 1, y410, 5, 1, 0, 0, 0, 0, 0, (⟨#[]⟩ : ByteArray), (⟨#[97]⟩ : ByteArray))) = some (r1, r2, r3, r4, r5, r6, r7, r8, r9, r10, r11, r12, r13) := by first | (rw [hy410]; with_reducible exact H) | (have H2_ := (Option.bind_some _ _).symm.trans H; rw [hy410]; with_reducible exact H2_) | (have H2_ := (Option.bind_some _ _).symm.trans H; with_reducible exact H2_) | with_reducible exact H | (rw [hy410]; exact H) | exact H
 have Ny410 := Aside0.mk hy410
 clear hy410
 simp only [Option.some.injEq, Prod.mk.injEq] at H
 obtain ⟨rfl, rfl, rfl, rfl, rfl, rfl, rfl, rfl, rfl, rfl, rfl, rfl, rfl⟩ := H
 go_enter Try.func28, Try.ntmps28
 go_wp2_with (first | ((with_reducible refine gate_dst (N := 0) rfl ?_); refine box_event ?hg (N := 0) ?hd (cs := #[.int .i64 0, .int .i64 0, .int .i64 0, .slice none 0 0, .int .i64 0, .int .i64 0, .int .i64 0, .int .i64 0, .int .i64 0, .int .i64 0, .int .i64 0, .string (⟨#[]⟩ : ByteArray), .string (⟨#[]⟩ : ByteArray)]) (t := 32) ?hr ?_; (case hd => rfl); (case hg => rfl); (case hr => first | (go_simp; done) | (go_simp; rfl)); intro gb409 hg w1 hbox hb; have n0_ := Aside0.mk (below_step (by repeat (first | (with_reducible first | exact HB.out | apply below_alloc | apply pw_below_drewN | apply below_drew1) | exact HB.out)) hb); have n1_ := Aside0.mk (hbox); have n2_ := Aside0.mk ((by rw [hg]; exact (below_size (by repeat (first | (with_reducible first | exact HB.out | apply below_alloc | apply pw_below_drewN | apply below_drew1) | exact HB.out))) : w.heap.size ≤ gb409)); have n3_ := Aside0.mk ((by rw [hg]; exact (below_size (by repeat (first | (with_reducible first | exact HB.out | apply below_alloc | apply pw_below_drewN | apply below_drew1) | exact HB.out))) : w.heap.size ≤ gb409)); clear HB; have HB := n0_; have BK409 := n1_; have GW409 := n2_; have GE409 := n3_; clear n0_ n1_ n2_ n3_; clear hb hbox hg) | ((with_reducible refine gate_dst (N := 2) rfl ?_); refine Kd.R_lit (Kd.int .i64) _ 3 ?hg (N := 2) ?hd (xs := ([1] : List Int)) (inner := [.int .i64 1]) (ok := fun _ => True) (okp := fun _ => True) ?hr ?hp (fun _ hk => hk) trivial (Below.refl _ _) (Nat.le_refl _) (by simp) ?_; (case hd => rfl); (case hg => rfl); (case hr => first | (go_simp; done) | (go_simp; rfl)); (case hp => exact (Reps.one (show Kd.M (Kd.int .i64) _ _ _ 1 [.int .i64 1] from rfl) (Reps.none _ _))); intro v411 w2 ho3 hb hg_ hnew_; clear hg_ hnew_; (first | rw [← Ny410.out] at ho3 | (simp only [Int.reduceToNat] at ho3; rw [← Ny410.out] at ho3)); have n0_ := Aside0.mk (Kd.R_lower ho3 (below_size (by repeat (first | (with_reducible first | exact HB.out | apply below_alloc | apply pw_below_drewN | apply below_drew1 | refine below_set ?_ GE409.out) | exact HB.out)))); have n1_ := Aside0.mk (blk_below (g := gb409) (o := .cells #[.int .i64 0, .int .i64 0, .int .i64 0, .slice none 0 0, .int .i64 0, .int .i64 0, .int .i64 0, .int .i64 0, .int .i64 0, .int .i64 0, .int .i64 0, .string (⟨#[]⟩ : ByteArray), .string (⟨#[]⟩ : ByteArray)] 32 (0, 0)) (by (with_reducible repeat (first | refine blk_drewN ?_ _ | refine blk_drew ?_ | refine blk_alloc ?_ _)); exact BK409.out) hb); have n2_ := Aside0.mk (below_step (by repeat (first | (with_reducible first | exact HB.out | apply below_alloc | apply pw_below_drewN | apply below_drew1 | refine below_set ?_ GE409.out) | exact HB.out)) hb); clear BK409; clear HB; have HO412 := n0_; have BK409 := n1_; have HB := n2_; clear n0_ n1_ n2_; clear hb ho3; obtain ⟨Ao4, co4, eo4⟩ := Kd.R_slice HO412.out; subst eo4; obtain ⟨hcz5_0, hcz5_1, hcz5_2, hcz5_3, hcz5_4, hcz5_5, hcz5_6, hcz5_7, hcz5_8, hcz5_9, hcz5_10, hcz5_11, hcz5_12⟩ := cells13 BK409.out; obtain ⟨hfz5_0, hfz5_1, hfz5_2, hfz5_3, hfz5_4, hfz5_5, hfz5_6, hfz5_7, hfz5_8, hfz5_9, hfz5_10, hfz5_11, hfz5_12⟩ := froz13 BK409.out))
 refine bodyPost_ret (results_cell_row rfl _ _ gb409 32 #[.int .i64 2, .int .i64 1, .int .i64 1, .slice Ao4 y410.length co4, .int .i64 5, .int .i64 1, .int .i64 0, .int .i64 0, .int .i64 0, .int .i64 0, .int .i64 0, .string (⟨#[]⟩ : ByteArray), .string (⟨#[97]⟩ : ByteArray)] (0, 0) _ rfl (by (with_reducible repeat (first | refine blk_drewN ?_ _ | refine blk_drew ?_ | refine blk_alloc ?_ _)); refine blk_put (cs := #[.int .i64 2, .int .i64 1, .int .i64 1, .slice Ao4 y410.length co4, .int .i64 5, .int .i64 1, .int .i64 0, .int .i64 0, .int .i64 0, .int .i64 0, .int .i64 0, .string (⟨#[]⟩ : ByteArray), .string (⟨#[]⟩ : ByteArray)]) ?_ 12 _ rfl; (with_reducible repeat (first | refine blk_drewN ?_ _ | refine blk_drew ?_ | refine blk_alloc ?_ _)); refine blk_put (cs := #[.int .i64 2, .int .i64 1, .int .i64 1, .slice Ao4 y410.length co4, .int .i64 5, .int .i64 1, .int .i64 0, .int .i64 0, .int .i64 0, .int .i64 0, .int .i64 0, .string (⟨#[]⟩ : ByteArray), .string (⟨#[]⟩ : ByteArray)]) ?_ 11 _ rfl; (with_reducible repeat (first | refine blk_drewN ?_ _ | refine blk_drew ?_ | refine blk_alloc ?_ _)); refine blk_put (cs := #[.int .i64 2, .int .i64 1, .int .i64 1, .slice Ao4 y410.length co4, .int .i64 5, .int .i64 1, .int .i64 0, .int .i64 0, .int .i64 0, .int .i64 0, .int .i64 0, .string (⟨#[]⟩ : ByteArray), .string (⟨#[]⟩ : ByteArray)]) ?_ 10 _ rfl; (with_reducible repeat (first | refine blk_drewN ?_ _ | refine blk_drew ?_ | refine blk_alloc ?_ _)); refine blk_put (cs := #[.int .i64 2, .int .i64 1, .int .i64 1, .slice Ao4 y410.length co4, .int .i64 5, .int .i64 1, .int .i64 0, .int .i64 0, .int .i64 0, .int .i64 0, .int .i64 0, .string (⟨#[]⟩ : ByteArray), .string (⟨#[]⟩ : ByteArray)]) ?_ 9 _ rfl; (with_reducible repeat (first | refine blk_drewN ?_ _ | refine blk_drew ?_ | refine blk_alloc ?_ _)); refine blk_put (cs := #[.int .i64 2, .int .i64 1, .int .i64 1, .slice Ao4 y410.length co4, .int .i64 5, .int .i64 1, .int .i64 0, .int .i64 0, .int .i64 0, .int .i64 0, .int .i64 0, .string (⟨#[]⟩ : ByteArray), .string (⟨#[]⟩ : ByteArray)]) ?_ 8 _ rfl; (with_reducible repeat (first | refine blk_drewN ?_ _ | refine blk_drew ?_ | refine blk_alloc ?_ _)); refine blk_put (cs := #[.int .i64 2, .int .i64 1, .int .i64 1, .slice Ao4 y410.length co4, .int .i64 5, .int .i64 1, .int .i64 0, .int .i64 0, .int .i64 0, .int .i64 0, .int .i64 0, .string (⟨#[]⟩ : ByteArray), .string (⟨#[]⟩ : ByteArray)]) ?_ 7 _ rfl; (with_reducible repeat (first | refine blk_drewN ?_ _ | refine blk_drew ?_ | refine blk_alloc ?_ _)); refine blk_put (cs := #[.int .i64 2, .int .i64 1, .int .i64 1, .slice Ao4 y410.length co4, .int .i64 5, .int .i64 1, .int .i64 0, .int .i64 0, .int .i64 0, .int .i64 0, .int .i64 0, .string (⟨#[]⟩ : ByteArray), .string (⟨#[]⟩ : ByteArray)]) ?_ 6 _ rfl; (with_reducible repeat (first | refine blk_drewN ?_ _ | refine blk_drew ?_ | refine blk_alloc ?_ _)); refine blk_put (cs := #[.int .i64 2, .int .i64 1, .int .i64 1, .slice Ao4 y410.length co4, .int .i64 5, .int .i64 0, .int .i64 0, .int .i64 0, .int .i64 0, .int .i64 0, .int .i64 0, .string (⟨#[]⟩ : ByteArray), .string (⟨#[]⟩ : ByteArray)]) ?_ 5 _ rfl; (with_reducible repeat (first | refine blk_drewN ?_ _ | refine blk_drew ?_ | refine blk_alloc ?_ _)); refine blk_put (cs := #[.int .i64 2, .int .i64 1, .int .i64 1, .slice Ao4 y410.length co4, .int .i64 0, .int .i64 0, .int .i64 0, .int .i64 0, .int .i64 0, .int .i64 0, .int .i64 0, .string (⟨#[]⟩ : ByteArray), .string (⟨#[]⟩ : ByteArray)]) ?_ 4 _ rfl; (with_reducible repeat (first | refine blk_drewN ?_ _ | refine blk_drew ?_ | refine blk_alloc ?_ _)); refine blk_put (cs := #[.int .i64 2, .int .i64 1, .int .i64 1, .slice none 0 0, .int .i64 0, .int .i64 0, .int .i64 0, .int .i64 0, .int .i64 0, .int .i64 0, .int .i64 0, .string (⟨#[]⟩ : ByteArray), .string (⟨#[]⟩ : ByteArray)]) ?_ 3 _ rfl; (with_reducible repeat (first | refine blk_drewN ?_ _ | refine blk_drew ?_ | refine blk_alloc ?_ _)); refine blk_put (cs := #[.int .i64 2, .int .i64 1, .int .i64 0, .slice none 0 0, .int .i64 0, .int .i64 0, .int .i64 0, .int .i64 0, .int .i64 0, .int .i64 0, .int .i64 0, .string (⟨#[]⟩ : ByteArray), .string (⟨#[]⟩ : ByteArray)]) ?_ 2 _ rfl; (with_reducible repeat (first | refine blk_drewN ?_ _ | refine blk_drew ?_ | refine blk_alloc ?_ _)); refine blk_put (cs := #[.int .i64 2, .int .i64 0, .int .i64 0, .slice none 0 0, .int .i64 0, .int .i64 0, .int .i64 0, .int .i64 0, .int .i64 0, .int .i64 0, .int .i64 0, .string (⟨#[]⟩ : ByteArray), .string (⟨#[]⟩ : ByteArray)]) ?_ 1 _ rfl; (with_reducible repeat (first | refine blk_drewN ?_ _ | refine blk_drew ?_ | refine blk_alloc ?_ _)); refine blk_put (cs := #[.int .i64 0, .int .i64 0, .int .i64 0, .slice none 0 0, .int .i64 0, .int .i64 0, .int .i64 0, .int .i64 0, .int .i64 0, .int .i64 0, .int .i64 0, .string (⟨#[]⟩ : ByteArray), .string (⟨#[]⟩ : ByteArray)]) ?_ 0 _ rfl; (with_reducible repeat (first | refine blk_drewN ?_ _ | refine blk_drew ?_ | refine blk_alloc ?_ _)); exact BK409.out) Try.underlying32 rfl (by kernel_rfl)) rfl ?_
 exact ⟨_, by first | rfl | (simp [errW_none, errW_some] <;> rfl) | (simp [*, errW_none, errW_some] <;> rfl), by (with_reducible repeat (first | apply Kd.R_alloc | apply Kd.R_drewN | apply Kd.R_drew)); exact Kd.R_mono (Kd.R_far (p := ⟨gb409, 12, none⟩) (Kd.R_far (p := ⟨gb409, 11, none⟩) (Kd.R_far (p := ⟨gb409, 10, none⟩) (Kd.R_far (p := ⟨gb409, 9, none⟩) (Kd.R_far (p := ⟨gb409, 8, none⟩) (Kd.R_far (p := ⟨gb409, 7, none⟩) (Kd.R_far (p := ⟨gb409, 6, none⟩) (Kd.R_far (p := ⟨gb409, 5, none⟩) (Kd.R_far (p := ⟨gb409, 4, none⟩) (Kd.R_far (p := ⟨gb409, 3, none⟩) (Kd.R_far (p := ⟨gb409, 2, none⟩) (Kd.R_far (p := ⟨gb409, 1, none⟩) (Kd.R_far (p := ⟨gb409, 0, none⟩) (Kd.R_types HO412.out BK409.out (by decide)) (fun _ hk => hk.2) (.int .i64 2)) (fun _ hk => hk.2) (.int .i64 1)) (fun _ hk => hk.2) (.int .i64 1)) (fun _ hk => hk.2) (.slice Ao4 y410.length co4)) (fun _ hk => hk.2) (.int .i64 5)) (fun _ hk => hk.2) (.int .i64 1)) (fun _ hk => hk.2) (.int .i64 0)) (fun _ hk => hk.2) (.int .i64 0)) (fun _ hk => hk.2) (.int .i64 0)) (fun _ hk => hk.2) (.int .i64 0)) (fun _ hk => hk.2) (.int .i64 0)) (fun _ hk => hk.2) (.string (⟨#[]⟩ : ByteArray))) (fun _ hk => hk.2) (.string (⟨#[97]⟩ : ByteArray))) (fun _ hk => trivial), by repeat (first | (with_reducible first | exact HB.out | apply below_alloc | apply pw_below_drewN | apply below_drew1 | refine below_set ?_ GE409.out) | exact HB.out)⟩
def topiarylaw09_first.f  : Option (Int × Int × Int × List Int × Int × Int × Int × Int × Int × Int × Int × ByteArray × ByteArray) := some (1, 0, 1, ([] : List Int), 1, 1, 0, 0, 0, 0, 0, (⟨#[112]⟩ : ByteArray), (⟨#[]⟩ : ByteArray))
set_option maxHeartbeats 8000000 in
set_option maxRecDepth 100000 in
theorem topiarylaw09_first.calls  (r1 : Int) (r2 : Int) (r3 : Int) (r4 : List Int) (r5 : Int) (r6 : Int) (r7 : Int) (r8 : Int) (r9 : Int) (r10 : Int) (r11 : Int) (r12 : ByteArray) (r13 : ByteArray) (w : World) (h : topiarylaw09_first.f  = some (r1, r2, r3, r4, r5, r6, r7, r8, r9, r10, r11, r12, r13)) :
  Calls Try.prog 29 #[] w fun e w' => ∃ v3_ : Value, e = .returned (.agg #[.int .i64 r1, .int .i64 r2, .int .i64 r3, v3_, .int .i64 r5, .int .i64 r6, .int .i64 r7, .int .i64 r8, .int .i64 r9, .int .i64 r10, .int .i64 r11, .string r12, .string r13]) ∧ Kd.R (Kd.int .i64) 3 w' w.heap.size (fun _ => True) v3_ r4 ∧ Below w.heap.size w w' := by
 have hu32 := Try.underlying32
 have hu30 := Try.underlying30
 have HB := Aside0.mk (Below.refl w.heap.size w)
 have H : (some (1, 0, 1, ([] : List Int), 1, 1, 0, 0, 0, 0, 0, (⟨#[112]⟩ : ByteArray), (⟨#[]⟩ : ByteArray))) = some (r1, r2, r3, r4, r5, r6, r7, r8, r9, r10, r11, r12, r13) := h
 clear h
 simp only [Option.some.injEq, Prod.mk.injEq] at H
 obtain ⟨rfl, rfl, rfl, rfl, rfl, rfl, rfl, rfl, rfl, rfl, rfl, rfl, rfl⟩ := H
 go_enter Try.func29, Try.ntmps29
 go_wp2_with (first | ((with_reducible refine gate_dst (N := 0) rfl ?_); refine box_event ?hg (N := 0) ?hd (cs := #[.int .i64 0, .int .i64 0, .int .i64 0, .slice none 0 0, .int .i64 0, .int .i64 0, .int .i64 0, .int .i64 0, .int .i64 0, .int .i64 0, .int .i64 0, .string (⟨#[]⟩ : ByteArray), .string (⟨#[]⟩ : ByteArray)]) (t := 32) ?hr ?_; (case hd => rfl); (case hg => rfl); (case hr => first | (go_simp; done) | (go_simp; rfl)); intro gb413 hg w1 hbox hb; have n0_ := Aside0.mk (below_step (by repeat (first | (with_reducible first | exact HB.out | apply below_alloc | apply pw_below_drewN | apply below_drew1) | exact HB.out)) hb); have n1_ := Aside0.mk (hbox); have n2_ := Aside0.mk ((by rw [hg]; exact (below_size (by repeat (first | (with_reducible first | exact HB.out | apply below_alloc | apply pw_below_drewN | apply below_drew1) | exact HB.out))) : w.heap.size ≤ gb413)); have n3_ := Aside0.mk ((by rw [hg]; exact (below_size (by repeat (first | (with_reducible first | exact HB.out | apply below_alloc | apply pw_below_drewN | apply below_drew1) | exact HB.out))) : w.heap.size ≤ gb413)); clear HB; have HB := n0_; have BK413 := n1_; have GW413 := n2_; have GE413 := n3_; clear n0_ n1_ n2_ n3_; clear hb hbox hg) | ((with_reducible refine gate_dst (N := 1) rfl ?_); refine box_event ?hg (N := 1) ?hd (cs := #[.int .i64 0, .int .i64 0]) (t := 30) ?hr ?_; (case hd => rfl); (case hg => rfl); (case hr => first | (go_simp; done) | (go_simp; rfl)); intro gb414 hg w2 hbox hb; have n0_ := Aside0.mk (blk_below (g := gb413) (o := .cells #[.int .i64 0, .int .i64 0, .int .i64 0, .slice none 0 0, .int .i64 0, .int .i64 0, .int .i64 0, .int .i64 0, .int .i64 0, .int .i64 0, .int .i64 0, .string (⟨#[]⟩ : ByteArray), .string (⟨#[]⟩ : ByteArray)] 32 (0, 0)) (by (with_reducible repeat (first | refine blk_drewN ?_ _ | refine blk_drew ?_ | refine blk_alloc ?_ _)); exact BK413.out) hb); have n1_ := Aside0.mk (below_step (by repeat (first | (with_reducible first | exact HB.out | apply below_alloc | apply pw_below_drewN | apply below_drew1 | refine below_set ?_ GE413.out) | exact HB.out)) hb); have n2_ := Aside0.mk (hbox); have n3_ := Aside0.mk ((by rw [hg]; exact (below_size (by repeat (first | (with_reducible first | exact HB.out | apply below_alloc | apply pw_below_drewN | apply below_drew1 | refine below_set ?_ GE413.out) | exact HB.out))) : w.heap.size ≤ gb414)); have n4_ := Aside0.mk ((by rw [hg]; exact (below_size (by repeat (first | (with_reducible first | exact HB.out | apply below_alloc | apply pw_below_drewN | apply below_drew1 | refine below_set ?_ GE413.out) | exact HB.out))) : w.heap.size ≤ gb414)); have n5_ := Aside0.mk ((by rw [hg]; exact Nat.ne_of_lt (blk_lt (g := gb413) (o := .cells #[.int .i64 0, .int .i64 0, .int .i64 0, .slice none 0 0, .int .i64 0, .int .i64 0, .int .i64 0, .int .i64 0, .int .i64 0, .int .i64 0, .int .i64 0, .string (⟨#[]⟩ : ByteArray), .string (⟨#[]⟩ : ByteArray)] 32 (0, 0)) (by (with_reducible repeat (first | refine blk_drewN ?_ _ | refine blk_drew ?_ | refine blk_alloc ?_ _)); exact BK413.out)) : gb413 ≠ gb414)); have n6_ := Aside0.mk ((by rw [hg]; exact Nat.ne_of_gt (blk_lt (g := gb413) (o := .cells #[.int .i64 0, .int .i64 0, .int .i64 0, .slice none 0 0, .int .i64 0, .int .i64 0, .int .i64 0, .int .i64 0, .int .i64 0, .int .i64 0, .int .i64 0, .string (⟨#[]⟩ : ByteArray), .string (⟨#[]⟩ : ByteArray)] 32 (0, 0)) (by (with_reducible repeat (first | refine blk_drewN ?_ _ | refine blk_drew ?_ | refine blk_alloc ?_ _)); exact BK413.out)) : gb414 ≠ gb413)); clear BK413; clear HB; have BK413 := n0_; have HB := n1_; have BK414 := n2_; have GW414 := n3_; have GE414 := n4_; have NB413_414 := n5_; have NB414_413 := n6_; clear n0_ n1_ n2_ n3_ n4_ n5_ n6_; clear hb hbox hg; have hnb3 := NB414_413.out; have hnc3 := NB413_414.out; have hcz4_0 : w2.cell? ⟨gb414, 0, none⟩ = some (.int .i64 0) := (blk_cell BK414.out 0).trans rfl; have hcz4_1 : w2.cell? ⟨gb414, 1, none⟩ = some (.int .i64 0) := (blk_cell BK414.out 1).trans rfl; have hfz4_0 := blk_frozen BK414.out 0; have hfz4_1 := blk_frozen BK414.out 1; obtain ⟨hcz5_0, hcz5_1, hcz5_2, hcz5_3, hcz5_4, hcz5_5, hcz5_6, hcz5_7, hcz5_8, hcz5_9, hcz5_10, hcz5_11, hcz5_12⟩ := cells13 BK413.out; obtain ⟨hfz5_0, hfz5_1, hfz5_2, hfz5_3, hfz5_4, hfz5_5, hfz5_6, hfz5_7, hfz5_8, hfz5_9, hfz5_10, hfz5_11, hfz5_12⟩ := froz13 BK413.out))
 refine bodyPost_ret (results_cell_row rfl _ _ gb413 32 #[.int .i64 1, .int .i64 0, .int .i64 1, .slice none 0 0, .int .i64 1, .int .i64 1, .int .i64 0, .int .i64 0, .int .i64 0, .int .i64 0, .int .i64 0, .string (⟨#[112]⟩ : ByteArray), .string (⟨#[]⟩ : ByteArray)] (0, 0) _ rfl (by (with_reducible repeat (first | refine blk_drewN ?_ _ | refine blk_drew ?_ | refine blk_alloc ?_ _)); refine blk_put (cs := #[.int .i64 1, .int .i64 0, .int .i64 1, .slice none 0 0, .int .i64 1, .int .i64 1, .int .i64 0, .int .i64 0, .int .i64 0, .int .i64 0, .int .i64 0, .string (⟨#[112]⟩ : ByteArray), .string (⟨#[]⟩ : ByteArray)]) ?_ 12 _ rfl; (with_reducible repeat (first | refine blk_drewN ?_ _ | refine blk_drew ?_ | refine blk_alloc ?_ _)); refine blk_put (cs := #[.int .i64 1, .int .i64 0, .int .i64 1, .slice none 0 0, .int .i64 1, .int .i64 1, .int .i64 0, .int .i64 0, .int .i64 0, .int .i64 0, .int .i64 0, .string (⟨#[]⟩ : ByteArray), .string (⟨#[]⟩ : ByteArray)]) ?_ 11 _ rfl; (with_reducible repeat (first | refine blk_drewN ?_ _ | refine blk_drew ?_ | refine blk_alloc ?_ _)); refine blk_put (cs := #[.int .i64 1, .int .i64 0, .int .i64 1, .slice none 0 0, .int .i64 1, .int .i64 1, .int .i64 0, .int .i64 0, .int .i64 0, .int .i64 0, .int .i64 0, .string (⟨#[]⟩ : ByteArray), .string (⟨#[]⟩ : ByteArray)]) ?_ 10 _ rfl; (with_reducible repeat (first | refine blk_drewN ?_ _ | refine blk_drew ?_ | refine blk_alloc ?_ _)); refine blk_put (cs := #[.int .i64 1, .int .i64 0, .int .i64 1, .slice none 0 0, .int .i64 1, .int .i64 1, .int .i64 0, .int .i64 0, .int .i64 0, .int .i64 0, .int .i64 0, .string (⟨#[]⟩ : ByteArray), .string (⟨#[]⟩ : ByteArray)]) ?_ 9 _ rfl; (with_reducible repeat (first | refine blk_drewN ?_ _ | refine blk_drew ?_ | refine blk_alloc ?_ _)); refine blk_put (cs := #[.int .i64 1, .int .i64 0, .int .i64 1, .slice none 0 0, .int .i64 1, .int .i64 1, .int .i64 0, .int .i64 0, .int .i64 0, .int .i64 0, .int .i64 0, .string (⟨#[]⟩ : ByteArray), .string (⟨#[]⟩ : ByteArray)]) ?_ 8 _ rfl; (with_reducible repeat (first | refine blk_drewN ?_ _ | refine blk_drew ?_ | refine blk_alloc ?_ _)); refine blk_put (cs := #[.int .i64 1, .int .i64 0, .int .i64 1, .slice none 0 0, .int .i64 1, .int .i64 1, .int .i64 0, .int .i64 0, .int .i64 0, .int .i64 0, .int .i64 0, .string (⟨#[]⟩ : ByteArray), .string (⟨#[]⟩ : ByteArray)]) ?_ 7 _ rfl; (with_reducible repeat (first | refine blk_drewN ?_ _ | refine blk_drew ?_ | refine blk_alloc ?_ _)); refine blk_put (cs := #[.int .i64 1, .int .i64 0, .int .i64 1, .slice none 0 0, .int .i64 1, .int .i64 1, .int .i64 0, .int .i64 0, .int .i64 0, .int .i64 0, .int .i64 0, .string (⟨#[]⟩ : ByteArray), .string (⟨#[]⟩ : ByteArray)]) ?_ 6 _ rfl; (with_reducible repeat (first | refine blk_drewN ?_ _ | refine blk_drew ?_ | refine blk_alloc ?_ _)); refine blk_put (cs := #[.int .i64 1, .int .i64 0, .int .i64 1, .slice none 0 0, .int .i64 1, .int .i64 0, .int .i64 0, .int .i64 0, .int .i64 0, .int .i64 0, .int .i64 0, .string (⟨#[]⟩ : ByteArray), .string (⟨#[]⟩ : ByteArray)]) ?_ 5 _ rfl; (with_reducible repeat (first | refine blk_drewN ?_ _ | refine blk_drew ?_ | refine blk_alloc ?_ _)); refine blk_put (cs := #[.int .i64 1, .int .i64 0, .int .i64 1, .slice none 0 0, .int .i64 0, .int .i64 0, .int .i64 0, .int .i64 0, .int .i64 0, .int .i64 0, .int .i64 0, .string (⟨#[]⟩ : ByteArray), .string (⟨#[]⟩ : ByteArray)]) ?_ 4 _ rfl; (with_reducible repeat (first | refine blk_drewN ?_ _ | refine blk_drew ?_ | refine blk_alloc ?_ _)); refine blk_put (cs := #[.int .i64 1, .int .i64 0, .int .i64 1, .slice none 0 0, .int .i64 0, .int .i64 0, .int .i64 0, .int .i64 0, .int .i64 0, .int .i64 0, .int .i64 0, .string (⟨#[]⟩ : ByteArray), .string (⟨#[]⟩ : ByteArray)]) ?_ 3 _ rfl; (with_reducible repeat (first | refine blk_drewN ?_ _ | refine blk_drew ?_ | refine blk_alloc ?_ _)); refine blk_put (cs := #[.int .i64 1, .int .i64 0, .int .i64 0, .slice none 0 0, .int .i64 0, .int .i64 0, .int .i64 0, .int .i64 0, .int .i64 0, .int .i64 0, .int .i64 0, .string (⟨#[]⟩ : ByteArray), .string (⟨#[]⟩ : ByteArray)]) ?_ 2 _ rfl; (with_reducible repeat (first | refine blk_drewN ?_ _ | refine blk_drew ?_ | refine blk_alloc ?_ _)); refine blk_put (cs := #[.int .i64 1, .int .i64 0, .int .i64 0, .slice none 0 0, .int .i64 0, .int .i64 0, .int .i64 0, .int .i64 0, .int .i64 0, .int .i64 0, .int .i64 0, .string (⟨#[]⟩ : ByteArray), .string (⟨#[]⟩ : ByteArray)]) ?_ 1 _ rfl; (with_reducible repeat (first | refine blk_drewN ?_ _ | refine blk_drew ?_ | refine blk_alloc ?_ _)); refine blk_put (cs := #[.int .i64 0, .int .i64 0, .int .i64 0, .slice none 0 0, .int .i64 0, .int .i64 0, .int .i64 0, .int .i64 0, .int .i64 0, .int .i64 0, .int .i64 0, .string (⟨#[]⟩ : ByteArray), .string (⟨#[]⟩ : ByteArray)]) ?_ 0 _ rfl; (with_reducible repeat (first | refine blk_drewN ?_ _ | refine blk_drew ?_ | refine blk_alloc ?_ _)); refine blk_far ?_ NB413_414.out _; (with_reducible repeat (first | refine blk_drewN ?_ _ | refine blk_drew ?_ | refine blk_alloc ?_ _)); refine blk_far ?_ NB413_414.out _; (with_reducible repeat (first | refine blk_drewN ?_ _ | refine blk_drew ?_ | refine blk_alloc ?_ _)); exact BK413.out) Try.underlying32 rfl (by kernel_rfl)) rfl ?_
 exact ⟨_, by first | rfl | (simp [errW_none, errW_some] <;> rfl) | (simp [*, errW_none, errW_some] <;> rfl), by first | exact Kd.R_nil _ _ _ _ _ | exact Kd.N_nil _ _ _ _ _ | exact Kd.V_nil _ _ _ _ _ | exact Kd.Q_nil _ _ _ _ _ | exact Kd.S_nil _ _ _ _ _, by repeat (first | (with_reducible first | exact HB.out | apply below_alloc | apply pw_below_drewN | apply below_drew1 | refine below_set ?_ GE413.out | refine below_set ?_ GE414.out) | exact HB.out)⟩
def x2 : S32 := ⟨⟨2, 1⟩, 1, [1], 5, ⟨1, 0⟩, ⟨0, 0⟩, ⟨0, 0⟩, ⟨#[]⟩, ⟨#[97]⟩⟩
def x1 : S32 := ⟨⟨1, 0⟩, 1, [], 1, ⟨1, 0⟩, ⟨0, 0⟩, ⟨0, 0⟩, ⟨#[112]⟩, ⟨#[]⟩⟩
theorem take_x2 : takeF 1 [] [] x2 = ([x2], [], 0) := by kernel_rfl
theorem take_x1 : takeF 1 [x2] [] x1 = ([], [x1, x2], 0) := by kernel_rfl
theorem check_x2 : checkX x2 = 0 := by kernel_rfl
theorem good_x2 : Good [x2] := ⟨fun y hy => by rw [List.mem_singleton.1 hy]; exact check_x2, List.pairwise_singleton _ _⟩
def Yes (w : World) (e : Ending) (w' : World) : Prop := e = .returned (.bool true) ∧ Below w.heap.size w w'
set_option maxHeartbeats 8000000 in
set_option maxRecDepth 100000 in
theorem awake_calls (w : World) : Calls Try.prog 17 #[] w (Yes w) := by
 go_enter Try.func17, Try.ntmps17
 go_wp2_with (fail)
 refine (new_calls w 1 (by decide) (by decide)).mono ?_
 rintro e w1 ⟨g, rfl, hb1, hw1⟩
 have HB1 := Aside0.mk hb1.bound
 have HW1 := Aside0.mk hw1
 clear hb1 hw1
 go_wp2_with (fail)
 refine (topiarylaw09_second.calls _ _ _ _ _ _ _ _ _ _ _ _ _ w1 rfl).mono ?_
 rintro e w2 ⟨v2, rfl, hv2, hw2⟩
 obtain ⟨A2, c2, rfl⟩ := Kd.R_slice hv2
 have HV2 := Aside0.mk (Kd.R_mono (Kd.R_bound hv2) (ok' := fun k => w1.heap.size ≤ k ∧ k < w2.heap.size) (fun k hk => ⟨hk.2.1, hk.2.2.1⟩))
 have HW2 := Aside0.mk (HW1.out.trans (hw2.mono HW1.out.size))
 have HB2 := Aside0.mk (HB1.out.below hw2)
 clear hv2 hw2
 go_wp2_with (fail)
 refine (take13_calls HB2.out Good.nil (by decide) (by decide) none 0 [] (Kd.C_nil _ _) (Nat.le_refl _) x2 A2 c2 (Kd.R_F HV2.out) (fun k hk hp => by have := hp.2; omega) (Kd.R_reads' HV2.out).2.1 (by decide)).mono ?_
 rw [take_x2]
 rintro e w3 ⟨P3, O3, v3, rfl, hb3, hs3, hp3, -, -, hk3⟩
 obtain ⟨A3, c3, rfl⟩ := Kd.S_slice hs3
 have HB3 := Aside0.mk hb3.bound
 have HP3 := Aside0.mk hp3
 have HK3 := Aside0.mk ((Kept.of_below HW2.out (fun k => w.heap.size ≤ k)).then_ hk3 (fun k hk => .inl hk.1))
 clear hb3 hs3 hp3 hk3
 go_wp2_with (go_at_call 16; refine (len_calls HB3.out).mono ?_; rintro e w4 ⟨rfl, rfl⟩)
 refine (topiarylaw09_first.calls _ _ _ _ _ _ _ _ _ _ _ _ _ w4 rfl).mono ?_
 rintro e w5 ⟨v5, rfl, hv5, hw5⟩
 obtain ⟨A5, c5, rfl⟩ := Kd.R_slice hv5
 have HV5 := Aside0.mk (Kd.R_mono (Kd.R_bound hv5) (ok' := fun k => w4.heap.size ≤ k ∧ k < w5.heap.size) (fun k hk => ⟨hk.2.1, hk.2.2.1⟩))
 have HK5 := Aside0.mk (HK3.out.below hw5)
 have HB5 := Aside0.mk (HB3.out.below hw5)
 clear hv5 hw5
 go_wp2_with (fail)
 refine (take13_calls HB5.out good_x2 (by decide) (by decide) none 0 [] (Kd.C_nil _ _) (Nat.le_refl _) x1 A5 c5 (Kd.R_F HV5.out) (fun k hk hp => by have := hp.2; omega) (Kd.R_reads' HV5.out).2.1 (by decide)).mono ?_
 rw [take_x1]
 rintro e w6 ⟨P6, O6, v6, rfl, hb6, hs6, hp6, -, -, hk6⟩
 obtain ⟨gm, cap6, rfl, -, -, -⟩ := Kd.S_form hs6 (by decide)
 have HB6 := Aside0.mk hb6
 have HW6 := Aside0.mk ((HK5.out.then_ hk6 (fun k hk => by
  rcases HP3.out k hk.1 with h | h
  ·exact .inl h.1
  ·exact .inr (Nat.le_trans HW2.out.size h))).to_below (fun _ h => h))
 obtain ⟨c6', hcl, hM, hcc, hfr⟩ := Kd.R_elem (Kd.S_R hs6) z32 0 (by decide) (by decide)
 obtain ⟨vm, rfl, hvm⟩ := chM hM
 have q1 : w6.cell? ⟨gm, 4, none⟩ = some (.int .i64 1) := hcc 4 _ rfl
 clear hb6 hs6 hp6 hk6 hcl hM hcc hfr hvm
 go_wp2_with (go_at_call 16; refine (len_calls HB6.out).mono ?_; rintro e w7 ⟨rfl, rfl⟩)
 go_ret
 exact ⟨rfl, HW6.out⟩
def topiaryref02_Same.l0 : Nat → List Int → List Int → Int → Option (Bool)
 | 0, _, _, _ => none
 | k + 1, x0, x1, x5 => if x5 < (x0.length : Int) then (if 0 ≤ x5 then (if x5 < (x1.length : Int) then (if (rd x0 x5) = (rd x1 x5) then (topiaryref02_Same.l0 k x0 x1 (wrap64 (x5 + 1))) else (some false)) else (none)) else (none)) else (some true)
def topiaryref02_Same.f (k : Nat) (l0 : List Int) (l1 : List Int) : Option (Bool) := if (l0.length : Int) = (l1.length : Int) then (topiaryref02_Same.l0 k l0 l1 0) else (some false)
theorem topiaryref02_Same.mono_l : ∀ k, (∀ y0 y1 y2, LeO (topiaryref02_Same.l0 k y0 y1 y2) (topiaryref02_Same.l0 (k + 1) y0 y1 y2))
 | 0 => fun _ _ _ r h => by simp [topiaryref02_Same.l0] at h
 | k + 1 => by
  have ih0 := topiaryref02_Same.mono_l k
  ·intro y0 y1 y2
   unfold topiaryref02_Same.l0
   repeat' first
   | (with_reducible exact ih0 _ _ _)
   | (with_reducible exact LeO.refl _)
   | (with_reducible exact LeO.none _)
   | (with_reducible refine LeO.ite ?_ ?_)
   | (with_reducible refine LeO.bind ?_ (fun _ => ?_))
   | exact ih0 _ _ _
   | exact LeO.none _
   | refine LeO.ite ?_ ?_
   | refine LeO.bind ?_ (fun _ => ?_)
theorem topiaryref02_Same.mono : ∀ a0 a1 k, LeO (topiaryref02_Same.f k a0 a1) (topiaryref02_Same.f (k + 1) a0 a1) := by
 intro a0 a1 k
 have ih0 := topiaryref02_Same.mono_l k
 unfold topiaryref02_Same.f
 repeat' first
   | (with_reducible exact ih0 _ _ _)
   | (with_reducible exact LeO.refl _)
   | (with_reducible exact LeO.none _)
   | (with_reducible refine LeO.ite ?_ ?_)
   | (with_reducible refine LeO.bind ?_ (fun _ => ?_))
   | exact ih0 _ _ _
   | exact LeO.none _
   | refine LeO.ite ?_ ?_
   | refine LeO.bind ?_ (fun _ => ?_)
end Go.Proofs.Ytnopjjilpgekfaa.PCa
namespace Go.Proofs.Ytnopjjilpgekfaa.PCa
open Go.RowKit Go.Proofs.YtnopjjilpgekfaaW.PrintWords Go.Proofs.YtnopjjilpgekfaaW.PrintLast Go.Proofs.YtnopjjilpgekfaaW.PrintMore
attribute [local go_sem] max2_int min2_int max_two min_two max_three min_three max_four min_four
set_option linter.unusedVariables false
set_option linter.unusedSimpArgs false
attribute [local go_sem high] eqA30
def topiaryref05_Same.f (k : Nat) (a0_0 : Int) (a0_1 : Int) (a0_2 : Int) (l0_3 : List Int) (a0_4 : Int) (a0_5 : Int) (a0_6 : Int) (a0_7 : Int) (a0_8 : Int) (a0_9 : Int) (a0_10 : Int) (a0_11 : ByteArray) (a0_12 : ByteArray) (a1_0 : Int) (a1_1 : Int) (a1_2 : Int) (l1_3 : List Int) (a1_4 : Int) (a1_5 : Int) (a1_6 : Int) (a1_7 : Int) (a1_8 : Int) (a1_9 : Int) (a1_10 : Int) (a1_11 : ByteArray) (a1_12 : ByteArray) : Option (Bool) := if (a0_0 == a1_0 && (a0_1 == a1_1)) = true then (if a0_2 = a1_2 then ((topiaryref02_Same.f k l0_3 l1_3).bind fun t125 => (if t125 = true then (if a0_4 = a1_4 then (if (a0_5 == a1_5 && (a0_6 == a1_6)) = true then (if (a0_7 == a1_7 && (a0_8 == a1_8)) = true then (if (a0_9 == a1_9 && (a0_10 == a1_10)) = true then (if a0_11.toList = a1_11.toList then (some (a0_12.toList == a1_12.toList)) else (some false)) else (some false)) else (some false)) else (some false)) else (some false)) else (some false))) else (some false)) else (some false)
theorem topiaryref05_Same.mono : ∀ a0 a1 a2 a3 a4 a5 a6 a7 a8 a9 a10 a11 a12 a13 a14 a15 a16 a17 a18 a19 a20 a21 a22 a23 a24 a25 k, LeO (topiaryref05_Same.f k a0 a1 a2 a3 a4 a5 a6 a7 a8 a9 a10 a11 a12 a13 a14 a15 a16 a17 a18 a19 a20 a21 a22 a23 a24 a25) (topiaryref05_Same.f (k + 1) a0 a1 a2 a3 a4 a5 a6 a7 a8 a9 a10 a11 a12 a13 a14 a15 a16 a17 a18 a19 a20 a21 a22 a23 a24 a25) := by
 intro a0 a1 a2 a3 a4 a5 a6 a7 a8 a9 a10 a11 a12 a13 a14 a15 a16 a17 a18 a19 a20 a21 a22 a23 a24 a25 k
 unfold topiaryref05_Same.f
 repeat' first
   | (with_reducible exact topiaryref02_Same.mono _ _ _)
   | (with_reducible exact LeO.refl _)
   | (with_reducible exact LeO.none _)
   | (with_reducible refine LeO.ite ?_ ?_)
   | (with_reducible refine LeO.bind ?_ (fun _ => ?_))
   | exact topiaryref02_Same.mono _ _ _
   | exact LeO.none _
   | refine LeO.ite ?_ ?_
   | refine LeO.bind ?_ (fun _ => ?_)
end Go.Proofs.Ytnopjjilpgekfaa.PCa
namespace Go.Proofs.Ytnopjjilpgekfaa.PCa
open Go.RowKit Go.Proofs.YtnopjjilpgekfaaW.PrintWords Go.Proofs.YtnopjjilpgekfaaW.PrintLast Go.Proofs.YtnopjjilpgekfaaW.PrintMore
attribute [local go_sem] max2_int min2_int max_two min_two max_three min_three max_four min_four
set_option linter.unusedVariables false
set_option linter.unusedSimpArgs false
def topiaryref05_SameAll.l0 : Nat → List (S32) → List (S32) → Int → Option (Bool)
 | 0, _, _, _ => none
 | k + 1, x0, x1, x5 => if x5 < (x0.length : Int) then (if 0 ≤ x5 then (if x5 < (x1.length : Int) then ((topiaryref05_Same.f k ((rd_T32 x0 x5).f0.f0) ((rd_T32 x0 x5).f0.f1) ((rd_T32 x0 x5).f1) ((rd_T32 x0 x5).f2) ((rd_T32 x0 x5).f3) ((rd_T32 x0 x5).f4.f0) ((rd_T32 x0 x5).f4.f1) ((rd_T32 x0 x5).f5.f0) ((rd_T32 x0 x5).f5.f1) ((rd_T32 x0 x5).f6.f0) ((rd_T32 x0 x5).f6.f1) ((rd_T32 x0 x5).f7) ((rd_T32 x0 x5).f8) ((rd_T32 x1 x5).f0.f0) ((rd_T32 x1 x5).f0.f1) ((rd_T32 x1 x5).f1) ((rd_T32 x1 x5).f2) ((rd_T32 x1 x5).f3) ((rd_T32 x1 x5).f4.f0) ((rd_T32 x1 x5).f4.f1) ((rd_T32 x1 x5).f5.f0) ((rd_T32 x1 x5).f5.f1) ((rd_T32 x1 x5).f6.f0) ((rd_T32 x1 x5).f6.f1) ((rd_T32 x1 x5).f7) ((rd_T32 x1 x5).f8)).bind fun t408 => (if t408 = true then (topiaryref05_SameAll.l0 k x0 x1 (wrap64 (x5 + 1))) else (some false))) else (none)) else (none)) else (some true)
def topiaryref05_SameAll.f (k : Nat) (l0 : List (S32)) (l1 : List (S32)) : Option (Bool) := if (l0.length : Int) = (l1.length : Int) then (topiaryref05_SameAll.l0 k l0 l1 0) else (some false)
theorem topiaryref05_SameAll.mono_l : ∀ k, (∀ y0 y1 y2, LeO (topiaryref05_SameAll.l0 k y0 y1 y2) (topiaryref05_SameAll.l0 (k + 1) y0 y1 y2))
 | 0 => fun _ _ _ r h => by simp [topiaryref05_SameAll.l0] at h
 | k + 1 => by
  have ih0 := topiaryref05_SameAll.mono_l k
  ·intro y0 y1 y2
   unfold topiaryref05_SameAll.l0
   repeat' first
   | (with_reducible exact ih0 _ _ _)
   | (with_reducible exact topiaryref05_Same.mono _ _ _ _ _ _ _ _ _ _ _ _ _ _ _ _ _ _ _ _ _ _ _ _ _ _ _)
   | (with_reducible exact LeO.refl _)
   | (with_reducible exact LeO.none _)
   | (with_reducible refine LeO.ite ?_ ?_)
   | (with_reducible refine LeO.bind ?_ (fun _ => ?_))
   | exact ih0 _ _ _
   | exact topiaryref05_Same.mono _ _ _ _ _ _ _ _ _ _ _ _ _ _ _ _ _ _ _ _ _ _ _ _ _ _ _
   | exact LeO.none _
   | refine LeO.ite ?_ ?_
   | refine LeO.bind ?_ (fun _ => ?_)
theorem topiaryref05_SameAll.mono : ∀ a0 a1 k, LeO (topiaryref05_SameAll.f k a0 a1) (topiaryref05_SameAll.f (k + 1) a0 a1) := by
 intro a0 a1 k
 have ih0 := topiaryref05_SameAll.mono_l k
 unfold topiaryref05_SameAll.f
 repeat' first
   | (with_reducible exact ih0 _ _ _)
   | (with_reducible exact topiaryref05_Same.mono _ _ _ _ _ _ _ _ _ _ _ _ _ _ _ _ _ _ _ _ _ _ _ _ _ _ _)
   | (with_reducible exact LeO.refl _)
   | (with_reducible exact LeO.none _)
   | (with_reducible refine LeO.ite ?_ ?_)
   | (with_reducible refine LeO.bind ?_ (fun _ => ?_))
   | exact ih0 _ _ _
   | exact topiaryref05_Same.mono _ _ _ _ _ _ _ _ _ _ _ _ _ _ _ _ _ _ _ _ _ _ _ _ _ _ _
   | exact LeO.none _
   | refine LeO.ite ?_ ?_
   | refine LeO.bind ?_ (fun _ => ?_)
end Go.Proofs.Ytnopjjilpgekfaa.PCa
namespace Go.Proofs.Ytnopjjilpgekfaa.PCa
open Go.RowKit Go.Proofs.YtnopjjilpgekfaaW.PrintWords Go.Proofs.YtnopjjilpgekfaaW.PrintLast Go.Proofs.YtnopjjilpgekfaaW.PrintMore
set_option linter.unusedVariables false
set_option linter.unusedSimpArgs false
/-- A law's buffer: its blocks are P, all of them the law's own. -/
structure BI (w0 W : World) (g : Nat) (room : Int) (L : List S32) (P : Nat → Prop) : Prop where
 buf : BufI W w0.heap.size P g room L
 lo : ∀ k, P k → w0.heap.size ≤ k
 hi : ∀ k, P k → k < W.heap.size
 good : Good L
 len : (L.length : Int) ≤ room
 rm : room ≤ 256
 bel : Below w0.heap.size w0 W
section
variable {w0 W W1 : World} {g : Nat} {room : Int} {L : List S32} {P : Nat → Prop}
theorem BI.below (h : BI w0 W g room L P) (hb : Below W.heap.size W W1) : BI w0 W1 g room L P :=
 ⟨h.buf.below hb, h.lo, fun k hk => Nat.lt_of_lt_of_le (h.hi k hk) hb.size, h.good, h.len, h.rm, h.bel.trans (hb.mono h.bel.size)⟩
theorem BI.new {room : Int} (hr0 : 0 ≤ room) (hr : room ≤ 256) (hb : BufI W1 W.heap.size (fun k => W.heap.size ≤ k) g room []) (hw : Below W.heap.size W W1) (h0 : Below w0.heap.size w0 W) : BI w0 W1 g room [] (fun k => W.heap.size ≤ k ∧ k < W1.heap.size) := by
 have hs := h0.size
 refine ⟨?_, fun k hk => Nat.le_trans hs hk.1, fun k hk => hk.2, Good.nil, by simpa using hr0, hr, h0.trans (hw.mono hs)⟩
 obtain ⟨mb, es, c, A, ch, h1, h2, h3, h4, h5, h6, h7, h8⟩ := hb.bound
 exact ⟨mb, es, c, A, ch, h1, by omega, h3, by omega, h5, h6, h7, Kd.S_lower h8 hs⟩
theorem BI.of_take0 (h : BI w0 W g room L P) {known : List Int} {x : S32} {e : Ending} {W' : World} (ht : TakeB W w0.heap.size P g room (takeF room L known x) e W') :
  ∃ (P' O : Nat → Prop) (v' : Value), e = .returned (.tuple #[v', .int .i64 (takeF room L known x).2.2]) ∧ BI w0 W' g room (takeF room L known x).1 P' ∧ Kd.S k32 32 W' w0.heap.size O v' (takeF room L known x).2.1 ∧ (∀ k, O k → ¬ P' k) ∧ (∀ k, O k → w0.heap.size ≤ k ∧ (P k ∨ W.heap.size ≤ k)) ∧ (∀ k, P' k → P k ∨ W.heap.size ≤ k) ∧ Kept W W' P := by
 obtain ⟨P', O, v', he, hb, hs, hp, hd, ho, hk⟩ := ht
 have hsz := h.bel.size
 refine ⟨fun k => P' k ∧ k < W'.heap.size, O, v', he, ⟨hb.bound, fun k hk' => ?_, fun k hk' => hk'.2, take_good h.good known x, take_room h.len known x, h.rm, ?_⟩, hs, fun k hk' hp' => hd k hk' hp'.1, fun k hk' => ⟨?_, ho k hk'⟩, fun k hk' => hp k hk'.1, hk⟩
 ·rcases hp k hk'.1 with h1 | h1
  ·exact h.lo k h1
  ·omega
 ·exact ((Kept.of_below h.bel (fun k => w0.heap.size ≤ k)).then_ hk (fun k hk' => .inl (h.lo k hk'))).to_below (fun _ h => h)
 ·rcases ho k hk' with h1 | h1
  ·exact h.lo k h1
  ·omega
theorem BI.of_take (h : BI w0 W g room L P) {known : List Int} {x : S32} {e : Ending} {W' : World} {Lr out : List S32} {er : Int} (hr : takeF room L known x = (Lr, out, er)) (ht : TakeB W w0.heap.size P g room (Lr, out, er) e W') :
  ∃ (P' O : Nat → Prop) (v' : Value), e = .returned (.tuple #[v', .int .i64 er]) ∧ BI w0 W' g room Lr P' ∧ Kd.S k32 32 W' w0.heap.size O v' out ∧ (∀ k, O k → ¬ P' k) ∧ (∀ k, O k → w0.heap.size ≤ k ∧ (P k ∨ W.heap.size ≤ k)) ∧ (∀ k, P' k → P k ∨ W.heap.size ≤ k) ∧ Kept W W' P := by
 have := h.of_take0 (known := known) (x := x) (e := e) (W' := W') (by rw [hr]; exact ht)
 rw [hr] at this
 exact this
end
end Go.Proofs.Ytnopjjilpgekfaa.PCa
namespace Go.Proofs.Ytnopjjilpgekfaa.PCa
open Go.RowKit Go.Proofs.YtnopjjilpgekfaaW.PrintWords Go.Proofs.YtnopjjilpgekfaaW.PrintLast Go.Proofs.YtnopjjilpgekfaaW.PrintMore
attribute [local go_sem] max2_int min2_int max_two min_two max_three min_three max_four min_four
set_option linter.unusedVariables false
set_option linter.unusedSimpArgs false
/-- An element of a list. -/
theorem elemS {w : World} {A1 : Option Addr} {l : List S32} (hl : Kd.C k32 w A1 l.length l) {i : Nat} (hi : i < l.length) :
  ∃ ad A3 c3, A1 = some ad ∧ (∀ W, Below w.heap.size w W → ∀ j u, (chL (rd_T32 l (i : Int)) (.slice A3 (rd_T32 l (i : Int)).f2.length c3))[j]? = some u → W.cell? ((ad.add (i * 13)).add j) = some u) ∧ (rd_T32 l (i : Int)).f2.length ≤ c3 ∧ (Kd.int .i64).C w A3 (rd_T32 l (i : Int)).f2.length (rd_T32 l (i : Int)).f2 := by
 obtain ⟨ad, c, e, hcl, hK, hcc⟩ := Kd.C_get hl z32 (i : Int) (by omega) (by omega)
 obtain ⟨A3, c3, rfl, l3, g3⟩ := k32_open hK
 rw [Int.toNat_natCast] at hcc
 refine ⟨ad, A3, c3, e, fun W hb j u hj => ?_, l3, g3⟩
 rw [add_add]
 have h := hcc j u hj
 exact (hb.cell (World.block_lt_of_cell? w _ h)).trans h
theorem w1t {n : Nat} (h : n + 1 ≤ 9223372036854775807) : wrap64 ((n : Int) + 1) = ((n + 1 : Nat) : Int) := by rw [← i64_w, IntKind.wrap_i64]; omega
theorem V_zero {w : World} {base : Nat} {ok : Nat → Prop} (A : Option Addr) : Kd.V (Kd.int .i64) 3 w base ok (.slice A 0 0) [] := ⟨A, 0, rfl, Nat.le_refl _, fun W' _ => ⟨rfl, Nat.zero_le _, fun h => absurd h (Nat.lt_irrefl 0)⟩⟩
set_option maxHeartbeats 8000000 in
set_option maxRecDepth 100000 in
theorem order_law_calls (w : World) (A1 : Option Addr) (c1 : Nat) (l : List S32) (hl : Kd.C k32 w A1 l.length l) (hln : l.length < 4611686018427387904) (hs : ∀ x ∈ l, x.f7.size < 4611686018427387904) :
  Calls Try.prog 5 #[.slice A1 l.length c1] w fun e w' => e = .returned (.bool true) ∧ Below w.heap.size w w' := by
 have HL := Aside0.mk hl
 have HLN := Aside0.mk hln
 have HS := Aside0.mk hs
 clear hl hln hs
 go_enter Try.func5, Try.ntmps5
 go_wp2_with (fail)
 refine (new_calls w 256 (by decide) (by decide)).mono ?_
 rintro e w0 ⟨g, rfl, hbn, hw0⟩
 have HSTART := Aside0.mk (BI.new (w0 := w) (room := 256) (by decide) (by decide) hbn hw0 (Below.refl _ _))
 clear hbn hw0
 go_wp2_with (fail)
 go_loopw [5, 6] (fun v5 v6 wq => ∃ (i : Nat) (L : List S32) (P : Nat → Prop) (known : List Int) (Ak : Option Addr) (ck : Nat), v5 = .slice Ak known.length ck ∧ v6 = .int .i64 (i : Int) ∧ Aside0 (i ≤ l.length) ∧ Aside0 (BI w wq g 256 L P) ∧ Aside0 (Kd.V (Kd.int .i64) 3 wq w.heap.size (fun k => ¬ P k ∧ k < wq.heap.size) (.slice Ak known.length ck) known) ∧ Aside0 (∀ y ∈ L, y.f7.size < 4611686018427387904)) (fun _ v6 _ => l.length - (intOf v6).toNat)
 case atStart => exact ⟨0, [], _, [], _, _, rfl, rfl, ⟨Nat.zero_le _⟩, ⟨BI.below HSTART.out (by repeat (first | exact Below.refl _ _ | apply below_alloc | apply pw_below_drewN | apply below_drew))⟩, ⟨V_zero _⟩, ⟨fun _ h => absurd h List.not_mem_nil⟩⟩
 case round =>
  clear HSTART
  obtain ⟨i, L, P, known, Ak, ck, rfl, rfl, HI, HBI, HV, HZ⟩ := hrel
  obtain ⟨wo, rfl⟩ : ∃ wo, wo = wr := ⟨wr, rfl⟩
  by_cases hi : i < l.length
  case neg =>
   have e1 : decide (i < l.length) = false := decide_eq_false hi
   clear hi
   go_wp2_with (fail)
   refine (awake_calls _).mono ?_
   rintro e w2 ⟨rfl, hb⟩
   have HB := Aside0.mk (HBI.out.bel.trans (hb.mono HBI.out.bel.size))
   clear hb
   go_wp2_with (fail)
   go_ret
   exact ⟨rfl, HB.out⟩
  have HI' := Aside0.mk hi
  obtain ⟨ad, A3, c3, rfl, hcc, hl3, hC3⟩ := elemS HL.out hi
  have hmem : rd_T32 l (i : Int) ∈ l := List.mem_of_getElem? (rd32_at hi)
  have HSZ := Aside0.mk (HS.out _ hmem)
  generalize rd_T32 l (i : Int) = x at *
  have HCC := Aside0.mk hcc
  have HL3 := Aside0.mk hl3
  have HXF := Aside0.mk (Kd.C_F (Kd.heap_int .i64) hC3)
  have HXP : Aside0 (∀ k, k < w.heap.size → ¬ P k) := ⟨fun k hk hp => by have h1_ := HBI.out.lo k hp; omega⟩
  have b1 : (0 ≤ (i : Int)) = True := eq_true (by omega)
  have b2 : ((i : Int) < (l.length : Int)) = True := eq_true (by omega)
  have b3 : (i < l.length) = True := eq_true hi
  have b4 : decide (i < l.length) = true := decide_eq_true hi
  have hiw : wrap64 ((i : Int) + 1) = ((i + 1 : Nat) : Int) := by have h1_ := HLN.out; exact w1s (by omega)
  have HIW := Aside0.mk hiw
  have hord := take_order (room := 256) HBI.out.good known x
  have hsub := take_sub 256 L known x
  have hlen := take_room HBI.out.len known x
  clear hcc hl3 hC3 hmem hi hiw
  obtain ⟨⟨Lr, out, er⟩, hr⟩ : ∃ r, takeF 256 L known x = r := ⟨_, rfl⟩
  rw [hr] at hord hsub hlen
  have HTF := Aside0.mk hr
  have HO2 : Aside0 (AllR known out) := ⟨hord.2.1⟩
  have HO3 : Aside0 (out ≠ [] → ∀ y ∈ Lr, readyC (ticks known out) y = false) := ⟨hord.2.2⟩
  have HZL : Aside0 (∀ y ∈ Lr, y.f7.size < 4611686018427387904) := ⟨fun y hy => by rcases hsub y (.inl hy) with h | h; rw [h]; exact HSZ.out; exact HZ.out y h⟩
  have HZO : Aside0 (∀ y ∈ out, y.f7.size < 4611686018427387904) := ⟨fun y hy => by rcases hsub y (.inr hy) with h | h; rw [h]; exact HSZ.out; exact HZ.out y h⟩
  have hcase : (er != 0) = false ∨ ((er != 0) = true ∧ decide (0 < out.length) = false) := by
   by_cases he : er = 0
   ·exact .inl (by rw [bne_eq_false_iff_eq]; exact he)
   ·have h1 : out = [] := hord.1 he
    exact .inr ⟨by rw [bne_iff_ne]; exact he, by rw [h1]; rfl⟩
  clear hr hord hsub hlen
  rcases hcase with e1 | ⟨e1, e4⟩
  all_goals
   go_wp2_with (first | ((with_reducible refine gate_dst (N := 35) rfl ?_); refine load32_ev rfl (N := 35) rfl x (.slice A3 x.f2.length c3) (p := .tmp 34) rfl rfl (fun j u hj => HCC.out wo HBI.out.bel j u hj) ?_) | (go_at_call 13; refine (take13_calls HBI.out.buf HBI.out.good HBI.out.len HBI.out.rm Ak ck known (Kd.V_reads' HV.out).2.2 (Kd.V_reads' HV.out).2.1 x A3 c3 (Kd.F_below HXF.out HBI.out.bel) HXP.out HL3.out HSZ.out).mono ?_; rw [HTF.out]; intro e w2 ht_; obtain ⟨P', O, v9, rfl, hbi, hs9, ho1, ho2, hp, hk⟩ := HBI.out.of_take HTF.out ht_; obtain ⟨A9, c9, rfl⟩ := Kd.S_slice hs9; have HBI2 := Aside0.mk hbi; have HS9 := Aside0.mk (Kd.S_reads' hs9); have HS9' := Aside0.mk hs9; have HV2 := Aside0.mk (Kd.V_mono (Kd.V_kept HV.out hk (fun k h => h.1)) (ok' := fun k => ¬ P' k ∧ k < w2.heap.size) (fun k h => ⟨fun h' => by rcases hp k h' with h1 | h1; exact h.1 h1; omega, Nat.lt_of_lt_of_le h.2 hk.size⟩)); clear hbi hs9 ho1 ho2 hp hk ht_))
   have HOL := Aside0.mk (Kd.C_max HS9.out.2.2)
   go_loopw [5, 9] (fun v5 v9 wq => ∃ (j : Nat) (A5 : Option Addr) (c5 : Nat), v5 = .slice A5 (ticks known (out.take j)).length c5 ∧ v9 = .int .i64 (j : Int) ∧ Aside0 (j ≤ out.length) ∧ Aside0 (Below w2.heap.size w2 wq) ∧ Aside0 (Kd.V (Kd.int .i64) 3 wq w.heap.size (fun k => ¬ P' k ∧ k < wq.heap.size) (.slice A5 (ticks known (out.take j)).length c5) (ticks known (out.take j)))) (fun _ v9 _ => out.length - (intOf v9).toNat)
   case atStart => exact ⟨0, Ak, ck, rfl, rfl, ⟨Nat.zero_le _⟩, ⟨Below.refl _ _⟩, HV2⟩
   case round =>
    clear HV2
    obtain ⟨j, A5, c5, rfl, rfl, HJ, HBq, HVq⟩ := hrel
    obtain ⟨wi, rfl⟩ : ∃ wi, wi = wr := ⟨wr, rfl⟩
    by_cases hj : j < out.length
    case neg =>
     have e5 : decide (j < out.length) = false := decide_eq_false hj
     obtain rfl : j = out.length := by have h1_ := HJ.out; omega
     rw [List.take_length] at *
     clear hj
     by_cases ho : out = []
     ·have e6 : ((out.length : Int) == 0) = true := by rw [ho]; rfl
      have e7 : (out.length == 0) = true := by rw [ho]; rfl
      have e8 : decide (out = []) = true := decide_eq_true ho
      clear ho
      go_wp2_with (fail)
      rw [HIW.out]
      exact ⟨⟨i + 1, Lr, P', _, A5, c5, rfl, rfl, ⟨HI'.out⟩, ⟨HBI2.out.below HBq.out⟩, HVq, HZL⟩, dec_lt HI'.out⟩
     ·have e6 : ((out.length : Int) == 0) = false := by rw [beq_eq_false_iff_ne]; intro h; exact ho (List.length_eq_zero_iff.1 (by omega))
      have e8 : decide (out = []) = false := decide_eq_false ho
      have HUN := Aside0.mk (HO3.out ho)
      have e9 : (out = []) = False := eq_false ho
      clear ho
      generalize ticks known out = kn at *
      go_wp2_with (first | (go_at_call 22; refine (held_calls (HBI2.out.below HBq.out).buf ?hn HBI2.out.good.len).mono ?_; (case hn => have h1_ := HBI2.out.len; have h2_ := HBI2.out.rm; omega); rintro e w5 ⟨v10, rfl, hs10, hb10⟩; obtain ⟨A10, c10, rfl⟩ := Kd.S_slice hs10; have HS10 := Aside0.mk (Kd.S_reads' hs10); have HB5 := Aside0.mk (HBq.out.trans (hb10.mono HBq.out.size)); have HV5 := Aside0.mk (Kd.V_below HVq.out hb10); have HWI := Aside0.mk hb10.size; clear hs10 hb10))
      go_loopw [11] (fun v11 wq => ∃ m : Nat, v11 = .int .i64 (m : Int) ∧ Aside0 (m ≤ Lr.length) ∧ Aside0 (Below w5.heap.size w5 wq)) (fun v11 _ => Lr.length - (intOf v11).toNat)
      case atStart => exact ⟨0, rfl, ⟨Nat.zero_le _⟩, ⟨Below.refl _ _⟩⟩
      case round =>
       obtain ⟨m, rfl, HM, HBm⟩ := hrel
       obtain ⟨wm, rfl⟩ : ∃ wm, wm = wr := ⟨wr, rfl⟩
       by_cases hm : m < Lr.length
       case neg =>
        have e10 : decide (m < Lr.length) = false := decide_eq_false hm
        go_wp2_with (fail)
        rw [HIW.out]
        exact ⟨⟨i + 1, Lr, P', _, A5, c5, rfl, rfl, ⟨HI'.out⟩, ⟨(HBI2.out.below HB5.out).below HBm.out⟩, ⟨Kd.V_mono (Kd.V_below HV5.out HBm.out) (fun k h => ⟨h.1, Nat.lt_of_lt_of_le h.2 (Nat.le_trans (Nat.le_trans (Nat.le_refl _) HWI.out) HBm.out.size)⟩)⟩, HZL⟩, dec_lt HI'.out⟩
       have HM' := Aside0.mk hm
       obtain ⟨ad2, B3, d3, rfl, hdc, hm3, hD3⟩ := elemS HS10.out.2.2 hm
       have hmem2 : rd_T32 Lr (m : Int) ∈ Lr := List.mem_of_getElem? (rd32_at hm)
       have hun2 := HUN.out _ hmem2
       have hsz2 := HZL.out _ hmem2
       generalize rd_T32 Lr (m : Int) = y at *
       have HDC := Aside0.mk hdc
       have HM3 := Aside0.mk hm3
       have HD3 := Aside0.mk hD3
       have HRI := Aside0.mk (ref_Ready_is kn y (y.f7.size + 400) hsz2 (by omega) (by omega))
       rw [hun2] at HRI
       have HKV := Aside0.mk (Kd.V_reads' (Kd.V_below HV5.out HBm.out))
       have b11 : (0 ≤ (m : Int)) = True := eq_true (by omega)
       have b12 : ((m : Int) < (Lr.length : Int)) = True := eq_true (by omega)
       have b13 : (m < Lr.length) = True := eq_true hm
       have b14 : decide (m < Lr.length) = true := decide_eq_true hm
       have hmw : wrap64 ((m : Int) + 1) = ((m + 1 : Nat) : Int) := by have h1_ := HBI2.out.len; have h2_ := HBI2.out.rm; exact w1s (by omega)
       have HMW := Aside0.mk hmw
       clear hdc hm3 hD3 hmem2 hun2 hsz2 hm hmw
       go_wp2_with (first | ((with_reducible refine gate_dst (N := 85) rfl ?_); refine load32_ev rfl (N := 85) rfl y (.slice B3 y.f2.length d3) (p := .tmp 84) rfl rfl (fun j u hj => HDC.out _ HBm.out j u hj) ?_) | (go_at_call 20; refine (topiaryref09_Ready.calls (y.f7.size + 400) A5 c5 kn y.f0.f0 y.f0.f1 y.f1 B3 d3 y.f2 y.f3 y.f4.f0 y.f4.f1 y.f5.f0 y.f5.f1 y.f6.f0 y.f6.f1 y.f7 y.f8 false _ (Kd.C_below HKV.out.2.2 (Below.refl _ _)) HKV.out.2.1 (Kd.C_below HD3.out HBm.out) HM3.out HRI.out).mono ?_; rintro e w3 ⟨rfl, hb3⟩; have HB3 := Aside0.mk hb3; have HB3' := Aside0.mk (HBm.out.trans (hb3.mono HBm.out.size)); clear hb3))
       rw [HMW.out]
       exact ⟨⟨m + 1, rfl, ⟨HM'.out⟩, HB3'⟩, dec_lt HM'.out⟩
    have HJ' := Aside0.mk hj
    obtain ⟨ad2, B3, d3, rfl, hdc, hm3, hD3⟩ := elemS HS9.out.2.2 hj
    have hmem2 : rd_T32 out (j : Int) ∈ out := List.mem_of_getElem? (rd32_at hj)
    have hrd := AllR_get out known j _ HO2.out (rd32_at hj)
    have htn := ticks_take out known j _ (rd32_at hj)
    have hsz2 := HZO.out _ hmem2
    generalize rd_T32 out (j : Int) = y at *
    generalize ticks known (out.take j) = kn at *
    have HTN := Aside0.mk htn
    have HDC := Aside0.mk hdc
    have HM3 := Aside0.mk hm3
    have HD3 := Aside0.mk hD3
    have HRI := Aside0.mk (ref_Ready_is kn y (y.f7.size + 400) hsz2 (by omega) (by omega))
    rw [hrd] at HRI
    have HTK := Aside0.mk (ref_Tick_is kn y.f0.f1 301 (by decide))
    have HKV := Aside0.mk (Kd.V_reads' HVq.out)
    have b11 : (0 ≤ (j : Int)) = True := eq_true (by omega)
    have b12 : ((j : Int) < (out.length : Int)) = True := eq_true (by omega)
    have b13 : (j < out.length) = True := eq_true hj
    have b14 : decide (j < out.length) = true := decide_eq_true hj
    have hjw : wrap64 ((j : Int) + 1) = ((j + 1 : Nat) : Int) := by have h1_ := HOL.out; exact w1t (by omega)
    have HJW := Aside0.mk hjw
    clear hdc hm3 hD3 hmem2 hrd htn hsz2 hj hjw
    go_wp2_with (first | ((with_reducible refine gate_dst (N := 56) rfl ?_); refine load32_ev rfl (N := 56) rfl y (.slice B3 y.f2.length d3) (p := .tmp 55) rfl rfl (fun j u hj => HDC.out _ HBq.out j u hj) ?_) | (go_at_call 20; refine (topiaryref09_Ready.calls (y.f7.size + 400) A5 c5 kn y.f0.f0 y.f0.f1 y.f1 B3 d3 y.f2 y.f3 y.f4.f0 y.f4.f1 y.f5.f0 y.f5.f1 y.f6.f0 y.f6.f1 y.f7 y.f8 true _ (Kd.C_below HKV.out.2.2 (Below.refl _ _)) HKV.out.2.1 (Kd.C_below HD3.out HBq.out) HM3.out HRI.out).mono ?_; rintro e w3 ⟨rfl, hb3⟩; have HB3 := Aside0.mk hb3; have HB3' := Aside0.mk (HBq.out.trans (hb3.mono HBq.out.size)); have q1 : w3.cell? ⟨(ad2.add (j * 13)).block, (ad2.add (j * 13)).off + 1, none⟩ = some (.int .i64 y.f0.f1) := HDC.out w3 HB3'.out 1 _ rfl; clear hb3) | (go_at_call 21; refine (topiaryref02_Tick.calls 301 A5 c5 kn y.f0.f1 (tickC kn y.f0.f1).1 (tickC kn y.f0.f1).2 _ (Kd.C_below HKV.out.2.2 HB3.out) HKV.out.2.1 HTK.out).mono ?_; rintro e w4 ⟨v5, rfl, hr5, hb4⟩; obtain ⟨A6, c6, rfl⟩ := Kd.R_slice hr5; have HB4 := Aside0.mk (HBq.out.trans ((HB3.out.trans (hb4.mono HB3.out.size)).mono HBq.out.size)); have HR5 := Aside0.mk (Kd.R_mono (Kd.R_bound hr5) (ok' := fun k => w3.heap.size ≤ k ∧ k < w4.heap.size) (fun k hk => ⟨hk.2.1, hk.2.2.1⟩)); clear hr5 hb4))
    rw [HJW.out]
    have hP : ∀ k, P' k → k < w3.heap.size := fun k hk => Nat.lt_of_lt_of_le (HBI2.out.hi k hk) (HB3'.out.size)
    exact ⟨⟨j + 1, A6, c6, by rw [HTN.out], rfl, ⟨HJ'.out⟩, HB4, ⟨by rw [HTN.out]; exact Kd.V_mono (Kd.R_V HR5.out) (fun k h => ⟨fun h' => by have h1_ := hP k h'; omega, h.2⟩)⟩⟩, dec_lt HJ'.out⟩
end Go.Proofs.Ytnopjjilpgekfaa.PCa
