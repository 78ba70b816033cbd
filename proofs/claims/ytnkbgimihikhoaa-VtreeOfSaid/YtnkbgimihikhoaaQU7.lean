/- What the statement's row needs of this session's texts, joined by program: part 8. -/
import Derived.Test.YtnkbgimihikhoaaQU6
namespace Go.Proofs.Ytnkbgimihikhoaa.PVt
open Go.RowKit Go.Proofs.YtnkbgimihikhoaaW.PrintWords Go.Proofs.YtnkbgimihikhoaaW.PrintLast Go.Proofs.YtnkbgimihikhoaaW.PrintMore
set_option linter.unusedVariables false
set_option linter.unusedSimpArgs false
theorem light_l0 {made : List S52} {placed : List S97} {rows : List S74} {regs : List S111} (hr : rows.length < 4611686018427387904) (hs : ∀ r ∈ rows, r.f1.length < 4611686018427387904) : ∀ (suf pre : List S74) (n k : Nat), rows = pre ++ suf → n ≤ 600 → suf.length < k →
    ∃ b, topiarylaw15_light.l0 k (n : Int) (pre.length : Int) made placed rows regs = some b ∧ (b = true → (made.length ≤ 600 ∧ placed.length ≤ 600 ∧ rows.length ≤ 600 ∧ regs.length ≤ 600) ∧ ∀ r ∈ suf, r.f1.length ≤ 600) := by
  intro suf
  induction suf with
  | nil =>
    intro pre n k hp hn hk
    obtain ⟨k, rfl⟩ : ∃ j, k = j + 1 := ⟨k - 1, by omega⟩
    have h0 : ¬ (pre.length : Int) < (rows.length : Int) := by rw [hp]; exact nlt_at pre
    unfold topiarylaw15_light.l0
    rw [if_neg h0]
    by_cases h1 : (placed.length : Int) ≤ 600
    · rw [if_pos h1]
      by_cases h2 : (rows.length : Int) ≤ 600
      · rw [if_pos h2]
        by_cases h3 : (made.length : Int) ≤ 600
        · rw [if_pos h3]
          refine ⟨_, rfl, fun h => ⟨⟨by omega, by omega, by omega, ?_⟩, fun r hr => by cases hr⟩⟩
          have := of_decide_eq_true h
          omega
        · rw [if_neg h3]; exact ⟨_, rfl, fun h => by cases h⟩
      · rw [if_neg h2]; exact ⟨_, rfl, fun h => by cases h⟩
    · rw [if_neg h1]; exact ⟨_, rfl, fun h => by cases h⟩
  | cons r suf ih =>
    intro pre n k hp hn hk
    obtain ⟨k, rfl⟩ : ∃ j, k = j + 1 := ⟨k - 1, by omega⟩
    rw [List.length_cons] at hk
    have hl' : pre.length < rows.length := by rw [hp, List.length_append, List.length_cons]; omega
    have hlt : (pre.length : Int) < (rows.length : Int) := by omega
    have hrd : rd_T74 rows (pre.length : Int) = r := by rw [hp]; exact rd74_at pre r suf
    have hrs := hs r (by rw [hp]; simp)
    have hw : wrap64 ((n : Int) + (r.f1.length : Int)) = ((n + r.f1.length : Nat) : Int) := by unfold wrap64; omega
    unfold topiarylaw15_light.l0
    rw [if_pos hlt, if_pos (pos_at pre), hrd, wrap_at (by omega), hw]
    by_cases h1 : (((n + r.f1.length : Nat) : Int)) > 600
    · rw [if_pos h1]; exact ⟨_, rfl, fun h => by cases h⟩
    · rw [if_neg h1]
      obtain ⟨b, hb, hb2⟩ := ih (pre ++ [r]) (n + r.f1.length) k (by rw [List.append_assoc]; exact hp) (by omega) (by omega)
      rw [List.length_append, List.length_singleton] at hb
      refine ⟨b, hb, fun h => ⟨(hb2 h).1, fun x hx => ?_⟩⟩
      rcases List.mem_cons.1 hx with rfl | hx
      · omega
      · exact (hb2 h).2 x hx
theorem light_is (D : DocP) (hr : D.rows.length < 4611686018427387904) (hs : ∀ r ∈ D.rows, r.f1.length < 4611686018427387904) : ∃ b, topiarylaw15_light.f (D.rows.length + 1) D.made D.placed D.rows D.regs = some b ∧ (b = true → Small D) := by
  obtain ⟨b, h1, h2⟩ := light_l0 (made := D.made) (placed := D.placed) (regs := D.regs) hr hs D.rows [] 0 (D.rows.length + 1) rfl (by omega) (by omega)
  exact ⟨b, h1, fun h => ⟨(h2 h).1.1, (h2 h).1.2.1, (h2 h).1.2.2.1, (h2 h).1.2.2.2, (h2 h).2⟩⟩
theorem Copy_l0 {made : List S52} {placed : List S97} {rows : List S74} {regs : List S111} (a : List S52) (b : List S97) (d : List S111) (hr : rows.length ≤ 600) (hs : ∀ r ∈ rows, r.f1.length ≤ 600) : ∀ (suf pre : List S74) (k : Nat), rows = pre ++ suf → suf.length < k →
    topiaryref14_Copy.l0 k (pre.length : Int) made placed rows regs a b pre d = some (a, b, rows, d) := by
  intro suf
  induction suf with
  | nil =>
    intro pre k hp hk
    obtain ⟨k, rfl⟩ : ∃ j, k = j + 1 := ⟨k - 1, by omega⟩
    have h0 : ¬ (pre.length : Int) < (rows.length : Int) := by rw [hp]; exact nlt_at pre
    unfold topiaryref14_Copy.l0
    rw [if_neg h0, hp, List.append_nil]
  | cons r suf ih =>
    intro pre k hp hk
    obtain ⟨k, rfl⟩ : ∃ j, k = j + 1 := ⟨k - 1, by omega⟩
    rw [List.length_cons] at hk
    have hl' : pre.length < rows.length := by rw [hp, List.length_append, List.length_cons]; omega
    have hlt : (pre.length : Int) < (rows.length : Int) := by omega
    have hrd : rd_T74 rows (pre.length : Int) = r := by rw [hp]; exact rd74_at pre r suf
    have hrs := hs r (by rw [hp]; simp)
    unfold topiaryref14_Copy.l0
    rw [if_pos hlt, if_pos (pos_at pre), hrd, wrap_at (by omega), Option.bind_some, if_pos (by rw [List.length_nil]; omega), if_pos (by omega)]
    have := ih (pre ++ [r]) k (by rw [List.append_assoc]; exact hp) (by omega)
    rw [List.length_append, List.length_singleton] at this
    exact this
theorem Copy_is {D : DocP} (hD : Small D) {f : Nat} (hf : 700 < f) : topiaryref14_Copy.f f D.made D.placed D.rows D.regs = some (D.made, D.placed, D.rows, D.regs) := by
  have h1 := hD.made
  have h2 := hD.placed
  have h3 := hD.regs
  have h4 := hD.rows
  unfold topiaryref14_Copy.f
  rw [Option.bind_some, if_pos (by rw [List.length_nil]; omega), Option.bind_some, if_pos (by rw [List.length_nil]; omega), Option.bind_some, if_pos (by rw [List.length_nil]; omega)]
  exact Copy_l0 D.made D.placed D.regs hD.rows hD.slots D.rows [] f rfl (by omega)
theorem same01_l0 (l : List S23) (hl : l.length < 1000000) : ∀ (suf pre : List S23) (k : Nat), l = pre ++ suf → suf.length < k → topiaryref01_Same.l0 k l l (pre.length : Int) = some true := by
  intro suf
  induction suf with
  | nil =>
    intro pre k hp hk
    obtain ⟨k, rfl⟩ : ∃ j, k = j + 1 := ⟨k - 1, by omega⟩
    have h0 : ¬ (pre.length : Int) < (l.length : Int) := by rw [hp]; exact nlt_at pre
    unfold topiaryref01_Same.l0
    rw [if_neg h0]
  | cons r suf ih =>
    intro pre k hp hk
    obtain ⟨k, rfl⟩ : ∃ j, k = j + 1 := ⟨k - 1, by omega⟩
    rw [List.length_cons] at hk
    have hl' : pre.length < l.length := by rw [hp, List.length_append, List.length_cons]; omega
    have hlt : (pre.length : Int) < (l.length : Int) := by omega
    unfold topiaryref01_Same.l0
    rw [if_pos hlt, if_pos (pos_at pre), if_pos hlt, wrap_at (by omega), if_neg (by simp)]
    have := ih (pre ++ [r]) k (by rw [List.append_assoc]; exact hp) (by omega)
    rw [List.length_append, List.length_singleton] at this
    exact this
theorem same01_is (l : List S23) (hl : l.length < 1000000) {f : Nat} (hf : l.length < f) : topiaryref01_Same.f f l l = some true := by
  unfold topiaryref01_Same.f
  rw [if_pos rfl]
  exact same01_l0 l hl l [] f rfl hf
theorem same11_l0 (l : List S97) (hl : l.length < 1000000) : ∀ (suf pre : List S97) (k : Nat), l = pre ++ suf → suf.length < k → topiaryref11_Same.l0 k l l (pre.length : Int) = some true := by
  intro suf
  induction suf with
  | nil =>
    intro pre k hp hk
    obtain ⟨k, rfl⟩ : ∃ j, k = j + 1 := ⟨k - 1, by omega⟩
    have h0 : ¬ (pre.length : Int) < (l.length : Int) := by rw [hp]; exact nlt_at pre
    unfold topiaryref11_Same.l0
    rw [if_neg h0]
  | cons r suf ih =>
    intro pre k hp hk
    obtain ⟨k, rfl⟩ : ∃ j, k = j + 1 := ⟨k - 1, by omega⟩
    rw [List.length_cons] at hk
    have hl' : pre.length < l.length := by rw [hp, List.length_append, List.length_cons]; omega
    have hlt : (pre.length : Int) < (l.length : Int) := by omega
    unfold topiaryref11_Same.l0
    rw [if_pos hlt, if_pos (pos_at pre), if_pos hlt, wrap_at (by omega), if_neg (by simp)]
    have := ih (pre ++ [r]) k (by rw [List.append_assoc]; exact hp) (by omega)
    rw [List.length_append, List.length_singleton] at this
    exact this
theorem same13_l0 (l : List S111) (hl : l.length < 1000000) : ∀ (suf pre : List S111) (k : Nat), l = pre ++ suf → suf.length < k → topiaryref13_Same.l0 k l l (pre.length : Int) = some true := by
  intro suf
  induction suf with
  | nil =>
    intro pre k hp hk
    obtain ⟨k, rfl⟩ : ∃ j, k = j + 1 := ⟨k - 1, by omega⟩
    have h0 : ¬ (pre.length : Int) < (l.length : Int) := by rw [hp]; exact nlt_at pre
    unfold topiaryref13_Same.l0
    rw [if_neg h0]
  | cons r suf ih =>
    intro pre k hp hk
    obtain ⟨k, rfl⟩ : ∃ j, k = j + 1 := ⟨k - 1, by omega⟩
    rw [List.length_cons] at hk
    have hl' : pre.length < l.length := by rw [hp, List.length_append, List.length_cons]; omega
    have hlt : (pre.length : Int) < (l.length : Int) := by omega
    unfold topiaryref13_Same.l0
    rw [if_pos hlt, if_pos (pos_at pre), if_pos hlt, wrap_at (by omega), if_neg (by simp)]
    have := ih (pre ++ [r]) k (by rw [List.append_assoc]; exact hp) (by omega)
    rw [List.length_append, List.length_singleton] at this
    exact this
theorem same14_l1 {D : DocP} (hD : Small D) : ∀ (suf pre : List S74) (k : Nat), D.rows = pre ++ suf → suf.length + 700 < k → topiaryref14_Same.l1 k (pre.length : Int) D.made D.placed D.rows D.regs D.made D.placed D.rows D.regs = some true := by
  intro suf
  induction suf with
  | nil =>
    intro pre k hp hk
    obtain ⟨k, rfl⟩ : ∃ j, k = j + 1 := ⟨k - 1, by omega⟩
    have h0 : ¬ (pre.length : Int) < (D.rows.length : Int) := by rw [hp]; exact nlt_at pre
    unfold topiaryref14_Same.l1
    rw [if_neg h0]
  | cons r suf ih =>
    intro pre k hp hk
    obtain ⟨k, rfl⟩ : ∃ j, k = j + 1 := ⟨k - 1, by omega⟩
    rw [List.length_cons] at hk
    have hr := hD.rows
    have hl' : pre.length < D.rows.length := by rw [hp, List.length_append, List.length_cons]; omega
    have hlt : (pre.length : Int) < (D.rows.length : Int) := by omega
    have hrd : rd_T74 D.rows (pre.length : Int) = r := by rw [hp]; exact rd74_at pre r suf
    have hrs := hD.slots r (by rw [hp]; simp)
    unfold topiaryref14_Same.l1
    rw [if_pos hlt, if_pos (pos_at pre), if_pos hlt, hrd, wrap_at (by omega), if_neg (by simp), same01_is r.f1 (by omega) (by omega), Option.bind_some, if_pos rfl]
    have := ih (pre ++ [r]) k (by rw [List.append_assoc]; exact hp) (by omega)
    rw [List.length_append, List.length_singleton] at this
    exact this
theorem same14_l0 {D : DocP} (hD : Small D) : ∀ (suf pre : List S52) (k : Nat), D.made = pre ++ suf → suf.length + 1500 < k → topiaryref14_Same.l0 k (pre.length : Int) D.made D.placed D.rows D.regs D.made D.placed D.rows D.regs = some true := by
  intro suf
  induction suf with
  | nil =>
    intro pre k hp hk
    obtain ⟨k, rfl⟩ : ∃ j, k = j + 1 := ⟨k - 1, by omega⟩
    have h0 : ¬ (pre.length : Int) < (D.made.length : Int) := by rw [hp]; exact nlt_at pre
    have hr := hD.rows
    unfold topiaryref14_Same.l0
    rw [if_neg h0]
    exact same14_l1 hD D.rows [] k rfl (by omega)
  | cons r suf ih =>
    intro pre k hp hk
    obtain ⟨k, rfl⟩ : ∃ j, k = j + 1 := ⟨k - 1, by omega⟩
    rw [List.length_cons] at hk
    have hr := hD.made
    have hl' : pre.length < D.made.length := by rw [hp, List.length_append, List.length_cons]; omega
    have hlt : (pre.length : Int) < (D.made.length : Int) := by omega
    unfold topiaryref14_Same.l0
    rw [if_pos hlt, if_pos (pos_at pre), if_pos hlt, wrap_at (by omega), if_neg (by simp)]
    have := ih (pre ++ [r]) k (by rw [List.append_assoc]; exact hp) (by omega)
    rw [List.length_append, List.length_singleton] at this
    exact this
theorem same14_is {D : DocP} (hD : Small D) {f : Nat} (hf : 3000 < f) : topiaryref14_Same.f f D.made D.placed D.rows D.regs D.made D.placed D.rows D.regs = some true := by
  have h1 := hD.made
  have h2 := hD.placed
  have h3 := hD.regs
  obtain ⟨f, rfl⟩ : ∃ j, f = j + 1 := ⟨f - 1, by omega⟩
  have e1 : topiaryref11_Same.f (f + 1) D.placed D.placed = some true := by unfold topiaryref11_Same.f; rw [if_pos rfl]; exact same11_l0 D.placed (by omega) D.placed [] (f + 1) rfl (by omega)
  have e2 : topiaryref13_Same.f (f + 1) D.regs D.regs = some true := by unfold topiaryref13_Same.f; rw [if_pos rfl]; exact same13_l0 D.regs (by omega) D.regs [] (f + 1) rfl (by omega)
  unfold topiaryref14_Same.f
  rw [if_pos rfl, if_pos rfl, e1, Option.bind_some, if_pos rfl, e2, Option.bind_some]
  exact same14_l0 hD D.made [] f rfl (by omega)
end Go.Proofs.Ytnkbgimihikhoaa.PVt
namespace Go.Proofs.Ytnkbgimihikhoaa.PVt
open Go.RowKit Go.Proofs.YtnkbgimihikhoaaW.PrintWords Go.Proofs.YtnkbgimihikhoaaW.PrintLast Go.Proofs.YtnkbgimihikhoaaW.PrintMore
open Go.Proofs.Ytnkbgimihikhoaa.Gm
set_option linter.unusedVariables false
set_option linter.unusedSimpArgs false
theorem F_up {α : Type} {d : Kd α} {w W : World} {A : Option Addr} {n : Nat} {xs : List α} (h : Kd.F d w (fun k => k < w.heap.size) A n xs) (hb : Below w.heap.size w W) : Kd.F d W (fun k => k < W.heap.size) A n xs :=
 Kd.F_mono (Kd.F_step h (fun i hi _ => hb.block i hi)) (fun i hi => Nat.lt_of_lt_of_le hi hb.size)
set_option maxHeartbeats 8000000 in
set_option maxRecDepth 100000 in
theorem vof_calls (w : World) (D : DocP) (hD : Small D) (A0 A1 A2 A3 : Option Addr) (c0 c1 c2 c3 : Nat) (hF0 : Kd.F k52 w (fun k => k < w.heap.size) A0 D.made.length D.made) (hF1 : Kd.F k97 w (fun k => k < w.heap.size) A1 D.placed.length D.placed) (hF2 : Kd.F k74 w (fun k => k < w.heap.size) A2 D.rows.length D.rows) (hF3 : Kd.F k111 w (fun k => k < w.heap.size) A3 D.regs.length D.regs) :
  Calls Try.prog 18 #[.agg #[.slice A0 D.made.length c0, .slice A1 D.placed.length c1, .slice A2 D.rows.length c2, .slice A3 D.regs.length c3]] w fun e w' => ∃ A4 c4 A5 c5, e = .returned (.tuple #[.agg #[.int .i64 (ofT D).1.f0.f0, .int .i64 (ofT D).1.f0.f1, .string (ofT D).1.f1, .string (ofT D).1.f2, .slice A4 (ofT D).1.f3.length c4, .slice A5 (ofT D).1.f4.length c5], .int .i64 (ofT D).2]) ∧ RK w' (ofT D).1 A4 c4 A5 c5 ∧ Below w.heap.size w w' := by
 have HD := Aside0.mk hD
 have hB0 : Below w.heap.size w ((w.alloc (.cells #[.slice A0 D.made.length c0, .slice A1 D.placed.length c1, .slice A2 D.rows.length c2, .slice A3 D.regs.length c3] 39)).alloc (.cells #[.int .i64 0, .int .i64 0, .string ⟨#[]⟩, .string ⟨#[]⟩, .slice none 0 0, .slice none 0 0] 27)) := below_alloc (below_alloc (Below.refl _ _) _) _
 have HOF := Aside0.mk (of_calls ((w.alloc (.cells #[.slice A0 D.made.length c0, .slice A1 D.placed.length c1, .slice A2 D.rows.length c2, .slice A3 D.regs.length c3] 39)).alloc (.cells #[.int .i64 0, .int .i64 0, .string ⟨#[]⟩, .string ⟨#[]⟩, .slice none 0 0, .slice none 0 0] 27)) D hD A0 A1 A2 A3 c0 c1 c2 c3 (F_up hF0 hB0) (F_up hF1 hB0) (F_up hF2 hB0) (F_up hF3 hB0))
 have HB0 := Aside0.mk hB0
 clear hB0 hF0 hF1 hF2 hF3 hD
 go_enter Try.func18, Try.ntmps18
 go_wp2_with (fail)
 refine HOF.out.mono ?_
 rintro e w1 ⟨p, m, a1, a2, a3, a4, rfl, hP, hpb, hse, hpm, hp0, hm0, hb⟩
 have hlo : w.heap.size + 2 ≤ p := by have h_ := hp0; rw [Mem.alloc_size, Mem.alloc_size] at h_; exact h_
 have hlm : w.heap.size + 2 ≤ m := by have h_ := hm0; rw [Mem.alloc_size, Mem.alloc_size] at h_; exact h_
 have HB2 : Aside0 (Below (w.heap.size + 2) ((w.alloc (.cells #[.slice A0 D.made.length c0, .slice A1 D.placed.length c1, .slice A2 D.rows.length c2, .slice A3 D.regs.length c3] 39)).alloc (.cells #[.int .i64 0, .int .i64 0, .string ⟨#[]⟩, .string ⟨#[]⟩, .slice none 0 0, .slice none 0 0] 27)) w1) := ⟨by have h_ := hb; rw [Mem.alloc_size, Mem.alloc_size] at h_; exact h_⟩
 have hN := node_calls50 D HD.out hP (Nat.le_refl _) (blk_lt' hpb) hse.lt hpm hlo hlm 8193 z23 rootTag [] w1 [] (Nat.zero_le _) (Nat.le_add_left _ _) (fun _ _ _ _ => rfl) (Nat.le_refl _) hpb ⟨hse, fun j => rfl⟩ rfl
 have HN : Aside0 (Calls Try.prog 50 #[.pointer (some ⟨p, 0, none⟩), .agg #[.int .i64 0, .int .i64 0], .string { data := #[114, 111, 111, 116] }] w1 _) := ⟨hN⟩
 have HW1 : Aside0 (w.heap.size + 2 ≤ w1.heap.size) := ⟨by have h_ := HB2.out.size; rw [Mem.alloc_size, Mem.alloc_size] at h_; exact h_⟩
 clear hP hpb hse hpm hp0 hm0 hb hN HOF
 go_wp2_with (fail)
 refine HN.out.mono ?_
 rintro e w2 ⟨A4, c4, A5, c5, rfl, hfk, hp2, ⟨fs2, hs2⟩, hk2, hb2⟩
 obtain ⟨r, hr_⟩ : ∃ r, nodeT D 8193 z23 rootTag [] = r := ⟨_, rfl⟩
 have HR := Aside0.mk hr_
 have hrf : r.1.f0 = z23 ∧ r.1.f1 = rootTag ∧ r.1.f2 = textP D.regs z23 ∧ r.1.f3 = attrsP D.regs z23 := by rw [← hr_]; exact ⟨rfl, rfl, rfl, rfl⟩
 have HRF := Aside0.mk hrf
 rw [hr_] at hfk hp2 hs2 ⊢
 have hfk' : Kd.FK k27 w2 (fun j => w1.heap.size ≤ j ∧ j < w2.heap.size) r.1 [.int .i64 0, .int .i64 0, .string { data := #[114, 111, 111, 116] }, .string (textP D.regs z23), .slice A4 (attrsP D.regs z23).length c4, .slice A5 r.1.f4.length c5] := hfk
 have HFK := Aside0.mk hfk'
 have hb12 := HB2.out.trans hb2
 have hr0 : w2.heap[w.heap.size + 1]? = some (.cells #[.int .i64 0, .int .i64 0, .string ⟨#[]⟩, .string ⟨#[]⟩, .slice none 0 0, .slice none 0 0] 27 (0, 0)) := (hb12.block _ (by omega)).trans (Mem.alloc_new_at _ _ _ (by rw [Mem.alloc_size]))
 have HBW : Aside0 (Below w.heap.size w w2) := ⟨(below_alloc (below_alloc (Below.refl _ _) _) _).trans (hb12.mono (by omega))⟩
 have HS : Aside0 (w.heap.size + 2 ≤ w2.heap.size) := ⟨by have h_ := hb12.size; rw [Mem.alloc_size, Mem.alloc_size] at h_; exact h_⟩
 obtain ⟨at_, hat_⟩ : ∃ z, attrsP D.regs z23 = z := ⟨_, rfl⟩
 obtain ⟨tx_, htx_⟩ : ∃ z, textP D.regs z23 = z := ⟨_, rfl⟩
 have HAT := Aside0.mk hat_
 have HTX := Aside0.mk htx_
 rw [hat_, htx_] at HFK ⊢
 rw [show z23.f0 = (0 : Int) from rfl, show z23.f1 = (0 : Int) from rfl, show rootTag = ({ data := #[114, 111, 111, 116] } : ByteArray) from rfl]
 have c5_ : (w2.alloc (.cells #[.int .i64 0, .int .i64 0, .string { data := #[114, 111, 111, 116] }, .string tx_, .slice A4 at_.length c4, .slice A5 r.1.f4.length c5] 27)).cell? ⟨p, 5, none⟩ = some (.int .i64 (r.2.length : Int)) := Mem.cell_alloc (Mem.cell_of hp2 5) _
 have hr := Mem.alloc_old hr0 (.cells #[.int .i64 0, .int .i64 0, .string { data := #[114, 111, 111, 116] }, .string tx_, .slice A4 at_.length c4, .slice A5 r.1.f4.length c5] 27)
 have h5 : (w2.alloc (.cells #[.int .i64 0, .int .i64 0, .string { data := #[114, 111, 111, 116] }, .string tx_, .slice A4 at_.length c4, .slice A5 r.1.f4.length c5] 27)).heap[w2.heap.size]? = some (.cells #[.int .i64 0, .int .i64 0, .string { data := #[114, 111, 111, 116] }, .string tx_, .slice A4 at_.length c4, .slice A5 r.1.f4.length c5] 27 (0, 0)) := Mem.alloc_new _ _
 have HB5 : Aside0 (Below w.heap.size w (w2.alloc (.cells #[.int .i64 0, .int .i64 0, .string { data := #[114, 111, 111, 116] }, .string tx_, .slice A4 at_.length c4, .slice A5 r.1.f4.length c5] 27))) := ⟨HBW.out.alloc HBW.out.size _⟩
 have HFK5 := Aside0.mk (Kd.FK_step HFK.out (W1 := (w2.alloc (.cells #[.int .i64 0, .int .i64 0, .string { data := #[114, 111, 111, 116] }, .string tx_, .slice A4 at_.length c4, .slice A5 r.1.f4.length c5] 27))) (fun i hi _ => (below_alloc (Below.refl _ _) _).block i hi.2))
 have HNE : Aside0 (w.heap.size + 1 < w2.heap.size) := ⟨by have := HS.out; omega⟩
 clear hrf hfk hfk' hp2 hs2 hk2 hb2 hb12 hr0 hat_ htx_ HN HB2
 go_upto_region 3 with (fail)
 generalize (w2.alloc (.cells #[.int .i64 0, .int .i64 0, .string { data := #[114, 111, 111, 116] }, .string tx_, .slice A4 at_.length c4, .slice A5 r.1.f4.length c5] 27)) = P5 at *
 have HK6 := Aside0.mk hr
 have y0 : P5.cell? ⟨w2.heap.size, 0, none⟩ = some (.int .i64 0) := Mem.cell_of h5 0
 have y1 : P5.cell? ⟨w2.heap.size, 1, none⟩ = some (.int .i64 0) := Mem.cell_of h5 1
 have y2 : P5.cell? ⟨w2.heap.size, 2, none⟩ = some (.string { data := #[114, 111, 111, 116] }) := Mem.cell_of h5 2
 have y3 : P5.cell? ⟨w2.heap.size, 3, none⟩ = some (.string tx_) := Mem.cell_of h5 3
 have y4 : P5.cell? ⟨w2.heap.size, 4, none⟩ = some (.slice A4 at_.length c4) := Mem.cell_of h5 4
 have y5 : P5.cell? ⟨w2.heap.size, 5, none⟩ = some (.slice A5 r.1.f4.length c5) := Mem.cell_of h5 5
 have g0 : P5.cell? ⟨w.heap.size + 1, 0, none⟩ = some (.int .i64 0) := Mem.cell_of hr 0
 have g1 : P5.cell? ⟨w.heap.size + 1, 1, none⟩ = some (.int .i64 0) := Mem.cell_of hr 1
 have g2 : P5.cell? ⟨w.heap.size + 1, 2, none⟩ = some (.string ⟨#[]⟩) := Mem.cell_of hr 2
 have g3 : P5.cell? ⟨w.heap.size + 1, 3, none⟩ = some (.string ⟨#[]⟩) := Mem.cell_of hr 3
 have g4 : P5.cell? ⟨w.heap.size + 1, 4, none⟩ = some (.slice none 0 0) := Mem.cell_of hr 4
 have g5 : P5.cell? ⟨w.heap.size + 1, 5, none⟩ = some (.slice none 0 0) := Mem.cell_of hr 5
 have fr0 := Mem.free_of hr 0
 have fr1 := Mem.free_of hr 1
 have fr2 := Mem.free_of hr 2
 have fr3 := Mem.free_of hr 3
 have fr4 := Mem.free_of hr 4
 have fr5 := Mem.free_of hr 5
 clear hr h5
 by_cases hbig : 8192 < r.2.length
 ·have e5 : ((8192 : Int) < (r.2.length : Int)) = True := eq_true (by omega)
  have e5b : (8192 < r.2.length) = True := eq_true hbig
  have HOFT : Aside0 (ofT D = (z27, 3)) := ⟨by unfold ofT; dsimp only; rw [HR.out, if_pos hbig]⟩
  clear hbig hr_
  go_wp2_with (fail)
  refine bodyPost_ret (results_ct rfl _ _ (w.heap.size + 1) 27 #[.int .i64 0, .int .i64 0, .string ⟨#[]⟩, .string ⟨#[]⟩, .slice none 0 0, .slice none 0 0] (0, 0) _ rfl (set6 HK6.out _ _ _ _ _ _) Try.underlying27 rfl (by kernel_rfl)) rfl ?_
  rw [HOFT.out]
  exact ⟨none, 0, none, 0, rfl, ⟨Nat.le_refl _, Kd.C_nil _ _, Nat.le_refl _, Kd.C_nil _ _⟩, set6_below HB5.out (by omega) _ _ _ _ _ _⟩
 ·have e5 : ((8192 : Int) < (r.2.length : Int)) = False := eq_false (by omega)
  have e5b : (8192 < r.2.length) = False := eq_false hbig
  have HOFT : Aside0 (ofT D = (r.1, 0)) := ⟨by unfold ofT; dsimp only; rw [HR.out, if_neg hbig]⟩
  clear hbig hr_
  go_wp2_with (fail)
  refine bodyPost_ret (results_ct rfl _ _ (w.heap.size + 1) 27 #[.int .i64 0, .int .i64 0, .string { data := #[114, 111, 111, 116] }, .string tx_, .slice A4 at_.length c4, .slice A5 r.1.f4.length c5] (0, 0) _ rfl (set6 HK6.out _ _ _ _ _ _) Try.underlying27 rfl (by kernel_rfl)) rfl ?_
  rw [HOFT.out]
  obtain ⟨rk, rl⟩ := r
  obtain ⟨h1_, h2_, h3_, h4_⟩ := HRF.out
  have hfk := Kd.FK_step HFK5.out (W1 := ((((((P5.setCell ⟨w.heap.size + 1, 0, none⟩ (.int .i64 0)).setCell ⟨w.heap.size + 1, 1, none⟩ (.int .i64 0)).setCell ⟨w.heap.size + 1, 2, none⟩ (.string { data := #[114, 111, 111, 116] })).setCell ⟨w.heap.size + 1, 3, none⟩ (.string tx_)).setCell ⟨w.heap.size + 1, 4, none⟩ (.slice A4 at_.length c4)).setCell ⟨w.heap.size + 1, 5, none⟩ (.slice A5 rk.f4.length c5))) (fun i hi _ => set6_far P5 (by have h5_ := HW1.out; have h6_ := hi.1; omega) _ _ _ _ _ _)
  obtain ⟨A4', c4', A5', c5', he, l4, g4, l5, g5⟩ := k27_openF hfk
  dsimp only at h1_ h2_ h3_ h4_
  rw [h1_, h2_, h3_, h4_, HAT.out, HTX.out] at he
  cases he
  refine ⟨A4, c4, A5, c5, ?_, ⟨l4, Kd.F_now g4, l5, Kd.F_now g5⟩, set6_below HB5.out (by omega) _ _ _ _ _ _⟩
  dsimp only
  rw [h1_, h2_, h3_, h4_, HAT.out, HTX.out]
  rfl
/-- Strings no longer than may be. -/
structure FitD (D : DocP) : Prop where
 made : ∀ x ∈ D.made, x.f1.size ≤ reachBytes
 regs : ∀ x ∈ D.regs, x.f1.size ≤ reachBytes ∧ x.f3.size ≤ reachBytes
theorem tagP_fit : ∀ (l : List S52) (k : S23) (t : ByteArray), (∀ x ∈ l, x.f1.size ≤ reachBytes) → tagP l k = some t → t.size ≤ reachBytes
 | [], k, t, _, h => by cases h
 | m :: l, k, t, hl, h => by
  rw [tagP] at h
  split at h
  ·injection h with h; rw [← h]; exact hl m List.mem_cons_self
  ·exact tagP_fit l k t (fun x hx => hl x (List.mem_cons_of_mem _ hx)) h
theorem none_fit : (⟨#[]⟩ : ByteArray).size ≤ reachBytes := by decide
theorem textP_fit : ∀ (l : List S111) (k : S23), (∀ x ∈ l, x.f1.size ≤ reachBytes ∧ x.f3.size ≤ reachBytes) → (textP l k).size ≤ reachBytes
 | [], k, _ => none_fit
 | r :: l, k, h => by
  have ih := textP_fit l k (fun x hx => h x (List.mem_cons_of_mem _ hx))
  rw [textP]
  split
  ·split
   ·split
    ·exact none_fit
    ·exact (h r List.mem_cons_self).2
   ·exact ih
  ·exact ih
theorem attrsP_fit : ∀ (l : List S111) (k : S23), (∀ x ∈ l, x.f1.size ≤ reachBytes ∧ x.f3.size ≤ reachBytes) → (attrsP l k).length ≤ l.length ∧ ∀ p ∈ attrsP l k, fitA p
 | [], k, _ => ⟨Nat.le_refl _, fun p hp => by cases hp⟩
 | r :: l, k, h => by
  obtain ⟨h1, h2⟩ := attrsP_fit l k (fun x hx => h x (List.mem_cons_of_mem _ hx))
  have hr := h r List.mem_cons_self
  rw [attrsP]
  split
  ·split
   ·exact ⟨Nat.le_succ_of_le h1, h2⟩
   ·split
    ·exact ⟨Nat.le_succ_of_le h1, h2⟩
    ·refine ⟨Nat.succ_le_succ h1, fun p hp => ?_⟩
     rcases List.mem_cons.1 hp with rfl | hp
     ·exact ⟨hr.1, hr.2⟩
     ·exact h2 p hp
  ·exact ⟨Nat.le_succ_of_le h1, h2⟩
theorem kidsF_fit {D : DocP} (hf : FitD D) {nd : S23 → ByteArray → List S23 → S27 × List S23} (h : ∀ k t s, t.size ≤ reachBytes → fitT (nd k t s).1) : ∀ l s, ∀ x ∈ (kidsF D nd l s).1, fitT x
 | [], s, x, hx => by cases hx
 | k :: t, s, x, hx => by
  rw [kidsF] at hx
  cases ht : tagP D.made k with
  | none => rw [ht] at hx; exact kidsF_fit hf h t s x hx
  | some tag =>
   rw [ht] at hx
   dsimp only at hx
   split at hx
   ·exact kidsF_fit hf h t s x hx
   ·rcases List.mem_cons.1 hx with rfl | hx
    ·exact h k tag s (tagP_fit _ _ _ hf.made ht)
    ·exact kidsF_fit hf h t _ x hx
theorem room_a {n : Nat} (h : n ≤ 600) : n * 32 ≤ reachBytes := by unfold reachBytes; omega
theorem room_k {n : Nat} (h : n ≤ 360000) : n * 96 ≤ reachBytes := by unfold reachBytes; omega
theorem nodeT_fit {D : DocP} (hD : Small D) (hf : FitD D) : ∀ q k t s, t.size ≤ reachBytes → fitT (nodeT D q k t s).1 := by
 intro q
 have ha := fun k => attrsP_fit D.regs k hf.regs
 have ht := fun k => textP_fit D.regs k hf.regs
 induction q with
 | zero =>
  intro k t s h
  exact (fitT_eq _).2 ⟨h, ht k, ⟨room_a (Nat.le_trans (ha k).1 hD.regs), (ha k).2⟩, ⟨Nat.zero_le _, by show fitTs []; rw [fitTs]; trivial⟩⟩
 | succ q ih =>
  intro k t s h
  refine (fitT_eq _).2 ⟨h, ht k, ⟨room_a (Nat.le_trans (ha k).1 hD.regs), (ha k).2⟩, ⟨room_k (Nat.le_trans (kidsF_le D (nodeT D q) _ _) (kidsL_le hD k)), fitTs_all _ (kidsF_fit hf ih _ _)⟩⟩
theorem ofT_fit {D : DocP} (hD : Small D) (hf : FitD D) : fitT (ofT D).1 := by
 unfold ofT
 dsimp only
 split
 ·exact (fitT_eq _).2 ⟨none_fit, none_fit, ⟨Nat.zero_le _, fun p hp => by cases hp⟩, ⟨Nat.zero_le _, by show fitTs []; rw [fitTs]; trivial⟩⟩
 ·exact nodeT_fit hD hf _ _ _ _ (by decide)
/-- A Doc that is read. -/
structure DK (w : World) (D : DocP) (A0 A1 A2 A3 : Option Addr) (c0 c1 c2 c3 : Nat) : Prop where
 m : Kd.C k52 w A0 D.made.length D.made
 mc : D.made.length ≤ c0
 p : Kd.C k97 w A1 D.placed.length D.placed
 pc : D.placed.length ≤ c1
 r : Kd.C k74 w A2 D.rows.length D.rows
 rc : D.rows.length ≤ c2
 g : Kd.C k111 w A3 D.regs.length D.regs
 gc : D.regs.length ≤ c3
theorem DK.below {w w' : World} {D : DocP} {A0 A1 A2 A3 : Option Addr} {c0 c1 c2 c3 : Nat} (h : DK w D A0 A1 A2 A3 c0 c1 c2 c3) (hb : Below w.heap.size w w') : DK w' D A0 A1 A2 A3 c0 c1 c2 c3 := ⟨Kd.C_below h.m hb, h.mc, Kd.C_below h.p hb, h.pc, Kd.C_below h.r hb, h.rc, Kd.C_below h.g hb, h.gc⟩
theorem light_calls (w : World) (D : DocP) {A0 A1 A2 A3 : Option Addr} {c0 c1 c2 c3 : Nat} (h : DK w D A0 A1 A2 A3 c0 c1 c2 c3) (hr : D.rows.length < 4611686018427387904) (hs : ∀ r ∈ D.rows, r.f1.length < 4611686018427387904) :
  ∃ b, (b = true → Small D) ∧ Calls Try.prog 16 #[.agg #[.slice A0 D.made.length c0, .slice A1 D.placed.length c1, .slice A2 D.rows.length c2, .slice A3 D.regs.length c3]] w fun e w' => e = .returned (.bool b) ∧ Below w.heap.size w w' := by
 obtain ⟨b, h1, h2⟩ := light_is D hr hs
 exact ⟨b, h2, topiarylaw15_light.calls _ A0 c0 _ A1 c1 _ A2 c2 _ A3 c3 _ b w h.m h.mc h.p h.pc h.r h.rc h.g h.gc h1⟩
theorem copy14_calls (w : World) {D : DocP} (hD : Small D) {A0 A1 A2 A3 : Option Addr} {c0 c1 c2 c3 : Nat} (h : DK w D A0 A1 A2 A3 c0 c1 c2 c3) :
  Calls Try.prog 17 #[.agg #[.slice A0 D.made.length c0, .slice A1 D.placed.length c1, .slice A2 D.rows.length c2, .slice A3 D.regs.length c3]] w fun e w' => ∃ B0 B1 B2 B3 d0 d1 d2 d3, e = .returned (.agg #[.slice B0 D.made.length d0, .slice B1 D.placed.length d1, .slice B2 D.rows.length d2, .slice B3 D.regs.length d3]) ∧ DK w' D B0 B1 B2 B3 d0 d1 d2 d3 ∧ Below w.heap.size w w' := by
 refine (topiaryref14_Copy.calls 1000 A0 c0 _ A1 c1 _ A2 c2 _ A3 c3 _ _ _ _ _ w h.m h.mc h.p h.pc h.r h.rc h.g h.gc (Copy_is hD (by omega))).mono ?_
 rintro e w' ⟨v0, v1, v2, v3, rfl, h0, h1, h2, h3, hb⟩
 obtain ⟨B0, d0, rfl, l0, g0⟩ := Kd.R_reads h0
 obtain ⟨B1, d1, rfl, l1, g1⟩ := Kd.R_reads h1
 obtain ⟨B2, d2, rfl, l2, g2⟩ := Kd.S_reads h2
 obtain ⟨B3, d3, rfl, l3, g3⟩ := Kd.R_reads h3
 exact ⟨B0, B1, B2, B3, d0, d1, d2, d3, rfl, ⟨g0, l0, g1, l1, g2, l2, g3, l3⟩, hb⟩
theorem same14_calls (w : World) {D : DocP} (hD : Small D) {A0 A1 A2 A3 B0 B1 B2 B3 : Option Addr} {c0 c1 c2 c3 d0 d1 d2 d3 : Nat} (h : DK w D A0 A1 A2 A3 c0 c1 c2 c3) (k : DK w D B0 B1 B2 B3 d0 d1 d2 d3) :
  Calls Try.prog 20 #[.agg #[.slice A0 D.made.length c0, .slice A1 D.placed.length c1, .slice A2 D.rows.length c2, .slice A3 D.regs.length c3], .agg #[.slice B0 D.made.length d0, .slice B1 D.placed.length d1, .slice B2 D.rows.length d2, .slice B3 D.regs.length d3]] w fun e w' => e = .returned (.bool true) ∧ Below w.heap.size w w' :=
 topiaryref14_Same.calls 4000 A0 c0 _ A1 c1 _ A2 c2 _ A3 c3 _ B0 d0 _ B1 d1 _ B2 d2 _ B3 d3 _ true w h.m h.mc h.p h.pc h.r h.rc h.g h.gc k.m k.mc k.p k.pc k.r k.rc k.g k.gc (same14_is hD (by omega))
theorem rof_calls (w : World) {D : DocP} (hD : Small D) {A0 A1 A2 A3 : Option Addr} {c0 c1 c2 c3 : Nat} (h : DK w D A0 A1 A2 A3 c0 c1 c2 c3) :
  Calls Try.prog 19 #[.agg #[.slice A0 D.made.length c0, .slice A1 D.placed.length c1, .slice A2 D.rows.length c2, .slice A3 D.regs.length c3]] w fun e w' => ∃ E4 e4 E5 e5, e = .returned (.tuple #[.agg #[.int .i64 (ofT D).1.f0.f0, .int .i64 (ofT D).1.f0.f1, .string (ofT D).1.f1, .string (ofT D).1.f2, .slice E4 (ofT D).1.f3.length e4, .slice E5 (ofT D).1.f4.length e5], .int .i64 (ofT D).2]) ∧ RK w' (ofT D).1 E4 e4 E5 e5 ∧ Below w.heap.size w w' := by
 refine (topiaryref15_Of.calls 6555600001 A0 c0 _ A1 c1 _ A2 c2 _ A3 c3 _ _ _ _ _ _ _ _ w h.m h.mc h.p h.pc h.r h.rc h.g h.gc (rOf_is hD (by omega))).mono ?_
 rintro e w' ⟨v4, v5, rfl, h4, h5, hb⟩
 obtain ⟨E4, e4, rfl, l4, g4⟩ := Kd.R_reads h4
 obtain ⟨E5, e5, rfl, l5, g5⟩ := Kd.N_reads h5
 exact ⟨E4, e4, E5, e5, rfl, ⟨l4, g4, l5, g5⟩, hb⟩
theorem vof_calls' (w : World) {D : DocP} (hD : Small D) {A0 A1 A2 A3 : Option Addr} {c0 c1 c2 c3 : Nat} (h : DK w D A0 A1 A2 A3 c0 c1 c2 c3) :
  Calls Try.prog 18 #[.agg #[.slice A0 D.made.length c0, .slice A1 D.placed.length c1, .slice A2 D.rows.length c2, .slice A3 D.regs.length c3]] w fun e w' => ∃ E4 e4 E5 e5, e = .returned (.tuple #[.agg #[.int .i64 (ofT D).1.f0.f0, .int .i64 (ofT D).1.f0.f1, .string (ofT D).1.f1, .string (ofT D).1.f2, .slice E4 (ofT D).1.f3.length e4, .slice E5 (ofT D).1.f4.length e5], .int .i64 (ofT D).2]) ∧ RK w' (ofT D).1 E4 e4 E5 e5 ∧ Below w.heap.size w w' :=
 vof_calls w D hD A0 A1 A2 A3 c0 c1 c2 c3 (Kd.C_F k52_heap h.m) (Kd.C_F k97_heap h.p) (Kd.C_F k74_heap h.r) (Kd.C_F k111_heap h.g)
/-- A box, read in a world that came later. -/
theorem box_now {U w : World} {b : Nat} {o : Obj} (h : U.heap[b]? = some o) (hb : Below U.heap.size U w) : w.heap[b]? = some o := (hb.block b (blk_lt' h)).trans h
set_option maxHeartbeats 8000000 in
set_option maxRecDepth 100000 in
theorem of_law_calls (w : World) (D : DocP) (A0 A1 A2 A3 : Option Addr) (c0 c1 c2 c3 : Nat) (h : DK w D A0 A1 A2 A3 c0 c1 c2 c3) (hf : FitD D) (hr : D.rows.length < 4611686018427387904) (hs : ∀ r ∈ D.rows, r.f1.length < 4611686018427387904) :
  Calls Try.prog 4 #[.agg #[.slice A0 D.made.length c0, .slice A1 D.placed.length c1, .slice A2 D.rows.length c2, .slice A3 D.regs.length c3]] w fun e w' => e = .returned (.bool true) ∧ Below w.heap.size w w' := by
 have hb1 : Below w.heap.size w (w.alloc (.cells #[.slice A0 D.made.length c0, .slice A1 D.placed.length c1, .slice A2 D.rows.length c2, .slice A3 D.regs.length c3] 39)) := below_alloc (Below.refl _ _) _
 have h1 : (w.alloc (.cells #[.slice A0 D.made.length c0, .slice A1 D.placed.length c1, .slice A2 D.rows.length c2, .slice A3 D.regs.length c3] 39)).heap[w.heap.size]? = some (.cells #[.slice A0 D.made.length c0, .slice A1 D.placed.length c1, .slice A2 D.rows.length c2, .slice A3 D.regs.length c3] 39 (0, 0)) := Mem.alloc_new _ _
 obtain ⟨b, hsm, hli⟩ := light_calls _ D (h.below hb1) hr hs
 have HLI := Aside0.mk hli
 have HB1 := Aside0.mk hb1
 have HDK := Aside0.mk (h.below hb1)
 have HX1 := Aside0.mk h1
 have HFD := Aside0.mk hf
 clear hr hs h hli hb1 h1 hf
 go_enter Try.func4, Try.ntmps4
 go_wp2_with (fail)
 refine HLI.out.mono ?_
 rintro e w1 ⟨rfl, hb2⟩
 have HB2 := Aside0.mk hb2
 have HW1 : Aside0 (Below w.heap.size w w1) := ⟨HB1.out.trans (hb2.mono HB1.out.size)⟩
 have HX2 := Aside0.mk (box_now HX1.out hb2)
 have HDK2 := Aside0.mk (HDK.out.below hb2)
 clear hb2 HLI
 cases b with
 | false =>
  go_wp2_with (fail)
  refine (awake_calls w1).mono ?_
  rintro e w2 ⟨rfl, hb3⟩
  have HB3 := Aside0.mk hb3
  clear hb3
  go_wp2_with (fail)
  go_ret
  exact ⟨rfl, HW1.out.trans (HB3.out.mono HW1.out.size)⟩
 | true =>
  have HS := Aside0.mk (hsm rfl)
  clear hsm
  have x0 : w1.cell? ⟨w.heap.size, 0, none⟩ = some (.slice A0 D.made.length c0) := Mem.cell_of HX2.out 0
  have x1 : w1.cell? ⟨w.heap.size, 1, none⟩ = some (.slice A1 D.placed.length c1) := Mem.cell_of HX2.out 1
  have x2 : w1.cell? ⟨w.heap.size, 2, none⟩ = some (.slice A2 D.rows.length c2) := Mem.cell_of HX2.out 2
  have x3 : w1.cell? ⟨w.heap.size, 3, none⟩ = some (.slice A3 D.regs.length c3) := Mem.cell_of HX2.out 3
  go_wp2_with (fail)
  refine (copy14_calls w1 HS.out HDK2.out).mono ?_
  rintro e w2 ⟨B0, B1, B2, B3, d0, d1, d2, d3, rfl, hk3, hb3⟩
  clear x0 x1 x2 x3
  have hU : Below w1.heap.size w1 (w2.alloc (.cells #[.slice B0 D.made.length d0, .slice B1 D.placed.length d1, .slice B2 D.rows.length d2, .slice B3 D.regs.length d3] 39)) := hb3.trans ((below_alloc (Below.refl _ _) _).mono hb3.size)
  have HW3 : Aside0 (Below w.heap.size w (w2.alloc (.cells #[.slice B0 D.made.length d0, .slice B1 D.placed.length d1, .slice B2 D.rows.length d2, .slice B3 D.regs.length d3] 39))) := ⟨HW1.out.trans (hU.mono HW1.out.size)⟩
  have HX3 := Aside0.mk (box_now HX2.out hU)
  have HDK3 := Aside0.mk (HDK2.out.below hU)
  have HOK3 := Aside0.mk (hk3.below (below_alloc (Below.refl _ _) (.cells #[.slice B0 D.made.length d0, .slice B1 D.placed.length d1, .slice B2 D.rows.length d2, .slice B3 D.regs.length d3] 39)))
  have HY3 : Aside0 ((w2.alloc (.cells #[.slice B0 D.made.length d0, .slice B1 D.placed.length d1, .slice B2 D.rows.length d2, .slice B3 D.regs.length d3] 39)).heap[w2.heap.size]? = some (.cells #[.slice B0 D.made.length d0, .slice B1 D.placed.length d1, .slice B2 D.rows.length d2, .slice B3 D.regs.length d3] 39 (0, 0))) := ⟨Mem.alloc_new _ _⟩
  clear hb3 hk3 hU
  go_upto_region 4 with (fail)
  generalize w2.alloc (.cells #[.slice B0 D.made.length d0, .slice B1 D.placed.length d1, .slice B2 D.rows.length d2, .slice B3 D.regs.length d3] 39) = V3 at *
  generalize w2.heap.size = bo at *
  have y0 : V3.cell? ⟨bo, 0, none⟩ = some (.slice B0 D.made.length d0) := Mem.cell_of HY3.out 0
  have y1 : V3.cell? ⟨bo, 1, none⟩ = some (.slice B1 D.placed.length d1) := Mem.cell_of HY3.out 1
  have y2 : V3.cell? ⟨bo, 2, none⟩ = some (.slice B2 D.rows.length d2) := Mem.cell_of HY3.out 2
  have y3 : V3.cell? ⟨bo, 3, none⟩ = some (.slice B3 D.regs.length d3) := Mem.cell_of HY3.out 3
  go_wp2_with (fail)
  refine (vof_calls' V3 HS.out HOK3.out).mono ?_
  rintro e w4 ⟨E4, e4, E5, e5, rfl, hrk, hb4⟩
  clear y0 y1 y2 y3
  have HFT := Aside0.mk (ofT_fit HS.out HFD.out)
  obtain ⟨t, ht⟩ : ∃ t, (ofT D).1 = t := ⟨_, rfl⟩
  obtain ⟨en, hen⟩ : ∃ en, (ofT D).2 = en := ⟨_, rfl⟩
  have HT := Aside0.mk ht
  have HEN := Aside0.mk hen
  rw [ht, hen]
  rw [ht] at hrk HFT
  clear ht hen
  have hU : Below V3.heap.size V3 (w4.alloc (.cells #[.int .i64 t.f0.f0, .int .i64 t.f0.f1, .string t.f1, .string t.f2, .slice E4 t.f3.length e4, .slice E5 t.f4.length e5] 27)) := hb4.trans ((below_alloc (Below.refl _ _) _).mono hb4.size)
  have HW4 : Aside0 (Below w.heap.size w (w4.alloc (.cells #[.int .i64 t.f0.f0, .int .i64 t.f0.f1, .string t.f1, .string t.f2, .slice E4 t.f3.length e4, .slice E5 t.f4.length e5] 27))) := ⟨HW3.out.trans (hU.mono HW3.out.size)⟩
  have HX4 := Aside0.mk (box_now HX3.out hU)
  have HY4 := Aside0.mk (box_now HY3.out hU)
  have HDK4 := Aside0.mk (HDK3.out.below hU)
  have HOK4 := Aside0.mk (HOK3.out.below hU)
  have HRK4 := Aside0.mk (hrk.below (below_alloc (Below.refl _ _) (.cells #[.int .i64 t.f0.f0, .int .i64 t.f0.f1, .string t.f1, .string t.f2, .slice E4 t.f3.length e4, .slice E5 t.f4.length e5] 27)))
  have HZ4 : Aside0 ((w4.alloc (.cells #[.int .i64 t.f0.f0, .int .i64 t.f0.f1, .string t.f1, .string t.f2, .slice E4 t.f3.length e4, .slice E5 t.f4.length e5] 27)).heap[w4.heap.size]? = some (.cells #[.int .i64 t.f0.f0, .int .i64 t.f0.f1, .string t.f1, .string t.f2, .slice E4 t.f3.length e4, .slice E5 t.f4.length e5] 27 (0, 0))) := ⟨Mem.alloc_new _ _⟩
  clear hb4 hrk hU
  go_upto_region 5 with (fail)
  generalize w4.alloc (.cells #[.int .i64 t.f0.f0, .int .i64 t.f0.f1, .string t.f1, .string t.f2, .slice E4 t.f3.length e4, .slice E5 t.f4.length e5] 27) = V4 at *
  generalize w4.heap.size = bt at *
  have x0 : V4.cell? ⟨w.heap.size, 0, none⟩ = some (.slice A0 D.made.length c0) := Mem.cell_of HX4.out 0
  have x1 : V4.cell? ⟨w.heap.size, 1, none⟩ = some (.slice A1 D.placed.length c1) := Mem.cell_of HX4.out 1
  have x2 : V4.cell? ⟨w.heap.size, 2, none⟩ = some (.slice A2 D.rows.length c2) := Mem.cell_of HX4.out 2
  have x3 : V4.cell? ⟨w.heap.size, 3, none⟩ = some (.slice A3 D.regs.length c3) := Mem.cell_of HX4.out 3
  go_wp2_with (fail)
  refine (rof_calls V4 HS.out HDK4.out).mono ?_
  rintro e w5 ⟨G4, g4, G5, g5, rfl, hrk, hb5⟩
  clear x0 x1 x2 x3
  rw [HT.out, HEN.out]
  rw [HT.out] at hrk
  have hU : Below V4.heap.size V4 (w5.alloc (.cells #[.int .i64 t.f0.f0, .int .i64 t.f0.f1, .string t.f1, .string t.f2, .slice G4 t.f3.length g4, .slice G5 t.f4.length g5] 27)) := hb5.trans ((below_alloc (Below.refl _ _) _).mono hb5.size)
  have HW5 : Aside0 (Below w.heap.size w (w5.alloc (.cells #[.int .i64 t.f0.f0, .int .i64 t.f0.f1, .string t.f1, .string t.f2, .slice G4 t.f3.length g4, .slice G5 t.f4.length g5] 27))) := ⟨HW4.out.trans (hU.mono HW4.out.size)⟩
  have HX5 := Aside0.mk (box_now HX4.out hU)
  have HY5 := Aside0.mk (box_now HY4.out hU)
  have HZ5 := Aside0.mk (box_now HZ4.out hU)
  have HDK5 := Aside0.mk (HDK4.out.below hU)
  have HOK5 := Aside0.mk (HOK4.out.below hU)
  have HRK5 := Aside0.mk (HRK4.out.below hU)
  have HSK5 := Aside0.mk (hrk.below (below_alloc (Below.refl _ _) (.cells #[.int .i64 t.f0.f0, .int .i64 t.f0.f1, .string t.f1, .string t.f2, .slice G4 t.f3.length g4, .slice G5 t.f4.length g5] 27)))
  have HV5 : Aside0 ((w5.alloc (.cells #[.int .i64 t.f0.f0, .int .i64 t.f0.f1, .string t.f1, .string t.f2, .slice G4 t.f3.length g4, .slice G5 t.f4.length g5] 27)).heap[w5.heap.size]? = some (.cells #[.int .i64 t.f0.f0, .int .i64 t.f0.f1, .string t.f1, .string t.f2, .slice G4 t.f3.length g4, .slice G5 t.f4.length g5] 27 (0, 0))) := ⟨Mem.alloc_new _ _⟩
  clear hb5 hrk hU
  go_upto_region 6 with (fail)
  generalize w5.alloc (.cells #[.int .i64 t.f0.f0, .int .i64 t.f0.f1, .string t.f1, .string t.f2, .slice G4 t.f3.length g4, .slice G5 t.f4.length g5] 27) = V5 at *
  generalize w5.heap.size = bw at *
  have z0 : V5.cell? ⟨bt, 0, none⟩ = some (.int .i64 t.f0.f0) := Mem.cell_of HZ5.out 0
  have z1 : V5.cell? ⟨bt, 1, none⟩ = some (.int .i64 t.f0.f1) := Mem.cell_of HZ5.out 1
  have z2 : V5.cell? ⟨bt, 2, none⟩ = some (.string t.f1) := Mem.cell_of HZ5.out 2
  have z3 : V5.cell? ⟨bt, 3, none⟩ = some (.string t.f2) := Mem.cell_of HZ5.out 3
  have z4 : V5.cell? ⟨bt, 4, none⟩ = some (.slice E4 t.f3.length e4) := Mem.cell_of HZ5.out 4
  have z5 : V5.cell? ⟨bt, 5, none⟩ = some (.slice E5 t.f4.length e5) := Mem.cell_of HZ5.out 5
  have v0 : V5.cell? ⟨bw, 0, none⟩ = some (.int .i64 t.f0.f0) := Mem.cell_of HV5.out 0
  have v1 : V5.cell? ⟨bw, 1, none⟩ = some (.int .i64 t.f0.f1) := Mem.cell_of HV5.out 1
  have v2 : V5.cell? ⟨bw, 2, none⟩ = some (.string t.f1) := Mem.cell_of HV5.out 2
  have v3 : V5.cell? ⟨bw, 3, none⟩ = some (.string t.f2) := Mem.cell_of HV5.out 3
  have v4 : V5.cell? ⟨bw, 4, none⟩ = some (.slice G4 t.f3.length g4) := Mem.cell_of HV5.out 4
  have v5 : V5.cell? ⟨bw, 5, none⟩ = some (.slice G5 t.f4.length g5) := Mem.cell_of HV5.out 5
  go_wp2_with (fail)
  refine (rsame_calls V5 t t _ _ _ _ _ _ _ _ HRK5.out HSK5.out HFT.out).mono ?_
  rintro e w6 ⟨rfl, hb6⟩
  rw [eqT_self]
  have HB6 := Aside0.mk hb6
  have HX6 := Aside0.mk (box_now HX5.out hb6)
  have HY6 := Aside0.mk (box_now HY5.out hb6)
  have HDK6 := Aside0.mk (HDK5.out.below hb6)
  have HOK6 := Aside0.mk (HOK5.out.below hb6)
  have HW6 : Aside0 (Below w.heap.size w w6) := ⟨HW5.out.trans (hb6.mono HW5.out.size)⟩
  clear hb6 z0 z1 z2 z3 z4 z5 v0 v1 v2 v3 v4 v5
  have x0 : w6.cell? ⟨w.heap.size, 0, none⟩ = some (.slice A0 D.made.length c0) := Mem.cell_of HX6.out 0
  have x1 : w6.cell? ⟨w.heap.size, 1, none⟩ = some (.slice A1 D.placed.length c1) := Mem.cell_of HX6.out 1
  have x2 : w6.cell? ⟨w.heap.size, 2, none⟩ = some (.slice A2 D.rows.length c2) := Mem.cell_of HX6.out 2
  have x3 : w6.cell? ⟨w.heap.size, 3, none⟩ = some (.slice A3 D.regs.length c3) := Mem.cell_of HX6.out 3
  have y0 : w6.cell? ⟨bo, 0, none⟩ = some (.slice B0 D.made.length d0) := Mem.cell_of HY6.out 0
  have y1 : w6.cell? ⟨bo, 1, none⟩ = some (.slice B1 D.placed.length d1) := Mem.cell_of HY6.out 1
  have y2 : w6.cell? ⟨bo, 2, none⟩ = some (.slice B2 D.rows.length d2) := Mem.cell_of HY6.out 2
  have y3 : w6.cell? ⟨bo, 3, none⟩ = some (.slice B3 D.regs.length d3) := Mem.cell_of HY6.out 3
  go_wp2_with (fail)
  refine (same14_calls w6 HS.out HOK6.out HDK6.out).mono ?_
  rintro e w7 ⟨rfl, hb7⟩
  have HW7 : Aside0 (Below w.heap.size w w7) := ⟨HW6.out.trans (hb7.mono HW6.out.size)⟩
  clear hb7 x0 x1 x2 x3 y0 y1 y2 y3
  go_wp2_with (fail)
  refine (awake_calls w7).mono ?_
  rintro e w8 ⟨rfl, hb8⟩
  have HW8 : Aside0 (Below w.heap.size w w8) := ⟨HW7.out.trans (hb8.mono HW7.out.size)⟩
  clear hb8
  go_wp2_with (fail)
  go_ret
  exact ⟨rfl, HW8.out⟩
end Go.Proofs.Ytnkbgimihikhoaa.PVt
namespace Go.Proofs.Ytnkbgimihikhoaa.PVt
open Go.RowKit Go.Proofs.YtnkbgimihikhoaaW.PrintWords Go.Proofs.YtnkbgimihikhoaaW.PrintLast Go.Proofs.YtnkbgimihikhoaaW.PrintMore
set_option linter.unusedVariables false
set_option linter.unusedSimpArgs false
def k39 : Kd DocP := Kd.iso (Kd.pair (Kd.slice 52 k52) (Kd.pair (Kd.slice 97 k97) (Kd.pair (Kd.slice 74 k74) (Kd.slice 111 k111)))) (fun x : DocP => (x.made, x.placed, x.rows, x.regs))
theorem k39_open {w : World} {x : DocP} {cs : List Value} (h : k39.K w x cs) : ∃ A0 c0 A1 c1 A2 c2 A3 c3, cs = [.slice A0 x.made.length c0, .slice A1 x.placed.length c1, .slice A2 x.rows.length c2, .slice A3 x.regs.length c3] ∧ DK w x A0 A1 A2 A3 c0 c1 c2 c3 := by
  obtain ⟨_, _, rfl, ⟨A0, c0, rfl, l0, g0⟩, ⟨_, _, rfl, ⟨A1, c1, rfl, l1, g1⟩, ⟨_, _, rfl, ⟨A2, c2, rfl, l2, g2⟩, ⟨A3, c3, rfl, l3, g3⟩⟩⟩⟩ := h
  exact ⟨A0, c0, A1, c1, A2, c2, A3, c3, rfl, ⟨g0, l0, g1, l1, g2, l2, g3, l3⟩⟩
end Go.Proofs.Ytnkbgimihikhoaa.PVt
