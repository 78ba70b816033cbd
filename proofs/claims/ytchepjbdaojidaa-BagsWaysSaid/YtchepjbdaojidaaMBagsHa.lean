/- The net in memory: New, Size, link, wait, frame, put, Send, Peek, Lose keep it, under the bounds that each contract names. -/
import Derived.Test.YtchepjbdaojidaaWWords
import Derived.Test.YtchepjbdaojidaaMBagsXa
import Derived.WalkSpells
import Derived.IntWalk
import Derived.Laws.CopyRow
namespace Go.Proofs.Ytchepjbdaojidaa.Mem
open Go.RowKit Go.Proofs.YtchepjbdaojidaaW.PrintWords
theorem cell_of {w : World} {b : Nat} {c : Array Value} {e : TypeId} {fr : Nat × Nat} (h : w.heap[b]? = some (.cells c e fr)) (o : Nat) : w.cell? ⟨b, o, none⟩ = c[o]? := by
  unfold World.cell?
  dsimp only
  rw [h]
  rfl
theorem free_of {w : World} {b : Nat} {c : Array Value} {e : TypeId} (h : w.heap[b]? = some (.cells c e (0, 0))) (o : Nat) : w.frozen? ⟨b, o, none⟩ = false := by
  unfold World.frozen?
  dsimp only
  rw [h]
  simp
theorem alloc_old {w : World} {b : Nat} {x : Obj} (h : w.heap[b]? = some x) (o : Obj) : (w.alloc o).heap[b]? = some x := by
  have hb := (Array.getElem?_eq_some_iff.1 h).1
  show (w.heap.push o)[b]? = _
  rw [Array.getElem?_push, if_neg (by omega)]
  exact h
theorem alloc_new (w : World) (o : Obj) : (w.alloc o).heap[w.heap.size]? = some o := by
  show (w.heap.push o)[w.heap.size]? = _
  simp
theorem alloc_new_at (w : World) (o : Obj) (n : Nat) (h : n = w.heap.size) : (w.alloc o).heap[n]? = some o := by subst h; exact alloc_new w o
theorem alloc_size (w : World) (o : Obj) : (w.alloc o).heap.size = w.heap.size + 1 := by
  show (w.heap.push o).size = _
  simp
theorem cell_alloc {w : World} {a : Addr} {v : Value} (h : w.cell? a = some v) (o : Obj) : (w.alloc o).cell? a = some v := by
  have hb : a.block < w.heap.size := World.block_lt_of_cell? w _ h
  unfold World.cell? at h ⊢
  have e : (w.alloc o).heap[a.block]? = w.heap[a.block]? := by
    show (w.heap.push o)[a.block]? = _
    rw [Array.getElem?_push, if_neg (by omega)]
  rw [e]
  exact h
theorem set_heap {w : World} {b : Nat} {c : Array Value} {e : TypeId} {fr : Nat × Nat} (h : w.heap[b]? = some (.cells c e fr)) (o : Nat) (v : Value) : (w.setCell ⟨b, o, none⟩ v).heap[b]? = some (.cells (c.setIfInBounds o v) e fr) := by
  unfold World.setCell
  dsimp only
  rw [Array.getElem?_modify, if_pos rfl, h]
  rfl
theorem set_other (w : World) (a : Addr) (v : Value) (b : Nat) (h : b ≠ a.block) : (w.setCell a v).heap[b]? = w.heap[b]? := Below.heap_setCell w a v b h
theorem set_size (w : World) (a : Addr) (v : Value) : (w.setCell a v).heap.size = w.heap.size := by
  unfold World.setCell
  simp
end Go.Proofs.Ytchepjbdaojidaa.Mem
namespace Go.Proofs.Ytchepjbdaojidaa.PBags
open Go.RowKit Go.Proofs.YtchepjbdaojidaaW.PrintWords Go.Proofs.YtchepjbdaojidaaW.PrintLast Go.Proofs.YtchepjbdaojidaaW.PrintMore
attribute [local go_sem] max2_int min2_int max_two min_two max_three min_three max_four min_four
set_option linter.unusedVariables false
set_option linter.unusedSimpArgs false
/-- The blocks S may have been written, new ones laid; all else is as it was. -/
structure Kept (w W : World) (S : Nat → Prop) : Prop where
  size : w.heap.size ≤ W.heap.size
  block : ∀ i, i < w.heap.size → ¬ S i → W.heap[i]? = w.heap[i]?
  os : W.os = w.os
  tape : W.tape = w.tape
  output : W.output = w.output
section
variable {w W W2 : World} {S S2 S' : Nat → Prop}
theorem Kept.old (h : Kept w W S) : Go.Proofs.YtchepjbdaojidaaW.PrintWords.Kept w W S := ⟨h.size, h.block⟩
theorem Kept.refl (w : World) (S : Nat → Prop) : Kept w w S := ⟨Nat.le_refl _, fun _ _ _ => rfl, rfl, rfl, rfl⟩
theorem Kept.of_below (h : Below w.heap.size w W) (S : Nat → Prop) : Kept w W S := ⟨h.size, fun i hi _ => h.block i hi, h.os, h.tape, h.output⟩
theorem Kept.mono (h : Kept w W S) (hs : ∀ k, S k → S' k) : Kept w W S' := ⟨h.size, fun i hi hn => h.block i hi (fun hk => hn (hs i hk)), h.os, h.tape, h.output⟩
theorem Kept.then_ (h : Kept w W S) (k : Kept W W2 S2) (hs : ∀ k, S2 k → S k ∨ w.heap.size ≤ k) : Kept w W2 S :=
  ⟨Nat.le_trans h.size k.size, fun i hi hn => (k.block i (Nat.lt_of_lt_of_le hi h.size) (fun h2 => (hs i h2).elim hn (fun h3 => by omega))).trans (h.block i hi hn), k.os.trans h.os, k.tape.trans h.tape, k.output.trans h.output⟩
theorem Kept.of_grown {row : Option Nat} (hg : W.grownBy W2 row) (h : Kept w W S) (hr : ∀ k, row = some k → S k ∨ w.heap.size ≤ k) : Kept w W2 S :=
  h.then_ (S2 := fun k => row = some k) ⟨hg.size, fun i hi hn => hg.block i hi (fun he => hn he.symm), hg.os, hg.tape, hg.output⟩ hr
theorem Kept.below (h : Kept w W S) (hb : Below W.heap.size W W2) : Kept w W2 S := h.then_ (Kept.of_below hb (fun _ => False)) (fun _ hk => hk.elim)
theorem Kept.alloc (h : Kept w W S) (o : Obj) : Kept w (W.alloc o) S := h.below (below_alloc (Below.refl _ _) o)
theorem Kept.drew (h : Kept w W S) : Kept w W.drew S := ⟨h.size, h.block, h.os, h.tape, h.output⟩
theorem Kept.setCell (h : Kept w W S) {p : Addr} (hp : S p.block ∨ w.heap.size ≤ p.block) (u : Value) : Kept w (W.setCell p u) S :=
  h.then_ (S2 := fun k => k = p.block) ⟨by simp [World.setCell], fun i _ hn => Below.heap_setCell W p u i hn, rfl, rfl, rfl⟩ (fun k hk => by rw [hk]; exact hp)
/-- Where nothing of old was written. -/
theorem Kept.to_below (h : Kept w W S) (hS : ∀ k, S k → w.heap.size ≤ k) : Below w.heap.size w W := ⟨h.os, h.tape, h.output, h.size, fun k hk => h.block k hk (fun hs => by have := hS k hs; omega)⟩
theorem Kd.R_kept {α : Type} {d : Kd α} {e base : Nat} {ok : Nat → Prop} {v : Value} {xs : List α} (h : d.R e W base ok v xs) (hk : Kept W W2 S) (hne : ∀ k, ok k → ¬ S k) : d.R e W2 base ok v xs := Go.Proofs.YtchepjbdaojidaaW.PrintWords.Kd.R_kept h hk.old hne
theorem Kd.V_kept {α : Type} {d : Kd α} {e base : Nat} {ok : Nat → Prop} {v : Value} {xs : List α} (h : Kd.V d e W base ok v xs) (hk : Kept W W2 S) (hne : ∀ k, ok k → ¬ S k) : Kd.V d e W2 base ok v xs := Go.Proofs.YtchepjbdaojidaaW.PrintWords.Kd.V_kept h hk.old hne
end
abbrev Frame := List Int × Bool
def frameK : Kd Frame := Kd.pair (Kd.slice 5 (Kd.int .u8)) Kd.bool
def bagK : Kd (List Frame) := Kd.slice 68 frameK
/-- The net at block g: P are its blocks. -/
def NetI (w : World) (base : Nat) (P : Nat → Prop) (g n : Nat) (bs : List (List Frame)) : Prop :=
  ∃ A c, w.heap[g]? = some (.cells #[.int .i64 (n : Int), .slice A (n * n) c] 65 (0, 0)) ∧ base ≤ g ∧ P g ∧ 1 ≤ n ∧ n ≤ 64 ∧ bs.length = n * n ∧ Kd.S bagK 69 w base (fun k => P k ∧ k ≠ g) (.slice A (n * n) c) bs
theorem NetI.size {w : World} {base : Nat} {P : Nat → Prop} {g n : Nat} {bs : List (List Frame)} (h : NetI w base P g n bs) : w.cell? ⟨g, 0, none⟩ = some (.int .i64 (n : Int)) ∧ 1 ≤ n ∧ n ≤ 64 := by
  obtain ⟨A, c, h1, h2, h3, h4, h5, h6, h7⟩ := h
  exact ⟨Mem.cell_of h1 0, h4, h5⟩
def sizeF (x : Option Nat) (n : Nat) : Nat := if x = none then 0 else n
theorem size_calls (w : World) (g n : Nat) (h : w.cell? ⟨g, 0, none⟩ = some (.int .i64 (n : Int))) : Calls Try.prog 28 #[.pointer (some ⟨g, 0, none⟩)] w fun e w' => e = .returned (.int .i64 (n : Int)) ∧ w' = w := by
  go_enter Try.func28, Try.ntmps28
  go_wp2
  go_ret
  exact ⟨rfl, rfl⟩
theorem size_nil (w : World) : Calls Try.prog 28 #[.pointer none] w fun e w' => e = .returned (.int .i64 0) ∧ w' = w := by
  go_enter Try.func28, Try.ntmps28
  go_wp2
  go_ret
  exact ⟨rfl, rfl⟩
/-- Why a link is none: 1 out of range, 7 the same. -/
def linkF (n : Nat) (a b : Int) : Int := if a < 0 ∨ (n : Int) ≤ a ∨ b < 0 ∨ (n : Int) ≤ b then 1 else if a = b then 7 else 0
theorem link_calls (w : World) (x : Option Addr) (n : Nat) (a b : Int) (hs : Calls Try.prog 28 #[.pointer x] w fun e w' => e = .returned (.int .i64 (n : Int)) ∧ w' = w) : Calls Try.prog 31 #[.pointer x, .int .i64 a, .int .i64 b] w fun e w' => e = .returned (.int .i64 (linkF n a b)) ∧ w' = w := by
  unfold linkF
  have hs' := Aside0.mk hs
  clear hs
  by_cases c1 : a < 0
  · have e1 : decide (a < 0) = true := decide_eq_true c1
    rw [if_pos (.inl c1)]
    go_enter Try.func31, Try.ntmps31
    go_wp2_with (fail)
    refine hs'.out.mono ?_
    rintro e w' ⟨rfl, rfl⟩
    go_wp2
    go_ret
    exact ⟨rfl, rfl⟩
  have e1 : decide (a < 0) = false := decide_eq_false c1
  by_cases c2 : (n : Int) ≤ a
  · have e2 : decide ((n : Int) ≤ a) = true := decide_eq_true c2
    have e2' : decide (a ≥ (n : Int)) = true := decide_eq_true c2
    rw [if_pos (.inr (.inl c2))]
    go_enter Try.func31, Try.ntmps31
    go_wp2_with (fail)
    refine hs'.out.mono ?_
    rintro e w' ⟨rfl, rfl⟩
    go_wp2
    go_ret
    exact ⟨rfl, rfl⟩
  have e2 : decide ((n : Int) ≤ a) = false := decide_eq_false c2
  have e2' : decide (a ≥ (n : Int)) = false := decide_eq_false c2
  by_cases c3 : b < 0
  · have e3 : decide (b < 0) = true := decide_eq_true c3
    rw [if_pos (.inr (.inr (.inl c3)))]
    go_enter Try.func31, Try.ntmps31
    go_wp2_with (fail)
    refine hs'.out.mono ?_
    rintro e w' ⟨rfl, rfl⟩
    go_wp2
    go_ret
    exact ⟨rfl, rfl⟩
  have e3 : decide (b < 0) = false := decide_eq_false c3
  by_cases c4 : (n : Int) ≤ b
  · have e4 : decide ((n : Int) ≤ b) = true := decide_eq_true c4
    have e4' : decide (b ≥ (n : Int)) = true := decide_eq_true c4
    rw [if_pos (.inr (.inr (.inr c4)))]
    go_enter Try.func31, Try.ntmps31
    go_wp2_with (fail)
    refine hs'.out.mono ?_
    rintro e w' ⟨rfl, rfl⟩
    go_wp2
    go_ret
    exact ⟨rfl, rfl⟩
  have e4 : decide ((n : Int) ≤ b) = false := decide_eq_false c4
  have e4' : decide (b ≥ (n : Int)) = false := decide_eq_false c4
  rw [if_neg (fun h => by rcases h with h | h | h | h <;> contradiction)]
  by_cases c5 : a = b
  · have e5 : (a == b) = true := by rw [beq_iff_eq]; exact c5
    rw [if_pos c5]
    have C5 := Aside0.mk c5
    clear c5
    go_enter Try.func31, Try.ntmps31
    go_wp2_with (fail)
    refine hs'.out.mono ?_
    rintro e w' ⟨rfl, rfl⟩
    go_wp2
    go_ret
    exact ⟨rfl, rfl⟩
  · have e5 : (a == b) = false := by rw [beq_eq_false_iff_ne]; exact c5
    rw [if_neg c5]
    go_enter Try.func31, Try.ntmps31
    go_wp2_with (fail)
    refine hs'.out.mono ?_
    rintro e w' ⟨rfl, rfl⟩
    go_wp2
    go_ret
    exact ⟨rfl, rfl⟩
end Go.Proofs.Ytchepjbdaojidaa.PBags
namespace Go.Proofs.Ytchepjbdaojidaa.PBags
open Go.RowKit Go.Proofs.YtchepjbdaojidaaW.PrintWords Go.Proofs.YtchepjbdaojidaaW.PrintLast Go.Proofs.YtchepjbdaojidaaW.PrintMore
attribute [local go_sem] max2_int min2_int max_two min_two max_three min_three max_four min_four
set_option linter.unusedVariables false
set_option linter.unusedSimpArgs false
def wait.T3 : Bool × List (List Nat × List Nat) := (true, [([], []), ([0], [0]), ([1], [1]), ([2], [2]), ([], []), ([], []), ([5], [5]), ([6], [6]), ([7], [7]), ([4, 8], [4, 8]), ([], []), ([9, 10], [9, 10]), ([3, 11], [3, 11]), ([12], [12]), ([13], [13]), ([14, 0, 1, 2, 3, 4, 5, 6, 7, 8, 9, 10, 11, 12, 13, 14], [14])])
def wait.B3 : List Nat := [0, 1, 3, 7, 0, 0, 32, 96, 224, 496, 0, 2032, 4095, 8191, 16383, 32767]
theorem wait.tab3 : rtab .any (opsOf Try.f15 3) = wait.T3 := by kernel_rfl
theorem wait.bits3 : waitsOk wait.T3.2 wait.B3 = true := by kernel_rfl
def frm.T4 : Bool × List (List Nat × List Nat) := (true, [([], []), ([0], [0]), ([1], [1]), ([2], [2]), ([2], [2]), ([4, 2], [2, 4]), ([5, 2], [2, 5]), ([6, 2], [2, 6]), ([2], [2]), ([2], [2]), ([9, 2], [2, 9]), ([10, 2], [2, 10]), ([11, 2], [2, 11]), ([8, 12, 2], [2, 8, 12]), ([2], [2]), ([13, 14, 2], [2, 13, 14]), ([7, 15, 2], [2, 7, 15]), ([16, 2], [2, 16]), ([17, 2], [2, 17]), ([3, 18, 2], [2, 3, 18]), ([2, 19], [2, 19])])
def frm.B4 : List Nat := [0, 1, 3, 7, 7, 23, 55, 119, 7, 7, 519, 1543, 3591, 7943, 7, 32519, 65527, 131063, 262135, 524287, 1048575]
theorem frm.tab4 : rtab .any (opsOf Try.f30 4) = frm.T4 := by kernel_rfl
theorem frm.bits4 : waitsOk frm.T4.2 frm.B4 = true := by kernel_rfl
theorem key_lt {n i j : Nat} (hi : i < n) (hj : j < n) : i * n + j < n * n := by
  have h1 : (i + 1) * n ≤ n * n := Nat.mul_le_mul_right n hi
  rw [Nat.add_mul, Nat.one_mul] at h1
  omega
theorem keep_le {n i : Nat} (hi : i < n) (hn : n ≤ 64) : i * n ≤ 4096 := Nat.le_trans (Nat.mul_le_mul (show i ≤ 64 by omega) hn) (by decide)
theorem wrap_nat {m : Nat} (h : m ≤ 1000000) : wrap64 (m : Int) = (m : Int) := by unfold wrap64; omega
/-- A link's bag, opened. -/
theorem NetI.bag {w : World} {base : Nat} {P : Nat → Prop} {g n : Nat} {bs : List (List Frame)} (h : NetI w base P g n bs) (k : Nat) (hk : k < n * n) :
    ∃ (B c : Nat) (Ak : Option Addr) (ck : Nat) (oki : Nat → Prop), w.heap[g]? = some (.cells #[.int .i64 (n : Int), .slice (some ⟨B, 0, none⟩) (n * n) c] 65 (0, 0)) ∧ w.cell? ⟨B, k, none⟩ = some (.slice Ak (bs.getD k []).length ck) ∧ (bs.getD k []).length ≤ ck ∧
      frameK.R 68 w base oki (.slice Ak (bs.getD k []).length ck) (bs.getD k []) ∧ (∀ b, oki b → (P b ∧ b ≠ g) ∧ b ≠ B) ∧ Kd.H bagK 69 w base (fun b => P b ∧ b ≠ g) (.slice (some ⟨B, 0, none⟩) (n * n) c) bs (k : Int) oki [.slice Ak (bs.getD k []).length ck] ∧ B ≠ g ∧ P B := by
  obtain ⟨A, c, h1, h2, h3, h4, h5, h6, h7⟩ := h
  obtain ⟨B, cap, he, hB1, hB2, hB3⟩ := Kd.S_form h7 (by omega)
  injection he with e1 e2 e3
  subst e1
  subst e3
  obtain ⟨oki, cs, hcl, hM, hcc, hoki, hH⟩ := Kd.S_lend h7 ([] : List Frame) (k : Int) (by omega) (by omega)
  rw [Int.toNat_natCast] at hM hcc
  obtain ⟨vk, rfl, hR⟩ := hM
  have hc0 := hcc 0 vk rfl
  rw [show k * bagK.sz + 0 = k from by show k * 1 + 0 = k; omega] at hc0
  obtain ⟨Ak, ck, rfl⟩ := Kd.R_slice hR
  have hne : (fun b => P b ∧ b ≠ g) B := (Kd.S_R h7).1 B (by simp [Value.ownBlock])
  exact ⟨B, c, Ak, ck, oki, h1, hc0, (Kd.R_reads' hR).2.1, hR, hoki, hH, hne.2, hne.1⟩
theorem linkF_ok {n : Nat} {a b : Int} (h : linkF n a b = 0) : ∃ i j : Nat, a = (i : Int) ∧ b = (j : Int) ∧ i < n ∧ j < n ∧ i ≠ j := by
  unfold linkF at h
  split at h
  · cases h
  · split at h
    · cases h
    · exact ⟨a.toNat, b.toNat, by omega, by omega, by omega, by omega, by omega⟩
def key (n : Nat) (a b : Int) : Nat := a.toNat * n + b.toNat
def waitF (n : Nat) (bs : List (List Frame)) (a b : Int) : Nat := if linkF n a b = 0 then (bs.getD (key n a b) []).length else 0
theorem link_net {w : World} {base : Nat} {P : Nat → Prop} {g n : Nat} {bs : List (List Frame)} (h : NetI w base P g n bs) (a b : Int) : Calls Try.prog 31 #[.pointer (some ⟨g, 0, none⟩), .int .i64 a, .int .i64 b] w fun e w' => e = .returned (.int .i64 (linkF n a b)) ∧ w' = w :=
  link_calls w _ n a b (size_calls w g n h.size.1)
set_option maxHeartbeats 4000000 in
set_option maxRecDepth 100000 in
theorem wait_calls {w : World} {base : Nat} {P : Nat → Prop} {g n : Nat} {bs : List (List Frame)} (h : NetI w base P g n bs) (a b : Int) : Calls Try.prog 15 #[.pointer (some ⟨g, 0, none⟩), .int .i64 a, .int .i64 b] w fun e w' => e = .returned (.int .i64 ((waitF n bs a b : Nat) : Int)) ∧ Drawn0 w w' := by
  unfold waitF
  have HL := Aside0.mk (link_net h a b)
  by_cases c : linkF n a b = 0
  · rw [if_pos c]
    rw [c] at HL
    obtain ⟨i, j, rfl, rfl, hi, hj, hij⟩ := linkF_ok c
    have hn := h.size.2.2
    obtain ⟨B, cc, Ak, ck, oki, g1, g2, g3, g4, g5, g6⟩ := h.bag (i * n + j) (key_lt hi hj)
    have hk : key n (i : Int) (j : Int) = i * n + j := by unfold key; rw [Int.toNat_natCast, Int.toNat_natCast]
    rw [hk]
    have hm := keep_le hi hn
    have hkl := key_lt hi hj
    have hw1 : wrap64 ((i : Int) * (n : Int)) = ((i * n : Nat) : Int) := by rw [← Int.natCast_mul]; exact wrap_nat (Nat.le_trans hm (by decide))
    have hw2 : wrap64 (((i * n : Nat) : Int) + (j : Int)) = ((i * n + j : Nat) : Int) := by rw [← Int.natCast_add]; exact wrap_nat (Nat.le_trans (Nat.add_le_add hm (Nat.le_trans (Nat.le_of_lt hj) hn)) (by decide))
    have b1 : (0 ≤ ((i * n + j : Nat) : Int)) = True := eq_true (Int.natCast_nonneg _)
    have b2 : (((i * n + j : Nat) : Int) < ((n * n : Nat) : Int)) = True := eq_true (Int.ofNat_lt.2 hkl)
    have b3 : (i * n + j < n * n) = True := eq_true hkl
    clear g3 g4 g5 g6 c hk h hm hij
    generalize (bs.getD (i * n + j) []).length = len at *
    generalize n * n = nn at *
    generalize i * n = mm at *
    generalize mm + j = kk at *
    have q1 : w.cell? ⟨g, 1, none⟩ = some (.slice (some ⟨B, 0, none⟩) nn cc) := Mem.cell_of g1 1
    have q0 : w.cell? ⟨g, 0, none⟩ = some (.int .i64 (n : Int)) := Mem.cell_of g1 0
    have HG := Aside0.mk (And.intro q1 (And.intro q0 g2))
    clear q1 q0 g1 g2
    go_enter Try.func15, Try.ntmps15
    go_wp2_with (fail)
    refine HL.out.mono ?_
    rintro e w' ⟨rfl, rfl⟩
    go_wp2_with (fail)
    refine start_ (n := 16) (S := (fun w' => w'.cell? ⟨g, 1, none⟩ = some (.slice (some ⟨B, 0, none⟩) nn cc) ∧ w'.cell? ⟨g, 0, none⟩ = some (.int .i64 (n : Int)) ∧ w'.cell? ⟨B, kk, none⟩ = some (.slice Ak len ck))) (ds := []) #[false, false, false, false, false, false, false, false, false, false, false, false, false, false, false, false] (by kernel_rfl) rfl rfl (HG.out) (fun hHeld => ?_)
    refine with_tabW wait.tab3 wait.bits3 (fun HT_ HW_ => ?_)
    refine pure_ (i := 0) (N := (some 12)) (v := ?_) (a' := ?_) #[true, false, false, false, false, false, false, false, false, false, false, false, false, false, false, false] rfl rfl (any_of HT_.out (by kernel_rfl)) (fun _ _ _ h => h) (Or.inl ⟨by rfl, ?_⟩) ?_ ?_
    rotate_left
    · intro w'
      go_simp
      with_reducible rfl
    rotate_left
    · simp only [Act.put, List.setIfInBounds_toArray, List.set_cons_zero, List.set_cons_succ, i64_w, i32_w]
      rfl
    refine pure_ (i := 1) (N := (some 13)) (v := ?_) (a' := ?_) #[true, true, false, false, false, false, false, false, false, false, false, false, false, false, false, false] rfl rfl (any_of HT_.out (by kernel_rfl)) (fun _ _ _ h => h) (Or.inl ⟨by rfl, ?_⟩) ?_ ?_
    rotate_left
    · intro w'
      go_simp
      with_reducible rfl
    rotate_left
    · simp only [Act.put, List.setIfInBounds_toArray, List.set_cons_zero, List.set_cons_succ, i64_w, i32_w]
      rfl
    refine pure_ (i := 2) (N := (some 14)) (v := ?_) (a' := ?_) #[true, true, true, false, false, false, false, false, false, false, false, false, false, false, false, false] rfl rfl (any_of HT_.out (by kernel_rfl)) (fun _ _ _ h => h) (Or.inl ⟨by rfl, ?_⟩) ?_ ?_
    rotate_left
    · intro w'
      go_simp
      with_reducible rfl
    rotate_left
    · simp only [Act.put, List.setIfInBounds_toArray, List.set_cons_zero, List.set_cons_succ, i64_w, i32_w]
      rfl
    refine pure_ (i := 4) (N := (some 16)) (v := ?_) (a' := ?_) #[true, true, true, false, true, false, false, false, false, false, false, false, false, false, false, false] rfl rfl (any_of HT_.out (by kernel_rfl)) (fun _ _ _ h => h) (Or.inl ⟨by rfl, ?_⟩) ?_ ?_
    rotate_left
    · intro w'
      go_simp
      with_reducible rfl
    rotate_left
    · simp only [Act.put, List.setIfInBounds_toArray, List.set_cons_zero, List.set_cons_succ, i64_w, i32_w]
      rfl
    refine pure_ (i := 5) (N := (some 17)) (v := ?_) (a' := ?_) #[true, true, true, false, true, true, false, false, false, false, false, false, false, false, false, false] rfl rfl (any_of HT_.out (by kernel_rfl)) (fun _ _ _ h => h) (Or.inl ⟨by rfl, ?_⟩) ?_ ?_
    rotate_left
    · intro w'
      go_simp
      with_reducible rfl
    rotate_left
    · simp only [Act.put, List.setIfInBounds_toArray, List.set_cons_zero, List.set_cons_succ, i64_w, i32_w]
      rfl
    refine pure_ (i := 6) (N := (some 18)) (v := ?_) (a' := ?_) #[true, true, true, false, true, true, true, false, false, false, false, false, false, false, false, false] rfl rfl (any_of HT_.out (by kernel_rfl)) (fun _ _ _ h => h) (Or.inl ⟨by rfl, ?_⟩) ?_ ?_
    rotate_left
    · intro w'
      go_simp
      with_reducible rfl
    rotate_left
    · simp only [Act.put, List.setIfInBounds_toArray, List.set_cons_zero, List.set_cons_succ, i64_w, i32_w]
      rfl
    refine pure_ (i := 7) (N := (some 19)) (v := ?_) (a' := ?_) #[true, true, true, false, true, true, true, true, false, false, false, false, false, false, false, false] rfl rfl (any_of HT_.out (by kernel_rfl)) (fun _ _ _ h => h) (Or.inl ⟨by rfl, ?_⟩) ?_ ?_
    rotate_left
    · intro w'
      go_simp
      with_reducible rfl
    rotate_left
    · simp only [Act.put, List.setIfInBounds_toArray, List.set_cons_zero, List.set_cons_succ, i64_w, i32_w]
      rfl
    refine pure_ (i := 10) (N := (some 22)) (v := ?_) (a' := ?_) #[true, true, true, false, true, true, true, true, false, false, true, false, false, false, false, false] rfl rfl (any_of HT_.out (by kernel_rfl)) (fun _ _ _ h => h) (Or.inl ⟨by rfl, ?_⟩) ?_ ?_
    rotate_left
    · intro w'
      go_simp
      with_reducible rfl
    rotate_left
    · simp only [Act.put, List.setIfInBounds_toArray, List.set_cons_zero, List.set_cons_succ, i64_w, i32_w]
      rfl
    refine take_ (i := 3) (N := (some 15)) (v := ?_) (a' := ?_) #[true, true, true, true, true, true, true, true, false, false, true, false, false, false, false, false] rfl rfl (take_ofW HT_.out HW_.out (by kernel_rfl)) (fun _ _ _ h => h) (Or.inl ⟨by rfl, ?_⟩) hHeld ?_ ?_
    rotate_left
    · rintro w' ⟨s0, s1, s2⟩
      go_simp
      with_reducible rfl
    rotate_left
    · simp only [Act.put, List.setIfInBounds_toArray, List.set_cons_zero, List.set_cons_succ, i64_w, i32_w]
      rfl
    refine take_ (i := 8) (N := (some 20)) (v := ?_) (a' := ?_) #[true, true, true, true, true, true, true, true, true, false, true, false, false, false, false, false] rfl rfl (take_ofW HT_.out HW_.out (by kernel_rfl)) (fun _ _ _ h => h) (Or.inl ⟨by rfl, ?_⟩) hHeld ?_ ?_
    rotate_left
    · rintro w' ⟨s0, s1, s2⟩
      go_simp
      with_reducible rfl
    rotate_left
    · simp only [Act.put, List.setIfInBounds_toArray, List.set_cons_zero, List.set_cons_succ, i64_w, i32_w]
      rfl
    refine pure_ (i := 9) (N := (some 21)) (v := ?_) (a' := ?_) #[true, true, true, true, true, true, true, true, true, true, true, false, false, false, false, false] rfl rfl (any_of HT_.out (by kernel_rfl)) (fun _ _ _ h => h) (Or.inl ⟨by rfl, ?_⟩) ?_ ?_
    rotate_left
    · intro w'
      go_simp
      with_reducible rfl
    rotate_left
    · simp only [Act.put, List.setIfInBounds_toArray, List.set_cons_zero, List.set_cons_succ, i64_w, i32_w]
      rfl
    refine pure_ (i := 11) (N := (some 23)) (v := ?_) (a' := ?_) #[true, true, true, true, true, true, true, true, true, true, true, true, false, false, false, false] rfl rfl (any_of HT_.out (by kernel_rfl)) (fun _ _ _ h => h) (Or.inl ⟨by rfl, ?_⟩) ?_ ?_
    rotate_left
    · intro w'
      go_simp
      with_reducible rfl
    rotate_left
    · simp only [Act.put, List.setIfInBounds_toArray, List.set_cons_zero, List.set_cons_succ, i64_w, i32_w]
      rfl
    refine pure_ (i := 12) (N := (some 24)) (v := ?_) (a' := ?_) #[true, true, true, true, true, true, true, true, true, true, true, true, true, false, false, false] rfl rfl (any_of HT_.out (by kernel_rfl)) (fun _ _ _ h => h) (Or.inl ⟨by rfl, ?_⟩) ?_ ?_
    rotate_left
    · intro w'
      go_simp
      with_reducible rfl
    rotate_left
    · simp only [Act.put, List.setIfInBounds_toArray, List.set_cons_zero, List.set_cons_succ, i64_w, i32_w]
      rfl
    refine take_ (i := 13) (N := (some 25)) (v := ?_) (a' := ?_) #[true, true, true, true, true, true, true, true, true, true, true, true, true, true, false, false] rfl rfl (take_ofW HT_.out HW_.out (by kernel_rfl)) (fun _ _ _ h => h) (Or.inl ⟨by rfl, ?_⟩) hHeld ?_ ?_
    rotate_left
    · rintro w' ⟨s0, s1, s2⟩
      go_simp
      with_reducible rfl
    rotate_left
    · simp only [Act.put, List.setIfInBounds_toArray, List.set_cons_zero, List.set_cons_succ, i64_w, i32_w]
      rfl
    refine pure_ (i := 14) (N := (some 26)) (v := ?_) (a' := ?_) #[true, true, true, true, true, true, true, true, true, true, true, true, true, true, true, false] rfl rfl (any_of HT_.out (by kernel_rfl)) (fun _ _ _ h => h) (Or.inl ⟨by rfl, ?_⟩) ?_ ?_
    rotate_left
    · intro w'
      go_simp
      with_reducible rfl
    rotate_left
    · simp only [Act.put, List.setIfInBounds_toArray, List.set_cons_zero, List.set_cons_succ, i64_w, i32_w]
      rfl
    refine pure_ (i := 15) (N := (some 6)) (v := ?_) (a' := ?_) #[true, true, true, true, true, true, true, true, true, true, true, true, true, true, true, true] rfl rfl (any_of HT_.out (by kernel_rfl)) (fun _ _ _ h => h) (Or.inl ⟨by rfl, ?_⟩) ?_ ?_
    rotate_left
    · intro w'
      go_simp
      with_reducible rfl
    rotate_left
    · simp only [Act.put, List.setIfInBounds_toArray, List.set_cons_zero, List.set_cons_succ, i64_w, i32_w]
      rfl
    refine done_ (done_of HT_.out (by kernel_rfl)) ?_
    go_wp2
    go_ret
    exact ⟨rfl, 1, rfl⟩
  · rw [if_neg c]
    have e1 : (linkF n a b != 0) = true := by rw [bne_iff_ne]; exact c
    have C := Aside0.mk c
    clear c
    go_enter Try.func15, Try.ntmps15
    go_wp2_with (fail)
    refine HL.out.mono ?_
    rintro e w' ⟨rfl, rfl⟩
    go_wp2
    go_ret
    exact ⟨rfl, 0, rfl⟩
/-- Why a frame is none: 4 where the link has no such one. -/
def frameF (n : Nat) (bs : List (List Frame)) (a b i : Int) : Int := if linkF n a b = 0 then (if i < 0 ∨ ((bs.getD (key n a b) []).length : Int) ≤ i then 4 else 0) else linkF n a b
set_option maxHeartbeats 4000000 in
set_option maxRecDepth 100000 in
theorem frame_calls {w : World} {base : Nat} {P : Nat → Prop} {g n : Nat} {bs : List (List Frame)} (h : NetI w base P g n bs) (a b x : Int) : Calls Try.prog 30 #[.pointer (some ⟨g, 0, none⟩), .int .i64 a, .int .i64 b, .int .i64 x] w fun e w' => e = .returned (.int .i64 (frameF n bs a b x)) ∧ Drawn0 w w' := by
  unfold frameF
  have HL := Aside0.mk (link_net h a b)
  by_cases c : linkF n a b = 0
  · rw [if_pos c]
    rw [c] at HL
    obtain ⟨i, j, rfl, rfl, hi, hj, hij⟩ := linkF_ok c
    have hn := h.size.2.2
    obtain ⟨B, cc, Ak, ck, oki, g1, g2, g3, g4, g5, g6⟩ := h.bag (i * n + j) (key_lt hi hj)
    have hk : key n (i : Int) (j : Int) = i * n + j := by unfold key; rw [Int.toNat_natCast, Int.toNat_natCast]
    rw [hk]
    have hm := keep_le hi hn
    have hkl := key_lt hi hj
    have hw1 : wrap64 ((i : Int) * (n : Int)) = ((i * n : Nat) : Int) := by rw [← Int.natCast_mul]; exact wrap_nat (Nat.le_trans hm (by decide))
    have hw2 : wrap64 (((i * n : Nat) : Int) + (j : Int)) = ((i * n + j : Nat) : Int) := by rw [← Int.natCast_add]; exact wrap_nat (Nat.le_trans (Nat.add_le_add hm (Nat.le_trans (Nat.le_of_lt hj) hn)) (by decide))
    have b1 : (0 ≤ ((i * n + j : Nat) : Int)) = True := eq_true (Int.natCast_nonneg _)
    have b2 : (((i * n + j : Nat) : Int) < ((n * n : Nat) : Int)) = True := eq_true (Int.ofNat_lt.2 hkl)
    have b3 : (i * n + j < n * n) = True := eq_true hkl
    clear g3 g4 g5 g6 c hk h hm hij
    generalize (bs.getD (i * n + j) []).length = len at *
    generalize n * n = nn at *
    generalize i * n = mm at *
    generalize mm + j = kk at *
    have q1 : w.cell? ⟨g, 1, none⟩ = some (.slice (some ⟨B, 0, none⟩) nn cc) := Mem.cell_of g1 1
    have q0 : w.cell? ⟨g, 0, none⟩ = some (.int .i64 (n : Int)) := Mem.cell_of g1 0
    have HG := Aside0.mk (And.intro q1 (And.intro q0 g2))
    clear q1 q0 g1 g2
    by_cases x0 : x < 0
    · rw [if_pos (.inl x0)]
      have e1 : decide (x < 0) = true := decide_eq_true x0
      clear x0
      go_enter Try.func30, Try.ntmps30
      go_wp2_with (fail)
      refine HL.out.mono ?_
      rintro e w' ⟨rfl, rfl⟩
      go_wp2_with (fail)
      refine start_ (n := 21) (S := (fun w' => w'.cell? ⟨g, 1, none⟩ = some (.slice (some ⟨B, 0, none⟩) nn cc) ∧ w'.cell? ⟨g, 0, none⟩ = some (.int .i64 (n : Int)) ∧ w'.cell? ⟨B, kk, none⟩ = some (.slice Ak len ck))) (ds := []) #[false, false, false, false, false, false, false, false, false, false, false, false, false, false, false, false, false, false, false, false, false] (by kernel_rfl) rfl rfl (HG.out) (fun hHeld => ?_)
      refine with_tabW frm.tab4 frm.bits4 (fun HT_ HW_ => ?_)
      refine pure_ (i := 0) (N := (some 17)) (v := ?_) (a' := ?_) #[true, false, false, false, false, false, false, false, false, false, false, false, false, false, false, false, false, false, false, false, false] rfl rfl (any_of HT_.out (by kernel_rfl)) (fun _ _ _ h => h) (Or.inl ⟨by rfl, ?_⟩) ?_ ?_
      rotate_left
      · intro w'
        go_simp
        with_reducible rfl
      rotate_left
      · simp only [Act.put, List.setIfInBounds_toArray, List.set_cons_zero, List.set_cons_succ, i64_w, i32_w]
        rfl
      refine pure_ (i := 1) (N := (some 18)) (v := ?_) (a' := ?_) #[true, true, false, false, false, false, false, false, false, false, false, false, false, false, false, false, false, false, false, false, false] rfl rfl (any_of HT_.out (by kernel_rfl)) (fun _ _ _ h => h) (Or.inl ⟨by rfl, ?_⟩) ?_ ?_
      rotate_left
      · intro w'
        go_simp
        with_reducible rfl
      rotate_left
      · simp only [Act.put, List.setIfInBounds_toArray, List.set_cons_zero, List.set_cons_succ, i64_w, i32_w]
        rfl
      refine pure_ (i := 2) (N := (some 19)) (v := ?_) (a' := ?_) #[true, true, true, false, false, false, false, false, false, false, false, false, false, false, false, false, false, false, false, false, false] rfl rfl (any_of HT_.out (by kernel_rfl)) (fun _ _ _ h => h) (Or.inl ⟨by rfl, ?_⟩) ?_ ?_
      rotate_left
      · intro w'
        go_simp
        with_reducible rfl
      rotate_left
      · simp only [Act.put, List.setIfInBounds_toArray, List.set_cons_zero, List.set_cons_succ, i64_w, i32_w]
        rfl
      refine pure_ (i := 3) (N := (some 20)) (v := undef) (a' := ?_) #[true, true, true, true, false, false, false, false, false, false, false, false, false, false, false, false, false, false, false, false, false] rfl rfl (any_of HT_.out (by kernel_rfl)) (fun _ _ _ h => h) (Or.inr ⟨by rfl, rfl⟩) ?_ ?_
      rotate_left
      · simp only [Act.put, List.setIfInBounds_toArray, List.set_cons_zero, List.set_cons_succ, i64_w, i32_w]
        rfl
      refine pure_ (i := 4) (N := (some 21)) (v := undef) (a' := ?_) #[true, true, true, true, true, false, false, false, false, false, false, false, false, false, false, false, false, false, false, false, false] rfl rfl (any_of HT_.out (by kernel_rfl)) (fun _ _ _ h => h) (Or.inr ⟨by rfl, rfl⟩) ?_ ?_
      rotate_left
      · simp only [Act.put, List.setIfInBounds_toArray, List.set_cons_zero, List.set_cons_succ, i64_w, i32_w]
        rfl
      refine pure_ (i := 5) (N := (some 22)) (v := undef) (a' := ?_) #[true, true, true, true, true, true, false, false, false, false, false, false, false, false, false, false, false, false, false, false, false] rfl rfl (any_of HT_.out (by kernel_rfl)) (fun _ _ _ h => h) (Or.inr ⟨by rfl, rfl⟩) ?_ ?_
      rotate_left
      · simp only [Act.put, List.setIfInBounds_toArray, List.set_cons_zero, List.set_cons_succ, i64_w, i32_w]
        rfl
      refine pure_ (i := 6) (N := (some 23)) (v := undef) (a' := ?_) #[true, true, true, true, true, true, true, false, false, false, false, false, false, false, false, false, false, false, false, false, false] rfl rfl (any_of HT_.out (by kernel_rfl)) (fun _ _ _ h => h) (Or.inr ⟨by rfl, rfl⟩) ?_ ?_
      rotate_left
      · simp only [Act.put, List.setIfInBounds_toArray, List.set_cons_zero, List.set_cons_succ, i64_w, i32_w]
        rfl
      refine pure_ (i := 7) (N := (some 24)) (v := undef) (a' := ?_) #[true, true, true, true, true, true, true, true, false, false, false, false, false, false, false, false, false, false, false, false, false] rfl rfl (any_of HT_.out (by kernel_rfl)) (fun _ _ _ h => h) (Or.inr ⟨by rfl, rfl⟩) ?_ ?_
      rotate_left
      · simp only [Act.put, List.setIfInBounds_toArray, List.set_cons_zero, List.set_cons_succ, i64_w, i32_w]
        rfl
      refine pure_ (i := 8) (N := (some 25)) (v := undef) (a' := ?_) #[true, true, true, true, true, true, true, true, true, false, false, false, false, false, false, false, false, false, false, false, false] rfl rfl (any_of HT_.out (by kernel_rfl)) (fun _ _ _ h => h) (Or.inr ⟨by rfl, rfl⟩) ?_ ?_
      rotate_left
      · simp only [Act.put, List.setIfInBounds_toArray, List.set_cons_zero, List.set_cons_succ, i64_w, i32_w]
        rfl
      refine pure_ (i := 9) (N := (some 26)) (v := undef) (a' := ?_) #[true, true, true, true, true, true, true, true, true, true, false, false, false, false, false, false, false, false, false, false, false] rfl rfl (any_of HT_.out (by kernel_rfl)) (fun _ _ _ h => h) (Or.inr ⟨by rfl, rfl⟩) ?_ ?_
      rotate_left
      · simp only [Act.put, List.setIfInBounds_toArray, List.set_cons_zero, List.set_cons_succ, i64_w, i32_w]
        rfl
      refine pure_ (i := 10) (N := (some 27)) (v := undef) (a' := ?_) #[true, true, true, true, true, true, true, true, true, true, true, false, false, false, false, false, false, false, false, false, false] rfl rfl (any_of HT_.out (by kernel_rfl)) (fun _ _ _ h => h) (Or.inr ⟨by rfl, rfl⟩) ?_ ?_
      rotate_left
      · simp only [Act.put, List.setIfInBounds_toArray, List.set_cons_zero, List.set_cons_succ, i64_w, i32_w]
        rfl
      refine pure_ (i := 11) (N := (some 28)) (v := undef) (a' := ?_) #[true, true, true, true, true, true, true, true, true, true, true, true, false, false, false, false, false, false, false, false, false] rfl rfl (any_of HT_.out (by kernel_rfl)) (fun _ _ _ h => h) (Or.inr ⟨by rfl, rfl⟩) ?_ ?_
      rotate_left
      · simp only [Act.put, List.setIfInBounds_toArray, List.set_cons_zero, List.set_cons_succ, i64_w, i32_w]
        rfl
      refine pure_ (i := 12) (N := (some 29)) (v := undef) (a' := ?_) #[true, true, true, true, true, true, true, true, true, true, true, true, true, false, false, false, false, false, false, false, false] rfl rfl (any_of HT_.out (by kernel_rfl)) (fun _ _ _ h => h) (Or.inr ⟨by rfl, rfl⟩) ?_ ?_
      rotate_left
      · simp only [Act.put, List.setIfInBounds_toArray, List.set_cons_zero, List.set_cons_succ, i64_w, i32_w]
        rfl
      refine pure_ (i := 13) (N := (some 30)) (v := undef) (a' := ?_) #[true, true, true, true, true, true, true, true, true, true, true, true, true, true, false, false, false, false, false, false, false] rfl rfl (any_of HT_.out (by kernel_rfl)) (fun _ _ _ h => h) (Or.inr ⟨by rfl, rfl⟩) ?_ ?_
      rotate_left
      · simp only [Act.put, List.setIfInBounds_toArray, List.set_cons_zero, List.set_cons_succ, i64_w, i32_w]
        rfl
      refine pure_ (i := 14) (N := (some 31)) (v := undef) (a' := ?_) #[true, true, true, true, true, true, true, true, true, true, true, true, true, true, true, false, false, false, false, false, false] rfl rfl (any_of HT_.out (by kernel_rfl)) (fun _ _ _ h => h) (Or.inr ⟨by rfl, rfl⟩) ?_ ?_
      rotate_left
      · simp only [Act.put, List.setIfInBounds_toArray, List.set_cons_zero, List.set_cons_succ, i64_w, i32_w]
        rfl
      refine pure_ (i := 15) (N := (some 32)) (v := undef) (a' := ?_) #[true, true, true, true, true, true, true, true, true, true, true, true, true, true, true, true, false, false, false, false, false] rfl rfl (any_of HT_.out (by kernel_rfl)) (fun _ _ _ h => h) (Or.inr ⟨by rfl, rfl⟩) ?_ ?_
      rotate_left
      · simp only [Act.put, List.setIfInBounds_toArray, List.set_cons_zero, List.set_cons_succ, i64_w, i32_w]
        rfl
      refine pure_ (i := 16) (N := (some 33)) (v := undef) (a' := ?_) #[true, true, true, true, true, true, true, true, true, true, true, true, true, true, true, true, true, false, false, false, false] rfl rfl (any_of HT_.out (by kernel_rfl)) (fun _ _ _ h => h) (Or.inr ⟨by rfl, rfl⟩) ?_ ?_
      rotate_left
      · simp only [Act.put, List.setIfInBounds_toArray, List.set_cons_zero, List.set_cons_succ, i64_w, i32_w]
        rfl
      refine pure_ (i := 17) (N := (some 34)) (v := undef) (a' := ?_) #[true, true, true, true, true, true, true, true, true, true, true, true, true, true, true, true, true, true, false, false, false] rfl rfl (any_of HT_.out (by kernel_rfl)) (fun _ _ _ h => h) (Or.inr ⟨by rfl, rfl⟩) ?_ ?_
      rotate_left
      · simp only [Act.put, List.setIfInBounds_toArray, List.set_cons_zero, List.set_cons_succ, i64_w, i32_w]
        rfl
      refine pure_ (i := 18) (N := (some 35)) (v := undef) (a' := ?_) #[true, true, true, true, true, true, true, true, true, true, true, true, true, true, true, true, true, true, true, false, false] rfl rfl (any_of HT_.out (by kernel_rfl)) (fun _ _ _ h => h) (Or.inr ⟨by rfl, rfl⟩) ?_ ?_
      rotate_left
      · simp only [Act.put, List.setIfInBounds_toArray, List.set_cons_zero, List.set_cons_succ, i64_w, i32_w]
        rfl
      refine pure_ (i := 19) (N := (some 36)) (v := undef) (a' := ?_) #[true, true, true, true, true, true, true, true, true, true, true, true, true, true, true, true, true, true, true, true, false] rfl rfl (any_of HT_.out (by kernel_rfl)) (fun _ _ _ h => h) (Or.inr ⟨by rfl, rfl⟩) ?_ ?_
      rotate_left
      · simp only [Act.put, List.setIfInBounds_toArray, List.set_cons_zero, List.set_cons_succ, i64_w, i32_w]
        rfl
      refine pure_ (i := 20) (N := (some 37)) (v := ?_) (a' := ?_) #[true, true, true, true, true, true, true, true, true, true, true, true, true, true, true, true, true, true, true, true, true] rfl rfl (any_of HT_.out (by kernel_rfl)) (fun _ _ _ h => h) (Or.inl ⟨by rfl, ?_⟩) ?_ ?_
      rotate_left
      · intro w'
        go_simp
        with_reducible rfl
      rotate_left
      · simp only [Act.put, List.setIfInBounds_toArray, List.set_cons_zero, List.set_cons_succ, i64_w, i32_w]
        rfl
      refine done_ (done_of HT_.out (by kernel_rfl)) ?_
      go_wp2
      go_ret
      exact ⟨rfl, 1, rfl⟩
    · have e1 : decide (x < 0) = false := decide_eq_false x0
      by_cases x1 : (len : Int) ≤ x
      · rw [if_pos (.inr x1)]
        have e2 : decide ((len : Int) ≤ x) = true := decide_eq_true x1
        have e2' : decide (x ≥ (len : Int)) = true := decide_eq_true x1
        clear x0 x1
        go_enter Try.func30, Try.ntmps30
        go_wp2_with (fail)
        refine HL.out.mono ?_
        rintro e w' ⟨rfl, rfl⟩
        go_wp2_with (fail)
        refine start_ (n := 21) (S := (fun w' => w'.cell? ⟨g, 1, none⟩ = some (.slice (some ⟨B, 0, none⟩) nn cc) ∧ w'.cell? ⟨g, 0, none⟩ = some (.int .i64 (n : Int)) ∧ w'.cell? ⟨B, kk, none⟩ = some (.slice Ak len ck))) (ds := []) #[false, false, false, false, false, false, false, false, false, false, false, false, false, false, false, false, false, false, false, false, false] (by kernel_rfl) rfl rfl (HG.out) (fun hHeld => ?_)
        refine with_tabW frm.tab4 frm.bits4 (fun HT_ HW_ => ?_)
        refine pure_ (i := 0) (N := (some 17)) (v := ?_) (a' := ?_) #[true, false, false, false, false, false, false, false, false, false, false, false, false, false, false, false, false, false, false, false, false] rfl rfl (any_of HT_.out (by kernel_rfl)) (fun _ _ _ h => h) (Or.inl ⟨by rfl, ?_⟩) ?_ ?_
        rotate_left
        · intro w'
          go_simp
          with_reducible rfl
        rotate_left
        · simp only [Act.put, List.setIfInBounds_toArray, List.set_cons_zero, List.set_cons_succ, i64_w, i32_w]
          rfl
        refine pure_ (i := 1) (N := (some 18)) (v := ?_) (a' := ?_) #[true, true, false, false, false, false, false, false, false, false, false, false, false, false, false, false, false, false, false, false, false] rfl rfl (any_of HT_.out (by kernel_rfl)) (fun _ _ _ h => h) (Or.inl ⟨by rfl, ?_⟩) ?_ ?_
        rotate_left
        · intro w'
          go_simp
          with_reducible rfl
        rotate_left
        · simp only [Act.put, List.setIfInBounds_toArray, List.set_cons_zero, List.set_cons_succ, i64_w, i32_w]
          rfl
        refine pure_ (i := 2) (N := (some 19)) (v := ?_) (a' := ?_) #[true, true, true, false, false, false, false, false, false, false, false, false, false, false, false, false, false, false, false, false, false] rfl rfl (any_of HT_.out (by kernel_rfl)) (fun _ _ _ h => h) (Or.inl ⟨by rfl, ?_⟩) ?_ ?_
        rotate_left
        · intro w'
          go_simp
          with_reducible rfl
        rotate_left
        · simp only [Act.put, List.setIfInBounds_toArray, List.set_cons_zero, List.set_cons_succ, i64_w, i32_w]
          rfl
        refine pure_ (i := 3) (N := (some 20)) (v := ?_) (a' := ?_) #[true, true, true, true, false, false, false, false, false, false, false, false, false, false, false, false, false, false, false, false, false] rfl rfl (any_of HT_.out (by kernel_rfl)) (fun _ _ _ h => h) (Or.inl ⟨by rfl, ?_⟩) ?_ ?_
        rotate_left
        · intro w'
          go_simp
          with_reducible rfl
        rotate_left
        · simp only [Act.put, List.setIfInBounds_toArray, List.set_cons_zero, List.set_cons_succ, i64_w, i32_w]
          rfl
        refine pure_ (i := 4) (N := (some 21)) (v := ?_) (a' := ?_) #[true, true, true, true, true, false, false, false, false, false, false, false, false, false, false, false, false, false, false, false, false] rfl rfl (any_of HT_.out (by kernel_rfl)) (fun _ _ _ h => h) (Or.inl ⟨by rfl, ?_⟩) ?_ ?_
        rotate_left
        · intro w'
          go_simp
          with_reducible rfl
        rotate_left
        · simp only [Act.put, List.setIfInBounds_toArray, List.set_cons_zero, List.set_cons_succ, i64_w, i32_w]
          rfl
        refine pure_ (i := 5) (N := (some 22)) (v := ?_) (a' := ?_) #[true, true, true, true, true, true, false, false, false, false, false, false, false, false, false, false, false, false, false, false, false] rfl rfl (any_of HT_.out (by kernel_rfl)) (fun _ _ _ h => h) (Or.inl ⟨by rfl, ?_⟩) ?_ ?_
        rotate_left
        · intro w'
          go_simp
          with_reducible rfl
        rotate_left
        · simp only [Act.put, List.setIfInBounds_toArray, List.set_cons_zero, List.set_cons_succ, i64_w, i32_w]
          rfl
        refine pure_ (i := 6) (N := (some 23)) (v := ?_) (a' := ?_) #[true, true, true, true, true, true, true, false, false, false, false, false, false, false, false, false, false, false, false, false, false] rfl rfl (any_of HT_.out (by kernel_rfl)) (fun _ _ _ h => h) (Or.inl ⟨by rfl, ?_⟩) ?_ ?_
        rotate_left
        · intro w'
          go_simp
          with_reducible rfl
        rotate_left
        · simp only [Act.put, List.setIfInBounds_toArray, List.set_cons_zero, List.set_cons_succ, i64_w, i32_w]
          rfl
        refine pure_ (i := 8) (N := (some 25)) (v := ?_) (a' := ?_) #[true, true, true, true, true, true, true, false, true, false, false, false, false, false, false, false, false, false, false, false, false] rfl rfl (any_of HT_.out (by kernel_rfl)) (fun _ _ _ h => h) (Or.inl ⟨by rfl, ?_⟩) ?_ ?_
        rotate_left
        · intro w'
          go_simp
          with_reducible rfl
        rotate_left
        · simp only [Act.put, List.setIfInBounds_toArray, List.set_cons_zero, List.set_cons_succ, i64_w, i32_w]
          rfl
        refine pure_ (i := 9) (N := (some 26)) (v := ?_) (a' := ?_) #[true, true, true, true, true, true, true, false, true, true, false, false, false, false, false, false, false, false, false, false, false] rfl rfl (any_of HT_.out (by kernel_rfl)) (fun _ _ _ h => h) (Or.inl ⟨by rfl, ?_⟩) ?_ ?_
        rotate_left
        · intro w'
          go_simp
          with_reducible rfl
        rotate_left
        · simp only [Act.put, List.setIfInBounds_toArray, List.set_cons_zero, List.set_cons_succ, i64_w, i32_w]
          rfl
        refine pure_ (i := 10) (N := (some 27)) (v := ?_) (a' := ?_) #[true, true, true, true, true, true, true, false, true, true, true, false, false, false, false, false, false, false, false, false, false] rfl rfl (any_of HT_.out (by kernel_rfl)) (fun _ _ _ h => h) (Or.inl ⟨by rfl, ?_⟩) ?_ ?_
        rotate_left
        · intro w'
          go_simp
          with_reducible rfl
        rotate_left
        · simp only [Act.put, List.setIfInBounds_toArray, List.set_cons_zero, List.set_cons_succ, i64_w, i32_w]
          rfl
        refine pure_ (i := 11) (N := (some 28)) (v := ?_) (a' := ?_) #[true, true, true, true, true, true, true, false, true, true, true, true, false, false, false, false, false, false, false, false, false] rfl rfl (any_of HT_.out (by kernel_rfl)) (fun _ _ _ h => h) (Or.inl ⟨by rfl, ?_⟩) ?_ ?_
        rotate_left
        · intro w'
          go_simp
          with_reducible rfl
        rotate_left
        · simp only [Act.put, List.setIfInBounds_toArray, List.set_cons_zero, List.set_cons_succ, i64_w, i32_w]
          rfl
        refine pure_ (i := 14) (N := (some 31)) (v := ?_) (a' := ?_) #[true, true, true, true, true, true, true, false, true, true, true, true, false, false, true, false, false, false, false, false, false] rfl rfl (any_of HT_.out (by kernel_rfl)) (fun _ _ _ h => h) (Or.inl ⟨by rfl, ?_⟩) ?_ ?_
        rotate_left
        · intro w'
          go_simp
          with_reducible rfl
        rotate_left
        · simp only [Act.put, List.setIfInBounds_toArray, List.set_cons_zero, List.set_cons_succ, i64_w, i32_w]
          rfl
        refine take_ (i := 7) (N := (some 24)) (v := ?_) (a' := ?_) #[true, true, true, true, true, true, true, true, true, true, true, true, false, false, true, false, false, false, false, false, false] rfl rfl (take_ofW HT_.out HW_.out (by kernel_rfl)) (fun _ _ _ h => h) (Or.inl ⟨by rfl, ?_⟩) hHeld ?_ ?_
        rotate_left
        · rintro w' ⟨s0, s1, s2⟩
          go_simp
          with_reducible rfl
        rotate_left
        · simp only [Act.put, List.setIfInBounds_toArray, List.set_cons_zero, List.set_cons_succ, i64_w, i32_w]
          rfl
        refine take_ (i := 12) (N := (some 29)) (v := ?_) (a' := ?_) #[true, true, true, true, true, true, true, true, true, true, true, true, true, false, true, false, false, false, false, false, false] rfl rfl (take_ofW HT_.out HW_.out (by kernel_rfl)) (fun _ _ _ h => h) (Or.inl ⟨by rfl, ?_⟩) hHeld ?_ ?_
        rotate_left
        · rintro w' ⟨s0, s1, s2⟩
          go_simp
          with_reducible rfl
        rotate_left
        · simp only [Act.put, List.setIfInBounds_toArray, List.set_cons_zero, List.set_cons_succ, i64_w, i32_w]
          rfl
        refine pure_ (i := 13) (N := (some 30)) (v := ?_) (a' := ?_) #[true, true, true, true, true, true, true, true, true, true, true, true, true, true, true, false, false, false, false, false, false] rfl rfl (any_of HT_.out (by kernel_rfl)) (fun _ _ _ h => h) (Or.inl ⟨by rfl, ?_⟩) ?_ ?_
        rotate_left
        · intro w'
          go_simp
          with_reducible rfl
        rotate_left
        · simp only [Act.put, List.setIfInBounds_toArray, List.set_cons_zero, List.set_cons_succ, i64_w, i32_w]
          rfl
        refine pure_ (i := 15) (N := (some 32)) (v := ?_) (a' := ?_) #[true, true, true, true, true, true, true, true, true, true, true, true, true, true, true, true, false, false, false, false, false] rfl rfl (any_of HT_.out (by kernel_rfl)) (fun _ _ _ h => h) (Or.inl ⟨by rfl, ?_⟩) ?_ ?_
        rotate_left
        · intro w'
          go_simp
          with_reducible rfl
        rotate_left
        · simp only [Act.put, List.setIfInBounds_toArray, List.set_cons_zero, List.set_cons_succ, i64_w, i32_w]
          rfl
        refine pure_ (i := 16) (N := (some 33)) (v := ?_) (a' := ?_) #[true, true, true, true, true, true, true, true, true, true, true, true, true, true, true, true, true, false, false, false, false] rfl rfl (any_of HT_.out (by kernel_rfl)) (fun _ _ _ h => h) (Or.inl ⟨by rfl, ?_⟩) ?_ ?_
        rotate_left
        · intro w'
          go_simp
          with_reducible rfl
        rotate_left
        · simp only [Act.put, List.setIfInBounds_toArray, List.set_cons_zero, List.set_cons_succ, i64_w, i32_w]
          rfl
        refine take_ (i := 17) (N := (some 34)) (v := ?_) (a' := ?_) #[true, true, true, true, true, true, true, true, true, true, true, true, true, true, true, true, true, true, false, false, false] rfl rfl (take_ofW HT_.out HW_.out (by kernel_rfl)) (fun _ _ _ h => h) (Or.inl ⟨by rfl, ?_⟩) hHeld ?_ ?_
        rotate_left
        · rintro w' ⟨s0, s1, s2⟩
          go_simp
          with_reducible rfl
        rotate_left
        · simp only [Act.put, List.setIfInBounds_toArray, List.set_cons_zero, List.set_cons_succ, i64_w, i32_w]
          rfl
        refine pure_ (i := 18) (N := (some 35)) (v := ?_) (a' := ?_) #[true, true, true, true, true, true, true, true, true, true, true, true, true, true, true, true, true, true, true, false, false] rfl rfl (any_of HT_.out (by kernel_rfl)) (fun _ _ _ h => h) (Or.inl ⟨by rfl, ?_⟩) ?_ ?_
        rotate_left
        · intro w'
          go_simp
          with_reducible rfl
        rotate_left
        · simp only [Act.put, List.setIfInBounds_toArray, List.set_cons_zero, List.set_cons_succ, i64_w, i32_w]
          rfl
        refine pure_ (i := 19) (N := (some 36)) (v := ?_) (a' := ?_) #[true, true, true, true, true, true, true, true, true, true, true, true, true, true, true, true, true, true, true, true, false] rfl rfl (any_of HT_.out (by kernel_rfl)) (fun _ _ _ h => h) (Or.inl ⟨by rfl, ?_⟩) ?_ ?_
        rotate_left
        · intro w'
          go_simp
          with_reducible rfl
        rotate_left
        · simp only [Act.put, List.setIfInBounds_toArray, List.set_cons_zero, List.set_cons_succ, i64_w, i32_w]
          rfl
        refine pure_ (i := 20) (N := (some 37)) (v := ?_) (a' := ?_) #[true, true, true, true, true, true, true, true, true, true, true, true, true, true, true, true, true, true, true, true, true] rfl rfl (any_of HT_.out (by kernel_rfl)) (fun _ _ _ h => h) (Or.inl ⟨by rfl, ?_⟩) ?_ ?_
        rotate_left
        · intro w'
          go_simp
          with_reducible rfl
        rotate_left
        · simp only [Act.put, List.setIfInBounds_toArray, List.set_cons_zero, List.set_cons_succ, i64_w, i32_w]
          rfl
        refine done_ (done_of HT_.out (by kernel_rfl)) ?_
        go_wp2
        go_ret
        exact ⟨rfl, 1, rfl⟩
      · rw [if_neg (fun h => h.elim x0 x1)]
        have e2 : decide ((len : Int) ≤ x) = false := decide_eq_false x1
        have e2' : decide (x ≥ (len : Int)) = false := decide_eq_false x1
        clear x0 x1
        go_enter Try.func30, Try.ntmps30
        go_wp2_with (fail)
        refine HL.out.mono ?_
        rintro e w' ⟨rfl, rfl⟩
        go_wp2_with (fail)
        refine start_ (n := 21) (S := (fun w' => w'.cell? ⟨g, 1, none⟩ = some (.slice (some ⟨B, 0, none⟩) nn cc) ∧ w'.cell? ⟨g, 0, none⟩ = some (.int .i64 (n : Int)) ∧ w'.cell? ⟨B, kk, none⟩ = some (.slice Ak len ck))) (ds := []) #[false, false, false, false, false, false, false, false, false, false, false, false, false, false, false, false, false, false, false, false, false] (by kernel_rfl) rfl rfl (HG.out) (fun hHeld => ?_)
        refine with_tabW frm.tab4 frm.bits4 (fun HT_ HW_ => ?_)
        refine pure_ (i := 0) (N := (some 17)) (v := ?_) (a' := ?_) #[true, false, false, false, false, false, false, false, false, false, false, false, false, false, false, false, false, false, false, false, false] rfl rfl (any_of HT_.out (by kernel_rfl)) (fun _ _ _ h => h) (Or.inl ⟨by rfl, ?_⟩) ?_ ?_
        rotate_left
        · intro w'
          go_simp
          with_reducible rfl
        rotate_left
        · simp only [Act.put, List.setIfInBounds_toArray, List.set_cons_zero, List.set_cons_succ, i64_w, i32_w]
          rfl
        refine pure_ (i := 1) (N := (some 18)) (v := ?_) (a' := ?_) #[true, true, false, false, false, false, false, false, false, false, false, false, false, false, false, false, false, false, false, false, false] rfl rfl (any_of HT_.out (by kernel_rfl)) (fun _ _ _ h => h) (Or.inl ⟨by rfl, ?_⟩) ?_ ?_
        rotate_left
        · intro w'
          go_simp
          with_reducible rfl
        rotate_left
        · simp only [Act.put, List.setIfInBounds_toArray, List.set_cons_zero, List.set_cons_succ, i64_w, i32_w]
          rfl
        refine pure_ (i := 2) (N := (some 19)) (v := ?_) (a' := ?_) #[true, true, true, false, false, false, false, false, false, false, false, false, false, false, false, false, false, false, false, false, false] rfl rfl (any_of HT_.out (by kernel_rfl)) (fun _ _ _ h => h) (Or.inl ⟨by rfl, ?_⟩) ?_ ?_
        rotate_left
        · intro w'
          go_simp
          with_reducible rfl
        rotate_left
        · simp only [Act.put, List.setIfInBounds_toArray, List.set_cons_zero, List.set_cons_succ, i64_w, i32_w]
          rfl
        refine pure_ (i := 3) (N := (some 20)) (v := ?_) (a' := ?_) #[true, true, true, true, false, false, false, false, false, false, false, false, false, false, false, false, false, false, false, false, false] rfl rfl (any_of HT_.out (by kernel_rfl)) (fun _ _ _ h => h) (Or.inl ⟨by rfl, ?_⟩) ?_ ?_
        rotate_left
        · intro w'
          go_simp
          with_reducible rfl
        rotate_left
        · simp only [Act.put, List.setIfInBounds_toArray, List.set_cons_zero, List.set_cons_succ, i64_w, i32_w]
          rfl
        refine pure_ (i := 4) (N := (some 21)) (v := ?_) (a' := ?_) #[true, true, true, true, true, false, false, false, false, false, false, false, false, false, false, false, false, false, false, false, false] rfl rfl (any_of HT_.out (by kernel_rfl)) (fun _ _ _ h => h) (Or.inl ⟨by rfl, ?_⟩) ?_ ?_
        rotate_left
        · intro w'
          go_simp
          with_reducible rfl
        rotate_left
        · simp only [Act.put, List.setIfInBounds_toArray, List.set_cons_zero, List.set_cons_succ, i64_w, i32_w]
          rfl
        refine pure_ (i := 5) (N := (some 22)) (v := ?_) (a' := ?_) #[true, true, true, true, true, true, false, false, false, false, false, false, false, false, false, false, false, false, false, false, false] rfl rfl (any_of HT_.out (by kernel_rfl)) (fun _ _ _ h => h) (Or.inl ⟨by rfl, ?_⟩) ?_ ?_
        rotate_left
        · intro w'
          go_simp
          with_reducible rfl
        rotate_left
        · simp only [Act.put, List.setIfInBounds_toArray, List.set_cons_zero, List.set_cons_succ, i64_w, i32_w]
          rfl
        refine pure_ (i := 6) (N := (some 23)) (v := ?_) (a' := ?_) #[true, true, true, true, true, true, true, false, false, false, false, false, false, false, false, false, false, false, false, false, false] rfl rfl (any_of HT_.out (by kernel_rfl)) (fun _ _ _ h => h) (Or.inl ⟨by rfl, ?_⟩) ?_ ?_
        rotate_left
        · intro w'
          go_simp
          with_reducible rfl
        rotate_left
        · simp only [Act.put, List.setIfInBounds_toArray, List.set_cons_zero, List.set_cons_succ, i64_w, i32_w]
          rfl
        refine pure_ (i := 8) (N := (some 25)) (v := ?_) (a' := ?_) #[true, true, true, true, true, true, true, false, true, false, false, false, false, false, false, false, false, false, false, false, false] rfl rfl (any_of HT_.out (by kernel_rfl)) (fun _ _ _ h => h) (Or.inl ⟨by rfl, ?_⟩) ?_ ?_
        rotate_left
        · intro w'
          go_simp
          with_reducible rfl
        rotate_left
        · simp only [Act.put, List.setIfInBounds_toArray, List.set_cons_zero, List.set_cons_succ, i64_w, i32_w]
          rfl
        refine pure_ (i := 9) (N := (some 26)) (v := ?_) (a' := ?_) #[true, true, true, true, true, true, true, false, true, true, false, false, false, false, false, false, false, false, false, false, false] rfl rfl (any_of HT_.out (by kernel_rfl)) (fun _ _ _ h => h) (Or.inl ⟨by rfl, ?_⟩) ?_ ?_
        rotate_left
        · intro w'
          go_simp
          with_reducible rfl
        rotate_left
        · simp only [Act.put, List.setIfInBounds_toArray, List.set_cons_zero, List.set_cons_succ, i64_w, i32_w]
          rfl
        refine pure_ (i := 10) (N := (some 27)) (v := ?_) (a' := ?_) #[true, true, true, true, true, true, true, false, true, true, true, false, false, false, false, false, false, false, false, false, false] rfl rfl (any_of HT_.out (by kernel_rfl)) (fun _ _ _ h => h) (Or.inl ⟨by rfl, ?_⟩) ?_ ?_
        rotate_left
        · intro w'
          go_simp
          with_reducible rfl
        rotate_left
        · simp only [Act.put, List.setIfInBounds_toArray, List.set_cons_zero, List.set_cons_succ, i64_w, i32_w]
          rfl
        refine pure_ (i := 11) (N := (some 28)) (v := ?_) (a' := ?_) #[true, true, true, true, true, true, true, false, true, true, true, true, false, false, false, false, false, false, false, false, false] rfl rfl (any_of HT_.out (by kernel_rfl)) (fun _ _ _ h => h) (Or.inl ⟨by rfl, ?_⟩) ?_ ?_
        rotate_left
        · intro w'
          go_simp
          with_reducible rfl
        rotate_left
        · simp only [Act.put, List.setIfInBounds_toArray, List.set_cons_zero, List.set_cons_succ, i64_w, i32_w]
          rfl
        refine pure_ (i := 14) (N := (some 31)) (v := ?_) (a' := ?_) #[true, true, true, true, true, true, true, false, true, true, true, true, false, false, true, false, false, false, false, false, false] rfl rfl (any_of HT_.out (by kernel_rfl)) (fun _ _ _ h => h) (Or.inl ⟨by rfl, ?_⟩) ?_ ?_
        rotate_left
        · intro w'
          go_simp
          with_reducible rfl
        rotate_left
        · simp only [Act.put, List.setIfInBounds_toArray, List.set_cons_zero, List.set_cons_succ, i64_w, i32_w]
          rfl
        refine take_ (i := 7) (N := (some 24)) (v := ?_) (a' := ?_) #[true, true, true, true, true, true, true, true, true, true, true, true, false, false, true, false, false, false, false, false, false] rfl rfl (take_ofW HT_.out HW_.out (by kernel_rfl)) (fun _ _ _ h => h) (Or.inl ⟨by rfl, ?_⟩) hHeld ?_ ?_
        rotate_left
        · rintro w' ⟨s0, s1, s2⟩
          go_simp
          with_reducible rfl
        rotate_left
        · simp only [Act.put, List.setIfInBounds_toArray, List.set_cons_zero, List.set_cons_succ, i64_w, i32_w]
          rfl
        refine take_ (i := 12) (N := (some 29)) (v := ?_) (a' := ?_) #[true, true, true, true, true, true, true, true, true, true, true, true, true, false, true, false, false, false, false, false, false] rfl rfl (take_ofW HT_.out HW_.out (by kernel_rfl)) (fun _ _ _ h => h) (Or.inl ⟨by rfl, ?_⟩) hHeld ?_ ?_
        rotate_left
        · rintro w' ⟨s0, s1, s2⟩
          go_simp
          with_reducible rfl
        rotate_left
        · simp only [Act.put, List.setIfInBounds_toArray, List.set_cons_zero, List.set_cons_succ, i64_w, i32_w]
          rfl
        refine pure_ (i := 13) (N := (some 30)) (v := ?_) (a' := ?_) #[true, true, true, true, true, true, true, true, true, true, true, true, true, true, true, false, false, false, false, false, false] rfl rfl (any_of HT_.out (by kernel_rfl)) (fun _ _ _ h => h) (Or.inl ⟨by rfl, ?_⟩) ?_ ?_
        rotate_left
        · intro w'
          go_simp
          with_reducible rfl
        rotate_left
        · simp only [Act.put, List.setIfInBounds_toArray, List.set_cons_zero, List.set_cons_succ, i64_w, i32_w]
          rfl
        refine pure_ (i := 15) (N := (some 32)) (v := ?_) (a' := ?_) #[true, true, true, true, true, true, true, true, true, true, true, true, true, true, true, true, false, false, false, false, false] rfl rfl (any_of HT_.out (by kernel_rfl)) (fun _ _ _ h => h) (Or.inl ⟨by rfl, ?_⟩) ?_ ?_
        rotate_left
        · intro w'
          go_simp
          with_reducible rfl
        rotate_left
        · simp only [Act.put, List.setIfInBounds_toArray, List.set_cons_zero, List.set_cons_succ, i64_w, i32_w]
          rfl
        refine pure_ (i := 16) (N := (some 33)) (v := ?_) (a' := ?_) #[true, true, true, true, true, true, true, true, true, true, true, true, true, true, true, true, true, false, false, false, false] rfl rfl (any_of HT_.out (by kernel_rfl)) (fun _ _ _ h => h) (Or.inl ⟨by rfl, ?_⟩) ?_ ?_
        rotate_left
        · intro w'
          go_simp
          with_reducible rfl
        rotate_left
        · simp only [Act.put, List.setIfInBounds_toArray, List.set_cons_zero, List.set_cons_succ, i64_w, i32_w]
          rfl
        refine take_ (i := 17) (N := (some 34)) (v := ?_) (a' := ?_) #[true, true, true, true, true, true, true, true, true, true, true, true, true, true, true, true, true, true, false, false, false] rfl rfl (take_ofW HT_.out HW_.out (by kernel_rfl)) (fun _ _ _ h => h) (Or.inl ⟨by rfl, ?_⟩) hHeld ?_ ?_
        rotate_left
        · rintro w' ⟨s0, s1, s2⟩
          go_simp
          with_reducible rfl
        rotate_left
        · simp only [Act.put, List.setIfInBounds_toArray, List.set_cons_zero, List.set_cons_succ, i64_w, i32_w]
          rfl
        refine pure_ (i := 18) (N := (some 35)) (v := ?_) (a' := ?_) #[true, true, true, true, true, true, true, true, true, true, true, true, true, true, true, true, true, true, true, false, false] rfl rfl (any_of HT_.out (by kernel_rfl)) (fun _ _ _ h => h) (Or.inl ⟨by rfl, ?_⟩) ?_ ?_
        rotate_left
        · intro w'
          go_simp
          with_reducible rfl
        rotate_left
        · simp only [Act.put, List.setIfInBounds_toArray, List.set_cons_zero, List.set_cons_succ, i64_w, i32_w]
          rfl
        refine pure_ (i := 19) (N := (some 36)) (v := ?_) (a' := ?_) #[true, true, true, true, true, true, true, true, true, true, true, true, true, true, true, true, true, true, true, true, false] rfl rfl (any_of HT_.out (by kernel_rfl)) (fun _ _ _ h => h) (Or.inl ⟨by rfl, ?_⟩) ?_ ?_
        rotate_left
        · intro w'
          go_simp
          with_reducible rfl
        rotate_left
        · simp only [Act.put, List.setIfInBounds_toArray, List.set_cons_zero, List.set_cons_succ, i64_w, i32_w]
          rfl
        refine pure_ (i := 20) (N := (some 37)) (v := ?_) (a' := ?_) #[true, true, true, true, true, true, true, true, true, true, true, true, true, true, true, true, true, true, true, true, true] rfl rfl (any_of HT_.out (by kernel_rfl)) (fun _ _ _ h => h) (Or.inl ⟨by rfl, ?_⟩) ?_ ?_
        rotate_left
        · intro w'
          go_simp
          with_reducible rfl
        rotate_left
        · simp only [Act.put, List.setIfInBounds_toArray, List.set_cons_zero, List.set_cons_succ, i64_w, i32_w]
          rfl
        refine done_ (done_of HT_.out (by kernel_rfl)) ?_
        go_wp2
        go_ret
        exact ⟨rfl, 1, rfl⟩
  · rw [if_neg c]
    have e1 : (linkF n a b != 0) = true := by rw [bne_iff_ne]; exact c
    have C := Aside0.mk c
    clear c
    go_enter Try.func30, Try.ntmps30
    go_wp2_with (fail)
    refine HL.out.mono ?_
    rintro e w' ⟨rfl, rfl⟩
    go_wp2
    go_ret
    exact ⟨rfl, 0, rfl⟩
end Go.Proofs.Ytchepjbdaojidaa.PBags
namespace Go.Proofs.Ytchepjbdaojidaa.PBags
open Go.RowKit Go.Proofs.YtchepjbdaojidaaW.PrintWords Go.Proofs.YtchepjbdaojidaaW.PrintLast Go.Proofs.YtchepjbdaojidaaW.PrintMore
attribute [local go_sem] max2_int min2_int max_two min_two max_three min_three max_four min_four
set_option linter.unusedVariables false
set_option linter.unusedSimpArgs false
theorem info69 : (Try.prog.info? 69).map (fun i => (i.zero, i.size, i.bytes)) = some (some (.slice none 0 0), 1, 24) := by kernel_rfl
theorem info68 : (Try.prog.info? 68).map (fun i => (i.zero, i.size, i.bytes)) = some (some (.agg #[(.slice none 0 0), (.bool false)]), 2, 32) := by kernel_rfl
theorem NetI.make {w : World} {base : Nat} {ok : Nat → Prop} {n : Nat} {v : Value} (h1 : 1 ≤ n) (h64 : n ≤ 64) (hb : base ≤ w.heap.size) (hok : ok w.heap.size) {bs : List (List Frame)} (hl : bs.length = n * n) (h : Kd.S bagK 69 w base ok v bs) :
    NetI (w.alloc (.cells #[.int .i64 (n : Int), v] 65)) base ok w.heap.size n bs := by
  obtain ⟨A, c, hv⟩ := Kd.S_slice h
  rw [hl] at hv
  subst hv
  exact ⟨A, c, Mem.alloc_new _ _, hb, hok, h1, h64, hl, Kd.S_alloc (Kd.S_mono (Kd.S_bound h) (fun k hk => ⟨hk.1, by have := hk.2.2.1; omega⟩)) _⟩
set_option maxHeartbeats 4000000 in
set_option maxRecDepth 100000 in
theorem new_calls (w : World) (n : Nat) (h1 : 1 ≤ n) (h64 : n ≤ 64) : Calls Try.prog 10 #[.int .i64 (n : Int)] w fun e w' => ∃ g, e = .returned (.tuple #[.pointer (some ⟨g, 0, none⟩), .int .i64 0]) ∧ NetI w' w.heap.size (fun k => w.heap.size ≤ k) g n (List.replicate (n * n) []) ∧ Below w.heap.size w w' := by
  have e1 : decide ((n : Int) < 1) = false := decide_eq_false (by omega)
  have e2 : decide ((64 : Int) < (n : Int)) = false := decide_eq_false (by omega)
  have e2' : decide ((n : Int) > 64) = false := decide_eq_false (by omega)
  have hm : n * n ≤ 4096 := Nat.le_trans (Nat.mul_le_mul h64 h64) (by decide)
  have hw1 : wrap64 ((n : Int) * (n : Int)) = ((n * n : Nat) : Int) := by rw [← Int.natCast_mul]; exact wrap_nat (Nat.le_trans hm (by decide))
  have hmul : (n : Int) * (n : Int) = ((n * n : Nat) : Int) := (Int.natCast_mul n n).symm
  obtain ⟨nn, hnn⟩ : ∃ nn, n * n = nn := ⟨_, rfl⟩
  rw [hnn] at hm hw1 hmul
  have hw2 : wrap64 (nn : Int) = (nn : Int) := wrap_nat (Nat.le_trans hm (by decide))
  have HN := Aside0.mk hnn
  clear hnn
  have h0 : (0 : Int) ≤ (nn : Int) := Int.natCast_nonneg _
  have hbl : (nn : Int).toNat * 24 ≤ 281474976710656 := by rw [Int.toNat_natCast]; omega
  go_enter Try.func10, Try.ntmps10
  go_wp2_with ((with_reducible refine gate_dst (N := 14) rfl ?_); refine Kd.S_make bagK (w0 := w) w.heap.size 69 rfl (N := 14) rfl 63 _ _ rfl (nn : Int) rfl rfl Try.underlying63 (.slice none 0 0) 24 info69 rfl (by decide) (by omega) ([] : List Frame) (ok := fun k => w.heap.size ≤ k) (okp := fun _ => False) ?hz (fun _ h => h.elim) (Nat.le_refl _) h0 hbl (Below.refl _ _) (Nat.le_refl _) ?_; (case hz => exact ⟨_, rfl, Kd.R_nil _ _ _ _ _⟩); intro v1 w1 ho hb hg hnew; rw [Int.toNat_natCast] at ho; obtain ⟨A, c, rfl⟩ := Kd.S_slice ho; have HO := Aside0.mk ho; have HB := Aside0.mk hb; clear ho hb hg hnew)
  go_ret2
  rw [List.length_replicate] at HO
  refine ⟨w1.heap.size, rfl, ?_, below_alloc HB.out _⟩
  rw [HN.out]
  exact NetI.make (ok := fun k => w.heap.size ≤ k) h1 h64 HB.out.size HB.out.size (by rw [List.length_replicate, HN.out]) HO.out
theorem new_out (w : World) (x : Int) (h : x < 1 ∨ 64 < x) : Calls Try.prog 10 #[.int .i64 x] w fun e w' => e = .returned (.tuple #[.pointer none, .int .i64 1]) ∧ w' = w := by
  by_cases c : x < 1
  · have e1 : decide (x < 1) = true := decide_eq_true c
    clear c h
    go_enter Try.func10, Try.ntmps10
    go_wp2
    go_ret2
    exact ⟨rfl, rfl⟩
  · have e1 : decide (x < 1) = false := decide_eq_false c
    have e2 : decide ((64 : Int) < x) = true := decide_eq_true (by omega)
    have e2' : decide (x > 64) = true := decide_eq_true (by omega)
    clear c h
    go_enter Try.func10, Try.ntmps10
    go_wp2
    go_ret2
    exact ⟨rfl, rfl⟩
end Go.Proofs.Ytchepjbdaojidaa.PBags
namespace Go.Proofs.Ytchepjbdaojidaa.PBags
open Go.RowKit Go.Proofs.YtchepjbdaojidaaW.PrintWords Go.Proofs.YtchepjbdaojidaaW.PrintLast Go.Proofs.YtchepjbdaojidaaW.PrintMore
set_option linter.unusedVariables false
/-- Bag k of the net at g is lent: its row is v, its blocks are oki. -/
structure Lent (w : World) (base : Nat) (P : Nat → Prop) (g n : Nat) (bs : List (List Frame)) (k B cc : Nat) (v : Value) (oki : Nat → Prop) : Prop where
  net : w.heap[g]? = some (.cells #[.int .i64 (n : Int), .slice (some ⟨B, 0, none⟩) (n * n) cc] 65 (0, 0))
  base_le : base ≤ g
  Pg : P g
  one : 1 ≤ n
  max : n ≤ 64
  len : bs.length = n * n
  kn : k < n * n
  cell : w.cell? ⟨B, k, none⟩ = some v
  PB : P B
  ne : B ≠ g
  ok : ∀ b, oki b → (P b ∧ b ≠ g) ∧ b ≠ B
  hole : Kd.H bagK 69 w base (fun b => P b ∧ b ≠ g) (.slice (some ⟨B, 0, none⟩) (n * n) cc) bs (k : Int) oki [v]
  free : w.frozen? ⟨B, k, none⟩ = false
theorem NetI.lend {w : World} {base : Nat} {P : Nat → Prop} {g n : Nat} {bs : List (List Frame)} (h : NetI w base P g n bs) (k : Nat) (hk : k < n * n) :
    ∃ (B cc : Nat) (Ak : Option Addr) (ck : Nat) (oki : Nat → Prop), Lent w base P g n bs k B cc (.slice Ak (bs.getD k []).length ck) oki ∧ (bs.getD k []).length ≤ ck ∧ frameK.R 68 w base oki (.slice Ak (bs.getD k []).length ck) (bs.getD k []) := by
  have h' := h
  obtain ⟨A, c, h1, h2, h3, h4, h5, h6, h7⟩ := h'
  obtain ⟨B, cc, Ak, ck, oki, g1, g2, g3, g4, g5, g6, g7, g8⟩ := h.bag k hk
  obtain ⟨B', cap, he, hB1, hB2, cells, hB3⟩ := Kd.S_form h7 (by omega)
  rw [g1] at h1
  have e2 : Value.slice (some ⟨B, 0, none⟩) (n * n) cc = Value.slice A (n * n) c := by
    have e := congrArg (fun o : Option Obj => match o with | some (.cells cs _ _) => cs[1]? | _ => none) h1
    exact Option.some.inj e
  rw [← e2] at he
  have e3 : B = B' := by injection he with e _ _; injection e with e; injection e
  subst e3
  exact ⟨B, cc, Ak, ck, oki, ⟨g1, h2, h3, h4, h5, h6, hk, g2, g8, g7, g5, g6, Mem.free_of hB3 k⟩, g3, g4⟩
theorem Lent.widen {w : World} {base : Nat} {P : Nat → Prop} {g n : Nat} {bs : List (List Frame)} {k B cc : Nat} {v : Value} {oki : Nat → Prop} (h : Lent w base P g n bs k B cc v oki) (hB : B < w.heap.size) :
    Lent w base (fun b => P b ∨ w.heap.size ≤ b) g n bs k B cc v (fun b => oki b ∨ w.heap.size ≤ b) := by
  have hg : g < w.heap.size := blk_lt h.net
  refine ⟨h.net, h.base_le, .inl h.Pg, h.one, h.max, h.len, h.kn, h.cell, .inl h.PB, h.ne, fun b hb => ?_, ?_, h.free⟩
  · rcases hb with hb | hb
    · exact ⟨⟨.inl (h.ok b hb).1.1, (h.ok b hb).1.2⟩, (h.ok b hb).2⟩
    · exact ⟨⟨.inr hb, by omega⟩, by omega⟩
  · have h1 := Kd.H_widen (Kd.H_mono h.hole (ok' := fun b => (P b ∨ w.heap.size ≤ b) ∧ b ≠ g) (fun b hb => ⟨.inl hb.1, hb.2⟩))
    obtain ⟨ho, f, hR⟩ := h1
    refine ⟨fun b hb => ?_, f, Kd.R_mono hR (fun b hb => ⟨hb.1, fun hn => hb.2 ?_⟩)⟩
    · rcases hb with hb | hb
      · exact ho b (.inl hb)
      · exact ⟨.inr hb, by omega⟩
    · rcases hn with hn | hn
      · exact .inl hn
      · exact .inr ⟨⟨.inr hn, by omega⟩, hn⟩
theorem Lent.below {w w1 : World} {base : Nat} {P : Nat → Prop} {g n : Nat} {bs : List (List Frame)} {k B cc : Nat} {v : Value} {oki : Nat → Prop} (h : Lent w base P g n bs k B cc v oki) (hb : Below w.heap.size w w1) : Lent w1 base P g n bs k B cc v oki :=
  ⟨(hb.block g (blk_lt h.net)).trans h.net, h.base_le, h.Pg, h.one, h.max, h.len, h.kn, (hb.cell (World.block_lt_of_cell? w _ h.cell)).trans h.cell, h.PB, h.ne, h.ok, Kd.H_below h.hole hb,
    (World.frozen?_of_block (hb.block B (World.block_lt_of_cell? w _ h.cell))).trans h.free⟩
theorem Lent.grown {w w1 : World} {base : Nat} {P : Nat → Prop} {g n : Nat} {bs : List (List Frame)} {k B cc : Nat} {v : Value} {oki : Nat → Prop} (h : Lent w base P g n bs k B cc v oki) {row : Option Nat} (hg : w.grownBy w1 row) (hr : ∀ b, row = some b → oki b) : Lent w1 base P g n bs k B cc v oki := by
  have hB := World.block_lt_of_cell? w _ h.cell
  have n1 : some g ≠ row := fun e => (h.ok g (hr g e.symm)).1.2 rfl
  have n2 : some B ≠ row := fun e => (h.ok B (hr B e.symm)).2 rfl
  exact ⟨(hg.block g (blk_lt h.net) n1).trans h.net, h.base_le, h.Pg, h.one, h.max, h.len, h.kn, (World.cell?_of_block (hg.block B hB n2)).trans h.cell, h.PB, h.ne, h.ok, Kd.H_grown h.hole hg hr,
    (World.frozen?_of_block (hg.block B hB n2)).trans h.free⟩
theorem Lent.put {w : World} {base : Nat} {P : Nat → Prop} {g n : Nat} {bs : List (List Frame)} {k B cc : Nat} {v : Value} {oki : Nat → Prop} (h : Lent w base P g n bs k B cc v oki) {v1 : Value} {xs : List Frame} (hR : frameK.R 68 w base oki v1 xs) :
    NetI (w.setCell ⟨B, k, none⟩ v1) base P g n (bs.set k xs) := by
  have hkn := h.kn
  obtain ⟨A1, c1, rfl⟩ := Kd.R_slice hR
  obtain ⟨h1, h2⟩ := Kd.H_seg h.hole (Int.natCast_nonneg k) (by omega) (seg := [.slice A1 xs.length c1]) (j := 0) (by show 0 + 1 ≤ 1; omega) (fun q hq => by rw [List.mem_singleton.1 hq]; rfl)
  have e : w.setCells B ((k : Int).toNat * bagK.sz + 0) [.slice A1 xs.length c1] = w.setCell ⟨B, k, none⟩ (.slice A1 xs.length c1) := by
    rw [Int.toNat_natCast, show k * bagK.sz + 0 = k from by show k * 1 + 0 = k; omega]
    rfl
  rw [e] at h1 h2
  have hM : bagK.M (w.setCell ⟨B, k, none⟩ (.slice A1 xs.length c1)) base oki xs [.slice A1 xs.length c1] := ⟨_, rfl, Kd.R_far hR (fun b hb => (h.ok b hb).2) _⟩
  have h3 := Kd.H_back h1 (x' := xs) hM (fun _ hb => hb)
  rw [Int.toNat_natCast] at h3
  exact ⟨some ⟨B, 0, none⟩, cc, (Mem.set_other _ _ _ _ (fun e => h.ne e.symm)).trans h.net, h.base_le, h.Pg, h.one, h.max, by rw [List.length_set, h.len], h3⟩
end Go.Proofs.Ytchepjbdaojidaa.PBags
namespace Go.Proofs.Ytchepjbdaojidaa.PBags
open Go.RowKit Go.Proofs.YtchepjbdaojidaaW.PrintWords Go.Proofs.YtchepjbdaojidaaW.PrintLast Go.Proofs.YtchepjbdaojidaaW.PrintMore
attribute [local go_sem] max2_int min2_int max_two min_two max_three min_three max_four min_four
set_option linter.unusedVariables false
set_option linter.unusedSimpArgs false
def putr.T9 : Bool × List (List Nat × List Nat) := (true, [([], []), ([0], [0]), ([1], [1]), ([2], [2]), ([], []), ([], []), ([5], [5]), ([6], [6]), ([7], [7]), ([], []), ([8, 9], [8, 9]), ([10], [10]), ([], []), ([12], [12]), ([13], [13]), ([11, 14, 13], [11, 14]), ([3, 4, 0, 1, 2, 3, 4, 5, 6, 7, 8, 9, 10, 11, 12, 13, 14, 15], [3, 4]), ([16, 15, 15, 0, 1, 2, 3, 4, 5, 6, 7, 8, 9, 10, 11, 12, 13, 14, 15], [15, 16])])
def putr.B9 : List Nat := [0, 1, 3, 7, 0, 0, 32, 96, 224, 0, 992, 2016, 0, 4096, 12288, 32736, 65535, 131071]
theorem putr.tab9 : rtab .any (opsOf Try.f29 9) = putr.T9 := by kernel_rfl
theorem putr.bits9 : waitsOk putr.T9.2 putr.B9 = true := by kernel_rfl
theorem NetI.below {w w1 : World} {base : Nat} {P : Nat → Prop} {g n : Nat} {bs : List (List Frame)} (h : NetI w base P g n bs) (hb : Below w.heap.size w w1) : NetI w1 base P g n bs := by
  obtain ⟨A, c, h1, h2, h3, h4, h5, h6, h7⟩ := h
  exact ⟨A, c, (hb.block g (blk_lt h1)).trans h1, h2, h3, h4, h5, h6, Kd.S_below h7 hb⟩
theorem NetI.mono {w : World} {base : Nat} {P P' : Nat → Prop} {g n : Nat} {bs : List (List Frame)} (h : NetI w base P g n bs) (hP : ∀ k, P k → P' k) : NetI w base P' g n bs := by
  obtain ⟨A, c, h1, h2, h3, h4, h5, h6, h7⟩ := h
  exact ⟨A, c, h1, h2, hP g h3, h4, h5, h6, Kd.S_mono h7 (fun k hk => ⟨hP k hk.1, hk.2⟩)⟩
theorem NetI.le {w : World} {base : Nat} {P : Nat → Prop} {g n : Nat} {bs : List (List Frame)} (h : NetI w base P g n bs) : base ≤ w.heap.size := by
  obtain ⟨A, c, h1, h2, h3⟩ := h
  have := blk_lt h1
  omega
def putF (n : Nat) (bs : List (List Frame)) (a b : Int) (f : Frame) : Int × List (List Frame) :=
  if linkF n a b = 0 then (if 65545 < f.1.length then (3, bs) else if (bs.getD (key n a b) []).length = 256 then (6, bs) else (0, bs.set (key n a b) (bs.getD (key n a b) [] ++ [f]))) else (linkF n a b, bs)
set_option maxHeartbeats 8000000 in
set_option maxRecDepth 100000 in
theorem put_calls {w : World} {base : Nat} {P : Nat → Prop} {g n : Nat} {bs : List (List Frame)} (h : NetI w base P g n bs) (a b : Int) (A : Option Addr) (c : Nat) (l : List Int) (sp : Bool) (hf : Kd.C (Kd.int .u8) w A l.length l) (hc : l.length ≤ c) (hsm : (bs.getD (key n a b) []).length ≤ 256) :
    Calls Try.prog 29 #[.pointer (some ⟨g, 0, none⟩), .int .i64 a, .int .i64 b, .agg #[.slice A l.length c, .bool sp]] w fun e w' => e = .returned (.int .i64 (putF n bs a b (l, sp)).1) ∧ NetI w' base (fun k => P k ∨ w.heap.size ≤ k) g n (putF n bs a b (l, sp)).2 ∧ Kept w w' P := by
  have hbl := below_alloc (Below.refl w.heap.size w) (.cells #[.slice A l.length c, .bool sp] 68)
  have HN0 := Aside0.mk ((h.below hbl).mono (P' := fun k => P k ∨ w.heap.size ≤ k) (fun k hk => .inl hk))
  have HK0 := Aside0.mk (Kept.alloc (Kept.refl w P) (.cells #[.slice A l.length c, .bool sp] 68))
  have HF := Aside0.mk (Kd.C_below hf hbl)
  have hbx : (w.alloc (.cells #[.slice A l.length c, .bool sp] 68)).heap[w.heap.size]? = some (.cells #[.slice A l.length c, .bool sp] 68 (0, 0)) := Mem.alloc_new _ _
  have hsz : w.heap.size < (w.alloc (.cells #[.slice A l.length c, .bool sp] 68)).heap.size := blk_lt hbx
  have HLK := Aside0.mk (link_net HN0.out a b)
  clear hf
  unfold putF
  by_cases c0 : linkF n a b = 0
  case neg =>
    rw [if_neg c0]
    have e1 : (linkF n a b != 0) = true := by rw [bne_iff_ne]; exact c0
    have C := Aside0.mk c0
    clear c0 hbx hsz h hbl
    go_enter Try.func29, Try.ntmps29
    go_wp2_with (fail)
    refine HLK.out.mono ?_
    rintro e w' ⟨rfl, rfl⟩
    go_wp2
    go_ret
    exact ⟨rfl, HN0.out, HK0.out⟩
  rw [if_pos c0]
  rw [c0] at HLK
  obtain ⟨i, j, rfl, rfl, hi, hj, hij⟩ := linkF_ok c0
  clear c0
  have hn := HN0.out.size.2.2
  have hk : key n (i : Int) (j : Int) = i * n + j := by unfold key; rw [Int.toNat_natCast, Int.toNat_natCast]
  rw [hk] at hsm ⊢
  obtain ⟨B, cc, Ak, ck, oki, HL0, hle, hR0⟩ := h.lend (i * n + j) (key_lt hi hj)
  have hBlt : B < w.heap.size := World.block_lt_of_cell? w _ HL0.cell
  have HL := (HL0.widen hBlt).below hbl
  have hR := Kd.R_below hR0 hbl
  have HOW := Aside0.mk (Kd.R_lt hR0)
  have HBase := Aside0.mk h.le
  clear h hbl HL0 hR0
  have hm := keep_le hi hn
  have hkl := key_lt hi hj
  have hw1 : wrap64 ((i : Int) * (n : Int)) = ((i * n : Nat) : Int) := by rw [← Int.natCast_mul]; exact wrap_nat (Nat.le_trans hm (by decide))
  have hw2 : wrap64 (((i * n : Nat) : Int) + (j : Int)) = ((i * n + j : Nat) : Int) := by rw [← Int.natCast_add]; exact wrap_nat (Nat.le_trans (Nat.add_le_add hm (Nat.le_trans (Nat.le_of_lt hj) hn)) (by decide))
  have b1 : (0 ≤ ((i * n + j : Nat) : Int)) = True := eq_true (Int.natCast_nonneg _)
  have b2 : (((i * n + j : Nat) : Int) < ((n * n : Nat) : Int)) = True := eq_true (Int.ofNat_lt.2 hkl)
  have b3 : (i * n + j < n * n) = True := eq_true hkl
  have q1 := Mem.cell_of HL.net 1
  have q0 := Mem.cell_of HL.net 0
  have qB := HL.cell
  rw [show (#[Value.int .i64 (n : Int), .slice (some ⟨B, 0, none⟩) (n * n) cc] : Array Value)[1]? = some (.slice (some ⟨B, 0, none⟩) (n * n) cc) from rfl] at q1
  rw [show (#[Value.int .i64 (n : Int), .slice (some ⟨B, 0, none⟩) (n * n) cc] : Array Value)[0]? = some (.int .i64 (n : Int)) from rfl] at q0
  have qx0 := Mem.cell_of hbx 0
  have qx1 := Mem.cell_of hbx 1
  rw [show (#[Value.slice A l.length c, .bool sp] : Array Value)[0]? = some (.slice A l.length c) from rfl] at qx0
  rw [show (#[Value.slice A l.length c, .bool sp] : Array Value)[1]? = some (.bool sp) from rfl] at qx1
  have HLL := Aside0.mk HL
  have HRR := Aside0.mk hR
  have HBX := Aside0.mk hbx
  clear HL hR hk hm hij hbx
  generalize bs.getD (i * n + j) [] = xs at *
  obtain ⟨nn, hnn⟩ : ∃ nn, n * n = nn := ⟨_, rfl⟩
  rw [hnn] at q1 b2 b3
  have HNN := Aside0.mk hnn
  clear hnn hkl
  generalize i * n = mm at *
  generalize mm + j = kk at *
  by_cases c1 : 65545 < l.length
  · have e2 : decide ((65545 : Int) < (l.length : Int)) = true := decide_eq_true (by omega)
    have e2' : decide ((l.length : Int) > 65545) = true := decide_eq_true (by omega)
    rw [if_pos c1]
    go_enter Try.func29, Try.ntmps29
    go_wp2_with (fail)
    refine HLK.out.mono ?_
    rintro e w' ⟨rfl, rfl⟩
    clear HLK
    generalize w.alloc (.cells #[.slice A l.length c, .bool sp] 68) = W0 at *
    go_wp2
    go_ret
    exact ⟨rfl, HN0.out, HK0.out⟩
  have e2 : decide ((65545 : Int) < (l.length : Int)) = false := decide_eq_false (by omega)
  have e2' : decide ((l.length : Int) > 65545) = false := decide_eq_false (by omega)
  rw [if_neg c1]
  by_cases c2 : xs.length = 256
  · have e3 : ((xs.length : Int) == 256) = true := by rw [beq_iff_eq]; omega
    rw [if_pos c2]
    have C2 := Aside0.mk c2
    clear c2
    go_enter Try.func29, Try.ntmps29
    go_wp2_with (fail)
    refine HLK.out.mono ?_
    rintro e w' ⟨rfl, rfl⟩
    clear HLK
    generalize w.alloc (.cells #[.slice A l.length c, .bool sp] 68) = W0 at *
    go_wp2
    go_ret
    exact ⟨rfl, HN0.out, HK0.out⟩
  have e3 : ((xs.length : Int) == 256) = false := by rw [beq_eq_false_iff_ne]; omega
  rw [if_neg c2]
  go_enter Try.func29, Try.ntmps29
  go_wp2_with (fail)
  refine HLK.out.mono ?_
  rintro e w' ⟨rfl, rfl⟩
  clear HLK
  generalize w.alloc (.cells #[.slice A l.length c, .bool sp] 68) = W0 at *
  go_wp2_with (fail)
  have HLW := Aside0.mk (HLL.out.below (below_drew (Below.refl W0.heap.size W0)))
  have HRD := Aside0.mk (Kd.R_drew HRR.out)
  have AG : bags_sent_again.f l sp = some (l, sp) := by unfold bags_sent_again.f; rw [Option.bind_some, if_pos (by simp; omega)]; rfl
  have HAG := Aside0.mk AG
  have HFD := Aside0.mk (Kd.C_drew HF.out)
  have HS : Aside0 (W0.drew.cell? ⟨g, 1, none⟩ = _ ∧ W0.drew.cell? ⟨B, kk, none⟩ = _ ∧ W0.drew.cell? ⟨w.heap.size, 0, none⟩ = _ ∧ W0.drew.cell? ⟨w.heap.size, 1, none⟩ = _ ∧ W0.drew.heap[w.heap.size]? = _) := ⟨q1, qB, qx0, qx1, HBX.out⟩
  clear AG HLL HRR HF
  refine start_ (n := 18) (S := (fun w' => w'.cell? ⟨g, 1, none⟩ = some (.slice (some ⟨B, 0, none⟩) nn cc) ∧ w'.cell? ⟨B, kk, none⟩ = some (.slice Ak xs.length ck) ∧ w'.cell? ⟨w.heap.size, 0, none⟩ = some (.slice A l.length c) ∧ w'.cell? ⟨w.heap.size, 1, none⟩ = some (.bool sp) ∧ w'.heap[w.heap.size]? = some (.cells #[.slice A l.length c, .bool sp] 68 (0, 0)))) (ds := [17]) #[false, false, false, false, false, false, false, false, false, false, false, false, false, false, false, false, false, false] (by kernel_rfl) rfl rfl (HS.out) (fun hHeld => ?_)
  refine with_tabW putr.tab9 putr.bits9 (fun HT_ HW_ => ?_)
  refine pure_ (i := 0) (N := (some 39)) (v := ?_) (a' := ?_) #[true, false, false, false, false, false, false, false, false, false, false, false, false, false, false, false, false, false] rfl rfl (any_of HT_.out (by kernel_rfl)) (fun _ _ _ h => h) (Or.inl ⟨by rfl, ?_⟩) ?_ ?_
  rotate_left
  · intro w'
    go_simp
    with_reducible rfl
  rotate_left
  · simp only [Act.put, List.setIfInBounds_toArray, List.set_cons_zero, List.set_cons_succ, i64_w, i32_w]
    rfl
  refine pure_ (i := 1) (N := (some 40)) (v := ?_) (a' := ?_) #[true, true, false, false, false, false, false, false, false, false, false, false, false, false, false, false, false, false] rfl rfl (any_of HT_.out (by kernel_rfl)) (fun _ _ _ h => h) (Or.inl ⟨by rfl, ?_⟩) ?_ ?_
  rotate_left
  · intro w'
    go_simp
    with_reducible rfl
  rotate_left
  · simp only [Act.put, List.setIfInBounds_toArray, List.set_cons_zero, List.set_cons_succ, i64_w, i32_w]
    rfl
  refine pure_ (i := 2) (N := (some 41)) (v := ?_) (a' := ?_) #[true, true, true, false, false, false, false, false, false, false, false, false, false, false, false, false, false, false] rfl rfl (any_of HT_.out (by kernel_rfl)) (fun _ _ _ h => h) (Or.inl ⟨by rfl, ?_⟩) ?_ ?_
  rotate_left
  · intro w'
    go_simp
    with_reducible rfl
  rotate_left
  · simp only [Act.put, List.setIfInBounds_toArray, List.set_cons_zero, List.set_cons_succ, i64_w, i32_w]
    rfl
  refine pure_ (i := 4) (N := (some 43)) (v := ?_) (a' := ?_) #[true, true, true, false, true, false, false, false, false, false, false, false, false, false, false, false, false, false] rfl rfl (any_of HT_.out (by kernel_rfl)) (fun _ _ _ h => h) (Or.inl ⟨by rfl, ?_⟩) ?_ ?_
  rotate_left
  · intro w'
    go_simp
    with_reducible rfl
  rotate_left
  · simp only [Act.put, List.setIfInBounds_toArray, List.set_cons_zero, List.set_cons_succ, i64_w, i32_w]
    rfl
  refine pure_ (i := 5) (N := (some 44)) (v := ?_) (a' := ?_) #[true, true, true, false, true, true, false, false, false, false, false, false, false, false, false, false, false, false] rfl rfl (any_of HT_.out (by kernel_rfl)) (fun _ _ _ h => h) (Or.inl ⟨by rfl, ?_⟩) ?_ ?_
  rotate_left
  · intro w'
    go_simp
    with_reducible rfl
  rotate_left
  · simp only [Act.put, List.setIfInBounds_toArray, List.set_cons_zero, List.set_cons_succ, i64_w, i32_w]
    rfl
  refine pure_ (i := 6) (N := (some 45)) (v := ?_) (a' := ?_) #[true, true, true, false, true, true, true, false, false, false, false, false, false, false, false, false, false, false] rfl rfl (any_of HT_.out (by kernel_rfl)) (fun _ _ _ h => h) (Or.inl ⟨by rfl, ?_⟩) ?_ ?_
  rotate_left
  · intro w'
    go_simp
    with_reducible rfl
  rotate_left
  · simp only [Act.put, List.setIfInBounds_toArray, List.set_cons_zero, List.set_cons_succ, i64_w, i32_w]
    rfl
  refine pure_ (i := 7) (N := (some 46)) (v := ?_) (a' := ?_) #[true, true, true, false, true, true, true, true, false, false, false, false, false, false, false, false, false, false] rfl rfl (any_of HT_.out (by kernel_rfl)) (fun _ _ _ h => h) (Or.inl ⟨by rfl, ?_⟩) ?_ ?_
  rotate_left
  · intro w'
    go_simp
    with_reducible rfl
  rotate_left
  · simp only [Act.put, List.setIfInBounds_toArray, List.set_cons_zero, List.set_cons_succ, i64_w, i32_w]
    rfl
  refine pure_ (i := 9) (N := (some 48)) (v := ?_) (a' := ?_) #[true, true, true, false, true, true, true, true, false, true, false, false, false, false, false, false, false, false] rfl rfl (any_of HT_.out (by kernel_rfl)) (fun _ _ _ h => h) (Or.inl ⟨by rfl, ?_⟩) ?_ ?_
  rotate_left
  · intro w'
    go_simp
    with_reducible rfl
  rotate_left
  · simp only [Act.put, List.setIfInBounds_toArray, List.set_cons_zero, List.set_cons_succ, i64_w, i32_w]
    rfl
  refine take_ (i := 3) (N := (some 42)) (v := ?_) (a' := ?_) #[true, true, true, true, true, true, true, true, false, true, false, false, false, false, false, false, false, false] rfl rfl (take_ofW HT_.out HW_.out (by kernel_rfl)) (fun _ _ _ h => h) (Or.inl ⟨by rfl, ?_⟩) hHeld ?_ ?_
  rotate_left
  · rintro w' ⟨s0, s1, s2, s3, s4⟩
    go_simp
    with_reducible rfl
  rotate_left
  · simp only [Act.put, List.setIfInBounds_toArray, List.set_cons_zero, List.set_cons_succ, i64_w, i32_w]
    rfl
  refine take_ (i := 8) (N := (some 47)) (v := ?_) (a' := ?_) #[true, true, true, true, true, true, true, true, true, true, false, false, false, false, false, false, false, false] rfl rfl (take_ofW HT_.out HW_.out (by kernel_rfl)) (fun _ _ _ h => h) (Or.inl ⟨by rfl, ?_⟩) hHeld ?_ ?_
  rotate_left
  · rintro w' ⟨s0, s1, s2, s3, s4⟩
    go_simp
    with_reducible rfl
  rotate_left
  · simp only [Act.put, List.setIfInBounds_toArray, List.set_cons_zero, List.set_cons_succ, i64_w, i32_w]
    rfl
  refine pure_ (i := 10) (N := (some 49)) (v := ?_) (a' := ?_) #[true, true, true, true, true, true, true, true, true, true, true, false, false, false, false, false, false, false] rfl rfl (any_of HT_.out (by kernel_rfl)) (fun _ _ _ h => h) (Or.inl ⟨by rfl, ?_⟩) ?_ ?_
  rotate_left
  · intro w'
    go_simp
    with_reducible rfl
  rotate_left
  · simp only [Act.put, List.setIfInBounds_toArray, List.set_cons_zero, List.set_cons_succ, i64_w, i32_w]
    rfl
  refine take_ (i := 11) (N := (some 50)) (v := ?_) (a' := ?_) #[true, true, true, true, true, true, true, true, true, true, true, true, false, false, false, false, false, false] rfl rfl (take_ofW HT_.out HW_.out (by kernel_rfl)) (fun _ _ _ h => h) (Or.inl ⟨by rfl, ?_⟩) hHeld ?_ ?_
  rotate_left
  · rintro w' ⟨s0, s1, s2, s3, s4⟩
    go_simp
    with_reducible rfl
  rotate_left
  · simp only [Act.put, List.setIfInBounds_toArray, List.set_cons_zero, List.set_cons_succ, i64_w, i32_w]
    rfl
  refine take_ (i := 12) (N := (some 51)) (v := ?_) (a' := ?_) #[true, true, true, true, true, true, true, true, true, true, true, true, true, false, false, false, false, false] rfl rfl (take_ofW HT_.out HW_.out (by kernel_rfl)) (fun _ _ _ h => h) (Or.inl ⟨by rfl, ?_⟩) hHeld ?_ ?_
  rotate_left
  · rintro w' ⟨s0, s1, s2, s3, s4⟩
    go_simp
    with_reducible rfl
  rotate_left
  · simp only [Act.put, List.setIfInBounds_toArray, List.set_cons_zero, List.set_cons_succ, i64_w, i32_w]
    rfl
  refine one_ (i := 13) (N := (some 52)) #[true, true, true, true, true, true, true, true, true, true, true, true, true, true, false, false, false, false] rfl rfl (one_of HT_.out (by kernel_rfl)) (by decide) (fun K hK => ?_)
  refine goes_ Try.func40 (by kernel_rfl) rfl #[.agg #[.slice A l.length c, .bool sp]] (by rfl) rfl rfl (by (try simp only [List.map_toArray, List.map_cons, List.map_nil]); first | done | rfl) ?_
  refine (bags_sent_again.calls A c l sp l sp _ HFD.out hc HAG.out).mono ?_
  rintro e w5 ⟨v5, rfl, ho5, hb5⟩
  refine ⟨_, rfl, ?_⟩
  have HL5 := Aside0.mk (HLW.out.below hb5)
  have HO5 := Aside0.mk ho5
  have HB5 := Aside0.mk hb5
  have HR5 := Aside0.mk (Kd.R_below HRD.out hb5)
  have hS5 : (fun w' => w'.cell? ⟨g, 1, none⟩ = some (.slice (some ⟨B, 0, none⟩) nn cc) ∧ w'.cell? ⟨B, kk, none⟩ = some (.slice Ak xs.length ck) ∧ w'.cell? ⟨w.heap.size, 0, none⟩ = some (.slice A l.length c) ∧ w'.cell? ⟨w.heap.size, 1, none⟩ = some (.bool sp) ∧ w'.heap[w.heap.size]? = some (.cells #[.slice A l.length c, .bool sp] 68 (0, 0))) w5 := ⟨(hb5.cell (World.block_lt_of_cell? _ _ hHeld.1)).trans hHeld.1, (hb5.cell (World.block_lt_of_cell? _ _ hHeld.2.1)).trans hHeld.2.1, (hb5.cell (World.block_lt_of_cell? _ _ hHeld.2.2.1)).trans hHeld.2.2.1, (hb5.cell (World.block_lt_of_cell? _ _ hHeld.2.2.2.1)).trans hHeld.2.2.2.1, (hb5.block _ (blk_lt hHeld.2.2.2.2)).trans hHeld.2.2.2.2⟩
  clear ho5 hb5 HLW HRD
  refine hK.out _ _ (hS5) (fun hHeld => ?_)
  clear hK K
  refine norm_ (a' := ?_) ?_ ?_
  rotate_left
  · show Act.put _ (some 52) _ = _
    simp only [Act.put, List.setIfInBounds_toArray, List.set_cons_zero, List.set_cons_succ, i64_w, i32_w]
    rfl
  refine one_ (i := 14) (N := (some 53)) #[true, true, true, true, true, true, true, true, true, true, true, true, true, true, true, false, false, false] rfl rfl (one_of HT_.out (by kernel_rfl)) (by decide) (fun K hK => ?_)
  refine value_ (w1 := ?_) (v := ?_) (by rfl) rfl ?_ ?_
  rotate_left 2
  · go_simp
    constructor
    · rfl
    · rfl
  refine hK.out _ _ (⟨Mem.cell_alloc hHeld.1 _, Mem.cell_alloc hHeld.2.1 _, Mem.cell_alloc hHeld.2.2.1 _, Mem.cell_alloc hHeld.2.2.2.1 _, Mem.alloc_old hHeld.2.2.2.2 _⟩) (fun hHeld => ?_)
  clear hK K
  refine norm_ (a' := ?_) ?_ ?_
  rotate_left
  · show Act.put _ (some 53) _ = _
    simp only [Act.put, List.setIfInBounds_toArray, List.set_cons_zero, List.set_cons_succ, i64_w, i32_w]
    rfl
  refine one_ (i := 15) (N := (some 54)) #[true, true, true, true, true, true, true, true, true, true, true, true, true, true, true, true, false, false] rfl rfl (one_of HT_.out (by kernel_rfl)) (by decide) (fun K hK => ?_)
  refine Kd.R_append_step frameK (w0 := w5) base (by rfl) (.tmp 50) (.tmp 53) 69 68 (.agg #[.slice none 0 0, .bool false]) 32 rfl Try.underlying69 info68 rfl (by decide) (by omega) (.slice Ak xs.length ck) xs (l, sp) [v5, .bool sp] (fun b => oki b ∨ w.heap.size ≤ b) (fun b => w.heap.size ≤ b) rfl rfl ?hp ?hokp ?hfr ?hO (Below.refl _ _) ?hb ?hl ?_
  case hp => exact ⟨[v5], [.bool sp], rfl, ⟨v5, rfl, Kd.R_lower (Kd.R_mono (Kd.R_bound HO5.out) (fun b hb => Nat.le_trans (Nat.le_of_lt hsz) hb.2.1)) HN0.out.le⟩, rfl⟩
  case hokp => exact fun b hb => ⟨.inr hb, fun e => by have := HOW.out b e.symm; omega⟩
  case hfr => exact fun b hb => .inr (Nat.le_trans (Nat.le_of_lt hsz) (Nat.le_trans HB5.out.size hb))
  case hO => exact Kd.R_mono HR5.out (fun b hb => .inl hb)
  case hb => exact Nat.le_trans HN0.out.le HB5.out.size
  case hl => omega
  intro v6 w6 ho6 hb6 hg6 hat6
  obtain ⟨A6, c6, rfl⟩ := Kd.R_slice ho6
  have hrow : ∀ b, (Value.slice Ak xs.length ck).ownBlock = some b → oki b ∨ w.heap.size ≤ b := fun b hb => .inl (HR5.out.1 b hb)
  have HL6 := Aside0.mk (HL5.out.grown hg6 hrow)
  have HO6 := Aside0.mk ho6
  have HK6 := Aside0.mk (Kept.of_grown (S := P) hg6 ((HK0.out.drew).below HB5.out) (fun b hb => (HL5.out.ok b (hrow b hb)).1.1))
  have nx : ∀ x, w.heap.size ≤ x → some x ≠ (Value.slice Ak xs.length ck).ownBlock := fun x hx e => by have := HOW.out x e.symm; omega
  have hb6x := (hg6.block _ (blk_lt hS5.2.2.2.2) (nx _ (Nat.le_refl _))).trans hS5.2.2.2.2
  have hg6x : w6.cell? ⟨g, 1, none⟩ = some (.slice (some ⟨B, 0, none⟩) nn cc) := by have h_ := Mem.cell_of HL6.out.net 1; rw [HNN.out] at h_; exact h_
  have HS6 := Aside0.mk (And.intro hg6x (And.intro (Mem.cell_of hb6x 0) (And.intro (Mem.cell_of hb6x 1) hb6x)))
  clear nx hb6x hg6x
  have cz := HL6.out.cell
  have fz := HL6.out.free
  clear hrow ho6 hb6 hg6 hat6
  refine hK.out _ _ (⟨HS6.out.1, HL6.out.cell, HS6.out.2.1, HS6.out.2.2.1, HS6.out.2.2.2⟩) (fun hHeld => ?_)
  clear hK K
  refine norm_ (a' := ?_) ?_ ?_
  rotate_left
  · show Act.put _ (some 54) _ = _
    simp only [Act.put, List.setIfInBounds_toArray, List.set_cons_zero, List.set_cons_succ, i64_w, i32_w]
    rfl
  refine pure_ (i := 16) (N := (some 55)) (v := ?_) (a' := ?_) #[true, true, true, true, true, true, true, true, true, true, true, true, true, true, true, true, true, false] rfl rfl (any_of HT_.out (by kernel_rfl)) (fun _ _ _ h => h) (Or.inl ⟨by rfl, ?_⟩) ?_ ?_
  rotate_left
  · intro w'
    go_simp
    with_reducible rfl
  rotate_left
  · simp only [Act.put, List.setIfInBounds_toArray, List.set_cons_zero, List.set_cons_succ, i64_w, i32_w]
    rfl
  refine last_ (i := 17) (N := none) #[true, true, true, true, true, true, true, true, true, true, true, true, true, true, true, true, true, true] rfl rfl (one_of HT_.out (by kernel_rfl)) (by decide) (fun K hK => ?_)
  refine skip_ (w1 := w6.setCell ⟨B, kk, none⟩ (.slice A6 (xs ++ [(l, sp)]).length c6)) (by rfl) rfl ?_ ?_
  · go_simp
  refine hK.out _ _ ?_
  clear hK K
  refine done_ (done_of HT_.out (by kernel_rfl)) ?_
  go_wp2
  go_ret
  have hp := HL6.out.put HO6.out
  simp only [List.length_append, List.length_cons, List.length_nil, Nat.zero_add] at hp
  refine ⟨rfl, hp, Kept.setCell HK6.out HL6.out.PB _⟩

set_option maxRecDepth 100000 in
theorem send_calls {w : World} {base : Nat} {P : Nat → Prop} {g n : Nat} {bs : List (List Frame)} (h : NetI w base P g n bs) (a b : Int) (A : Option Addr) (c : Nat) (l : List Int) (hf : Kd.C (Kd.int .u8) w A l.length l) (hc : l.length ≤ c) (hsm : (bs.getD (key n a b) []).length ≤ 256) :
    Calls Try.prog 11 #[.pointer (some ⟨g, 0, none⟩), .int .i64 a, .int .i64 b, .slice A l.length c] w fun e w' => e = .returned (.int .i64 (putF n bs a b (l, false)).1) ∧ NetI w' base (fun k => P k ∨ w.heap.size ≤ k) g n (putF n bs a b (l, false)).2 ∧ Kept w w' P := by
  have HP := Aside0.mk (put_calls h a b A c l false hf hc hsm)
  clear h hf
  go_enter Try.func11, Try.ntmps11
  go_wp2_with (fail)
  refine HP.out.mono ?_
  rintro e w' ⟨rfl, h1, h2⟩
  have H1 := Aside0.mk h1
  have H2 := Aside0.mk h2
  clear h1 h2
  go_wp2
  go_ret
  exact ⟨rfl, H1.out, H2.out⟩
end Go.Proofs.Ytchepjbdaojidaa.PBags
namespace Go.Proofs.Ytchepjbdaojidaa.PBags
open Go.RowKit Go.Proofs.YtchepjbdaojidaaW.PrintWords Go.Proofs.YtchepjbdaojidaaW.PrintLast Go.Proofs.YtchepjbdaojidaaW.PrintMore
attribute [local go_sem] max2_int min2_int max_two min_two max_three min_three max_four min_four
set_option linter.unusedVariables false
set_option linter.unusedSimpArgs false
def peek.T4 : Bool × List (List Nat × List Nat) := (true, [([], []), ([], []), ([1], [1]), ([2], [2]), ([3], [3]), ([], []), ([], []), ([6], [6]), ([7], [7]), ([8], [8]), ([5, 9], [5, 9]), ([], []), ([10, 11], [10, 11]), ([4, 12], [4, 12]), ([13], [13]), ([], []), ([14, 15], [14, 15]), ([16], [16]), ([17], [17]), ([0, 18], [0, 18]), ([19, 19, 0, 1, 2, 3, 4, 5, 6, 7, 8, 9, 10, 11, 12, 13, 14, 15, 16, 17, 18, 19], [19]), ([20, 0, 1, 2, 3, 4, 5, 6, 7, 8, 9, 10, 11, 12, 13, 14, 15, 16, 17, 18, 19, 20], [])])
def peek.B4 : List Nat := [0, 0, 2, 6, 14, 0, 0, 64, 192, 448, 992, 0, 4064, 8190, 16382, 0, 65534, 131070, 262142, 524287, 1048575, 2097151]
theorem peek.tab4 : rtab .any (opsOf Try.f20 4) = peek.T4 := by kernel_rfl
theorem peek.bits4 : waitsOk peek.T4.2 peek.B4 = true := by kernel_rfl
/-- A frame of a bag, opened. -/
theorem bag_frame {w : World} {base : Nat} {ok : Nat → Prop} {Ak : Option Addr} {ck : Nat} {xs : List Frame} (hR : frameK.R 68 w base ok (.slice Ak xs.length ck) xs) (x : Nat) (hx : x < xs.length) :
    ∃ (b : Nat) (Af : Option Addr) (cf : Nat), Ak = some ⟨b, 0, none⟩ ∧ w.cell? ⟨b, x * 2, none⟩ = some (.slice Af (xs.getD x ([], false)).1.length cf) ∧ w.cell? ⟨b, x * 2 + 1, none⟩ = some (.bool (xs.getD x ([], false)).2) ∧ (xs.getD x ([], false)).1.length ≤ cf ∧
      Kd.C (Kd.int .u8) w Af (xs.getD x ([], false)).1.length (xs.getD x ([], false)).1 := by
  obtain ⟨b, cap, he, _, _, _⟩ := Kd.R_form hR (by omega)
  injection he with e1 _ _
  subst e1
  obtain ⟨ad, c, e, _, hK, hc⟩ := Kd.C_get (Kd.R_reads' hR).2.2 (([], false) : Frame) (x : Int) (Int.natCast_nonneg _) (by omega)
  obtain rfl : (⟨b, 0, none⟩ : Addr) = ad := by injection e
  rw [Int.toNat_natCast] at hK hc
  obtain ⟨_, _, rfl, ⟨Af, cf, rfl, l2, g2⟩, rfl⟩ := hK
  have h0 := hc 0 _ rfl
  have h1 := hc 1 _ rfl
  refine ⟨b, Af, cf, rfl, ?_, ?_, l2, g2⟩
  · rw [add_at] at h0
    rw [show 0 + (x * frameK.sz + 0) = x * 2 from by show 0 + (x * 2 + 0) = x * 2; omega] at h0
    exact h0
  · rw [add_at] at h1
    rw [show 0 + (x * frameK.sz + 1) = x * 2 + 1 from by show 0 + (x * 2 + 1) = x * 2 + 1; omega] at h1
    exact h1
theorem mem_getD {α : Type} {xs : List α} {d : α} {q : Nat} (h : q < xs.length) : xs.getD q d ∈ xs := by rw [List.getD_eq_getElem?_getD, List.getElem?_eq_getElem h]; exact List.getElem_mem h
def peekF (n : Nat) (bs : List (List Frame)) (a b x : Int) : List Int × Int := if frameF n bs a b x = 0 then (((bs.getD (key n a b) []).getD x.toNat ([], false)).1, 0) else ([], frameF n bs a b x)
theorem frameF_ok {n : Nat} {bs : List (List Frame)} {a b x : Int} (h : frameF n bs a b x = 0) : linkF n a b = 0 ∧ ∃ q : Nat, x = (q : Int) ∧ q < (bs.getD (key n a b) []).length := by
  unfold frameF at h
  split at h
  · rename_i h1
    refine ⟨h1, x.toNat, ?_⟩
    split at h
    · cases h
    · omega
  · rename_i h1
    exact absurd h h1
/-- No bag is too full, no frame too long. -/
def Small (bs : List (List Frame)) : Prop := ∀ k, (bs.getD k []).length ≤ 256 ∧ ∀ f ∈ bs.getD k [], f.1.length ≤ 65545
set_option maxHeartbeats 8000000 in
set_option maxRecDepth 100000 in
theorem peek_calls {w : World} {base : Nat} {P : Nat → Prop} {g n : Nat} {bs : List (List Frame)} (h : NetI w base P g n bs) (hs : Small bs) (a b x : Int) :
    Calls Try.prog 20 #[.pointer (some ⟨g, 0, none⟩), .int .i64 a, .int .i64 b, .int .i64 x] w fun e w' => ∃ v, e = .returned (.tuple #[v, .int .i64 (peekF n bs a b x).2]) ∧ (Kd.int .u8).R 5 w' w.heap.size (fun _ => True) v (peekF n bs a b x).1 ∧ Below w.heap.size w w' := by
  have HFR := Aside0.mk (frame_calls h a b x)
  unfold peekF
  by_cases c0 : frameF n bs a b x = 0
  case neg =>
    rw [if_neg c0]
    have e1 : (frameF n bs a b x != 0) = true := by rw [bne_iff_ne]; exact c0
    have C := Aside0.mk c0
    clear c0 h
    go_enter Try.func20, Try.ntmps20
    go_wp2_with (fail)
    refine HFR.out.mono ?_
    rintro e w' ⟨rfl, ⟨nd, rfl⟩⟩
    go_wp2
    go_ret2
    exact ⟨_, rfl, Kd.R_nil _ _ _ _ _, pw_below_drewN (Below.refl _ _) nd⟩
  rw [if_pos c0]
  rw [c0] at HFR
  obtain ⟨cl, q, rfl, hq⟩ := frameF_ok c0
  clear c0
  obtain ⟨i, j, rfl, rfl, hi, hj, hij⟩ := linkF_ok cl
  clear cl
  have hn := h.size.2.2
  have hk : key n (i : Int) (j : Int) = i * n + j := by unfold key; rw [Int.toNat_natCast, Int.toNat_natCast]
  have hsm := hs (i * n + j)
  rw [hk] at hq ⊢
  rw [Int.toNat_natCast]
  obtain ⟨B, cc, Ak, ck, oki, HL, hle, hR⟩ := h.lend (i * n + j) (key_lt hi hj)
  have hm := keep_le hi hn
  have hkl := key_lt hi hj
  have hw1 : wrap64 ((i : Int) * (n : Int)) = ((i * n : Nat) : Int) := by rw [← Int.natCast_mul]; exact wrap_nat (Nat.le_trans hm (by decide))
  have hw2 : wrap64 (((i * n : Nat) : Int) + (j : Int)) = ((i * n + j : Nat) : Int) := by rw [← Int.natCast_add]; exact wrap_nat (Nat.le_trans (Nat.add_le_add hm (Nat.le_trans (Nat.le_of_lt hj) hn)) (by decide))
  have b1 : (0 ≤ ((i * n + j : Nat) : Int)) = True := eq_true (Int.natCast_nonneg _)
  have b2 : (((i * n + j : Nat) : Int) < ((n * n : Nat) : Int)) = True := eq_true (Int.ofNat_lt.2 hkl)
  have b3 : (i * n + j < n * n) = True := eq_true hkl
  have q1 := Mem.cell_of HL.net 1
  have q0 := Mem.cell_of HL.net 0
  have qB := HL.cell
  rw [show (#[Value.int .i64 (n : Int), .slice (some ⟨B, 0, none⟩) (n * n) cc] : Array Value)[1]? = some (.slice (some ⟨B, 0, none⟩) (n * n) cc) from rfl] at q1
  rw [show (#[Value.int .i64 (n : Int), .slice (some ⟨B, 0, none⟩) (n * n) cc] : Array Value)[0]? = some (.int .i64 (n : Int)) from rfl] at q0
  obtain ⟨gk, Af, cf, rfl, qf, qs, hlf, hCf⟩ := bag_frame hR q hq
  have hmem : (bs.getD (i * n + j) []).getD q ([], false) ∈ bs.getD (i * n + j) [] := mem_getD hq
  have hfl := hsm.2 _ hmem
  have b4 : (0 ≤ (q : Int)) = True := eq_true (Int.natCast_nonneg _)
  have b5 : ((q : Int) < ((bs.getD (i * n + j) []).length : Int)) = True := eq_true (Int.ofNat_lt.2 hq)
  have b6 : (q < (bs.getD (i * n + j) []).length) = True := eq_true hq
  have HCF := Aside0.mk hCf
  have HFL := Aside0.mk hfl
  have HHH := Aside0.mk h
  clear HL hR hk hm hij hmem hsm hCf hs h hfl
  generalize ((bs.getD (i * n + j) []).getD q ([], false)) = f at *
  generalize (bs.getD (i * n + j) []).length = len at *
  obtain ⟨nn, hnn⟩ : ∃ nn, n * n = nn := ⟨_, rfl⟩
  rw [hnn] at q1 b2 b3
  clear hnn hkl
  generalize i * n = mm at *
  generalize mm + j = kk at *
  obtain ⟨l, sp⟩ := f
  go_enter Try.func20, Try.ntmps20
  go_wp2_with (fail)
  refine HFR.out.mono ?_
  rintro e w' ⟨rfl, ⟨nd, rfl⟩⟩
  go_wp2_with (fail)
  have HS : Aside0 ((w.drewN nd).drew.cell? ⟨g, 1, none⟩ = _ ∧ (w.drewN nd).drew.cell? ⟨g, 0, none⟩ = _ ∧ (w.drewN nd).drew.cell? ⟨B, kk, none⟩ = _ ∧ (w.drewN nd).drew.cell? ⟨gk, q * 2, none⟩ = _) := ⟨q1, q0, qB, qf⟩
  have HB : Aside0 (Below w.heap.size w (w.drewN nd).drew) := ⟨below_drew1 (pw_below_drewN (Below.refl _ _) nd)⟩
  have HCW := Aside0.mk (Kd.C_below HCF.out HB.out)
  clear HHH HFR
  refine start_ (n := 22) (S := (fun w' => w'.cell? ⟨g, 1, none⟩ = some (.slice (some ⟨B, 0, none⟩) nn cc) ∧ w'.cell? ⟨g, 0, none⟩ = some (.int .i64 (n : Int)) ∧ w'.cell? ⟨B, kk, none⟩ = some (.slice (some ⟨gk, 0, none⟩) len ck) ∧ w'.cell? ⟨gk, q * 2, none⟩ = some (.slice Af l.length cf))) (ds := [19]) #[false, false, false, false, false, false, false, false, false, false, false, false, false, false, false, false, false, false, false, false, false, false] (by kernel_rfl) rfl rfl (HS.out) (fun hHeld => ?_)
  refine with_tabW peek.tab4 peek.bits4 (fun HT_ HW_ => ?_)
  refine pure_ (i := 1) (N := (some 20)) (v := ?_) (a' := ?_) #[false, true, false, false, false, false, false, false, false, false, false, false, false, false, false, false, false, false, false, false, false, false] rfl rfl (any_of HT_.out (by kernel_rfl)) (fun _ _ _ h => h) (Or.inl ⟨by rfl, ?_⟩) ?_ ?_
  rotate_left
  · intro w'
    go_simp
    with_reducible rfl
  rotate_left
  · simp only [Act.put, List.setIfInBounds_toArray, List.set_cons_zero, List.set_cons_succ, i64_w, i32_w]
    rfl
  refine pure_ (i := 2) (N := (some 21)) (v := ?_) (a' := ?_) #[false, true, true, false, false, false, false, false, false, false, false, false, false, false, false, false, false, false, false, false, false, false] rfl rfl (any_of HT_.out (by kernel_rfl)) (fun _ _ _ h => h) (Or.inl ⟨by rfl, ?_⟩) ?_ ?_
  rotate_left
  · intro w'
    go_simp
    with_reducible rfl
  rotate_left
  · simp only [Act.put, List.setIfInBounds_toArray, List.set_cons_zero, List.set_cons_succ, i64_w, i32_w]
    rfl
  refine pure_ (i := 3) (N := (some 22)) (v := ?_) (a' := ?_) #[false, true, true, true, false, false, false, false, false, false, false, false, false, false, false, false, false, false, false, false, false, false] rfl rfl (any_of HT_.out (by kernel_rfl)) (fun _ _ _ h => h) (Or.inl ⟨by rfl, ?_⟩) ?_ ?_
  rotate_left
  · intro w'
    go_simp
    with_reducible rfl
  rotate_left
  · simp only [Act.put, List.setIfInBounds_toArray, List.set_cons_zero, List.set_cons_succ, i64_w, i32_w]
    rfl
  refine pure_ (i := 5) (N := (some 24)) (v := ?_) (a' := ?_) #[false, true, true, true, false, true, false, false, false, false, false, false, false, false, false, false, false, false, false, false, false, false] rfl rfl (any_of HT_.out (by kernel_rfl)) (fun _ _ _ h => h) (Or.inl ⟨by rfl, ?_⟩) ?_ ?_
  rotate_left
  · intro w'
    go_simp
    with_reducible rfl
  rotate_left
  · simp only [Act.put, List.setIfInBounds_toArray, List.set_cons_zero, List.set_cons_succ, i64_w, i32_w]
    rfl
  refine pure_ (i := 6) (N := (some 25)) (v := ?_) (a' := ?_) #[false, true, true, true, false, true, true, false, false, false, false, false, false, false, false, false, false, false, false, false, false, false] rfl rfl (any_of HT_.out (by kernel_rfl)) (fun _ _ _ h => h) (Or.inl ⟨by rfl, ?_⟩) ?_ ?_
  rotate_left
  · intro w'
    go_simp
    with_reducible rfl
  rotate_left
  · simp only [Act.put, List.setIfInBounds_toArray, List.set_cons_zero, List.set_cons_succ, i64_w, i32_w]
    rfl
  refine pure_ (i := 7) (N := (some 26)) (v := ?_) (a' := ?_) #[false, true, true, true, false, true, true, true, false, false, false, false, false, false, false, false, false, false, false, false, false, false] rfl rfl (any_of HT_.out (by kernel_rfl)) (fun _ _ _ h => h) (Or.inl ⟨by rfl, ?_⟩) ?_ ?_
  rotate_left
  · intro w'
    go_simp
    with_reducible rfl
  rotate_left
  · simp only [Act.put, List.setIfInBounds_toArray, List.set_cons_zero, List.set_cons_succ, i64_w, i32_w]
    rfl
  refine pure_ (i := 8) (N := (some 27)) (v := ?_) (a' := ?_) #[false, true, true, true, false, true, true, true, true, false, false, false, false, false, false, false, false, false, false, false, false, false] rfl rfl (any_of HT_.out (by kernel_rfl)) (fun _ _ _ h => h) (Or.inl ⟨by rfl, ?_⟩) ?_ ?_
  rotate_left
  · intro w'
    go_simp
    with_reducible rfl
  rotate_left
  · simp only [Act.put, List.setIfInBounds_toArray, List.set_cons_zero, List.set_cons_succ, i64_w, i32_w]
    rfl
  refine pure_ (i := 11) (N := (some 30)) (v := ?_) (a' := ?_) #[false, true, true, true, false, true, true, true, true, false, false, true, false, false, false, false, false, false, false, false, false, false] rfl rfl (any_of HT_.out (by kernel_rfl)) (fun _ _ _ h => h) (Or.inl ⟨by rfl, ?_⟩) ?_ ?_
  rotate_left
  · intro w'
    go_simp
    with_reducible rfl
  rotate_left
  · simp only [Act.put, List.setIfInBounds_toArray, List.set_cons_zero, List.set_cons_succ, i64_w, i32_w]
    rfl
  refine pure_ (i := 15) (N := (some 34)) (v := ?_) (a' := ?_) #[false, true, true, true, false, true, true, true, true, false, false, true, false, false, false, true, false, false, false, false, false, false] rfl rfl (any_of HT_.out (by kernel_rfl)) (fun _ _ _ h => h) (Or.inl ⟨by rfl, ?_⟩) ?_ ?_
  rotate_left
  · intro w'
    go_simp
    with_reducible rfl
  rotate_left
  · simp only [Act.put, List.setIfInBounds_toArray, List.set_cons_zero, List.set_cons_succ, i64_w, i32_w]
    rfl
  refine take_ (i := 4) (N := (some 23)) (v := ?_) (a' := ?_) #[false, true, true, true, true, true, true, true, true, false, false, true, false, false, false, true, false, false, false, false, false, false] rfl rfl (take_ofW HT_.out HW_.out (by kernel_rfl)) (fun _ _ _ h => h) (Or.inl ⟨by rfl, ?_⟩) hHeld ?_ ?_
  rotate_left
  · rintro w' ⟨s0, s1, s2, s3⟩
    go_simp
    with_reducible rfl
  rotate_left
  · simp only [Act.put, List.setIfInBounds_toArray, List.set_cons_zero, List.set_cons_succ, i64_w, i32_w]
    rfl
  refine take_ (i := 9) (N := (some 28)) (v := ?_) (a' := ?_) #[false, true, true, true, true, true, true, true, true, true, false, true, false, false, false, true, false, false, false, false, false, false] rfl rfl (take_ofW HT_.out HW_.out (by kernel_rfl)) (fun _ _ _ h => h) (Or.inl ⟨by rfl, ?_⟩) hHeld ?_ ?_
  rotate_left
  · rintro w' ⟨s0, s1, s2, s3⟩
    go_simp
    with_reducible rfl
  rotate_left
  · simp only [Act.put, List.setIfInBounds_toArray, List.set_cons_zero, List.set_cons_succ, i64_w, i32_w]
    rfl
  refine pure_ (i := 10) (N := (some 29)) (v := ?_) (a' := ?_) #[false, true, true, true, true, true, true, true, true, true, true, true, false, false, false, true, false, false, false, false, false, false] rfl rfl (any_of HT_.out (by kernel_rfl)) (fun _ _ _ h => h) (Or.inl ⟨by rfl, ?_⟩) ?_ ?_
  rotate_left
  · intro w'
    go_simp
    with_reducible rfl
  rotate_left
  · simp only [Act.put, List.setIfInBounds_toArray, List.set_cons_zero, List.set_cons_succ, i64_w, i32_w]
    rfl
  refine pure_ (i := 12) (N := (some 31)) (v := ?_) (a' := ?_) #[false, true, true, true, true, true, true, true, true, true, true, true, true, false, false, true, false, false, false, false, false, false] rfl rfl (any_of HT_.out (by kernel_rfl)) (fun _ _ _ h => h) (Or.inl ⟨by rfl, ?_⟩) ?_ ?_
  rotate_left
  · intro w'
    go_simp
    with_reducible rfl
  rotate_left
  · simp only [Act.put, List.setIfInBounds_toArray, List.set_cons_zero, List.set_cons_succ, i64_w, i32_w]
    rfl
  refine pure_ (i := 13) (N := (some 32)) (v := ?_) (a' := ?_) #[false, true, true, true, true, true, true, true, true, true, true, true, true, true, false, true, false, false, false, false, false, false] rfl rfl (any_of HT_.out (by kernel_rfl)) (fun _ _ _ h => h) (Or.inl ⟨by rfl, ?_⟩) ?_ ?_
  rotate_left
  · intro w'
    go_simp
    with_reducible rfl
  rotate_left
  · simp only [Act.put, List.setIfInBounds_toArray, List.set_cons_zero, List.set_cons_succ, i64_w, i32_w]
    rfl
  refine take_ (i := 14) (N := (some 33)) (v := ?_) (a' := ?_) #[false, true, true, true, true, true, true, true, true, true, true, true, true, true, true, true, false, false, false, false, false, false] rfl rfl (take_ofW HT_.out HW_.out (by kernel_rfl)) (fun _ _ _ h => h) (Or.inl ⟨by rfl, ?_⟩) hHeld ?_ ?_
  rotate_left
  · rintro w' ⟨s0, s1, s2, s3⟩
    go_simp
    with_reducible rfl
  rotate_left
  · simp only [Act.put, List.setIfInBounds_toArray, List.set_cons_zero, List.set_cons_succ, i64_w, i32_w]
    rfl
  refine pure_ (i := 16) (N := (some 35)) (v := ?_) (a' := ?_) #[false, true, true, true, true, true, true, true, true, true, true, true, true, true, true, true, true, false, false, false, false, false] rfl rfl (any_of HT_.out (by kernel_rfl)) (fun _ _ _ h => h) (Or.inl ⟨by rfl, ?_⟩) ?_ ?_
  rotate_left
  · intro w'
    go_simp
    with_reducible rfl
  rotate_left
  · simp only [Act.put, List.setIfInBounds_toArray, List.set_cons_zero, List.set_cons_succ, i64_w, i32_w]
    rfl
  refine pure_ (i := 17) (N := (some 36)) (v := ?_) (a' := ?_) #[false, true, true, true, true, true, true, true, true, true, true, true, true, true, true, true, true, true, false, false, false, false] rfl rfl (any_of HT_.out (by kernel_rfl)) (fun _ _ _ h => h) (Or.inl ⟨by rfl, ?_⟩) ?_ ?_
  rotate_left
  · intro w'
    go_simp
    with_reducible rfl
  rotate_left
  · simp only [Act.put, List.setIfInBounds_toArray, List.set_cons_zero, List.set_cons_succ, i64_w, i32_w]
    rfl
  refine take_ (i := 18) (N := (some 37)) (v := ?_) (a' := ?_) #[false, true, true, true, true, true, true, true, true, true, true, true, true, true, true, true, true, true, true, false, false, false] rfl rfl (take_ofW HT_.out HW_.out (by kernel_rfl)) (fun _ _ _ h => h) (Or.inl ⟨by rfl, ?_⟩) hHeld ?_ ?_
  rotate_left
  · rintro w' ⟨s0, s1, s2, s3⟩
    go_simp
    with_reducible rfl
  rotate_left
  · simp only [Act.put, List.setIfInBounds_toArray, List.set_cons_zero, List.set_cons_succ, i64_w, i32_w]
    rfl
  refine one_ (i := 0) (N := (some 19)) #[true, true, true, true, true, true, true, true, true, true, true, true, true, true, true, true, true, true, true, false, false, false] rfl rfl (one_of HT_.out (by kernel_rfl)) (by decide) (fun K hK => ?_)
  refine Kd.R_lit_step (Kd.int .u8) _ 5 ?hg (N := 19) ?hd (xs := ([] : List Int)) (inner := []) (ok := fun _ => True) (okp := fun _ => True) ?hr ?hp (fun _ hk => hk) trivial (Below.refl _ _) (Nat.le_refl _) (by simp) ?_; (case hd => rfl); (case hg => rfl); (case hr => first | (go_simp; done) | (go_simp; rfl)); (case hp => exact (Reps.none _ _))
  intro v5 w5 ho5 hb hg_ hnew_
  have HO5 := Aside0.mk (Kd.R_lower ho5 HB.out.size)
  have HB5 := Aside0.mk (HB.out.trans (hb.mono HB.out.size))
  have HC5 := Aside0.mk (Kd.C_below HCW.out hb)
  have hS5 : (fun w' => w'.cell? ⟨g, 1, none⟩ = some (.slice (some ⟨B, 0, none⟩) nn cc) ∧ w'.cell? ⟨g, 0, none⟩ = some (.int .i64 (n : Int)) ∧ w'.cell? ⟨B, kk, none⟩ = some (.slice (some ⟨gk, 0, none⟩) len ck) ∧ w'.cell? ⟨gk, q * 2, none⟩ = some (.slice Af l.length cf)) w5 := ⟨(hb.cell (World.block_lt_of_cell? _ _ hHeld.1)).trans hHeld.1, (hb.cell (World.block_lt_of_cell? _ _ hHeld.2.1)).trans hHeld.2.1, (hb.cell (World.block_lt_of_cell? _ _ hHeld.2.2.1)).trans hHeld.2.2.1, (hb.cell (World.block_lt_of_cell? _ _ hHeld.2.2.2)).trans hHeld.2.2.2⟩
  clear hg_ hnew_ ho5 hb HB HCW
  refine hK.out _ _ (hS5) (fun hHeld => ?_)
  clear hK K
  refine norm_ (a' := ?_) ?_ ?_
  rotate_left
  · show Act.put _ (some 19) _ = _
    simp only [Act.put, List.setIfInBounds_toArray, List.set_cons_zero, List.set_cons_succ, i64_w, i32_w]
    rfl
  refine last_ (i := 19) (N := (some 38)) #[true, true, true, true, true, true, true, true, true, true, true, true, true, true, true, true, true, true, true, true, false, false] rfl rfl (one_of HT_.out (by kernel_rfl)) (by decide) (fun K hK => ?_)
  refine Kd.R_append_rows_step (Kd.int .u8) (w0 := w) w.heap.size (by rfl) (.tmp 19) (.tmp 37) 22 5 (.int .u8 0) 1 rfl Try.underlying22 info5 rfl (by decide) (by omega) v5 [] l _ _ _ (fun _ => True) (fun _ => False) rfl rfl HO5.out HC5.out (fun _ _ h => h) (fun _ h => h.elim) (fun _ _ => trivial) HB5.out HB5.out.size (by have h_ := HFL.out; simp; omega) ?_
  intro v6 w6 ho6 hb6 hg6 hat6
  have HO6 := Aside0.mk ho6
  have HB6 := Aside0.mk hb6
  clear ho6 hb6 hg6 hat6
  refine hK.out _ _ ?_
  clear hK K
  refine norm_ (a' := ?_) ?_ ?_
  rotate_left
  · show Act.put _ (some 38) _ = _
    simp only [Act.put, List.setIfInBounds_toArray, List.set_cons_zero, List.set_cons_succ, i64_w, i32_w]
    rfl
  refine pure_ (i := 20) (N := (some 8)) (v := ?_) (a' := ?_) #[true, true, true, true, true, true, true, true, true, true, true, true, true, true, true, true, true, true, true, true, true, false] rfl rfl (any_of HT_.out (by kernel_rfl)) (fun _ _ _ h => h) (Or.inl ⟨by rfl, ?_⟩) ?_ ?_
  rotate_left
  · intro w'
    go_simp
    with_reducible rfl
  rotate_left
  · simp only [Act.put, List.setIfInBounds_toArray, List.set_cons_zero, List.set_cons_succ, i64_w, i32_w]
    rfl
  refine pure_ (i := 21) (N := (some 9)) (v := ?_) (a' := ?_) #[true, true, true, true, true, true, true, true, true, true, true, true, true, true, true, true, true, true, true, true, true, true] rfl rfl (any_of HT_.out (by kernel_rfl)) (fun _ _ _ h => h) (Or.inl ⟨by rfl, ?_⟩) ?_ ?_
  rotate_left
  · intro w'
    go_simp
    with_reducible rfl
  rotate_left
  · simp only [Act.put, List.setIfInBounds_toArray, List.set_cons_zero, List.set_cons_succ, i64_w, i32_w]
    rfl
  refine done_ (done_of HT_.out (by kernel_rfl)) ?_
  go_wp2
  go_ret2
  exact ⟨_, rfl, HO6.out, HB6.out⟩
end Go.Proofs.Ytchepjbdaojidaa.PBags
namespace Go.Proofs.Ytchepjbdaojidaa.PBags
open Go.RowKit Go.Proofs.YtchepjbdaojidaaW.PrintWords Go.Proofs.YtchepjbdaojidaaW.PrintLast Go.Proofs.YtchepjbdaojidaaW.PrintMore
set_option linter.unusedVariables false
theorem run_copy_wide {P : Program} (w : World) (dT sT ty elem : TypeId) (sz g o dLen dCap : Nat) (a : Addr) (sLen sCap : Nat) (cur : Array Value) (t : TypeId) (cs : List Value)
    (hu : P.underlying dT = some (.slice elem)) (hs : (P.info? elem).map (·.size) = some sz)
    (hg : w.heap[g]? = some (.cells cur t (0, 0))) (hn : cs.length = Nat.min sLen dLen * sz)
    (hsrc : ∀ j v, cs[j]? = some v → w.cell? (a.add j) = some v) (hfit : o + cs.length ≤ cur.size) (h1 : ∀ v ∈ cs, v.oneCell' = true) :
    (Builtin.copy_ #[dT, sT] ty #[.slice (some ⟨g, o, none⟩) dLen dCap, .slice (some a) sLen sCap]).run P w =
      .ok (goInt (Nat.min sLen dLen)) (w.setRow g (cur.toList.take o ++ cs ++ cur.toList.drop (o + cs.length)).toArray) := by
  have hl := run_loadCells_list (P := P) w a cs hsrc
  have hst := run_storeCells_at P g o t cs 0 cur w hg (by simpa using hfit) h1
  cases hq : P.info? elem with
  | none => simp [hq] at hs
  | some i =>
    have hi : i.size = sz := by simpa [hq] using hs
    rw [hn] at hl hst
    simp [Builtin.copy_, run_underlying hu, Builtin.lenOf, Builtin.firstCells, sizeOf, typeInfo, hq, hi, hn, hl, hst]
/-- An element goes: those behind it move down (copy(l[x:], l[x+1:]) in a row of one's own). -/
theorem lose_run {w : World} {base : Nat} {ok : Nat → Prop} {g ck : Nat} {xs : List Frame} (hR : frameK.R 68 w base ok (.slice (some ⟨g, 0, none⟩) xs.length ck) xs) (x : Nat) (hx : x < xs.length) {a : Addr} (ha : x + 1 < xs.length → a = ⟨g, (x + 1) * 2, none⟩) (dc sc : Nat) (ty : TypeId) :
    ∃ w1, (Builtin.copy_ #[69, 69] ty #[.slice (some ⟨g, x * 2, none⟩) (xs.length - x) dc, .slice (some a) (xs.length - (x + 1)) sc]).run Try.prog w = .ok (goInt ((xs.length - (x + 1) : Nat) : Int)) w1 ∧
      frameK.R 68 w1 base ok (.slice (some ⟨g, 0, none⟩) (xs.length - 1) ck) (xs.eraseIdx x) ∧ w.grownBy w1 (some g) := by
  obtain ⟨hok, inner, hown, hr⟩ := hR
  have hin : inner.length = xs.length * 2 := hr.1
  rcases hown.2 with ⟨hv, _⟩ | ⟨g', cap', cur, hv, hb, hh, hnc, hcm, hcs, htake⟩
  · cases hv
  injection hv with ha' _ hc
  injection ha' with ha'
  injection ha' with hg
  subst hg; subst hc
  have hcs' : cur.size = ck * 2 := hcs
  have htake' : cur.toList.take (xs.length * 2) = inner := htake
  have hcur : ∀ q, q < xs.length * 2 → cur.toList[q]? = inner[q]? := fun q hq => by rw [← htake', List.getElem?_take, if_pos hq]
  have hone : ∀ u ∈ inner.drop ((x + 1) * 2), u.oneCell' = true := fun u hu => by
    obtain ⟨q, hq, rfl⟩ := List.mem_iff_getElem.1 (List.mem_of_mem_drop hu)
    have hql : q / 2 < xs.length := by omega
    refine frameK.K_one (frameK.K_of_M (hr.2 (q / 2) _ (List.getElem?_eq_getElem hql))) _ ?_
    rw [List.mem_iff_getElem?]
    refine ⟨q % 2, ?_⟩
    rw [List.getElem?_take, if_pos (show q % 2 < frameK.sz from Nat.mod_lt q (show 0 < 2 by decide)), List.getElem?_drop, show q / 2 * frameK.sz + q % 2 = q from by show q / 2 * 2 + q % 2 = q; omega, List.getElem?_eq_getElem hq]
  have hrun := run_copy_wide (P := Try.prog) w 69 69 ty 68 2 g (x * 2) (xs.length - x) dc a (xs.length - (x + 1)) sc cur 68 (inner.drop ((x + 1) * 2)) Try.underlying69 (by kernel_rfl) hh (by rw [List.length_drop, hin, show Nat.min (xs.length - (x + 1)) (xs.length - x) = xs.length - (x + 1) from Nat.min_eq_left (by omega)]; omega)
    (fun j v hj => by
      have hjl := (List.getElem?_eq_some_iff.1 hj).1
      rw [List.length_drop, hin] at hjl
      rw [ha (by omega), add_at, cell_of_row w g _ cur 68 (0, 0) hh, ← Array.getElem?_toList]
      rw [List.getElem?_drop] at hj
      rw [← hj]
      exact hcur _ (by omega)) (by rw [List.length_drop, hin]; omega) hone
  rw [show Nat.min (xs.length - (x + 1)) (xs.length - x) = xs.length - (x + 1) from Nat.min_eq_left (by omega)] at hrun
  refine ⟨_, hrun, ⟨fun k hk => hok k (by simpa [Value.ownBlock] using hk), inner.take (x * 2) ++ inner.drop ((x + 1) * 2), ⟨?_, .inr ⟨g, ck, _, by rw [List.length_eraseIdx_of_lt hx], hb, setRow_heap w g cur _ 68 (0, 0) hh, ?_, hcm, ?_, ?_⟩⟩, ?_⟩, ⟨rfl, rfl, rfl, ?_, fun k hk hne => setRow_other w g k _ (fun e => hne (by rw [e]))⟩⟩
  · rw [List.length_eraseIdx_of_lt hx, List.length_append, List.length_take, List.length_drop, hin]
    show _ = (xs.length - 1) * 2
    omega
  · rw [List.length_eraseIdx_of_lt hx]; omega
  · show _ = ck * 2
    simp [List.length_drop, hin, hcs']
    omega
  · have htk : cur.toList.take (x * 2) = inner.take (x * 2) := by rw [← htake', List.take_take, Nat.min_eq_left (by omega)]
    rw [List.length_eraseIdx_of_lt hx, htk]
    show List.take ((xs.length - 1) * 2) _ = _
    exact List.take_left' (by rw [List.length_append, List.length_take, List.length_drop, hin]; omega)
  · rw [List.eraseIdx_eq_take_drop_succ]
    have hmv : ∀ p q, frameK.M w base (fun k' => ok k' ∧ some k' ≠ (Value.slice (some ⟨g, 0, none⟩) xs.length ck).ownBlock) p q → frameK.M (w.setRow g (cur.toList.take (x * 2) ++ inner.drop ((x + 1) * 2) ++ cur.toList.drop (x * 2 + (inner.drop ((x + 1) * 2)).length)).toArray) base (fun k' => ok k' ∧ some k' ≠ (Value.slice (some ⟨g, 0, none⟩) (xs.length - 1) ck).ownBlock) p q := fun p q hp =>
      frameK.M_mono (fun k' hk' => ⟨hk'.1, fun e => hk'.2 (by simpa [Value.ownBlock] using e)⟩) (frameK.M_move (fun k' hk' => setRow_other w g k' _ (fun e => hk'.2 (by simp [Value.ownBlock, e]))) hp)
    exact Kd.reps_append ((Kd.reps_take hr (by omega)).imp_ hmv) ((Kd.reps_drop hr).imp_ hmv)
  · simp [World.setRow]
end Go.Proofs.Ytchepjbdaojidaa.PBags
namespace Go.Proofs.Ytchepjbdaojidaa.PBags
open Go.RowKit Go.Proofs.YtchepjbdaojidaaW.PrintWords Go.Proofs.YtchepjbdaojidaaW.PrintLast Go.Proofs.YtchepjbdaojidaaW.PrintMore
attribute [local go_sem] max2_int min2_int max_two min_two max_three min_three max_four min_four
set_option linter.unusedVariables false
set_option linter.unusedSimpArgs false
def losea.T6 : Bool × List (List Nat × List Nat) := (true, [([], []), ([], []), ([0, 1], [0, 1]), ([], []), ([], []), ([4], [4]), ([3, 5], [3, 5]), ([2, 6], [2, 6])])
def losea.B6 : List Nat := [0, 0, 3, 0, 0, 16, 56, 127]
theorem losea.tab6 : rtab .any (opsOf Try.f17 6) = losea.T6 := by kernel_rfl
theorem losea.bits6 : waitsOk losea.T6.2 losea.B6 = true := by kernel_rfl
def loseb.T7 : Bool × List (List Nat × List Nat) := (true, [([], []), ([0], [0]), ([1], [1]), ([2], [2]), ([], []), ([], []), ([], []), ([6], [6]), ([7], [7]), ([5, 8], [5, 8]), ([3, 4, 0, 1, 2, 3, 4, 5, 6, 7, 8, 9], [3, 4]), ([10, 9, 0, 1, 2, 3, 4, 5, 6, 7, 8, 9], [9, 10])])
def loseb.B7 : List Nat := [0, 1, 3, 7, 0, 0, 0, 64, 192, 480, 1023, 2047]
theorem loseb.tab7 : rtab .any (opsOf Try.f17 7) = loseb.T7 := by kernel_rfl
theorem loseb.bits7 : waitsOk loseb.T7.2 loseb.B7 = true := by kernel_rfl
def loseF (n : Nat) (bs : List (List Frame)) (a b x : Int) : Int × List (List Frame) := if frameF n bs a b x = 0 then (0, bs.set (key n a b) ((bs.getD (key n a b) []).eraseIdx x.toNat)) else (frameF n bs a b x, bs)
theorem wrap_pred {m : Nat} (h1 : 1 ≤ m) (h : m ≤ 1000000) : wrap64 ((m : Int) - 1) = ((m - 1 : Nat) : Int) := by rw [show (m : Int) - 1 = ((m - 1 : Nat) : Int) from by omega]; exact wrap_nat (by omega)
theorem wrap_succ {m : Nat} (h : m ≤ 999999) : wrap64 ((m : Int) + 1) = ((m + 1 : Nat) : Int) := by rw [show (m : Int) + 1 = ((m + 1 : Nat) : Int) from by omega]; exact wrap_nat (by omega)
theorem lose_cuts (gk len ck q : Nat) (hq : q < len) (hle : len ≤ ck) (hsm : len ≤ 256) :
    ∃ (q' m1 m2 m3 c1 c2 : Nat) (a2 : Addr), wrap64 ((q : Int) + 1) = (q' : Int) ∧ wrap64 ((len : Int) - 1) = (m3 : Int) ∧
      (∀ W : World, (Instr.slice 69 (.slice (some ⟨gk, 0, none⟩) len ck) (some (.int .i64 (q : Int))) none none).run Try.prog W = .ok (.slice (some ⟨gk, q * 2, none⟩) m1 c1) W) ∧
      (∀ W : World, (Instr.slice 69 (.slice (some ⟨gk, 0, none⟩) len ck) (some (.int .i64 (q' : Int))) none none).run Try.prog W = .ok (.slice (some a2) m2 c2) W) ∧
      (∀ W : World, (Instr.slice 69 (.slice (some ⟨gk, 0, none⟩) len ck) none (some (.int .i64 (m3 : Int))) none).run Try.prog W = .ok (.slice (some ⟨gk, 0, none⟩) m3 ck) W) ∧
      (m1 = len - q ∧ m2 = len - (q + 1) ∧ m3 = len - 1 ∧ (q + 1 < len → a2 = ⟨gk, (q + 1) * 2, none⟩)) := by
  obtain ⟨i0, hi0, _, hsz0, _⟩ := info_parts info68
  have hcut1 := cut_from (P := Try.prog) 69 68 .i64 Try.underlying69 hi0 2 hsz0 (some ⟨gk, 0, none⟩) len ck (q : Int) (by omega) (by omega)
  have hcut2 := cut_from (P := Try.prog) 69 68 .i64 Try.underlying69 hi0 2 hsz0 (some ⟨gk, 0, none⟩) len ck ((q + 1 : Nat) : Int) (by omega) (by omega)
  have hcut3 := cut_to (P := Try.prog) 69 68 .i64 Try.underlying69 hi0 (some ⟨gk, 0, none⟩) len ck ((len - 1 : Nat) : Int) (by omega) (by omega) hle
  rw [Int.toNat_natCast] at hcut1 hcut2 hcut3
  have ha1 : (if ck = q then some (⟨gk, 0, none⟩ : Addr) else (some (⟨gk, 0, none⟩ : Addr)).map (·.add (q * 2))) = some ⟨gk, q * 2, none⟩ := by
    rw [if_neg (by omega)]
    show some (Addr.add ⟨gk, 0, none⟩ (q * 2)) = _
    rw [add_at, Nat.zero_add]
  rw [ha1] at hcut1
  obtain ⟨a2, ha2, ha2'⟩ : ∃ a2 : Addr, (if ck = q + 1 then some (⟨gk, 0, none⟩ : Addr) else (some (⟨gk, 0, none⟩ : Addr)).map (·.add ((q + 1) * 2))) = some a2 ∧ (q + 1 < len → a2 = ⟨gk, (q + 1) * 2, none⟩) := by
    by_cases c : ck = q + 1
    · exact ⟨_, if_pos c, fun h => by omega⟩
    · exact ⟨_, by rw [if_neg c]; rfl, fun _ => by show Addr.add ⟨gk, 0, none⟩ ((q + 1) * 2) = _; rw [add_at, Nat.zero_add]⟩
  rw [ha2] at hcut2
  exact ⟨q + 1, len - q, len - (q + 1), len - 1, _, _, a2, wrap_succ (by omega), wrap_pred (by omega) (by omega), hcut1, hcut2, hcut3, rfl, rfl, rfl, ha2'⟩
set_option maxHeartbeats 8000000 in
set_option maxRecDepth 100000 in
theorem lose_calls {w : World} {base : Nat} {P : Nat → Prop} {g n : Nat} {bs : List (List Frame)} (h : NetI w base P g n bs) (a b x : Int) (hsm : (bs.getD (key n a b) []).length ≤ 256) :
    Calls Try.prog 17 #[.pointer (some ⟨g, 0, none⟩), .int .i64 a, .int .i64 b, .int .i64 x] w fun e w' => e = .returned (.int .i64 (loseF n bs a b x).1) ∧ NetI w' base P g n (loseF n bs a b x).2 ∧ Kept w w' P := by
  have HFR := Aside0.mk (frame_calls h a b x)
  have HH := Aside0.mk h
  unfold loseF
  by_cases c0 : frameF n bs a b x = 0
  case neg =>
    rw [if_neg c0]
    have e1 : (frameF n bs a b x != 0) = true := by rw [bne_iff_ne]; exact c0
    have C := Aside0.mk c0
    clear c0 h
    go_enter Try.func17, Try.ntmps17
    go_wp2_with (fail)
    refine HFR.out.mono ?_
    rintro e w' ⟨rfl, ⟨nd, rfl⟩⟩
    go_wp2
    go_ret
    exact ⟨rfl, HH.out.below (pw_below_drewN (Below.refl _ _) nd), Kept.of_below (pw_below_drewN (Below.refl _ _) nd) P⟩
  rw [if_pos c0]
  rw [c0] at HFR
  obtain ⟨cl, q, rfl, hq⟩ := frameF_ok c0
  clear c0
  obtain ⟨i, j, rfl, rfl, hi, hj, hij⟩ := linkF_ok cl
  clear cl
  have hn := h.size.2.2
  have hk : key n (i : Int) (j : Int) = i * n + j := by unfold key; rw [Int.toNat_natCast, Int.toNat_natCast]
  rw [hk] at hq hsm ⊢
  rw [Int.toNat_natCast]
  obtain ⟨B, cc, Ak, ck, oki, HL, hle, hR⟩ := h.lend (i * n + j) (key_lt hi hj)
  have hm := keep_le hi hn
  have hkl := key_lt hi hj
  have hw1 : wrap64 ((i : Int) * (n : Int)) = ((i * n : Nat) : Int) := by rw [← Int.natCast_mul]; exact wrap_nat (Nat.le_trans hm (by decide))
  have hw2 : wrap64 (((i * n : Nat) : Int) + (j : Int)) = ((i * n + j : Nat) : Int) := by rw [← Int.natCast_add]; exact wrap_nat (Nat.le_trans (Nat.add_le_add hm (Nat.le_trans (Nat.le_of_lt hj) hn)) (by decide))
  have b1 : (0 ≤ ((i * n + j : Nat) : Int)) = True := eq_true (Int.natCast_nonneg _)
  have b2 : (((i * n + j : Nat) : Int) < ((n * n : Nat) : Int)) = True := eq_true (Int.ofNat_lt.2 hkl)
  have b3 : (i * n + j < n * n) = True := eq_true hkl
  have q1 := Mem.cell_of HL.net 1
  have q0 := Mem.cell_of HL.net 0
  have qB := HL.cell
  rw [show (#[Value.int .i64 (n : Int), .slice (some ⟨B, 0, none⟩) (n * n) cc] : Array Value)[1]? = some (.slice (some ⟨B, 0, none⟩) (n * n) cc) from rfl] at q1
  rw [show (#[Value.int .i64 (n : Int), .slice (some ⟨B, 0, none⟩) (n * n) cc] : Array Value)[0]? = some (.int .i64 (n : Int)) from rfl] at q0
  obtain ⟨gk, _, _, rfl, _, _, _, _⟩ := bag_frame hR q hq
  have HLL := Aside0.mk HL
  have HRR := Aside0.mk hR
  clear HL hR hk hm hij h
  generalize bs.getD (i * n + j) [] = xs at *
  obtain ⟨nn, hnn⟩ : ∃ nn, n * n = nn := ⟨_, rfl⟩
  rw [hnn] at q1 b2 b3
  have HNN := Aside0.mk hnn
  clear hnn hkl
  generalize i * n = mm at *
  generalize mm + j = kk at *
  obtain ⟨q', m1, m2, m3, c1, c2, a2, hw3, hw4, hcut1, hcut2, hcut3, HA⟩ := lose_cuts gk xs.length ck q hq hle hsm
  have HM := Aside0.mk HA
  have HQ := Aside0.mk (And.intro hq (And.intro hle hsm))
  clear HA hq hle hsm
  go_enter Try.func17, Try.ntmps17
  go_wp2_with (fail)
  refine HFR.out.mono ?_
  rintro e w' ⟨rfl, ⟨nd, rfl⟩⟩
  go_wp2_with (fail)
  have HB := Aside0.mk (below_drew1 (pw_below_drewN (Below.refl w.heap.size w) nd))
  have HRD := Aside0.mk (Kd.R_below HRR.out HB.out)
  have HLD := Aside0.mk (HLL.out.below HB.out)
  have HKD := Aside0.mk ((Kept.refl w P).below HB.out)
  clear HRR HLL HB
  refine start_ (n := 8) (S := (fun _ => True)) (ds := [7]) #[false, false, false, false, false, false, false, false] (by kernel_rfl) rfl rfl (trivial) (fun hHeld => ?_)
  refine with_tabW losea.tab6 losea.bits6 (fun HT_ HW_ => ?_)
  refine pure_ (i := 0) (N := (some 35)) (v := ?_) (a' := ?_) #[true, false, false, false, false, false, false, false] rfl rfl (any_of HT_.out (by kernel_rfl)) (fun _ _ _ h => h) (Or.inl ⟨by rfl, ?_⟩) ?_ ?_
  rotate_left
  · intro w'
    go_simp
    with_reducible rfl
  rotate_left
  · simp only [Act.put, List.setIfInBounds_toArray, List.set_cons_zero, List.set_cons_succ, i64_w, i32_w]
    rfl
  refine pure_ (i := 1) (N := (some 36)) (v := ?_) (a' := ?_) #[true, true, false, false, false, false, false, false] rfl rfl (any_of HT_.out (by kernel_rfl)) (fun _ _ _ h => h) (Or.inl ⟨by rfl, ?_⟩) ?_ ?_
  rotate_left
  · intro w'
    go_simp
    with_reducible rfl
  rotate_left
  · simp only [Act.put, List.setIfInBounds_toArray, List.set_cons_zero, List.set_cons_succ, i64_w, i32_w]
    rfl
  refine pure_ (i := 2) (N := (some 37)) (v := ?_) (a' := ?_) #[true, true, true, false, false, false, false, false] rfl rfl (any_of HT_.out (by kernel_rfl)) (fun _ _ _ h => h) (Or.inl ⟨by rfl, ?_⟩) ?_ ?_
  rotate_left
  · intro w'
    go_simp
    with_reducible rfl
  rotate_left
  · simp only [Act.put, List.setIfInBounds_toArray, List.set_cons_zero, List.set_cons_succ, i64_w, i32_w]
    rfl
  refine pure_ (i := 3) (N := (some 38)) (v := ?_) (a' := ?_) #[true, true, true, true, false, false, false, false] rfl rfl (any_of HT_.out (by kernel_rfl)) (fun _ _ _ h => h) (Or.inl ⟨by rfl, ?_⟩) ?_ ?_
  rotate_left
  · intro w'
    go_simp
    with_reducible rfl
  rotate_left
  · simp only [Act.put, List.setIfInBounds_toArray, List.set_cons_zero, List.set_cons_succ, i64_w, i32_w]
    rfl
  refine pure_ (i := 4) (N := (some 39)) (v := ?_) (a' := ?_) #[true, true, true, true, true, false, false, false] rfl rfl (any_of HT_.out (by kernel_rfl)) (fun _ _ _ h => h) (Or.inl ⟨by rfl, ?_⟩) ?_ ?_
  rotate_left
  · intro w'
    go_simp
    with_reducible rfl
  rotate_left
  · simp only [Act.put, List.setIfInBounds_toArray, List.set_cons_zero, List.set_cons_succ, i64_w, i32_w]
    rfl
  refine pure_ (i := 5) (N := (some 40)) (v := ?_) (a' := ?_) #[true, true, true, true, true, true, false, false] rfl rfl (any_of HT_.out (by kernel_rfl)) (fun _ _ _ h => h) (Or.inl ⟨by rfl, ?_⟩) ?_ ?_
  rotate_left
  · intro w'
    go_simp
    with_reducible rfl
  rotate_left
  · simp only [Act.put, List.setIfInBounds_toArray, List.set_cons_zero, List.set_cons_succ, i64_w, i32_w]
    rfl
  refine pure_ (i := 6) (N := (some 41)) (v := ?_) (a' := ?_) #[true, true, true, true, true, true, true, false] rfl rfl (any_of HT_.out (by kernel_rfl)) (fun _ _ _ h => h) (Or.inl ⟨by rfl, ?_⟩) ?_ ?_
  rotate_left
  · intro w'
    go_simp
    with_reducible rfl
  rotate_left
  · simp only [Act.put, List.setIfInBounds_toArray, List.set_cons_zero, List.set_cons_succ, i64_w, i32_w]
    rfl
  refine last_ (i := 7) (N := (some 42)) #[true, true, true, true, true, true, true, true] rfl rfl (one_of HT_.out (by kernel_rfl)) (by decide) (fun K hK => ?_)
  obtain ⟨w5, hrun, hR5, hg5⟩ := lose_run HRD.out q HQ.out.1 HM.out.2.2.2 c1 c2 3
  rw [← HM.out.1, ← HM.out.2.1] at hrun
  refine value_ (w1 := w5) (v := goInt ((m2 : Nat) : Int)) (by rfl) rfl ?_ ?_
  · go_simp
    exact congrArg (fun r => Result.andThen r (fun a w' => Result.ok (Next.value a) w')) hrun
  have hrow : ∀ b, some gk = some b → oki b := fun b hb => HRD.out.1 b hb
  have HL5 := Aside0.mk (HLD.out.grown hg5 hrow)
  have HR5 := Aside0.mk hR5
  have HK5 := Aside0.mk (Kept.of_grown (S := P) hg5 HKD.out (fun b hb => .inl (HL5.out.ok b (hrow b hb)).1.1))
  clear HLD HRD HKD hrun hR5 hg5 hrow
  refine hK.out _ _ ?_
  clear hK K
  refine norm_ (a' := ?_) ?_ ?_
  rotate_left
  · show Act.put _ (some 42) _ = _
    simp only [Act.put, List.setIfInBounds_toArray, List.set_cons_zero, List.set_cons_succ, i64_w, i32_w]
    rfl
  refine done_ (done_of HT_.out (by kernel_rfl)) ?_
  go_wp2_with (fail)
  have h5g := Mem.cell_of HL5.out.net 1
  rw [HNN.out] at h5g
  have HS5 := Aside0.mk (And.intro h5g HL5.out.cell)
  have fz := HL5.out.free
  clear h5g
  refine start_ (n := 12) (S := (fun w' => w'.cell? ⟨g, 1, none⟩ = some (.slice (some ⟨B, 0, none⟩) nn cc) ∧ w'.cell? ⟨B, kk, none⟩ = some (.slice (some ⟨gk, 0, none⟩) xs.length ck))) (ds := [11]) #[false, false, false, false, false, false, false, false, false, false, false, false] (by kernel_rfl) rfl rfl (HS5.out) (fun hHeld => ?_)
  refine with_tabW loseb.tab7 loseb.bits7 (fun HT_ HW_ => ?_)
  refine pure_ (i := 0) (N := (some 43)) (v := ?_) (a' := ?_) #[true, false, false, false, false, false, false, false, false, false, false, false] rfl rfl (any_of HT_.out (by kernel_rfl)) (fun _ _ _ h => h) (Or.inl ⟨by rfl, ?_⟩) ?_ ?_
  rotate_left
  · intro w'
    go_simp
    with_reducible rfl
  rotate_left
  · simp only [Act.put, List.setIfInBounds_toArray, List.set_cons_zero, List.set_cons_succ, i64_w, i32_w]
    rfl
  refine pure_ (i := 1) (N := (some 44)) (v := ?_) (a' := ?_) #[true, true, false, false, false, false, false, false, false, false, false, false] rfl rfl (any_of HT_.out (by kernel_rfl)) (fun _ _ _ h => h) (Or.inl ⟨by rfl, ?_⟩) ?_ ?_
  rotate_left
  · intro w'
    go_simp
    with_reducible rfl
  rotate_left
  · simp only [Act.put, List.setIfInBounds_toArray, List.set_cons_zero, List.set_cons_succ, i64_w, i32_w]
    rfl
  refine pure_ (i := 2) (N := (some 45)) (v := ?_) (a' := ?_) #[true, true, true, false, false, false, false, false, false, false, false, false] rfl rfl (any_of HT_.out (by kernel_rfl)) (fun _ _ _ h => h) (Or.inl ⟨by rfl, ?_⟩) ?_ ?_
  rotate_left
  · intro w'
    go_simp
    with_reducible rfl
  rotate_left
  · simp only [Act.put, List.setIfInBounds_toArray, List.set_cons_zero, List.set_cons_succ, i64_w, i32_w]
    rfl
  refine pure_ (i := 4) (N := (some 47)) (v := ?_) (a' := ?_) #[true, true, true, false, true, false, false, false, false, false, false, false] rfl rfl (any_of HT_.out (by kernel_rfl)) (fun _ _ _ h => h) (Or.inl ⟨by rfl, ?_⟩) ?_ ?_
  rotate_left
  · intro w'
    go_simp
    with_reducible rfl
  rotate_left
  · simp only [Act.put, List.setIfInBounds_toArray, List.set_cons_zero, List.set_cons_succ, i64_w, i32_w]
    rfl
  refine pure_ (i := 5) (N := (some 48)) (v := ?_) (a' := ?_) #[true, true, true, false, true, true, false, false, false, false, false, false] rfl rfl (any_of HT_.out (by kernel_rfl)) (fun _ _ _ h => h) (Or.inl ⟨by rfl, ?_⟩) ?_ ?_
  rotate_left
  · intro w'
    go_simp
    with_reducible rfl
  rotate_left
  · simp only [Act.put, List.setIfInBounds_toArray, List.set_cons_zero, List.set_cons_succ, i64_w, i32_w]
    rfl
  refine pure_ (i := 6) (N := (some 49)) (v := ?_) (a' := ?_) #[true, true, true, false, true, true, true, false, false, false, false, false] rfl rfl (any_of HT_.out (by kernel_rfl)) (fun _ _ _ h => h) (Or.inl ⟨by rfl, ?_⟩) ?_ ?_
  rotate_left
  · intro w'
    go_simp
    with_reducible rfl
  rotate_left
  · simp only [Act.put, List.setIfInBounds_toArray, List.set_cons_zero, List.set_cons_succ, i64_w, i32_w]
    rfl
  refine pure_ (i := 7) (N := (some 50)) (v := ?_) (a' := ?_) #[true, true, true, false, true, true, true, true, false, false, false, false] rfl rfl (any_of HT_.out (by kernel_rfl)) (fun _ _ _ h => h) (Or.inl ⟨by rfl, ?_⟩) ?_ ?_
  rotate_left
  · intro w'
    go_simp
    with_reducible rfl
  rotate_left
  · simp only [Act.put, List.setIfInBounds_toArray, List.set_cons_zero, List.set_cons_succ, i64_w, i32_w]
    rfl
  refine pure_ (i := 8) (N := (some 51)) (v := ?_) (a' := ?_) #[true, true, true, false, true, true, true, true, true, false, false, false] rfl rfl (any_of HT_.out (by kernel_rfl)) (fun _ _ _ h => h) (Or.inl ⟨by rfl, ?_⟩) ?_ ?_
  rotate_left
  · intro w'
    go_simp
    with_reducible rfl
  rotate_left
  · simp only [Act.put, List.setIfInBounds_toArray, List.set_cons_zero, List.set_cons_succ, i64_w, i32_w]
    rfl
  refine pure_ (i := 9) (N := (some 52)) (v := ?_) (a' := ?_) #[true, true, true, false, true, true, true, true, true, true, false, false] rfl rfl (any_of HT_.out (by kernel_rfl)) (fun _ _ _ h => h) (Or.inl ⟨by rfl, ?_⟩) ?_ ?_
  rotate_left
  · intro w'
    go_simp
    with_reducible rfl
  rotate_left
  · simp only [Act.put, List.setIfInBounds_toArray, List.set_cons_zero, List.set_cons_succ, i64_w, i32_w]
    rfl
  refine take_ (i := 3) (N := (some 46)) (v := ?_) (a' := ?_) #[true, true, true, true, true, true, true, true, true, true, false, false] rfl rfl (take_ofW HT_.out HW_.out (by kernel_rfl)) (fun _ _ _ h => h) (Or.inl ⟨by rfl, ?_⟩) hHeld ?_ ?_
  rotate_left
  · rintro w' ⟨s0, s1⟩
    go_simp
    with_reducible rfl
  rotate_left
  · simp only [Act.put, List.setIfInBounds_toArray, List.set_cons_zero, List.set_cons_succ, i64_w, i32_w]
    rfl
  refine pure_ (i := 10) (N := (some 53)) (v := ?_) (a' := ?_) #[true, true, true, true, true, true, true, true, true, true, true, false] rfl rfl (any_of HT_.out (by kernel_rfl)) (fun _ _ _ h => h) (Or.inl ⟨by rfl, ?_⟩) ?_ ?_
  rotate_left
  · intro w'
    go_simp
    with_reducible rfl
  rotate_left
  · simp only [Act.put, List.setIfInBounds_toArray, List.set_cons_zero, List.set_cons_succ, i64_w, i32_w]
    rfl
  refine last_ (i := 11) (N := none) #[true, true, true, true, true, true, true, true, true, true, true, true] rfl rfl (one_of HT_.out (by kernel_rfl)) (by decide) (fun K hK => ?_)
  refine skip_ (w1 := w5.drew.setCell ⟨B, kk, none⟩ (.slice (some ⟨gk, 0, none⟩) m3 ck)) (by rfl) rfl ?_ ?_
  · go_simp
  refine hK.out _ _ ?_
  clear hK K
  refine done_ (done_of HT_.out (by kernel_rfl)) ?_
  go_wp2
  go_ret
  refine ⟨rfl, ?_, Kept.setCell HK5.out.drew (.inl HL5.out.PB) _⟩
  have hp := (HL5.out.below (below_drew (Below.refl _ _))).put (Kd.R_drew HR5.out)
  rw [HM.out.2.2.1]
  exact hp
end Go.Proofs.Ytchepjbdaojidaa.PBags
