/- The sums of bytes: what the program's loops and the document's loops come to. -/
import Derived.Test.YtnifikpldibbdaaPSealx1
import Derived.Test.YtnifikpldibbdaaPSealx2
import Derived.Laws.BitsAllLaws
namespace Go.Proofs.Ytnifikpldibbdaa.PSeal
open Go.RowKit Go.Proofs.YtnifikpldibbdaaW.PrintWords Go.Proofs.YtnifikpldibbdaaW.PrintLast
set_option linter.unusedVariables false

def stp (c : Nat) : Nat := if c % 2 = 1 then (c / 2) ^^^ 3988292384 else c / 2
def stps : Nat → Nat → Nat
  | 0, c => c
  | n + 1, c => stps n (stp c)
def byt (b : Int) : Nat := (b % 4294967296).toNat
def feed : Nat → List Int → Nat
  | c, [] => c
  | c, b :: l => feed (stps 8 (c ^^^ byt b)) l
def crc (xs : List Int) : Nat := 4294967295 ^^^ feed 4294967295 xs

theorem byt_lt (b : Int) : byt b < 4294967296 := by unfold byt; omega
theorem byt_cast (b : Int) : ((byt b : Nat) : Int) = b % 4294967296 := by unfold byt; omega
theorem xor_lt {a b : Nat} (ha : a < 4294967296) (hb : b < 4294967296) : a ^^^ b < 4294967296 := Nat.xor_lt_two_pow (n := 32) ha hb
theorem stp_lt {c : Nat} (h : c < 4294967296) : stp c < 4294967296 := by
  unfold stp
  split
  · exact xor_lt (by omega) (by decide)
  · omega
theorem stps_lt : ∀ {n c : Nat}, c < 4294967296 → stps n c < 4294967296
  | 0, _, h => h
  | n + 1, c, h => stps_lt (n := n) (stp_lt h)
theorem feed_lt : ∀ {l : List Int} {c : Nat}, c < 4294967296 → feed c l < 4294967296
  | [], _, h => h
  | b :: l, c, h => feed_lt (l := l) (stps_lt (xor_lt h (byt_lt b)))
theorem feed_append : ∀ (l m : List Int) (c : Nat), feed c (l ++ m) = feed (feed c l) m
  | [], _, _ => rfl
  | b :: l, m, c => feed_append l m _
theorem xor_cast {a : Nat} {b : Int} (ha : a < 4294967296) : Go.bits .xor .u32 (a : Int) (b % 4294967296) = ((a ^^^ byt b : Nat) : Int) := by
  rw [← byt_cast]; exact u32_xor_nat a (byt b) ha (byt_lt b)
theorem xor_poly {a : Nat} (ha : a < 4294967296) : Go.bits .xor .u32 (a : Int) 3988292384 = ((a ^^^ 3988292384 : Nat) : Int) := u32_xor_nat a 3988292384 ha (by decide)
theorem xor_ones {a : Nat} (ha : a < 4294967296) : Go.bits .xor .u32 (a : Int) 4294967295 = ((4294967295 ^^^ a : Nat) : Int) := by
  rw [Nat.xor_comm]; exact u32_xor_nat a 4294967295 ha (by decide)
theorem xor_ones' {a : Nat} (ha : a < 4294967296) : Go.bits .xor .u32 4294967295 (a : Int) = ((4294967295 ^^^ a : Nat) : Int) := u32_xor_nat 4294967295 a (by decide) ha
theorem and_one {a : Nat} (ha : a < 4294967296) : Go.bits .and .u32 (a : Int) 1 = ((a % 2 : Nat) : Int) := by
  have := u32_and_nat a 1 ha (by decide)
  rw [Nat.and_one_is_mod] at this
  exact this
theorem w64 {n : Int} (h0 : -9223372036854775808 ≤ n) (h1 : n ≤ 9223372036854775807) : wrap64 n = n := by unfold wrap64; omega
theorem drop_cons {α : Type} {l : List α} {i : Nat} {b : α} {r : List α} (h : l.drop i = b :: r) : i < l.length ∧ l.drop (i + 1) = r ∧ l[i]? = some b := by
  have hl : i < l.length := by
    rcases Nat.lt_or_ge i l.length with h' | h'
    · exact h'
    · rw [List.drop_eq_nil_of_le h'] at h; cases h
  rw [List.drop_eq_getElem_cons hl] at h
  injection h with h1 h2
  exact ⟨hl, h2, by rw [List.getElem?_eq_getElem hl, h1]⟩

/-! ### the document's loops -/
theorem ref_l0_s (k : Nat) (x0 : List Int) (x3 x4 : Int) : topiaryref04_Sum.l0 (k + 1) x0 x3 x4 = if x4 < (x0.length : Int) then (if 0 ≤ x4 then (topiaryref04_Sum.l1 k x0 (Go.bits .xor .u32 x3 ((rd x0 x4) % 4294967296)) x4 0) else (none)) else (some (Go.bits .xor .u32 x3 4294967295)) := by simp only [topiaryref04_Sum.l0]
theorem ref_l1_s (k : Nat) (x0 : List Int) (x3 x4 x5 : Int) : topiaryref04_Sum.l1 (k + 1) x0 x3 x4 x5 = if x5 < 8 then (if (Int.tmod x3 2) = 1 then (topiaryref04_Sum.l1 k x0 (Go.bits .xor .u32 ((Int.tdiv x3 2) % 4294967296) 3988292384) x4 (wrap64 (x5 + 1))) else (topiaryref04_Sum.l1 k x0 ((Int.tdiv x3 2) % 4294967296) x4 (wrap64 (x5 + 1)))) else (topiaryref04_Sum.l0 k x0 x3 (wrap64 (x4 + 1))) := by simp only [topiaryref04_Sum.l1]
theorem own_l0_s (k : Nat) (x3 : Int) (x9 : List (List Int)) (x10 x11 : Int) : seal_Sum.l0 (k + 1) x3 x9 x10 x11 = if x11 < x10 then (if 0 ≤ x11 then (if x11 < (x9.length : Int) then (seal_Sum.l1 k x3 x9 x10 x11 (rd_L1 x9 x11) ((rd_L1 x9 x11).length : Int) 0) else (none)) else (none)) else (some (Go.bits .xor .u32 4294967295 x3)) := by simp only [seal_Sum.l0]
theorem own_l1_s (k : Nat) (x3 : Int) (x9 : List (List Int)) (x10 x11 : Int) (x15 : List Int) (x16 x17 : Int) : seal_Sum.l1 (k + 1) x3 x9 x10 x11 x15 x16 x17 = if x17 < x16 then (if 0 ≤ x17 then (if x17 < (x15.length : Int) then (seal_Sum.l2 k (Go.bits .xor .u32 x3 ((rd x15 x17) % 4294967296)) x9 x10 x11 x15 x16 x17 0) else (none)) else (none)) else (seal_Sum.l0 k x3 x9 x10 (wrap64 (x11 + 1))) := by simp only [seal_Sum.l1]
theorem own_l2_s (k : Nat) (x3 : Int) (x9 : List (List Int)) (x10 x11 : Int) (x15 : List Int) (x16 x17 x25 : Int) : seal_Sum.l2 (k + 1) x3 x9 x10 x11 x15 x16 x17 x25 = if x25 < 8 then (if (Go.bits .and .u32 x3 1) = 1 then (seal_Sum.l2 k (Go.bits .xor .u32 (x3 / 2) 3988292384) x9 x10 x11 x15 x16 x17 (wrap64 (x25 + 1))) else (seal_Sum.l2 k (x3 / 2) x9 x10 x11 x15 x16 x17 (wrap64 (x25 + 1)))) else (seal_Sum.l1 k x3 x9 x10 x11 x15 x16 (wrap64 (x17 + 1))) := by simp only [seal_Sum.l2]
theorem tm2 (c : Nat) : Int.tmod (c : Int) 2 = ((c % 2 : Nat) : Int) := by rw [Int.tmod_eq_emod_of_nonneg (by omega)]; omega
theorem td2 {c : Nat} (h : c < 4294967296) : (Int.tdiv (c : Int) 2) % 4294967296 = ((c / 2 : Nat) : Int) := by rw [Int.tdiv_eq_ediv_of_nonneg (by omega)]; omega
theorem ref_l1 (xs : List Int) (i : Int) : ∀ (d k c : Nat), d ≤ 8 → c < 4294967296 →
    topiaryref04_Sum.l1 (k + d + 1) xs (c : Int) i ((8 - d : Nat) : Int) = topiaryref04_Sum.l0 k xs ((stps d c : Nat) : Int) (wrap64 (i + 1))
  | 0, k, c, _, _ => by
    rw [ref_l1_s]
    rw [if_neg (by decide)]
    rfl
  | d + 1, k, c, hd, hc => by
    have e : k + (d + 1) + 1 = (k + d + 1) + 1 := by omega
    rw [e]
    rw [ref_l1_s]
    rw [if_pos (by omega)]
    have hw : wrap64 (((8 - (d + 1) : Nat) : Int) + 1) = ((8 - d : Nat) : Int) := by rw [w64 (by omega) (by omega)]; omega
    rw [hw]
    have hm : (Int.tmod (c : Int) 2 = 1) ↔ c % 2 = 1 := by rw [tm2]; omega
    have hq := td2 hc
    by_cases h : c % 2 = 1
    · rw [if_pos (hm.2 h), hq, xor_poly (by omega), ref_l1 xs i d k _ (by omega) (xor_lt (by omega) (by decide))]
      have : stps (d + 1) c = stps d (c / 2 ^^^ 3988292384) := by show stps d (stp c) = _; unfold stp; rw [if_pos h]
      rw [this]
    · rw [if_neg (fun g => h (hm.1 g)), hq, ref_l1 xs i d k _ (by omega) (by omega)]
      have : stps (d + 1) c = stps d (c / 2) := by show stps d (stp c) = _; unfold stp; rw [if_neg h]
      rw [this]
theorem ref_l0 (xs : List Int) (hl : xs.length ≤ 9223372036854775806) : ∀ (r : List Int) (i k c : Nat), xs.drop i = r → i ≤ xs.length → c < 4294967296 → 10 * r.length + 1 ≤ k →
    topiaryref04_Sum.l0 k xs (c : Int) (i : Int) = some ((4294967295 ^^^ feed c r : Nat) : Int)
  | [], i, k, c, h, hi, hc, hk => by
    obtain ⟨k, rfl⟩ : ∃ m, k = m + 1 := ⟨k - 1, by omega⟩
    have : xs.length ≤ i := List.drop_eq_nil_iff.1 h
    rw [ref_l0_s]
    rw [if_neg (by omega), xor_ones hc]
    rfl
  | b :: r, i, k, c, h, hi, hc, hk => by
    obtain ⟨h1, h2, h3⟩ := drop_cons h
    obtain ⟨k, rfl⟩ : ∃ m, k = m + 9 + 1 := ⟨k - 10, by simp at hk; omega⟩
    rw [ref_l0_s]
    have hr : rd xs (i : Int) = b := by unfold rd; rw [Int.toNat_natCast, List.getD_eq_getElem?_getD, h3]; rfl
    rw [if_pos (by omega), if_pos (by omega), hr, xor_cast hc]
    have := ref_l1 xs (i : Int) 8 k (c ^^^ byt b) (by omega) (xor_lt hc (byt_lt b))
    have e0 : ((8 - 8 : Nat) : Int) = 0 := rfl
    rw [e0] at this
    rw [this, w64 (by omega) (by omega)]
    have := ref_l0 xs hl r (i + 1) k (stps 8 (c ^^^ byt b)) h2 (by omega) (stps_lt (xor_lt hc (byt_lt b))) (by simp at hk; omega)
    rw [show ((i + 1 : Nat) : Int) = (i : Int) + 1 from by omega] at this
    rw [this]
    rfl
theorem ref_sum (xs : List Int) (hl : xs.length ≤ 9223372036854775806) (k : Nat) (hk : 10 * xs.length + 1 ≤ k) : topiaryref04_Sum.f k xs = some ((crc xs : Nat) : Int) :=
  ref_l0 xs hl xs 0 k 4294967295 rfl (Nat.zero_le _) (by decide) hk

/-! ### the program's loops -/
theorem own_l2 (ls : List (List Int)) (n i : Int) (l : List Int) (m j : Int) : ∀ (d k c : Nat), d ≤ 8 → c < 4294967296 →
    seal_Sum.l2 (k + d + 1) (c : Int) ls n i l m j ((8 - d : Nat) : Int) = seal_Sum.l1 k ((stps d c : Nat) : Int) ls n i l m (wrap64 (j + 1))
  | 0, k, c, _, _ => by
    rw [own_l2_s]
    rw [if_neg (by decide)]
    rfl
  | d + 1, k, c, hd, hc => by
    have e : k + (d + 1) + 1 = (k + d + 1) + 1 := by omega
    rw [e]
    rw [own_l2_s]
    rw [if_pos (by omega)]
    have hw : wrap64 (((8 - (d + 1) : Nat) : Int) + 1) = ((8 - d : Nat) : Int) := by rw [w64 (by omega) (by omega)]; omega
    rw [hw, and_one hc]
    have hm : (((c % 2 : Nat) : Int) = 1) ↔ c % 2 = 1 := by omega
    have hq : (c : Int) / 2 = ((c / 2 : Nat) : Int) := by omega
    by_cases h : c % 2 = 1
    · rw [if_pos (hm.2 h), hq, xor_poly (by omega), own_l2 ls n i l m j d k _ (by omega) (xor_lt (by omega) (by decide))]
      have : stps (d + 1) c = stps d (c / 2 ^^^ 3988292384) := by show stps d (stp c) = _; unfold stp; rw [if_pos h]
      rw [this]
    · rw [if_neg (fun g => h (hm.1 g)), hq, own_l2 ls n i l m j d k _ (by omega) (by omega)]
      have : stps (d + 1) c = stps d (c / 2) := by show stps d (stp c) = _; unfold stp; rw [if_neg h]
      rw [this]
theorem own_l1 (ls : List (List Int)) (n i : Int) (l : List Int) (hl : l.length ≤ 9223372036854775806) : ∀ (r : List Int) (j k c : Nat), l.drop j = r → j ≤ l.length → c < 4294967296 →
    seal_Sum.l1 (k + 10 * r.length + 1) (c : Int) ls n i l (l.length : Int) (j : Int) = seal_Sum.l0 k ((feed c r : Nat) : Int) ls n (wrap64 (i + 1))
  | [], j, k, c, h, hj, hc => by
    have : l.length ≤ j := List.drop_eq_nil_iff.1 h
    rw [own_l1_s]
    rw [if_neg (by omega)]
    rfl
  | b :: r, j, k, c, h, hj, hc => by
    obtain ⟨h1, h2, h3⟩ := drop_cons h
    have e : k + 10 * (b :: r).length + 1 = ((k + 10 * r.length + 1) + 8 + 1) + 1 := by simp; omega
    rw [e]
    rw [own_l1_s]
    have hr : rd l (j : Int) = b := by unfold rd; rw [Int.toNat_natCast, List.getD_eq_getElem?_getD, h3]; rfl
    rw [if_pos (by omega), if_pos (by omega), if_pos (by omega), hr, xor_cast hc]
    have := own_l2 ls n i l (l.length : Int) (j : Int) 8 (k + 10 * r.length + 1) (c ^^^ byt b) (by omega) (xor_lt hc (byt_lt b))
    have e0 : ((8 - 8 : Nat) : Int) = 0 := rfl
    rw [e0] at this
    rw [this, w64 (by omega) (by omega)]
    have := own_l1 ls n i l hl r (j + 1) k (stps 8 (c ^^^ byt b)) h2 (by omega) (stps_lt (xor_lt hc (byt_lt b)))
    rw [show ((j + 1 : Nat) : Int) = (j : Int) + 1 from by omega] at this
    rw [this]
    rfl
def rounds : List (List Int) → Nat
  | [] => 1
  | l :: r => 10 * l.length + 2 + rounds r
theorem own_l0 (ls : List (List Int)) (hn : ls.length ≤ 9223372036854775806) (hl : ∀ l ∈ ls, l.length ≤ 9223372036854775806) : ∀ (r : List (List Int)) (i k c : Nat), ls.drop i = r → i ≤ ls.length → c < 4294967296 → rounds r ≤ k →
    seal_Sum.l0 k (c : Int) ls (ls.length : Int) (i : Int) = some ((4294967295 ^^^ feed c r.flatten : Nat) : Int)
  | [], i, k, c, h, hi, hc, hk => by
    obtain ⟨k, rfl⟩ : ∃ m, k = m + 1 := ⟨k - 1, by simp [rounds] at hk; omega⟩
    have : ls.length ≤ i := List.drop_eq_nil_iff.1 h
    rw [own_l0_s]
    rw [if_neg (by omega), xor_ones' hc]
    rfl
  | b :: r, i, k, c, h, hi, hc, hk => by
    obtain ⟨h1, h2, h3⟩ := drop_cons h
    have hb : b ∈ ls := List.mem_of_getElem? h3
    simp only [rounds] at hk
    obtain ⟨k, rfl⟩ : ∃ m, k = (m + 10 * b.length + 1) + 1 := ⟨k - 10 * b.length - 2, by omega⟩
    rw [own_l0_s]
    have hr : rd_L1 ls (i : Int) = b := by unfold rd_L1; rw [Int.toNat_natCast, List.getD_eq_getElem?_getD, h3]; rfl
    rw [if_pos (by omega), if_pos (by omega), if_pos (by omega), hr]
    have := own_l1 ls (ls.length : Int) (i : Int) b (hl b hb) b 0 k c rfl (Nat.zero_le _) hc
    rw [show ((0 : Nat) : Int) = 0 from rfl] at this
    rw [this, w64 (by omega) (by omega)]
    have := own_l0 ls hn hl r (i + 1) k (feed c b) h2 (by omega) (feed_lt hc) (by omega)
    rw [show ((i + 1 : Nat) : Int) = (i : Int) + 1 from by omega] at this
    rw [this, List.flatten_cons, feed_append]
theorem own_sum (ls : List (List Int)) (hn : ls.length ≤ 9223372036854775806) (hl : ∀ l ∈ ls, l.length ≤ 9223372036854775806) (k : Nat) (hk : rounds ls ≤ k) : seal_Sum.f k ls = some ((crc ls.flatten : Nat) : Int) :=
  own_l0 ls hn hl ls 0 k 4294967295 rfl (Nat.zero_le _) (by decide) hk
end Go.Proofs.Ytnifikpldibbdaa.PSeal
