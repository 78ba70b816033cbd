/- The sum is linear, and no burst of at most 32 bits leaves it as it was. -/
import Derived.Test.YtnifikpldibbdaaSBack
namespace Go.Proofs.Ytnifikpldibbdaa.PSeal
open Go.RowKit Go.Proofs.YtnifikpldibbdaaW.PrintWords Go.Proofs.YtnifikpldibbdaaW.PrintLast
theorem stp_xor (a b : Nat) : stp (a ^^^ b) = stp a ^^^ stp b := by
  have hd : (a ^^^ b) / 2 = a / 2 ^^^ b / 2 := Nat.xor_div_two
  have hm : (a ^^^ b) % 2 = 1 ↔ ¬ (a % 2 = 1 ↔ b % 2 = 1) := Nat.xor_mod_two_eq_one
  unfold stp
  rw [hd]
  by_cases h1 : a % 2 = 1
  · by_cases h2 : b % 2 = 1
    · rw [if_neg (fun h => hm.1 h ⟨fun _ => h2, fun _ => h1⟩), if_pos h1, if_pos h2]
      have : a / 2 ^^^ 3988292384 ^^^ (b / 2 ^^^ 3988292384) = (a / 2 ^^^ b / 2) ^^^ (3988292384 ^^^ 3988292384) := by ac_rfl
      rw [this, Nat.xor_self, Nat.xor_zero]
    · rw [if_pos (hm.2 (fun h => h2 (h.1 h1))), if_pos h1, if_neg h2]
      ac_rfl
  · by_cases h2 : b % 2 = 1
    · rw [if_pos (hm.2 (fun h => h1 (h.2 h2))), if_neg h1, if_pos h2]
      ac_rfl
    · rw [if_neg (fun h => hm.1 h ⟨fun g => absurd g h1, fun g => absurd g h2⟩), if_neg h1, if_neg h2]
theorem stps_xor : ∀ (n a b : Nat), stps n (a ^^^ b) = stps n a ^^^ stps n b
  | 0, _, _ => rfl
  | n + 1, a, b => by
    show stps n (stp (a ^^^ b)) = stps n (stp a) ^^^ stps n (stp b)
    rw [stp_xor, stps_xor n]
theorem stps_add : ∀ (m n c : Nat), stps (m + n) c = stps n (stps m c)
  | 0, n, c => by rw [Nat.zero_add]; rfl
  | m + 1, n, c => by
    rw [show m + 1 + n = (m + n) + 1 from by omega]
    show stps (m + n) (stp c) = stps n (stps m (stp c))
    exact stps_add m n (stp c)
theorem stp_two (z : Nat) : stp (2 * z) = z := by
  unfold stp
  rw [if_neg (by omega)]
  omega
theorem stps_shift : ∀ (n z : Nat), stps n (2 ^ n * z) = z
  | 0, z => by rw [Nat.pow_zero, Nat.one_mul]; rfl
  | n + 1, z => by
    rw [show 2 ^ (n + 1) * z = 2 * (2 ^ n * z) from by rw [Nat.pow_succ]; ac_rfl]
    show stps n (stp (2 * (2 ^ n * z))) = z
    rw [stp_two, stps_shift n z]
theorem stp_ne {c : Nat} (h : c < 4294967296) (h0 : c ≠ 0) : stp c ≠ 0 := by
  unfold stp
  split
  · intro h1
    have h2 : c / 2 = 3988292384 := by
      have h3 : c / 2 ^^^ 3988292384 ^^^ 3988292384 = 3988292384 := by rw [h1, Nat.zero_xor]
      rw [Nat.xor_assoc, Nat.xor_self, Nat.xor_zero] at h3
      exact h3
    omega
  · omega
theorem stps_ne : ∀ (n : Nat) {c : Nat}, c < 4294967296 → c ≠ 0 → stps n c ≠ 0
  | 0, _, _, h => h
  | n + 1, _, h, h0 => stps_ne n (stp_lt h) (stp_ne h h0)
def val : List Int → Nat
  | [] => 0
  | b :: r => byt b ^^^ (2 ^ 8 * val r)
theorem feed_val : ∀ (l : List Int) (c : Nat), feed c l = stps (8 * l.length) (c ^^^ val l)
  | [], c => by
    show c = stps 0 (c ^^^ 0)
    rw [Nat.xor_zero]; rfl
  | b :: r, c => by
    show feed (stps 8 (c ^^^ byt b)) r = stps (8 * (r.length + 1)) (c ^^^ (byt b ^^^ 2 ^ 8 * val r))
    rw [feed_val r, show 8 * (r.length + 1) = 8 + 8 * r.length from by omega, stps_add, ← Nat.xor_assoc, stps_xor 8 (c ^^^ byt b), stps_shift]
theorem xor_add {a b : Nat} (i : Nat) (h : b < 2 ^ i) : b ^^^ (2 ^ i * a) = 2 ^ i * a + b := by
  rw [Nat.two_pow_add_eq_or_of_lt h a]
  apply Nat.eq_of_testBit_eq
  intro j
  rw [Nat.testBit_xor, Nat.testBit_or, Nat.testBit_two_pow_mul]
  by_cases hj : i ≤ j
  · have : b.testBit j = false := Nat.testBit_lt_two_pow (Nat.lt_of_lt_of_le h (Nat.pow_le_pow_right (by decide) hj))
    rw [this]
    cases (decide (j ≥ i) && a.testBit (j - i)) <;> rfl
  · have : decide (j ≥ i) = false := decide_eq_false hj
    rw [this]
    cases b.testBit j <;> rfl
theorem byt_of {b : Int} (h : 0 ≤ b ∧ b ≤ 255) : ((byt b : Nat) : Int) = b := by rw [byt_cast]; omega
theorem val_num4 {l : List Int} (hw : Wfb l) (h : l.length = 4) : ((val l : Nat) : Int) = num4 l := by
  match l, h with
  | [a, b, c, d], _ =>
    have ha := byt_of (hw a (by simp)); have hb := byt_of (hw b (by simp)); have hc := byt_of (hw c (by simp)); have hd := byt_of (hw d (by simp))
    have ga := hw a (by simp); have gb := hw b (by simp); have gc := hw c (by simp); have gd := hw d (by simp)
    show ((byt a ^^^ (2 ^ 8 * (byt b ^^^ (2 ^ 8 * (byt c ^^^ (2 ^ 8 * (byt d ^^^ (2 ^ 8 * 0))))))) : Nat) : Int) = a + 256 * b + 65536 * c + 16777216 * d
    rw [Nat.mul_zero, Nat.xor_zero, xor_add 8 (by omega), xor_add 8 (by omega), xor_add 8 (by omega)]
    omega
/-- Where the sum is right, the whole frame feeds to one and the same number. -/
theorem feed_right {p : List Int} (hw : Wfb p) (hl : 4 ≤ p.length) (h : num4 (p.drop (p.length - 4)) = ((crc (p.take (p.length - 4)) : Nat) : Int)) : feed 4294967295 p = stps 32 4294967295 := by
  have h1 : p = p.take (p.length - 4) ++ p.drop (p.length - 4) := (List.take_append_drop _ _).symm
  have h2 : (p.drop (p.length - 4)).length = 4 := by rw [List.length_drop]; omega
  have h3 : val (p.drop (p.length - 4)) = crc (p.take (p.length - 4)) := by
    have := val_num4 (hw.drop (p.length - 4)) h2
    omega
  rw [h1, feed_append, feed_val (p.drop _), h2, h3]
  unfold crc
  generalize feed 4294967295 (p.take (p.length - 4)) = s
  rw [Nat.xor_comm 4294967295 s, ← Nat.xor_assoc, Nat.xor_self, Nat.zero_xor]
theorem rd_zero (b : Int) (r : List Int) : rd (b :: r) ((0 : Nat) : Int) = b := rfl
theorem rd_succ (b : Int) (r : List Int) (j : Nat) : rd (b :: r) ((j + 1 : Nat) : Int) = rd r (j : Int) := by
  rw [rd_nat, rd_nat]; rfl
theorem byt_xor {b : Int} (hb : 0 ≤ b ∧ b ≤ 255) {m : Nat} (hm : m < 256) : byt (((b.toNat ^^^ m : Nat)) : Int) = byt b ^^^ m := by
  have h1 : b.toNat ^^^ m < 256 := Nat.xor_lt_two_pow (n := 8) (by omega) hm
  have h2 : byt b = b.toNat := by unfold byt; omega
  rw [h2]
  unfold byt
  omega
/-- One bit of one byte turned. -/
theorem val_set : ∀ (l : List Int) (j r : Nat), Wfb l → j < l.length → r < 8 → val (l.set j (((rd l (j : Int)).toNat ^^^ 2 ^ r : Nat) : Int)) = val l ^^^ 2 ^ (8 * j + r)
  | [], j, r, _, hj, _ => absurd hj (by simp)
  | b :: l, 0, r, hw, _, hr => by
    have hb := hw b (by simp)
    have hp : 2 ^ r < 256 := by
      have : 2 ^ r < 2 ^ 8 := Nat.pow_lt_pow_right (by decide) hr
      exact this
    rw [rd_zero, List.set_cons_zero]
    show byt _ ^^^ 2 ^ 8 * val l = (byt b ^^^ 2 ^ 8 * val l) ^^^ 2 ^ (8 * 0 + r)
    rw [byt_xor hb hp, show 8 * 0 + r = r from by omega]
    ac_rfl
  | b :: l, j + 1, r, hw, hj, hr => by
    have hw' : Wfb l := fun x hx => hw x (List.mem_cons_of_mem _ hx)
    rw [rd_succ, List.set_cons_succ]
    show byt b ^^^ 2 ^ 8 * val (l.set j _) = (byt b ^^^ 2 ^ 8 * val l) ^^^ 2 ^ (8 * (j + 1) + r)
    rw [val_set l j r hw' (by simpa using hj) hr]
    have h1 : 2 ^ 8 * (val l ^^^ 2 ^ (8 * j + r)) = 2 ^ 8 * val l ^^^ 2 ^ 8 * 2 ^ (8 * j + r) := by
      rw [Nat.mul_comm (2 ^ 8), Nat.mul_comm (2 ^ 8), Nat.mul_comm (2 ^ 8), ← Nat.shiftLeft_eq, ← Nat.shiftLeft_eq, ← Nat.shiftLeft_eq, Nat.shiftLeft_xor_distrib]
    have h2 : 2 ^ 8 * 2 ^ (8 * j + r) = 2 ^ (8 * (j + 1) + r) := by rw [← Nat.pow_add]; congr 1; omega
    rw [h1, h2, Nat.xor_assoc]
/-- No burst goes unseen. -/
theorem burst_seen {p q : List Int} (hp : Wfb p) (hq : Wfb q) (hlen : q.length = p.length) (hl : 4 ≤ p.length) {t M : Nat} (ht : t ≤ 8 * p.length) (hM : M < 4294967296) (h0 : M ≠ 0) (hv : val q = val p ^^^ (2 ^ t * M))
    (h1 : num4 (p.drop (p.length - 4)) = ((crc (p.take (p.length - 4)) : Nat) : Int)) (h2 : num4 (q.drop (q.length - 4)) = ((crc (q.take (q.length - 4)) : Nat) : Int)) : False := by
  have e1 := feed_right hp hl h1
  have e2 := feed_right hq (by omega) h2
  rw [feed_val] at e1 e2
  rw [hv, hlen, ← Nat.xor_assoc, stps_xor, e1] at e2
  have e3 : stps (8 * p.length) (2 ^ t * M) = 0 := by
    have := congrArg (fun x => stps 32 4294967295 ^^^ x) e2
    rw [← Nat.xor_assoc, Nat.xor_self, Nat.zero_xor] at this
    exact this
  rw [show 8 * p.length = t + (8 * p.length - t) from by omega, stps_add, stps_shift] at e3
  exact stps_ne _ hM h0 e3
end Go.Proofs.Ytnifikpldibbdaa.PSeal
