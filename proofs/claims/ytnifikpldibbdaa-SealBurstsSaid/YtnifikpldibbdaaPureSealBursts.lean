/- A frame of which bits were turned, all within 32 neighbouring ones, is refused. -/
import Derived.Test.YtnifikpldibbdaaPSealx19
import Derived.Test.YtnifikpldibbdaaSBurst
namespace Go.Proofs.Ytnifikpldibbdaa.Pure
open Go.RowKit Go.Proofs.Ytnifikpldibbdaa.PSeal Go.Proofs.YtnifikpldibbdaaW.PrintWords Go.Proofs.YtnifikpldibbdaaW.PrintLast Go.Proofs.YtnifikpldibbdaaW.PrintMore
theorem bursts_s (k : Nat) (x0 : List Int) (x1 x2 : Int) (x7 : List Int) (x9 : Bool) (x10 : Int) : topiarylaw04_SealBursts.l0 (k + 1) x0 x1 x2 x7 x9 x10 = if x10 < 32 then (if 0 ≤ (IntKind.u64.wrap (x10)) then (if (Go.bits .and .u32 (shr .u32 x2 (IntKind.u64.wrap (x10))) 1) = 1 then (if (wrap64 (x1 + x10)) < (wrap64 (8 * (x7.length : Int))) then (if 0 ≤ (wrap64 (Int.tdiv (wrap64 (x1 + x10)) 8)) then (if (wrap64 (Int.tdiv (wrap64 (x1 + x10)) 8)) < (x7.length : Int) then (if 0 ≤ (IntKind.u64.wrap (Int.tmod (wrap64 (x1 + x10)) 8)) then (topiarylaw04_SealBursts.l0 k x0 x1 x2 (x7.set ((wrap64 (Int.tdiv (wrap64 (x1 + x10)) 8)) : Int).toNat (Go.bits .xor .u8 (rd x7 (wrap64 (Int.tdiv (wrap64 (x1 + x10)) 8))) (shl .u8 1 (IntKind.u64.wrap (Int.tmod (wrap64 (x1 + x10)) 8))))) true (wrap64 (x10 + 1))) else (none)) else (none)) else (none)) else (topiarylaw04_SealBursts.l0 k x0 x1 x2 x7 x9 (wrap64 (x10 + 1)))) else (topiarylaw04_SealBursts.l0 k x0 x1 x2 x7 x9 (wrap64 (x10 + 1)))) else (none)) else ((seal_Open.f k x7).bind fun bt314 => (if x9 = true then (if bt314.1 = 0 then (if (bt314.2.1.length : Int) = 0 then (if bt314.2.2 = 2 then ((topiarylaw04_awake.f k).bind fun t319 => (some t319)) else (if bt314.2.2 = 9 then ((topiarylaw04_awake.f k).bind fun t320 => (some t320)) else (some false))) else (some false)) else (some false)) else (if bt314.1 = 1 then (if (strOfNums bt314.2.1).toList = (strOfNums x0).toList then (if bt314.2.2 = 0 then ((topiarylaw04_awake.f k).bind fun t321 => (some t321)) else (some false)) else (some false)) else (some false)))) := by
  simp only [topiarylaw04_SealBursts.l0]
theorem u64w {x : Int} (h0 : 0 ≤ x) (h1 : x < 1000000) : IntKind.u64.wrap x = x := by rw [IntKind.wrap_u64]; omega
theorem flip_byte {b : Int} (hb : 0 ≤ b ∧ b ≤ 255) {r : Nat} (hr : r < 8) : Go.bits .xor .u8 b (shl .u8 1 (r : Int)) = ((b.toNat ^^^ 2 ^ r : Nat) : Int) := by
  have hp : 2 ^ r < 256 := by
    have : 2 ^ r < 2 ^ 8 := Nat.pow_lt_pow_right (by decide) hr
    exact this
  have hs : shl .u8 1 (r : Int) = ((2 ^ r : Nat) : Int) := by
    unfold shl
    rw [Int.toNat_natCast, show min r IntKind.u8.bits = r from Nat.min_eq_left (by show r ≤ 8; omega), Int.one_mul]
    have : IntKind.u8.wrap ((2 : Int) ^ r) = (2 : Int) ^ r := by
      match r, hr with
      | 0, _ => decide
      | 1, _ => decide
      | 2, _ => decide
      | 3, _ => decide
      | 4, _ => decide
      | 5, _ => decide
      | 6, _ => decide
      | 7, _ => decide
    rw [this]
    simp
  obtain ⟨n, rfl⟩ := Int.eq_ofNat_of_zero_le hb.1
  rw [hs]
  exact u8_xor_nat n (2 ^ r) (by omega) hp
theorem open_burst {p q : List Int} (hp : Wfb p) (hq : Wfb q) (hlen : q.length = p.length) (hl : 4 ≤ p.length) {t M : Nat} (ht : t ≤ 8 * p.length) (hM : M < 4294967296) (h0 : M ≠ 0) (hv : val q = val p ^^^ (2 ^ t * M))
    (h1 : num4 (p.drop (p.length - 4)) = ((crc (p.take (p.length - 4)) : Nat) : Int)) : openS q = (0, [], 2) ∨ openS q = (0, [], 9) := by
  unfold openS
  split
  · exact .inl rfl
  · split
    · rename_i h2
      exact (burst_seen hp hq hlen hl ht hM h0 hv h1 h2).elim
    · exact .inr rfl
theorem bursts_loop {KA : Nat} (hA : ∀ k, KA ≤ k → topiarylaw04_awake.f k = some true) (l : List Int) (hw : Wfb l) (hl : l.length ≤ 65536) (mask : Int) (t : Nat) (ht : t < 8 * (frame 1 l).length) : ∀ (d k i M : Nat) (q : List Int) (b : Bool),
    i + d = 32 → KA + 10 * (l.length + 9) + 3 + d + 1 ≤ k → M < 2 ^ i → Wfb q → q.length = (frame 1 l).length → val q = val (frame 1 l) ^^^ (2 ^ t * M) → (b = true → M ≠ 0) → (b = false → q = frame 1 l) →
    topiarylaw04_SealBursts.l0 k l (t : Int) mask q b (i : Int) = some true
  | 0, k, i, M, q, b, hi, hk, hM, hq, hlen, hv, hb1, hb0 => by
    obtain ⟨k, rfl⟩ : ∃ m, k = m + 1 := ⟨k - 1, by omega⟩
    have hfl := frame_len 1 l
    have ha := hA k (by omega)
    rw [bursts_s, if_neg (by omega), open_at hq (by omega) k (by omega), Option.bind_some]
    cases b with
    | true =>
      rw [if_pos rfl]
      have hM' : M < 4294967296 := by
        obtain rfl : i = 32 := by omega
        exact hM
      have hf := body_drop 1 l
      have hr : num4 ((frame 1 l).drop ((frame 1 l).length - 4)) = ((crc ((frame 1 l).take ((frame 1 l).length - 4)) : Nat) : Int) := by
        rw [body_drop, body_take]; exact num4_fourL (crc_range _).1 (crc_range _).2
      rcases open_burst (frame_wf 1 hw) hq hlen (by omega) (by omega) hM' (hb1 rfl) hv hr with h | h
      · rw [h, ha]; rfl
      · rw [h, ha]; rfl
    | false =>
      rw [if_neg (by decide), hb0 rfl, open_frame (by decide) (by decide) hl, ha]
      rw [if_pos rfl, if_pos rfl, if_pos rfl]
      rfl
  | d + 1, k, i, M, q, b, hi, hk, hM, hq, hlen, hv, hb1, hb0 => by
    obtain ⟨k, rfl⟩ : ∃ m, k = m + 1 := ⟨k - 1, by omega⟩
    have hfl := frame_len 1 l
    have hM2 : M < 2 ^ (i + 1) := Nat.lt_of_lt_of_le hM (Nat.pow_le_pow_right (by decide) (by omega))
    have hon : topiarylaw04_SealBursts.l0 k l (t : Int) mask q b (wrap64 ((i : Int) + 1)) = some true := by
      rw [w64 (by omega) (by omega)]
      have := bursts_loop hA l hw hl mask t ht d k (i + 1) M q b (by omega) (by omega) hM2 hq hlen hv hb1 hb0
      rw [show ((i + 1 : Nat) : Int) = (i : Int) + 1 from by omega] at this
      exact this
    rw [bursts_s, if_pos (by omega), if_pos (by rw [u64w (by omega) (by omega)]; omega)]
    split
    · rw [w64 (n := (t : Int) + (i : Int)) (by omega) (by omega), w64 (n := 8 * (q.length : Int)) (by omega) (by omega)]
      by_cases hin : (t : Int) + (i : Int) < 8 * (q.length : Int)
      · have hd : Int.tdiv ((t : Int) + (i : Int)) 8 = (((t + i) / 8 : Nat) : Int) := by rw [Int.tdiv_eq_ediv_of_nonneg (by omega)]; omega
        have hm : Int.tmod ((t : Int) + (i : Int)) 8 = (((t + i) % 8 : Nat) : Int) := by rw [Int.tmod_eq_emod_of_nonneg (by omega)]; omega
        rw [if_pos hin, hd, hm, w64 (n := (((t + i) / 8 : Nat) : Int)) (by omega) (by omega), u64w (x := (((t + i) % 8 : Nat) : Int)) (by omega) (by omega), if_pos (by omega), if_pos (by omega), if_pos (by omega)]
        rw [flip_byte (hq.rd _) (by omega), Int.toNat_natCast, w64 (n := (i : Int) + 1) (by omega) (by omega)]
        have hvs := val_set q ((t + i) / 8) ((t + i) % 8) hq (by omega) (by omega)
        have he : 8 * ((t + i) / 8) + (t + i) % 8 = t + i := by omega
        rw [he] at hvs
        have hsh : 2 ^ t * M ^^^ 2 ^ (t + i) = 2 ^ t * (M ^^^ 2 ^ i) := by
          rw [Nat.pow_add, Nat.mul_comm (2 ^ t), Nat.mul_comm (2 ^ t), Nat.mul_comm (2 ^ t), ← Nat.shiftLeft_eq, ← Nat.shiftLeft_eq, ← Nat.shiftLeft_eq, Nat.shiftLeft_xor_distrib]
        have hx : M ^^^ 2 ^ i = 2 ^ i + M := by
          have := xor_add (a := 1) (b := M) i hM
          rw [Nat.mul_one] at this
          exact this
        have hpow : 2 ^ (i + 1) = 2 ^ i + 2 ^ i := by rw [Nat.pow_succ]; omega
        have hpos : 0 < 2 ^ i := Nat.two_pow_pos i
        have hb := hq.rd (((t + i) / 8 : Nat) : Int)
        have hlt8 : (rd q (((t + i) / 8 : Nat) : Int)).toNat ^^^ 2 ^ ((t + i) % 8) < 256 := Nat.xor_lt_two_pow (n := 8) (by omega) (Nat.pow_lt_pow_right (by decide) (by omega))
        have := bursts_loop hA l hw hl mask t ht d k (i + 1) (M ^^^ 2 ^ i) (q.set ((t + i) / 8) (((rd q (((t + i) / 8 : Nat) : Int)).toNat ^^^ 2 ^ ((t + i) % 8) : Nat) : Int)) true (by omega) (by omega) (by omega)
          (fun x hx => by
            rcases List.mem_or_eq_of_mem_set hx with h | h
            · exact hq x h
            · rw [h]; omega)
          (by rw [List.length_set]; exact hlen)
          (by rw [hvs, hv, Nat.xor_assoc, hsh])
          (fun _ => by omega)
          (fun h => by cases h)
        rw [show ((i + 1 : Nat) : Int) = (i : Int) + 1 from by omega] at this
        exact this
      · rw [if_neg hin]; exact hon
    · exact hon
theorem SealBursts : topiarylaw04_SealBursts.Pure := by
  intro l at_ mask _ _ hw0 hat0 _
  have hw := wfb_of hw0
  have hat := bounds_i64 hat0
  obtain ⟨K1, h1⟩ := ev_seal 1 l
  obtain ⟨K3, h3⟩ := ev_awake
  obtain ⟨k, hk1, hk3⟩ : ∃ k, K1 ≤ k ∧ K3 + 10 * (l.length + 9) + 3 + 33 ≤ k := ⟨K1 + (K3 + 10 * (l.length + 9) + 3 + 33), by omega, by omega⟩
  refine ⟨k + 1, ?_⟩
  have e1 := h1 (k + 1) (by omega)
  dsimp only at e1
  unfold topiarylaw04_SealBursts.f
  have es : sealS 1 l = if l.length > 65536 then ([], 3) else (frame 1 l, 0) := by
    unfold sealS
    rw [if_neg (by decide)]
  rw [e1, Option.bind_some, es]
  by_cases hl : l.length > 65536
  · have e3 := h3 (k + 1) (by omega)
    dsimp only at e3
    rw [if_pos hl]
    dsimp only
    rw [if_neg (by decide), if_pos (by omega), if_pos rfl, e3]
    rfl
  · rw [if_neg hl, if_pos rfl]
    have hfl := frame_len 1 l
    have ht : topiarylaw04_SealBursts.j0 (k + 1) l at_ mask (frame 1 l) true = some true := by
      have e3 := h3 k (by omega)
      dsimp only at e3
      simp only [topiarylaw04_SealBursts.j0]
      rw [if_pos trivial, e3]
      rfl
    by_cases g : at_ < 0
    · rw [if_pos g]; exact ht
    rw [if_neg g]
    dsimp only
    rw [w64 (n := 8 * ((frame 1 l).length : Int)) (by omega) (by omega)]
    by_cases g2 : at_ ≥ 8 * ((frame 1 l).length : Int)
    · rw [decide_eq_true g2]; exact ht
    rw [decide_eq_false g2]
    simp only [topiarylaw04_SealBursts.j0]
    rw [if_neg (by decide)]
    obtain ⟨t, rfl⟩ := Int.eq_ofNat_of_zero_le (show 0 ≤ at_ by omega)
    exact bursts_loop (KA := K3) (fun k hk => h3 k hk) l hw (by omega) mask t (by omega) 32 k 0 0 (frame 1 l) false (by omega) (by omega) (by decide) (frame_wf 1 hw) rfl (by rw [Nat.mul_zero, Nat.xor_zero]) (fun h => by cases h) (fun _ => rfl)
end Go.Proofs.Ytnifikpldibbdaa.Pure
