/- The sum of any lists of bytes is the document's (where what comes in is of no more than 1,048,576 values). -/
import Derived.Test.YtnifikpldibbdaaHSeal3
import Derived.Test.YtnifikpldibbdaaSLaw
namespace Go.Proofs.Ytnifikpldibbdaa.PSeal
open Go.RowKit Go.Proofs.YtnifikpldibbdaaW.PrintWords Go.Proofs.YtnifikpldibbdaaW.PrintLast
theorem sums_s (k : Nat) (x0 : List (List Int)) (x3 : List Int) (x4 : Int) : topiarylaw04_SealSums.l0 (k + 1) x0 x3 x4 = if x4 < (x0.length : Int) then (if 0 ≤ x4 then (if x3.length + (rd_L1 x0 x4).length < 140737488355328 then (topiarylaw04_SealSums.l0 k x0 (x3 ++ (rd_L1 x0 x4)) (wrap64 (x4 + 1))) else (none)) else (none)) else ((seal_Sum.f k x0).bind fun t171 => ((topiaryref04_Sum.f k x3).bind fun t172 => (if t171 = t172 then ((seal_Sum.f k (([x3] : List (List Int)))).bind fun t176 => ((topiaryref04_Sum.f k x3).bind fun t177 => (if t176 = t177 then ((topiarylaw04_awake.f k).bind fun t178 => (some t178)) else (some false)))) else (some false)))) := by
  simp only [topiarylaw04_SealSums.l0]
theorem sums_loop {KA : Nat} (hA : ∀ k, KA ≤ k → topiarylaw04_awake.f k = some true) (ls : List (List Int)) (hs : ls.flatten.length ≤ 1048576) (hn : ls.length ≤ 1048576) : ∀ (r : List (List Int)) (i k : Nat) (x : List Int),
    ls.drop i = r → i ≤ ls.length → x ++ r.flatten = ls.flatten → KA + rounds ls + 10 * ls.flatten.length + 10 + r.length ≤ k → topiarylaw04_SealSums.l0 k ls x (i : Int) = some true
  | [], i, k, x, h, hi, hx, hk => by
    obtain ⟨k, rfl⟩ : ∃ m, k = m + 1 := ⟨k - 1, by omega⟩
    have : ls.length ≤ i := List.drop_eq_nil_iff.1 h
    rw [List.flatten_nil, List.append_nil] at hx
    subst hx
    rw [List.length_nil] at hk
    have hm : ∀ l ∈ ls, l.length ≤ 9223372036854775806 := by
      intro l hl
      have : l.length ≤ ls.flatten.length := (List.sublist_flatten_of_mem hl).length_le
      omega
    have h2 := own_sum [ls.flatten] (by simp) (fun l h => by rw [List.mem_singleton.1 h]; omega) k (by simp only [rounds]; omega)
    rw [List.flatten_cons, List.flatten_nil, List.append_nil] at h2
    rw [sums_s, if_neg (by omega), own_sum ls (by omega) hm k (by omega), Option.bind_some, ref_sum _ (by omega) k (by omega), Option.bind_some, if_pos rfl, h2, Option.bind_some, Option.bind_some, if_pos rfl, hA k (by omega)]
    rfl
  | b :: r, i, k, x, h, hi, hx, hk => by
    obtain ⟨h1, h2, h3⟩ := drop_cons h
    rw [List.length_cons] at hk
    obtain ⟨k, rfl⟩ : ∃ m, k = m + 1 := ⟨k - 1, by omega⟩
    have hr : rd_L1 ls (i : Int) = b := by unfold rd_L1; rw [Int.toNat_natCast, List.getD_eq_getElem?_getD, h3]; rfl
    have hl : x.length + b.length ≤ 1048576 := by
      have := congrArg List.length hx
      rw [List.flatten_cons, List.length_append, List.length_append] at this
      omega
    rw [sums_s, if_pos (by omega), if_pos (by omega), hr, if_pos (by omega), w64 (by omega) (by omega)]
    have := sums_loop hA ls hs hn r (i + 1) k (x ++ b) h2 (by omega) (by rw [List.append_assoc]; exact hx) (by omega)
    rw [show ((i + 1 : Nat) : Int) = (i : Int) + 1 from by omega] at this
    exact this
theorem sums_pure (ls : List (List Int)) (hs : ls.flatten.length ≤ 1048576) (hn : ls.length ≤ 1048576) : ∃ k, topiarylaw04_SealSums.f k ls = some true := by
  obtain ⟨K, hK⟩ := ev_awake
  exact ⟨_, sums_loop (KA := K) (fun k hk => hK k hk) ls hs hn ls 0 _ [] rfl (Nat.zero_le _) rfl (Nat.le_refl _)⟩
theorem sums_bound (ls : List (List Int)) (h : (ls.map fun xs => (xs.map fun _ => 1).sum + 1).sum ≤ 1048576) : ls.flatten.length ≤ 1048576 ∧ ls.length ≤ 1048576 := by
  have : ∀ ls : List (List Int), ls.flatten.length + ls.length = (ls.map fun xs => (xs.map fun _ => 1).sum + 1).sum := by
    intro ls
    induction ls with
    | nil => rfl
    | cons l ls ih =>
      rw [List.flatten_cons, List.length_append, List.length_cons, List.map_cons, List.sum_cons, ← ih]
      have : (l.map fun _ => 1).sum = l.length := by
        induction l with
        | nil => rfl
        | cons a l ih => rw [List.map_cons, List.sum_cons, ih, List.length_cons]; omega
      omega
  have := this ls
  omega
theorem sums_walk (A : Option Addr) (c : Nat) (ls : List (List Int)) (w : World) (hr : Kd.C (Kd.slice 5 (Kd.int .u8)) w A ls.length ls) (hc : ls.length ≤ c) (h : (ls.map fun xs => (xs.map fun _ => 1).sum + 1).sum ≤ 1048576) :
    Calls Try.prog 3 #[.slice A ls.length c] w fun e w' => e = .returned (.bool true) ∧ Below w.heap.size w w' := by
  obtain ⟨h1, h2⟩ := sums_bound ls h
  obtain ⟨k, hk⟩ := sums_pure ls h1 h2
  refine (topiarylaw04_SealSums.calls k A c ls true w hr hc hk).mono ?_
  rintro e w' ⟨rfl, hd⟩
  exact ⟨rfl, hd⟩
end Go.Proofs.Ytnifikpldibbdaa.PSeal
