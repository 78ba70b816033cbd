/- Bytes of which one is turned: the program says what the document says, and leaves what it was given. -/
import Derived.Test.YtnifikpldibbdaaPSealx12
import Derived.Test.YtnifikpldibbdaaSLaw
import Derived.Laws.BitsLemmas
namespace Go.Proofs.Ytnifikpldibbdaa.Pure
open Go.RowKit Go.Proofs.Ytnifikpldibbdaa.PSeal Go.Proofs.YtnifikpldibbdaaW.PrintWords Go.Proofs.YtnifikpldibbdaaW.PrintLast
theorem and255 (n : Int) (_ : -9223372036854775808 ≤ n) (_ : n ≤ 9223372036854775807) : Go.bits .and .i64 n 255 = n % 256 := by
  have h255 : (BitVec.ofInt 64 255).toNat = 2 ^ 8 - 1 := by decide
  have key : (BitVec.ofInt 64 n &&& BitVec.ofInt 64 255).toNat = (n % ((2 ^ 64 : Nat) : Int)).toNat % 2 ^ 8 := by
    rw [BitVec.toNat_and, BitVec.toNat_ofInt, h255, Nat.and_two_pow_sub_one_eq_mod]
  show IntKind.i64.wrap ((BitVec.ofInt 64 n &&& BitVec.ofInt 64 255).toNat : Nat) = n % 256
  rw [key, IntKind.wrap_i64]
  omega
theorem low_eq (m : Int) : Int.tmod (wrap64 (Int.tmod m 256 + 256)) 256 = m % 256 := by
  have h1 : -256 < Int.tmod m 256 ∧ Int.tmod m 256 < 256 := ⟨Int.lt_tmod_of_pos m (by decide), Int.tmod_lt_of_pos m (by decide)⟩
  rw [w64 (by omega) (by omega), Int.tmod_eq_emod_of_nonneg (by omega)]
  have h2 : Int.tmod m 256 % 256 = m % 256 := by
    have := Int.tmod_add_mul_tdiv m 256
    omega
  omega
theorem SealSpoils : topiarylaw04_SealSpoils.Pure := by
  intro l at_ m _ hl hw0 _ hm0
  have hm := bounds_i64 hm0
  obtain ⟨K3, h3⟩ := ev_awake
  have hsp : ∀ k, seal_Spoil.f (k + 1) l at_ m = topiaryref04_Spoil.f (k + 1) l at_ m := by
    intro k
    have hj : ∀ b, seal_Spoil.j0 (k + 1) l at_ m b = topiaryref04_Spoil.j0 (k + 1) l at_ m b := by
      intro b
      simp only [seal_Spoil.j0, topiaryref04_Spoil.j0]
      rw [and255 m hm.1 hm.2, low_eq]
    unfold seal_Spoil.f topiaryref04_Spoil.f
    rw [hj, hj]
  have hsome : ∃ r, seal_Spoil.f (K3 + 1) l at_ m = some r := by
    have ht : ∀ k, seal_Spoil.j0 (k + 1) l at_ m true = some (([] : List Int), 1) := fun k => by simp only [seal_Spoil.j0]; rw [if_pos trivial]
    unfold seal_Spoil.f
    by_cases h1 : at_ < 0
    · exact ⟨_, by rw [if_pos h1]; exact ht K3⟩
    rw [if_neg h1]
    by_cases h2 : at_ ≥ (l.length : Int)
    · exact ⟨_, by rw [decide_eq_true h2]; exact ht K3⟩
    rw [decide_eq_false h2]
    simp only [seal_Spoil.j0]
    rw [if_neg (by simp)]
    split
    · exact ⟨_, rfl⟩
    · rw [Option.bind_some, if_pos (by simp; omega), Option.bind_some, if_pos (by omega), if_pos (by simp; omega)]
      exact ⟨_, rfl⟩
  obtain ⟨r, hr⟩ := hsome
  refine ⟨K3 + 1, ?_⟩
  have e3 := h3 (K3 + 1) (by omega)
  dsimp only at e3
  unfold topiarylaw04_SealSpoils.f
  rw [Option.bind_some, if_pos (by simp; omega), Option.bind_some, List.nil_append, ← hsp K3, hr, Option.bind_some, Option.bind_some, if_pos rfl, if_pos rfl, if_pos rfl, e3]
  rfl
end Go.Proofs.Ytnifikpldibbdaa.Pure
