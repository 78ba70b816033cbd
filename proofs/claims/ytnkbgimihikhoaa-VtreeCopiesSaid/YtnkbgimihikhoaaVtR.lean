/- A tree that comes in: how it reads, and what its weights bound. -/
import Derived.Test.YtnkbgimihikhoaaRdt
import Derived.Test.YtnkbgimihikhoaaVtA
namespace Go.Proofs.Ytnkbgimihikhoaa.PVt
open Go.RowKit Go.Proofs.YtnkbgimihikhoaaW.PrintWords Go.Proofs.YtnkbgimihikhoaaW.PrintLast Go.Proofs.YtnkbgimihikhoaaW.PrintMore
set_option linter.unusedVariables false
def fitA (a : S99) : Prop := a.f0.size ≤ reachBytes ∧ a.f1.size ≤ reachBytes
mutual
/-- No text, no list in a tree is longer than the reach. -/
def fitT : S27 → Prop
  | ⟨_, t, u, a, l⟩ => t.size ≤ reachBytes ∧ u.size ≤ reachBytes ∧ (a.length * 32 ≤ reachBytes ∧ ∀ p ∈ a, fitA p) ∧ (l.length * 96 ≤ reachBytes ∧ fitTs l)
def fitTs : List S27 → Prop
  | [] => True
  | x :: l => fitT x ∧ fitTs l
end
theorem fitTs_all : ∀ l : List S27, (∀ x ∈ l, fitT x) → fitTs l
  | [], _ => by simp [fitTs]
  | x :: l, h => by rw [fitTs]; exact ⟨h x (List.mem_cons_self ..), fitTs_all l (fun y hy => h y (List.mem_cons_of_mem _ hy))⟩
theorem fitTs_get : ∀ {l : List S27} {k : Nat}, fitTs l → k < l.length → fitT (l.getD k z27)
  | [], k, _, h => absurd h (Nat.not_lt_zero _)
  | x :: l, 0, h, _ => by rw [fitTs] at h; exact h.1
  | x :: l, k + 1, h, hk => by rw [fitTs] at h; exact fitTs_get (l := l) (k := k) h.2 (Nat.lt_of_succ_lt_succ hk)
theorem fitT_eq (x : S27) : fitT x ↔ (x.f1.size ≤ reachBytes ∧ x.f2.size ≤ reachBytes ∧ (x.f3.length * 32 ≤ reachBytes ∧ ∀ p ∈ x.f3, fitA p) ∧ (x.f4.length * 96 ≤ reachBytes ∧ fitTs x.f4)) := by cases x; simp [fitT]
theorem reads23 (N : Nat) : Rdt.Reads N 23 k23 (fun _ => True) :=
  Rdt.Reads.imp (Rdt.Reads.less (Rdt.iso (Rdt.struct (N := N) Try.underlying23 (by kernel_rfl) (Rdt.more (by kernel_rfl) (Rdt.int Try.underlying3) (Rdt.last (by kernel_rfl) (Rdt.int Try.underlying3)))) (fun x : S23 => (x.f0, x.f1)) (fun p => ⟨p.1, p.2⟩) (fun _ => rfl)) (Nat.le_succ N)) (fun _ _ _ h => h) (fun _ _ => trivial)
theorem reads99 (N : Nat) : Rdt.Reads N 99 k99 fitA :=
  Rdt.Reads.imp (Rdt.Reads.less (Rdt.iso (Rdt.struct (N := N) Try.underlying99 (by kernel_rfl) (Rdt.more (by kernel_rfl) (Rdt.string Try.underlying9) (Rdt.last (by kernel_rfl) (Rdt.string Try.underlying9)))) (fun x : S99 => (x.f0, x.f1)) (fun p => ⟨p.1, p.2⟩) (fun _ => rfl)) (Nat.le_succ N)) (fun _ _ _ h => h) (fun a h => h)
theorem reads24 (N : Nat) : Rdt.Reads N 24 (Kd.slice 99 k99) (fun xs => xs.length * Try.prog.bytesOf 99 ≤ reachBytes ∧ ∀ x ∈ xs, fitA x) := Rdt.Reads.less (Rdt.slice (N := N) Try.underlying24 (by kernel_rfl) (reads99 N)) (Nat.le_succ N)
theorem fold27 {w : World} {x : S27} {cs : List Value} (h : (F27 k27).K w x cs) : k27.K w x cs := by
  obtain ⟨_, _, rfl, s0, ⟨_, _, rfl, rfl, ⟨_, _, rfl, rfl, ⟨_, _, rfl, ⟨A4, c4, rfl, l4, g4⟩, ⟨A5, c5, rfl, l5, g5⟩⟩⟩⟩⟩ := h
  obtain rfl := k23_open s0
  exact k27_mk w x l4 g4 l5 g5
theorem step27 (N : Nat) (ih : Rdt.Reads N 27 k27 fitT) : Rdt.Reads (N + 2) 27 k27 fitT :=
  Rdt.Reads.imp (Rdt.iso (Rdt.struct (N := N + 1) Try.underlying27 (by kernel_rfl) (Rdt.more (by kernel_rfl) (reads23 _) (Rdt.more (by kernel_rfl) (Rdt.string Try.underlying9) (Rdt.more (by kernel_rfl) (Rdt.string Try.underlying9) (Rdt.more (by kernel_rfl) (reads24 _) (Rdt.last (by kernel_rfl) (Rdt.slice Try.underlying25 (by kernel_rfl) ih))))))) (fun x : S27 => (x.f0, x.f1, x.f2, x.f3, x.f4)) (fun p => ⟨p.1, p.2.1, p.2.2.1, p.2.2.2.1, p.2.2.2.2⟩) (fun _ => rfl)) (fun _ _ _ h => fold27 h) (fun a h => by
    obtain ⟨_, h1, h2, h3, h4, h5⟩ := h
    have e99 : Try.prog.bytesOf 99 = 32 := by kernel_rfl
    have e27 : Try.prog.bytesOf 27 = 96 := by kernel_rfl
    rw [e99] at h3
    rw [e27] at h4
    exact (fitT_eq a).2 ⟨h1, h2, h3, h4, fitTs_all _ h5⟩)
theorem reads27 : ∀ N, Rdt.Reads N 27 k27 fitT
  | 0 => fun enc w spare held fuel cs x h0 hx => by
    obtain ⟨_, n, hn, _⟩ := DataW.trod_struct Try.underlying27 hx
    omega
  | 1 => Rdt.Reads.less (step27 0 (reads27 0)) (by omega)
  | N + 2 => step27 N (reads27 N)
end Go.Proofs.Ytnkbgimihikhoaa.PVt
