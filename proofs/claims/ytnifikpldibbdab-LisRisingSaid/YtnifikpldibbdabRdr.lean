/- What a row's arguments read as: from the row's own reader to the words of the contracts, with a bound by bulk. -/
import Derived.Test.YtnifikpldibbdabRows
import Derived.Test.YtnifikpldibbdabWWords
import Derived.ChangeArms
import Derived.Below
import Derived.DataElems
namespace Go.Proofs.Ytnifikpldibbdab.Rdr
open Go.RowKit Go.Proofs.YtnifikpldibbdabW.PrintWords
theorem one_le {H : Type} (d : DataW H) : 1 ≤ Rows.uptoBulk d := by
  cases d with
  | lit l => cases l <;> simp [Rows.uptoBulk]
  | _ => simp [Rows.uptoBulk]
theorem sum_le {H : Type} {α : Type} (sz : α → Nat) : ∀ (l : List (DataW H)) (xs : List α), xs.length = l.length → (∀ (i : Nat) a d, xs[i]? = some a → l[i]? = some d → sz a ≤ Rows.uptoBulk d) → (xs.map sz).sum ≤ Rows.uptoBulkAll l
  | [], [], _, _ => by simp [Rows.uptoBulkAll]
  | [], x :: xs, h, _ => by simp at h
  | d :: l, [], h, _ => by simp at h
  | d :: l, x :: xs, h, g => by
    have h1 := g 0 x d rfl rfl
    have h2 := sum_le sz l xs (by simpa using h) (fun i a e h1 h2 => g (i + 1) a e (by simpa using h1) (by simpa using h2))
    simp only [List.map_cons, List.sum_cons, Rows.uptoBulkAll]
    omega
/-- Cells of type t that can be read as data are a value of kind d, of size at most the data's bulk, and right. -/
def Reads {α : Type} (t : TypeId) (d : Kd α) (sz : α → Nat) (ok : α → Prop) : Prop :=
  ∀ {H : Type} (enc : TypeId × Value → H) (w : World) (spare : Nat → Bool) (held : Bool) (fuel : Nat) (cs : List Value) (x : DataW H × List MemPlace),
    DataW.trod enc Try.prog w 0 spare held fuel t cs = some x → ∃ a : α, d.K w a cs ∧ sz a ≤ Rows.uptoBulk x.1 ∧ ok a
theorem int {t : TypeId} {k : IntKind} (ht : Try.prog.underlying t = some (.int k)) : Reads t (Kd.int k) (fun _ => 1) (fun n => (Lit.int k n).wf = true) := by
  intro H enc w spare held fuel cs x h
  obtain ⟨n, rfl, rfl, hw⟩ := DataW.trod_int ht h
  exact ⟨n, rfl, one_le _, hw⟩
theorem bool {t : TypeId} (ht : Try.prog.underlying t = some .bool) : Reads t Kd.bool (fun _ => 1) (fun _ => True) := by
  intro H enc w spare held fuel cs x h
  obtain ⟨n, rfl, rfl⟩ := DataW.trod_bool ht h
  exact ⟨n, rfl, one_le _, trivial⟩
theorem string {t : TypeId} (ht : Try.prog.underlying t = some .string) : Reads t Kd.string (fun s => s.size + 1) (fun s => s.size ≤ maxLen) := by
  intro H enc w spare held fuel cs x h
  obtain ⟨s, rfl, rfl, hw⟩ := DataW.trod_string ht h
  refine ⟨s, rfl, ?_, hw⟩
  simp only [Rows.uptoBulk]
  have : s.data.toList.length = s.size := by rw [Array.length_toList]; rfl
  omega
theorem cells_get {w : World} {a : Addr} : ∀ {n : Nat} {cs : List Value}, w.cells? 0 a n = some cs → cs.length = n ∧ ∀ i u, cs[i]? = some u → w.cell? (a.add i) = some u := by
  intro n cs h
  obtain ⟨_, h1, h2⟩ := World.cells?_some h
  refine ⟨h1, fun i u hu => ?_⟩
  have hi := (List.getElem?_eq_some_iff.1 hu).1
  rw [h2 i (by omega)]
  exact hu
theorem slice {α : Type} {t e : TypeId} {d : Kd α} {sz : α → Nat} {ok : α → Prop} (ht : Try.prog.underlying t = some (.slice e)) (hc : Try.prog.cellsOf e = d.sz) (R : Reads e d sz ok) :
    Reads t (Kd.slice e d) (fun xs => (xs.map sz).sum + 1) (fun xs => ∀ x ∈ xs, ok x) := by
  intro H enc w spare held fuel cs x h
  rcases DataW.trod_slice ht h with ⟨rfl, rfl⟩ | ⟨a, len, cap, elems, rest, n, rfl, rfl, rfl, _, hlc, hm, hel, hg, _, _⟩
  · exact ⟨[], ⟨none, 0, rfl, Nat.le_refl _, rfl, by simp, fun h => by simp at h⟩, by simp [Rows.uptoBulk], fun x hx => by cases hx⟩
  · have step : ∀ i, i < len → ∃ (v : α) (c : List Value) (y : DataW H × List MemPlace), elems[i]? = some y ∧ c.length = d.sz ∧ d.K w v c ∧ (∀ j u, c[j]? = some u → w.cell? (a.add (i * d.sz + j)) = some u) ∧ sz v ≤ Rows.uptoBulk y.1 ∧ ok v := by
      intro i hi
      have h1 := hg i hi
      obtain ⟨y, hy⟩ : ∃ y, elems[i]? = some y := ⟨_, List.getElem?_eq_getElem (by omega)⟩
      rw [hy] at h1
      obtain ⟨c, hc1, hc2⟩ := Option.bind_eq_some_iff.1 h1
      obtain ⟨v, hv1, hv2, hv3⟩ := R enc w spare held n c y hc2
      obtain ⟨g1, g2⟩ := cells_get hc1
      rw [hc] at g1 g2
      exact ⟨v, c, y, hy, g1, hv1, fun j u hu => by
        have := g2 j u hu
        rwa [Go.Addr.add_add] at this, hv2, hv3⟩
    have build : ∀ m, m ≤ len → ∃ xs : List α, xs.length = m ∧ (∀ (i : Nat) v, xs[i]? = some v → ∃ (c : List Value) (y : DataW H × List MemPlace), elems[i]? = some y ∧ c.length = d.sz ∧ d.K w v c ∧ (∀ j u, c[j]? = some u → w.cell? (a.add (i * d.sz + j)) = some u) ∧ sz v ≤ Rows.uptoBulk y.1 ∧ ok v) := by
      intro m
      induction m with
      | zero => intro _; exact ⟨[], rfl, fun i v hv => by simp at hv⟩
      | succ m ih =>
        intro hm
        obtain ⟨xs, hx1, hx2⟩ := ih (by omega)
        obtain ⟨v, c, y, hv⟩ := step m (by omega)
        refine ⟨xs ++ [v], by simp [hx1], fun i u hu => ?_⟩
        rcases Nat.lt_or_ge i xs.length with hi | hi
        · rw [List.getElem?_append_left hi] at hu
          exact hx2 i u hu
        · have : i = m := by
            have := (List.getElem?_eq_some_iff.1 hu).1
            rw [List.length_append, List.length_singleton] at this
            omega
          subst this
          have : v = u := by rw [← hx1] at hu; simpa using hu
          subst this
          exact ⟨c, y, hv⟩
    obtain ⟨xs, hx1, hx2⟩ := build len (Nat.le_refl _)
    refine ⟨xs, ⟨some a, cap, by rw [hx1], by omega, ⟨rfl, by unfold maxLen at hm; omega, fun _ => ⟨a, rfl, fun i v hv => ?_⟩⟩⟩, ?_, ?_⟩
    · obtain ⟨c, y, _, h2, h3, h4, _⟩ := hx2 i v hv
      exact ⟨c, h2, h3, h4⟩
    · have := sum_le sz (elems.map (·.1)) xs (by rw [List.length_map]; omega) (fun i v y hv hy => by
        obtain ⟨c, z, h1, _, _, _, h5, _⟩ := hx2 i v hv
        rw [List.getElem?_map, h1] at hy
        have : z.1 = y := by simpa using hy
        rw [← this]; exact h5)
      simp only [Rows.uptoBulk]
      omega
    · intro v hv
      obtain ⟨i, hi⟩ := List.mem_iff_getElem?.1 hv
      obtain ⟨_, _, _, _, _, _, _, h6⟩ := hx2 i v hi
      exact h6
/-- A parameter. -/
theorem Reads.param {α : Type} {t : TypeId} {d : Kd α} {sz : α → Nat} {ok : α → Prop} (R : Reads t d sz ok) {H : Type} {enc : TypeId × Value → H} {w : World} {spare : Nat → Bool} {held : Bool} {v : Value} {x : DataW H} {ps : List MemPlace}
    (h : DataW.Trod enc Try.prog w 0 spare held t v x ps) : ∃ a : α, d.K w a v.cells.toList ∧ sz a ≤ Rows.uptoBulk x ∧ ok a := by
  obtain ⟨fuel, hf⟩ := h
  exact R enc w spare held fuel _ _ hf
end Go.Proofs.Ytnifikpldibbdab.Rdr
