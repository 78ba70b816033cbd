/- Readers of trees so deep at most; the document's Same and Copy, plain. -/
import Derived.Test.YtnkbgimihikhoaaRows
import Derived.Test.YtnkbgimihikhoaaWWords
import Derived.ChangeArms
import Derived.Below
import Derived.DataElems
import Derived.SizedLaws
import Derived.Test.YtnkbgimihikhoaaMVtA
import Derived.Test.YtnkbgimihikhoaaMVtC
import Derived.Test.YtnkbgimihikhoaaMVtPb
namespace Go.Proofs.Ytnkbgimihikhoaa.Rdt
open Go.RowKit Go.Proofs.YtnkbgimihikhoaaW.PrintWords
theorem cells_get {w : World} {a : Addr} : ∀ {n : Nat} {cs : List Value}, w.cells? 0 a n = some cs → cs.length = n ∧ ∀ i u, cs[i]? = some u → w.cell? (a.add i) = some u := by
  intro n cs h
  obtain ⟨_, h1, h2⟩ := World.cells?_some h
  refine ⟨h1, fun i u hu => ?_⟩
  have hi := (List.getElem?_eq_some_iff.1 hu).1
  rw [h2 i (by omega)]
  exact hu
theorem all_get {H : Type} {e : TypeId} : ∀ {l : List (DataW H)} {i : Nat} {d : DataW H}, l[i]? = some d → ∀ n ∈ d.weights Try.prog e, n ∈ DataW.weightsAll Try.prog e l
  | [], _, _, h, _, _ => by cases h
  | d :: l, 0, _, h, n, hn => by
    obtain rfl := Option.some.inj h
    rw [DataW.weightsAll]
    exact List.mem_append_left _ hn
  | d :: l, i + 1, _, h, n, hn => by
    rw [DataW.weightsAll]
    exact List.mem_append_right _ (all_get (l := l) (i := i) h n hn)
/-- Cells of type t that can be read as data are a value of kind d; where its rows are no longer than the reach, it is as ok says. -/
def Reads (N : Nat) {α : Type} (t : TypeId) (d : Kd α) (ok : α → Prop) : Prop :=
  ∀ {H : Type} (enc : TypeId × Value → H) (w : World) (spare : Nat → Bool) (held : Bool) (fuel : Nat) (cs : List Value) (x : DataW H × List MemPlace), fuel ≤ N →
    DataW.trod enc Try.prog w 0 spare held fuel t cs = some x → ∃ a : α, d.K w a cs ∧ ((∀ n ∈ x.1.weights Try.prog t, n ≤ reachBytes) → ok a)
theorem int {N : Nat} {t : TypeId} {k : IntKind} (ht : Try.prog.underlying t = some (.int k)) : Reads N t (Kd.int k) (fun n => (Lit.int k n).wf = true) := by
  intro H enc w spare held fuel cs x hN h
  obtain ⟨n, rfl, rfl, hw⟩ := DataW.trod_int ht h
  exact ⟨n, rfl, fun _ => hw⟩
theorem bool {N : Nat} {t : TypeId} (ht : Try.prog.underlying t = some .bool) : Reads N t Kd.bool (fun _ => True) := by
  intro H enc w spare held fuel cs x hN h
  obtain ⟨n, rfl, rfl⟩ := DataW.trod_bool ht h
  exact ⟨n, rfl, fun _ => trivial⟩
theorem string {N : Nat} {t : TypeId} (ht : Try.prog.underlying t = some .string) : Reads N t Kd.string (fun s => s.size ≤ reachBytes) := by
  intro H enc w spare held fuel cs x hN h
  obtain ⟨s, rfl, rfl, hw⟩ := DataW.trod_string ht h
  refine ⟨s, rfl, fun hx => ?_⟩
  have := hx s.data.toList.length (by simp [DataW.weights])
  rw [Array.length_toList] at this
  exact this
theorem slice {N : Nat} {α : Type} {t e : TypeId} {d : Kd α} {ok : α → Prop} (ht : Try.prog.underlying t = some (.slice e)) (hc : Try.prog.cellsOf e = d.sz) (R : Reads N e d ok) :
    Reads (N + 1) t (Kd.slice e d) (fun xs => xs.length * Try.prog.bytesOf e ≤ reachBytes ∧ ∀ x ∈ xs, ok x) := by
  intro H enc w spare held fuel cs x hN h
  rcases DataW.trod_slice ht h with ⟨rfl, rfl⟩ | ⟨a, len, cap, elems, rest, n, hfn, rfl, rfl, _, hlc, hm, hel, hg, _, _⟩
  · exact ⟨[], ⟨none, 0, rfl, Nat.le_refl _, rfl, by simp, fun h => by simp at h⟩, fun _ => ⟨by simp, fun x hx => by cases hx⟩⟩
  · have step : ∀ i, i < len → ∃ (v : α) (c : List Value) (y : DataW H × List MemPlace), elems[i]? = some y ∧ c.length = d.sz ∧ d.K w v c ∧ (∀ j u, c[j]? = some u → w.cell? (a.add (i * d.sz + j)) = some u) ∧ ((∀ n ∈ y.1.weights Try.prog e, n ≤ reachBytes) → ok v) := by
      intro i hi
      have h1 := hg i hi
      obtain ⟨y, hy⟩ : ∃ y, elems[i]? = some y := ⟨_, List.getElem?_eq_getElem (by omega)⟩
      rw [hy] at h1
      obtain ⟨c, hc1, hc2⟩ := Option.bind_eq_some_iff.1 h1
      obtain ⟨v, hv1, hv2⟩ := R enc w spare held n c y (by omega) hc2
      obtain ⟨g1, g2⟩ := cells_get hc1
      rw [hc] at g1 g2
      exact ⟨v, c, y, hy, g1, hv1, fun j u hu => by
        have := g2 j u hu
        rwa [Go.Addr.add_add] at this, hv2⟩
    have build : ∀ m, m ≤ len → ∃ xs : List α, xs.length = m ∧ (∀ (i : Nat) v, xs[i]? = some v → ∃ (c : List Value) (y : DataW H × List MemPlace), elems[i]? = some y ∧ c.length = d.sz ∧ d.K w v c ∧ (∀ j u, c[j]? = some u → w.cell? (a.add (i * d.sz + j)) = some u) ∧ ((∀ n ∈ y.1.weights Try.prog e, n ≤ reachBytes) → ok v)) := by
      intro m
      induction m with
      | zero => intro _; exact ⟨[], rfl, fun i v hv => by simp at hv⟩
      | succ m ih =>
        intro hm
        obtain ⟨xs, hx1, hx2⟩ := ih (by omega)
        obtain ⟨v, c, y, hv⟩ := step m (by omega)
        refine ⟨xs ++ [v], by simp [hx1], fun i u hu => ?_⟩
        rcases Nat.lt_or_ge i xs.length with hi | hi
        · rw [List.getElem?_append_left hi] at hu
          exact hx2 i u hu
        · have : i = m := by
            have := (List.getElem?_eq_some_iff.1 hu).1
            rw [List.length_append, List.length_singleton] at this
            omega
          subst this
          have : v = u := by rw [← hx1] at hu; simpa using hu
          subst this
          exact ⟨c, y, hv⟩
    obtain ⟨xs, hx1, hx2⟩ := build len (Nat.le_refl _)
    refine ⟨xs, ⟨some a, cap, by rw [hx1], by omega, ⟨rfl, by unfold maxLen at hm; omega, fun _ => ⟨a, rfl, fun i v hv => ?_⟩⟩⟩, fun hx => ⟨?_, ?_⟩⟩
    · obtain ⟨c, y, _, h2, h3, h4, _⟩ := hx2 i v hv
      exact ⟨c, h2, h3, h4⟩
    · rw [DataW.weights, ht] at hx
      have := hx _ (List.mem_cons_self ..)
      refine Nat.le_trans (Nat.mul_le_mul_right _ ?_) this
      rw [List.length_map, hx1]
      omega
    · intro v hv
      obtain ⟨i, hi⟩ := List.mem_iff_getElem?.1 hv
      obtain ⟨_, y, h1, _, _, _, h6⟩ := hx2 i v hi
      refine h6 (fun n hn => hx n ?_)
      rw [DataW.weights, ht]
      exact List.mem_cons_of_mem _ (List.mem_append_left _ (all_get (i := i) (by rw [List.getElem?_map, h1]; rfl) n hn))
/-- Fields one behind the other, from cell o on. -/
def ReadsAt (N : Nat) {α : Type} (o : Nat) (fs : List Field) (d : Kd α) (ok : α → Prop) : Prop :=
  ∀ {H : Type} (enc : TypeId × Value → H) (w : World) (spare : Nat → Bool) (held : Bool) (n : Nat) (cs : List Value) (xs : List (DataW H × List MemPlace)), n ≤ N → xs.length = fs.length →
    (∀ (i : Nat) (f : Field), fs[i]? = some f → DataW.trod enc Try.prog w 0 spare held n f.type ((cs.drop f.offset).take (Try.prog.cellsOf f.type)) = xs[i]?) →
    ∃ a : α, d.K w a ((cs.drop o).take d.sz) ∧ ((∀ n ∈ DataW.weightsEach Try.prog (fs.map (·.type)) (xs.map (·.1)), n ≤ reachBytes) → ok a)
theorem last {N : Nat} {α : Type} {f : Field} {d : Kd α} {ok : α → Prop} (hc : Try.prog.cellsOf f.type = d.sz) (R : Reads N f.type d ok) : ReadsAt N f.offset [f] d ok := by
  intro H enc w spare held n cs xs hN hl hx
  match xs, hl with
  | [y], _ =>
    have h := hx 0 f rfl
    rw [hc] at h
    obtain ⟨a, h1, h2⟩ := R enc w spare held n _ y hN h
    refine ⟨a, h1, fun hw => h2 (fun m hm => hw m ?_)⟩
    simp only [List.map_cons, List.map_nil, DataW.weightsEach]
    exact List.mem_append_left _ hm
theorem more {N : Nat} {α β : Type} {f : Field} {fs : List Field} {d : Kd α} {e : Kd β} {ok : α → Prop} {ok2 : β → Prop} (hc : Try.prog.cellsOf f.type = d.sz) (R : Reads N f.type d ok) (R2 : ReadsAt N (f.offset + d.sz) fs e ok2) :
    ReadsAt N f.offset (f :: fs) (Kd.pair d e) (fun x => ok x.1 ∧ ok2 x.2) := by
  intro H enc w spare held n cs xs hN hl hx
  match xs, hl with
  | y :: ys, hl =>
    have h := hx 0 f rfl
    rw [hc] at h
    obtain ⟨a, h1, h2⟩ := R enc w spare held n _ y hN h
    obtain ⟨b, g1, g2⟩ := R2 enc w spare held n cs ys hN (by simpa using hl) (fun i f' hf => hx (i + 1) f' hf)
    refine ⟨(a, b), ⟨_, _, ?_, h1, g1⟩, fun hw => ⟨h2 (fun m hm => hw m ?_), g2 (fun m hm => hw m ?_)⟩⟩
    · show (cs.drop f.offset).take (d.sz + e.sz) = _
      rw [List.take_add, List.drop_drop]
    · simp only [List.map_cons, DataW.weightsEach]
      exact List.mem_append_left _ hm
    · simp only [List.map_cons, DataW.weightsEach]
      exact List.mem_append_right _ hm
theorem struct {N : Nat} {α : Type} {t : TypeId} {fs : Array Field} {d : Kd α} {ok : α → Prop} (ht : Try.prog.underlying t = some (.struct fs)) (hc : Try.prog.cellsOf t = d.sz) (R : ReadsAt N 0 fs.toList d ok) : Reads (N + 1) t d ok := by
  intro H enc w spare held fuel cs x hN h
  obtain ⟨xs, n, hfn, rfl, hl, hlen, hx⟩ := DataW.trod_struct ht h
  obtain ⟨a, h1, h2⟩ := R enc w spare held n cs xs (by omega) (by rw [hlen, Array.length_toList]) (fun i f hf => hx i f (by rwa [Array.getElem?_toList] at hf))
  rw [List.drop_zero, List.take_of_length_le (by rw [hl, hc]; exact Nat.le_refl _)] at h1
  refine ⟨a, h1, fun hw => h2 (fun m hm => hw m ?_)⟩
  rw [DataW.weights, ht]
  exact hm
theorem iso {N : Nat} {α β : Type} {t : TypeId} {d : Kd α} {ok : α → Prop} (R : Reads N t d ok) (f : β → α) (g : α → β) (hfg : ∀ a, f (g a) = a) : Reads N t (Kd.iso d f) (fun b => ok (f b)) := by
  intro H enc w spare held fuel cs x hN h
  obtain ⟨a, h1, h2⟩ := R enc w spare held fuel cs x hN h
  refine ⟨g a, ?_, fun hw => ?_⟩
  · show d.K w (f (g a)) cs
    rw [hfg]; exact h1
  · show ok (f (g a))
    rw [hfg]; exact h2 hw
theorem Reads.less {N M : Nat} {α : Type} {t : TypeId} {d : Kd α} {ok : α → Prop} (R : Reads N t d ok) (h : M ≤ N) : Reads M t d ok := fun enc w spare held fuel cs x hM hx => R enc w spare held fuel cs x (Nat.le_trans hM h) hx
theorem Reads.imp {N : Nat} {α : Type} {t : TypeId} {d d' : Kd α} {ok ok' : α → Prop} (R : Reads N t d ok) (hk : ∀ w a cs, d.K w a cs → d'.K w a cs) (h : ∀ a, ok a → ok' a) : Reads N t d' ok' := fun enc w spare held fuel cs x hN hx => by
  obtain ⟨a, h1, h2⟩ := R enc w spare held fuel cs x hN hx
  exact ⟨a, hk _ _ _ h1, fun hw => h a (h2 hw)⟩
/-- A parameter. -/
theorem Reads.param {α : Type} {t : TypeId} {d : Kd α} {ok : α → Prop} (R : ∀ N, Reads N t d ok) {H : Type} {enc : TypeId × Value → H} {w : World} {spare : Nat → Bool} {held : Bool} {v : Value} {x : DataW H} {ps : List MemPlace}
    (h : DataW.Trod enc Try.prog w 0 spare held t v x ps) : ∃ a : α, d.K w a v.cells.toList ∧ ((∀ n ∈ x.weights Try.prog t, n ≤ reachBytes) → ok a) := by
  obtain ⟨fuel, hf⟩ := h
  exact R fuel enc w spare held fuel _ _ (Nat.le_refl _) hf
end Go.Proofs.Ytnkbgimihikhoaa.Rdt
namespace Go.Proofs.Ytnkbgimihikhoaa.PVt
open Go.RowKit Go.Proofs.YtnkbgimihikhoaaW.PrintWords Go.Proofs.YtnkbgimihikhoaaW.PrintLast Go.Proofs.YtnkbgimihikhoaaW.PrintMore
set_option linter.unusedVariables false
def fitA (a : S99) : Prop := a.f0.size ≤ reachBytes ∧ a.f1.size ≤ reachBytes
mutual
/-- No text, no list in a tree is longer than the reach. -/
def fitT : S27 → Prop
  | ⟨_, t, u, a, l⟩ => t.size ≤ reachBytes ∧ u.size ≤ reachBytes ∧ (a.length * 32 ≤ reachBytes ∧ ∀ p ∈ a, fitA p) ∧ (l.length * 96 ≤ reachBytes ∧ fitTs l)
def fitTs : List S27 → Prop
  | [] => True
  | x :: l => fitT x ∧ fitTs l
end
theorem fitTs_all : ∀ l : List S27, (∀ x ∈ l, fitT x) → fitTs l
  | [], _ => by simp [fitTs]
  | x :: l, h => by rw [fitTs]; exact ⟨h x (List.mem_cons_self ..), fitTs_all l (fun y hy => h y (List.mem_cons_of_mem _ hy))⟩
theorem fitTs_get : ∀ {l : List S27} {k : Nat}, fitTs l → k < l.length → fitT (l.getD k z27)
  | [], k, _, h => absurd h (Nat.not_lt_zero _)
  | x :: l, 0, h, _ => by rw [fitTs] at h; exact h.1
  | x :: l, k + 1, h, hk => by rw [fitTs] at h; exact fitTs_get (l := l) (k := k) h.2 (Nat.lt_of_succ_lt_succ hk)
theorem fitT_eq (x : S27) : fitT x ↔ (x.f1.size ≤ reachBytes ∧ x.f2.size ≤ reachBytes ∧ (x.f3.length * 32 ≤ reachBytes ∧ ∀ p ∈ x.f3, fitA p) ∧ (x.f4.length * 96 ≤ reachBytes ∧ fitTs x.f4)) := by cases x; simp [fitT]
theorem reads23 (N : Nat) : Rdt.Reads N 23 k23 (fun _ => True) :=
  Rdt.Reads.imp (Rdt.Reads.less (Rdt.iso (Rdt.struct (N := N) Try.underlying23 (by kernel_rfl) (Rdt.more (by kernel_rfl) (Rdt.int Try.underlying3) (Rdt.last (by kernel_rfl) (Rdt.int Try.underlying3)))) (fun x : S23 => (x.f0, x.f1)) (fun p => ⟨p.1, p.2⟩) (fun _ => rfl)) (Nat.le_succ N)) (fun _ _ _ h => h) (fun _ _ => trivial)
theorem reads99 (N : Nat) : Rdt.Reads N 99 k99 fitA :=
  Rdt.Reads.imp (Rdt.Reads.less (Rdt.iso (Rdt.struct (N := N) Try.underlying99 (by kernel_rfl) (Rdt.more (by kernel_rfl) (Rdt.string Try.underlying9) (Rdt.last (by kernel_rfl) (Rdt.string Try.underlying9)))) (fun x : S99 => (x.f0, x.f1)) (fun p => ⟨p.1, p.2⟩) (fun _ => rfl)) (Nat.le_succ N)) (fun _ _ _ h => h) (fun a h => h)
theorem reads24 (N : Nat) : Rdt.Reads N 24 (Kd.slice 99 k99) (fun xs => xs.length * Try.prog.bytesOf 99 ≤ reachBytes ∧ ∀ x ∈ xs, fitA x) := Rdt.Reads.less (Rdt.slice (N := N) Try.underlying24 (by kernel_rfl) (reads99 N)) (Nat.le_succ N)
theorem fold27 {w : World} {x : S27} {cs : List Value} (h : (F27 k27).K w x cs) : k27.K w x cs := by
  obtain ⟨_, _, rfl, s0, ⟨_, _, rfl, rfl, ⟨_, _, rfl, rfl, ⟨_, _, rfl, ⟨A4, c4, rfl, l4, g4⟩, ⟨A5, c5, rfl, l5, g5⟩⟩⟩⟩⟩ := h
  obtain rfl := k23_open s0
  exact k27_mk w x l4 g4 l5 g5
theorem step27 (N : Nat) (ih : Rdt.Reads N 27 k27 fitT) : Rdt.Reads (N + 2) 27 k27 fitT :=
  Rdt.Reads.imp (Rdt.iso (Rdt.struct (N := N + 1) Try.underlying27 (by kernel_rfl) (Rdt.more (by kernel_rfl) (reads23 _) (Rdt.more (by kernel_rfl) (Rdt.string Try.underlying9) (Rdt.more (by kernel_rfl) (Rdt.string Try.underlying9) (Rdt.more (by kernel_rfl) (reads24 _) (Rdt.last (by kernel_rfl) (Rdt.slice Try.underlying25 (by kernel_rfl) ih))))))) (fun x : S27 => (x.f0, x.f1, x.f2, x.f3, x.f4)) (fun p => ⟨p.1, p.2.1, p.2.2.1, p.2.2.2.1, p.2.2.2.2⟩) (fun _ => rfl)) (fun _ _ _ h => fold27 h) (fun a h => by
    obtain ⟨_, h1, h2, h3, h4, h5⟩ := h
    have e99 : Try.prog.bytesOf 99 = 32 := by kernel_rfl
    have e27 : Try.prog.bytesOf 27 = 96 := by kernel_rfl
    rw [e99] at h3
    rw [e27] at h4
    exact (fitT_eq a).2 ⟨h1, h2, h3, h4, fitTs_all _ h5⟩)
theorem reads27 : ∀ N, Rdt.Reads N 27 k27 fitT
  | 0 => fun enc w spare held fuel cs x h0 hx => by
    obtain ⟨_, n, hn, _⟩ := DataW.trod_struct Try.underlying27 hx
    omega
  | 1 => Rdt.Reads.less (step27 0 (reads27 0)) (by omega)
  | N + 2 => step27 N (reads27 N)
end Go.Proofs.Ytnkbgimihikhoaa.PVt
namespace Go.Proofs.Ytnkbgimihikhoaa.PVt
open Go.RowKit Go.Proofs.YtnkbgimihikhoaaW.PrintWords Go.Proofs.YtnkbgimihikhoaaW.PrintLast Go.Proofs.YtnkbgimihikhoaaW.PrintMore
set_option linter.unusedVariables false
theorem reach_eq : reachBytes = 140737488351232 := by decide
mutual
/-- So many rounds are enough. -/
def wtT : S27 → Nat
  | ⟨_, _, _, a, l⟩ => a.length + wtTs l + 4
def wtTs : List S27 → Nat
  | [] => 0
  | x :: l => wtT x + wtTs l
end
theorem wtT_eq (x : S27) : wtT x = x.f3.length + wtTs x.f4 + 4 := by cases x; simp [wtT]
theorem wtTs_drop (l : List S27) {k : Nat} (h : k < l.length) : wtTs (l.drop k) = wtT (l.getD k z27) + wtTs (l.drop (k + 1)) := by rw [drop27 l h, wtTs]
theorem eqTs_nil : eqTs [] [] = true := by simp [eqTs]
attribute [local irreducible] wtT wtTs szT szTs eqT eqTs fitT fitTs
theorem rd27 (l : List S27) (i : Nat) : rd_T27 l (i : Int) = l.getD i z27 := by unfold rd_T27; rw [Int.toNat_natCast]
theorem rattrs_l (l m : List S99) (hl : l.length ≤ 9223372036854775807) (he : l.length = m.length) : ∀ (n i k : Nat), i + n = l.length → n + 1 ≤ k → topiaryref15_SameAttrs.l0 k l m (i : Int) = some (eqAs (l.drop i) (m.drop i))
  | 0, i, 0, h, hk => by omega
  | 0, i, k + 1, h, hk => by
    simp only [topiaryref15_SameAttrs.l0]
    rw [if_neg (by omega), List.drop_eq_nil_of_le (show l.length ≤ i by omega), List.drop_eq_nil_of_le (show m.length ≤ i by omega)]
    rfl
  | n + 1, i, 0, h, hk => by omega
  | n + 1, i, k + 1, h, hk => by
    have go := rattrs_l l m hl he n (i + 1) k (by omega) (by omega)
    have hw := wrap_in (k := i) (n := l.length) (by omega) hl
    simp only [topiaryref15_SameAttrs.l0]
    rw [if_pos (by omega), if_pos (by omega), if_pos (by omega), hw, go, rd99, rd99, show eqAs (l.drop i) (m.drop i) = _ from eqAs_drop (k := i) (by omega) (by omega)]
    unfold eqA
    cases (l.getD i z99).f0.toList == (m.getD i z99).f0.toList <;> cases (l.getD i z99).f1.toList == (m.getD i z99).f1.toList <;> rfl
theorem rattrs_f (l m : List S99) (hl : l.length ≤ 9223372036854775807) (k : Nat) (hk : l.length + 1 ≤ k) : topiaryref15_SameAttrs.f k l m = some (eqAs l m) := by
  unfold topiaryref15_SameAttrs.f
  by_cases h : l.length = m.length
  · rw [if_pos (by omega)]
    have := rattrs_l l m hl h l.length 0 k (by omega) hk
    rw [show ((0 : Nat) : Int) = 0 from rfl] at this
    rw [this, List.drop_zero, List.drop_zero]
  · rw [if_neg (by omega), eqAs_len l m h]
def sameR (k : Nat) (x y : S27) : Option Bool := topiaryref15_Same.f k x.f0.f0 x.f0.f1 x.f1 x.f2 x.f3 x.f4 y.f0.f0 y.f0.f1 y.f1 y.f2 y.f3 y.f4
def sameL (k : Nat) (i : Int) (x y : S27) : Option Bool := topiaryref15_Same.l0 k i x.f0.f0 x.f0.f1 x.f1 x.f2 x.f3 x.f4 y.f0.f0 y.f0.f1 y.f1 y.f2 y.f3 y.f4
theorem rsame_l (q : Nat) (ih : ∀ (x y : S27) (k : Nat), szT x ≤ q → fitT x → wtT x ≤ k → sameR k x y = some (eqT x y)) (x y : S27) (hq : szTs x.f4 ≤ q) (hf : fitTs x.f4) (hl : x.f4.length ≤ 9223372036854775807) (he : x.f4.length = y.f4.length) :
    ∀ (n i k : Nat), i + n = x.f4.length → wtTs (x.f4.drop i) + 1 ≤ k → sameL k (i : Int) x y = some (eqTs (x.f4.drop i) (y.f4.drop i))
  | 0, i, 0, h, hk => by omega
  | 0, i, k + 1, h, hk => by
    simp only [sameL, topiaryref15_Same.l0]
    rw [if_neg (by omega), List.drop_eq_nil_of_le (show x.f4.length ≤ i by omega), List.drop_eq_nil_of_le (show y.f4.length ≤ i by omega), eqTs_nil]
  | n + 1, i, 0, h, hk => by omega
  | n + 1, i, k + 1, h, hk => by
    rw [wtTs_drop x.f4 (k := i) (by omega)] at hk
    have hw4 := wtT_eq (x.f4.getD i z27)
    have go := rsame_l q ih x y hq hf hl he n (i + 1) k (by omega) (by omega)
    have hw := wrap_in (k := i) (n := x.f4.length) (by omega) hl
    have hkid := ih (x.f4.getD i z27) (y.f4.getD i z27) k (Nat.le_trans (szT_kid x.f4 (by omega)) hq) (fitTs_get hf (by omega)) (by omega)
    unfold sameL at go ⊢
    unfold sameR at hkid
    have c1 : (i : Int) < (x.f4.length : Int) := by omega
    have c2 : (0 : Int) ≤ (i : Int) := Int.natCast_nonneg i
    have c3 : (i : Int) < (y.f4.length : Int) := by omega
    have d1 : i < x.f4.length := by omega
    have d2 : i < y.f4.length := by omega
    clear hk hw4 h
    simp only [topiaryref15_Same.l0]
    rw [if_pos c1, if_pos c2, if_pos c3, rd27, rd27, hkid, Option.bind_some, hw, go, eqTs_drop d1 d2]
    cases eqT (x.f4.getD i z27) (y.f4.getD i z27) <;> rfl
theorem rsame_f : ∀ (q : Nat) (x y : S27) (k : Nat), szT x ≤ q → fitT x → wtT x ≤ k → sameR k x y = some (eqT x y)
  | 0, x, y, k, h, _, _ => by have := szT_pos x; omega
  | q + 1, x, y, k, h, hf, hk => by
    have hsz := szT_eq x
    have hwt := wtT_eq x
    obtain ⟨f1, f2, ⟨f3, _⟩, f4, f5⟩ := (fitT_eq x).1 hf
    rw [reach_eq] at f3 f4
    obtain ⟨k, rfl⟩ : ∃ j, k = j + 2 := ⟨k - 2, by omega⟩
    have hA := rattrs_f x.f3 y.f3 (by omega) (k + 1) (by omega)
    have hj : ∀ (i : Nat), 0 < i → wtTs x.f4 + 1 ≤ i → x.f4.length = y.f4.length → topiaryref15_Same.l0 i 0 x.f0.f0 x.f0.f1 x.f1 x.f2 x.f3 x.f4 y.f0.f0 y.f0.f1 y.f1 y.f2 y.f3 y.f4 = some (eqTs x.f4 y.f4) := fun i _ hi he => by
      have := rsame_l q (fun x y k h1 h2 h3 => rsame_f q x y k h1 h2 h3) x y (by omega) f5 (by omega) he x.f4.length 0 i (by omega) (by rw [List.drop_zero]; exact hi)
      unfold sameL at this
      rw [show ((0 : Nat) : Int) = 0 from rfl, List.drop_zero, List.drop_zero] at this
      exact this
    unfold sameR
    simp only [topiaryref15_Same.f, topiaryref15_Same.j0]
    rw [eqT_eq, hA]
    unfold sameK
    cases h0 : x.f0.f0 == y.f0.f0 with
    | false => simp
    | true =>
      cases h1 : x.f0.f1 == y.f0.f1 with
      | false => simp
      | true =>
        by_cases h2 : x.f1.toList = y.f1.toList
        · rw [if_neg (by simp), if_pos h2, show (x.f1.toList == y.f1.toList) = true from beq_iff_eq.2 h2]
          by_cases h3 : x.f2.toList = y.f2.toList
          · rw [if_pos h3, show (x.f2.toList == y.f2.toList) = true from beq_iff_eq.2 h3, Option.bind_some]
            cases eqAs x.f3 y.f3 with
            | false => simp
            | true =>
              by_cases h4 : x.f4.length = y.f4.length
              · rw [if_pos rfl, show ((x.f4.length : Int) != (y.f4.length : Int)) = false from by rw [bne, beq_iff_eq.2 (show (x.f4.length : Int) = y.f4.length by omega)]; rfl, if_neg (by simp), hj k (by omega) (by omega) h4]
                simp
              · rw [if_pos rfl, show ((x.f4.length : Int) != (y.f4.length : Int)) = true from by rw [bne, beq_eq_false_iff_ne.2 (show (x.f4.length : Int) ≠ y.f4.length by omega)]; rfl, if_pos rfl, eqTs_len _ _ h4]
                simp
          · rw [if_neg h3, show (x.f2.toList == y.f2.toList) = false from beq_eq_false_iff_ne.2 h3]
            simp
        · rw [if_neg (by simp), if_neg h2, show (x.f1.toList == y.f1.toList) = false from beq_eq_false_iff_ne.2 h2]
          simp
theorem rsame_calls (w : World) (x y : S27) (A4 : Option Addr) (c4 : Nat) (A5 : Option Addr) (c5 : Nat) (B4 : Option Addr) (e4 : Nat) (B5 : Option Addr) (e5 : Nat) (hx : RK w x A4 c4 A5 c5) (hy : RK w y B4 e4 B5 e5) (hf : fitT x) :
    Calls Try.prog 14 #[.agg #[.int .i64 x.f0.f0, .int .i64 x.f0.f1, .string x.f1, .string x.f2, .slice A4 x.f3.length c4, .slice A5 x.f4.length c5], .agg #[.int .i64 y.f0.f0, .int .i64 y.f0.f1, .string y.f1, .string y.f2, .slice B4 y.f3.length e4, .slice B5 y.f4.length e5]] w fun e w' => e = .returned (.bool (eqT x y)) ∧ Below w.heap.size w w' :=
  topiaryref15_Same.calls (wtT x) _ _ _ _ A4 c4 x.f3 A5 c5 x.f4 _ _ _ _ B4 e4 y.f3 B5 e5 y.f4 _ w hx.2.1 hx.1 hx.2.2.2 hx.2.2.1 hy.2.1 hy.1 hy.2.2.2 hy.2.2.1 (rsame_f (szT x) x y (wtT x) (Nat.le_refl _) hf (Nat.le_refl _))
theorem take_small {l : List S27} {i : Nat} (h : i < l.length) (hl : l.length ≤ 1466015503701) : (l.take i).length < 1466015503701 := Nat.lt_of_le_of_lt (List.length_take_le _ _) (Nat.lt_of_lt_of_le h hl)
theorem attr_small {n : Nat} (h : n * 32 ≤ 140737488351232) : n < 4398046511104 := by omega
theorem kid_small {n : Nat} (h : n * 96 ≤ 140737488351232) : n ≤ 1466015503701 := by omega
theorem eta27 (x : S27) : (⟨⟨x.f0.f0, x.f0.f1⟩, x.f1, x.f2, x.f3, x.f4⟩ : S27) = x := by cases x; rfl
def copyR (k : Nat) (x : S27) : Option (Int × Int × ByteArray × ByteArray × (List S99) × (List S27)) := topiaryref15_Copy.f k x.f0.f0 x.f0.f1 x.f1 x.f2 x.f3 x.f4
theorem rcopy_l (q : Nat) (ih : ∀ (x : S27) (k : Nat), szT x ≤ q → fitT x → wtT x ≤ k → copyR k x = some (x.f0.f0, x.f0.f1, x.f1, x.f2, x.f3, x.f4)) (x : S27) (hq : szTs x.f4 ≤ q) (hf : fitTs x.f4) (hl : x.f4.length ≤ 1466015503701) :
    ∀ (n i k : Nat), i + n = x.f4.length → wtTs (x.f4.drop i) + 1 ≤ k → topiaryref15_Copy.l0 k (i : Int) x.f0.f0 x.f0.f1 x.f1 x.f2 x.f3 x.f4 x.f0.f0 x.f0.f1 x.f1 x.f2 x.f3 (x.f4.take i) = some (x.f0.f0, x.f0.f1, x.f1, x.f2, x.f3, x.f4)
  | 0, i, 0, h, hk => by omega
  | 0, i, k + 1, h, hk => by
    simp only [topiaryref15_Copy.l0]
    rw [if_neg (by omega), List.take_of_length_le (by omega)]
  | n + 1, i, 0, h, hk => by omega
  | n + 1, i, k + 1, h, hk => by
    rw [wtTs_drop x.f4 (k := i) (by omega)] at hk
    have hw4 := wtT_eq (x.f4.getD i z27)
    have go := rcopy_l q ih x hq hf hl n (i + 1) k (by omega) (by omega)
    have hw := wrap_in (k := i) (n := x.f4.length) (by omega) (Nat.le_trans hl (by decide))
    have hkid := ih (x.f4.getD i z27) k (Nat.le_trans (szT_kid x.f4 (by omega)) hq) (fitTs_get hf (by omega)) (by omega)
    unfold copyR at hkid
    have c1 : (i : Int) < (x.f4.length : Int) := by omega
    have c2 : (0 : Int) ≤ (i : Int) := Int.natCast_nonneg i
    have d1 : i < x.f4.length := by omega
    have c3 := take_small d1 hl
    clear hk hw4 h
    simp only [topiaryref15_Copy.l0]
    rw [if_pos c1, if_pos c2, rd27, hkid, Option.bind_some, if_pos c3, hw]
    rw [take_snoc27 x.f4 d1] at go
    rw [eta27]
    exact go
theorem rcopy_f : ∀ (q : Nat) (x : S27) (k : Nat), szT x ≤ q → fitT x → wtT x ≤ k → copyR k x = some (x.f0.f0, x.f0.f1, x.f1, x.f2, x.f3, x.f4)
  | 0, x, k, h, _, _ => by have := szT_pos x; omega
  | q + 1, x, k, h, hf, hk => by
    have hsz := szT_eq x
    have hwt := wtT_eq x
    obtain ⟨f1, f2, ⟨f3, _⟩, f4, f5⟩ := (fitT_eq x).1 hf
    rw [reach_eq] at f3 f4
    obtain ⟨k, rfl⟩ : ∃ j, k = j + 1 := ⟨k - 1, by omega⟩
    have := rcopy_l q (fun x k h1 h2 h3 => rcopy_f q x k h1 h2 h3) x (by omega) f5 (kid_small f4) x.f4.length 0 k (Nat.zero_add _) (by rw [List.drop_zero]; omega)
    rw [show ((0 : Nat) : Int) = 0 from rfl, List.take_zero] at this
    unfold copyR
    simp only [topiaryref15_Copy.f]
    rw [Option.bind_some, if_pos (by rw [List.length_nil, Nat.zero_add]; exact attr_small f3), List.nil_append]
    exact this
end Go.Proofs.Ytnkbgimihikhoaa.PVt
