/- Readers of trees with a bound by bulk. -/
import Derived.Test.YtnkbgimihikhoaaRows
import Derived.Test.YtnkbgimihikhoaaWWords
import Derived.ChangeArms
import Derived.Below
import Derived.DataElems
import Derived.Test.YtnkbgimihikhoaaMVtR
namespace Go.Proofs.Ytnkbgimihikhoaa.Rdb
open Go.RowKit Go.Proofs.YtnkbgimihikhoaaW.PrintWords
theorem one_le {H : Type} (d : DataW H) : 1 ≤ Rows.uptoBulk d := by
  cases d with
  | lit l => cases l <;> simp [Rows.uptoBulk]
  | _ => simp [Rows.uptoBulk]
theorem sum_le {H : Type} {α : Type} (sz : α → Nat) : ∀ (l : List (DataW H)) (xs : List α), xs.length = l.length → (∀ (i : Nat) a d, xs[i]? = some a → l[i]? = some d → sz a ≤ Rows.uptoBulk d) → (xs.map sz).sum ≤ Rows.uptoBulkAll l
  | [], [], _, _ => by simp [Rows.uptoBulkAll]
  | [], x :: xs, h, _ => by simp at h
  | d :: l, [], h, _ => by simp at h
  | d :: l, x :: xs, h, g => by
    have h1 := g 0 x d rfl rfl
    have h2 := sum_le sz l xs (by simpa using h) (fun i a e h1 h2 => g (i + 1) a e (by simpa using h1) (by simpa using h2))
    simp only [List.map_cons, List.sum_cons, Rows.uptoBulkAll]
    omega
theorem cells_get {w : World} {a : Addr} : ∀ {n : Nat} {cs : List Value}, w.cells? 0 a n = some cs → cs.length = n ∧ ∀ i u, cs[i]? = some u → w.cell? (a.add i) = some u := by
  intro n cs h
  obtain ⟨_, h1, h2⟩ := World.cells?_some h
  refine ⟨h1, fun i u hu => ?_⟩
  have hi := (List.getElem?_eq_some_iff.1 hu).1
  rw [h2 i (by omega)]
  exact hu
/-- Cells of type t that can be read as data are a value of kind d, of size at most the data's bulk. -/
def Reads (N : Nat) {α : Type} (t : TypeId) (d : Kd α) (sz : α → Nat) : Prop :=
  ∀ {H : Type} (enc : TypeId × Value → H) (w : World) (spare : Nat → Bool) (held : Bool) (fuel : Nat) (cs : List Value) (x : DataW H × List MemPlace), fuel ≤ N →
    DataW.trod enc Try.prog w 0 spare held fuel t cs = some x → ∃ a : α, d.K w a cs ∧ sz a ≤ Rows.uptoBulk x.1
theorem int {N : Nat} {t : TypeId} {k : IntKind} (ht : Try.prog.underlying t = some (.int k)) : Reads N t (Kd.int k) (fun _ => 1) := by
  intro H enc w spare held fuel cs x hN h
  obtain ⟨n, rfl, rfl, hw⟩ := DataW.trod_int ht h
  exact ⟨n, rfl, one_le _⟩
theorem bool {N : Nat} {t : TypeId} (ht : Try.prog.underlying t = some .bool) : Reads N t Kd.bool (fun _ => 1) := by
  intro H enc w spare held fuel cs x hN h
  obtain ⟨n, rfl, rfl⟩ := DataW.trod_bool ht h
  exact ⟨n, rfl, one_le _⟩
theorem string {N : Nat} {t : TypeId} (ht : Try.prog.underlying t = some .string) : Reads N t Kd.string (fun s => s.size + 1) := by
  intro H enc w spare held fuel cs x hN h
  obtain ⟨s, rfl, rfl, hw⟩ := DataW.trod_string ht h
  refine ⟨s, rfl, ?_⟩
  simp only [Rows.uptoBulk]
  have : s.data.toList.length = s.size := by rw [Array.length_toList]; rfl
  omega
theorem slice {N : Nat} {α : Type} {t e : TypeId} {d : Kd α} {sz : α → Nat} (ht : Try.prog.underlying t = some (.slice e)) (hc : Try.prog.cellsOf e = d.sz) (R : Reads N e d sz) :
    Reads (N + 1) t (Kd.slice e d) (fun xs => (xs.map sz).sum + 1) := by
  intro H enc w spare held fuel cs x hN h
  rcases DataW.trod_slice ht h with ⟨rfl, rfl⟩ | ⟨a, len, cap, elems, rest, n, hfn, rfl, rfl, _, hlc, hm, hel, hg, _, _⟩
  · exact ⟨[], ⟨none, 0, rfl, Nat.le_refl _, rfl, by simp, fun h => by simp at h⟩, by simp [Rows.uptoBulk]⟩
  · have step : ∀ i, i < len → ∃ (v : α) (c : List Value) (y : DataW H × List MemPlace), elems[i]? = some y ∧ c.length = d.sz ∧ d.K w v c ∧ (∀ j u, c[j]? = some u → w.cell? (a.add (i * d.sz + j)) = some u) ∧ sz v ≤ Rows.uptoBulk y.1 := by
      intro i hi
      have h1 := hg i hi
      obtain ⟨y, hy⟩ : ∃ y, elems[i]? = some y := ⟨_, List.getElem?_eq_getElem (by omega)⟩
      rw [hy] at h1
      obtain ⟨c, hc1, hc2⟩ := Option.bind_eq_some_iff.1 h1
      obtain ⟨v, hv1, hv2⟩ := R enc w spare held n c y (by omega) hc2
      obtain ⟨g1, g2⟩ := cells_get hc1
      rw [hc] at g1 g2
      exact ⟨v, c, y, hy, g1, hv1, fun j u hu => by
        have := g2 j u hu
        rwa [Go.Addr.add_add] at this, hv2⟩
    have build : ∀ m, m ≤ len → ∃ xs : List α, xs.length = m ∧ (∀ (i : Nat) v, xs[i]? = some v → ∃ (c : List Value) (y : DataW H × List MemPlace), elems[i]? = some y ∧ c.length = d.sz ∧ d.K w v c ∧ (∀ j u, c[j]? = some u → w.cell? (a.add (i * d.sz + j)) = some u) ∧ sz v ≤ Rows.uptoBulk y.1) := by
      intro m
      induction m with
      | zero => intro _; exact ⟨[], rfl, fun i v hv => by simp at hv⟩
      | succ m ih =>
        intro hm
        obtain ⟨xs, hx1, hx2⟩ := ih (by omega)
        obtain ⟨v, c, y, hv⟩ := step m (by omega)
        refine ⟨xs ++ [v], by simp [hx1], fun i u hu => ?_⟩
        rcases Nat.lt_or_ge i xs.length with hi | hi
        · rw [List.getElem?_append_left hi] at hu
          exact hx2 i u hu
        · have : i = m := by
            have := (List.getElem?_eq_some_iff.1 hu).1
            rw [List.length_append, List.length_singleton] at this
            omega
          subst this
          have : v = u := by rw [← hx1] at hu; simpa using hu
          subst this
          exact ⟨c, y, hv⟩
    obtain ⟨xs, hx1, hx2⟩ := build len (Nat.le_refl _)
    refine ⟨xs, ⟨some a, cap, by rw [hx1], by omega, ⟨rfl, by unfold maxLen at hm; omega, fun _ => ⟨a, rfl, fun i v hv => ?_⟩⟩⟩, ?_⟩
    · obtain ⟨c, y, _, h2, h3, h4, _⟩ := hx2 i v hv
      exact ⟨c, h2, h3, h4⟩
    · have := sum_le sz (elems.map (·.1)) xs (by rw [List.length_map]; omega) (fun i v y hv hy => by
        obtain ⟨c, z, h1, _, _, _, h5⟩ := hx2 i v hv
        rw [List.getElem?_map, h1] at hy
        have : z.1 = y := by simpa using hy
        rw [← this]; exact h5)
      simp only [Rows.uptoBulk]
      omega
/-- Fields one behind the other, from cell o on. -/
def ReadsAt (N : Nat) {α : Type} (o : Nat) (fs : List Field) (d : Kd α) (sz : α → Nat) : Prop :=
  ∀ {H : Type} (enc : TypeId × Value → H) (w : World) (spare : Nat → Bool) (held : Bool) (n : Nat) (cs : List Value) (xs : List (DataW H × List MemPlace)), n ≤ N → xs.length = fs.length →
    (∀ (i : Nat) (f : Field), fs[i]? = some f → DataW.trod enc Try.prog w 0 spare held n f.type ((cs.drop f.offset).take (Try.prog.cellsOf f.type)) = xs[i]?) →
    ∃ a : α, d.K w a ((cs.drop o).take d.sz) ∧ sz a ≤ Rows.uptoBulkAll (xs.map (·.1))
theorem last {N : Nat} {α : Type} {f : Field} {d : Kd α} {sz : α → Nat} (hc : Try.prog.cellsOf f.type = d.sz) (R : Reads N f.type d sz) : ReadsAt N f.offset [f] d sz := by
  intro H enc w spare held n cs xs hN hl hx
  match xs, hl with
  | [y], _ =>
    have h := hx 0 f rfl
    rw [hc] at h
    obtain ⟨a, h1, h2⟩ := R enc w spare held n _ y hN h
    refine ⟨a, h1, ?_⟩
    simp only [List.map_cons, List.map_nil, Rows.uptoBulkAll]
    omega
theorem more {N : Nat} {α β : Type} {f : Field} {fs : List Field} {d : Kd α} {e : Kd β} {sz : α → Nat} {sz2 : β → Nat} (hc : Try.prog.cellsOf f.type = d.sz) (R : Reads N f.type d sz) (R2 : ReadsAt N (f.offset + d.sz) fs e sz2) :
    ReadsAt N f.offset (f :: fs) (Kd.pair d e) (fun x => sz x.1 + sz2 x.2) := by
  intro H enc w spare held n cs xs hN hl hx
  match xs, hl with
  | y :: ys, hl =>
    have h := hx 0 f rfl
    rw [hc] at h
    obtain ⟨a, h1, h2⟩ := R enc w spare held n _ y hN h
    obtain ⟨b, g1, g2⟩ := R2 enc w spare held n cs ys hN (by simpa using hl) (fun i f' hf => hx (i + 1) f' hf)
    refine ⟨(a, b), ⟨_, _, ?_, h1, g1⟩, ?_⟩
    · show (cs.drop f.offset).take (d.sz + e.sz) = _
      rw [List.take_add, List.drop_drop]
    · simp only [List.map_cons, Rows.uptoBulkAll]
      omega
theorem struct {N : Nat} {α : Type} {t : TypeId} {fs : Array Field} {d : Kd α} {sz : α → Nat} (ht : Try.prog.underlying t = some (.struct fs)) (hc : Try.prog.cellsOf t = d.sz) (R : ReadsAt N 0 fs.toList d sz) : Reads (N + 1) t d (fun a => sz a + 1) := by
  intro H enc w spare held fuel cs x hN h
  obtain ⟨xs, n, hfn, rfl, hl, hlen, hx⟩ := DataW.trod_struct ht h
  obtain ⟨a, h1, h2⟩ := R enc w spare held n cs xs (by omega) (by rw [hlen, Array.length_toList]) (fun i f hf => hx i f (by rwa [Array.getElem?_toList] at hf))
  rw [List.drop_zero, List.take_of_length_le (by rw [hl, hc]; exact Nat.le_refl _)] at h1
  refine ⟨a, h1, ?_⟩
  simp only [Rows.uptoBulk]
  omega
theorem iso {N : Nat} {α β : Type} {t : TypeId} {d : Kd α} {sz : α → Nat} (R : Reads N t d sz) (f : β → α) (g : α → β) (hfg : ∀ a, f (g a) = a) : Reads N t (Kd.iso d f) (fun b => sz (f b)) := by
  intro H enc w spare held fuel cs x hN h
  obtain ⟨a, h1, h2⟩ := R enc w spare held fuel cs x hN h
  refine ⟨g a, ?_, ?_⟩
  · show d.K w (f (g a)) cs
    rw [hfg]; exact h1
  · show sz (f (g a)) ≤ _
    rw [hfg]; exact h2
theorem Reads.less {N M : Nat} {α : Type} {t : TypeId} {d : Kd α} {sz : α → Nat} (R : Reads N t d sz) (h : M ≤ N) : Reads M t d sz := fun enc w spare held fuel cs x hM hx => R enc w spare held fuel cs x (Nat.le_trans hM h) hx
theorem Reads.imp {N : Nat} {α : Type} {t : TypeId} {d d' : Kd α} {sz sz' : α → Nat} (R : Reads N t d sz) (hk : ∀ w a cs, d.K w a cs → d'.K w a cs) (h : ∀ a, sz' a ≤ sz a) : Reads N t d' sz' := fun enc w spare held fuel cs x hN hx => by
  obtain ⟨a, h1, h2⟩ := R enc w spare held fuel cs x hN hx
  exact ⟨a, hk _ _ _ h1, Nat.le_trans (h a) h2⟩
/-- A parameter. -/
theorem Reads.param {α : Type} {t : TypeId} {d : Kd α} {sz : α → Nat} (R : ∀ N, Reads N t d sz) {H : Type} {enc : TypeId × Value → H} {w : World} {spare : Nat → Bool} {held : Bool} {v : Value} {x : DataW H} {ps : List MemPlace}
    (h : DataW.Trod enc Try.prog w 0 spare held t v x ps) : ∃ a : α, d.K w a v.cells.toList ∧ sz a ≤ Rows.uptoBulk x ∧ True := by
  obtain ⟨fuel, hf⟩ := h
  obtain ⟨a, h1, h2⟩ := R fuel enc w spare held fuel _ _ (Nat.le_refl _) hf
  exact ⟨a, h1, h2, trivial⟩
end Go.Proofs.Ytnkbgimihikhoaa.Rdb
namespace Go.Proofs.Ytnkbgimihikhoaa.PVt
open Go.RowKit Go.Proofs.YtnkbgimihikhoaaW.PrintWords Go.Proofs.YtnkbgimihikhoaaW.PrintLast Go.Proofs.YtnkbgimihikhoaaW.PrintMore
set_option linter.unusedVariables false
def bulkA (p : S99) : Nat := (p.f0.size + 1) + (p.f1.size + 1) + 1
mutual
/-- A tree's bulk, at least. -/
def bulkT : S27 → Nat
  | ⟨_, t, u, a, l⟩ => 3 + ((t.size + 1) + ((u.size + 1) + (((a.map bulkA).sum + 1) + (bulkTs l + 1)))) + 1
def bulkTs : List S27 → Nat
  | [] => 0
  | x :: l => bulkT x + bulkTs l
end
theorem bulkT_eq (x : S27) : bulkT x = 3 + ((x.f1.size + 1) + ((x.f2.size + 1) + (((x.f3.map bulkA).sum + 1) + (bulkTs x.f4 + 1)))) + 1 := by cases x; simp [bulkT]
theorem bulkTs_sum : ∀ l : List S27, (l.map bulkT).sum = bulkTs l
  | [] => by simp [bulkTs]
  | x :: l => by simp [bulkTs, bulkTs_sum l]
mutual
theorem bulk_sz : ∀ x : S27, szT x ≤ bulkT x
  | ⟨k, t, u, a, l⟩ => by have := bulk_szs l; rw [szT, bulkT]; omega
theorem bulk_szs : ∀ l : List S27, szTs l ≤ bulkTs l
  | [] => by simp [szTs, bulkTs]
  | x :: l => by have h1 := bulk_sz x; have h2 := bulk_szs l; rw [szTs, bulkTs]; omega
end
theorem bulkA_mem {a : List S99} : ∀ p ∈ a, bulkA p ≤ (a.map bulkA).sum := by
  induction a with
  | nil => intro p hp; cases hp
  | cons q a ih =>
    intro p hp
    rw [List.map_cons, List.sum_cons]
    rcases List.mem_cons.1 hp with rfl | hp
    · omega
    · have := ih p hp; omega
theorem bulkA_len (a : List S99) : a.length ≤ (a.map bulkA).sum := by
  induction a with
  | nil => simp
  | cons q a ih => rw [List.map_cons, List.sum_cons, List.length_cons]; have : 1 ≤ bulkA q := by unfold bulkA; omega
                   omega
theorem bulkTs_len (l : List S27) : l.length ≤ bulkTs l := Nat.le_trans (szTs_len l) (bulk_szs l)
theorem reach_b : reachBytes = 140737488351232 := by decide
mutual
theorem bulk_fit : ∀ x : S27, bulkT x ≤ 1048576 → fitT x
  | ⟨k, t, u, a, l⟩, h => by
    rw [bulkT] at h
    have h1 := bulkA_len a
    have h2 := bulkTs_len l
    have h3 := bulk_fits l (by omega)
    rw [fitT, reach_b]
    refine ⟨by omega, by omega, ⟨by omega, fun p hp => ?_⟩, by omega, h3⟩
    have h4 := bulkA_mem p hp
    have h5 : bulkA p = (p.f0.size + 1) + (p.f1.size + 1) + 1 := rfl
    unfold fitA
    rw [reach_b]
    omega
theorem bulk_fits : ∀ l : List S27, bulkTs l ≤ 1048576 → fitTs l
  | [], _ => by simp [fitTs]
  | x :: l, h => by
    rw [bulkTs] at h
    rw [fitTs]
    exact ⟨bulk_fit x (by omega), bulk_fits l (by omega)⟩
end
theorem bulk23 (N : Nat) : Rdb.Reads N 23 k23 (fun _ => 3) :=
  Rdb.Reads.imp (Rdb.Reads.less (Rdb.iso (Rdb.struct (N := N) Try.underlying23 (by kernel_rfl) (Rdb.more (by kernel_rfl) (Rdb.int Try.underlying3) (Rdb.last (by kernel_rfl) (Rdb.int Try.underlying3)))) (fun x : S23 => (x.f0, x.f1)) (fun p => ⟨p.1, p.2⟩) (fun _ => rfl)) (Nat.le_succ N)) (fun _ _ _ h => h) (fun _ => Nat.le_refl _)
theorem bulk99 (N : Nat) : Rdb.Reads N 99 k99 bulkA :=
  Rdb.Reads.imp (Rdb.Reads.less (Rdb.iso (Rdb.struct (N := N) Try.underlying99 (by kernel_rfl) (Rdb.more (by kernel_rfl) (Rdb.string Try.underlying9) (Rdb.last (by kernel_rfl) (Rdb.string Try.underlying9)))) (fun x : S99 => (x.f0, x.f1)) (fun p => ⟨p.1, p.2⟩) (fun _ => rfl)) (Nat.le_succ N)) (fun _ _ _ h => h) (fun a => Nat.le_refl _)
theorem bulk24 (N : Nat) : Rdb.Reads N 24 (Kd.slice 99 k99) (fun xs => (xs.map bulkA).sum + 1) := Rdb.Reads.less (Rdb.slice (N := N) Try.underlying24 (by kernel_rfl) (bulk99 N)) (Nat.le_succ N)
theorem bulk_step (N : Nat) (ih : Rdb.Reads N 27 k27 bulkT) : Rdb.Reads (N + 2) 27 k27 bulkT :=
  Rdb.Reads.imp (Rdb.iso (Rdb.struct (N := N + 1) Try.underlying27 (by kernel_rfl) (Rdb.more (by kernel_rfl) (bulk23 _) (Rdb.more (by kernel_rfl) (Rdb.string Try.underlying9) (Rdb.more (by kernel_rfl) (Rdb.string Try.underlying9) (Rdb.more (by kernel_rfl) (bulk24 _) (Rdb.last (by kernel_rfl) (Rdb.slice Try.underlying25 (by kernel_rfl) ih))))))) (fun x : S27 => (x.f0, x.f1, x.f2, x.f3, x.f4)) (fun p => ⟨p.1, p.2.1, p.2.2.1, p.2.2.2.1, p.2.2.2.2⟩) (fun _ => rfl)) (fun _ _ _ h => fold27 h) (fun a => by
    rw [bulkT_eq, ← bulkTs_sum]
    exact Nat.le_refl _)
theorem bulk27 : ∀ N, Rdb.Reads N 27 k27 bulkT
  | 0 => fun enc w spare held fuel cs x h0 hx => by
    obtain ⟨_, n, hn, _⟩ := DataW.trod_struct Try.underlying27 hx
    omega
  | 1 => Rdb.Reads.less (bulk_step 0 (bulk27 0)) (by omega)
  | N + 2 => bulk_step N (bulk27 N)
end Go.Proofs.Ytnkbgimihikhoaa.PVt
