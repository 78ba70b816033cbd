/- What the statement's row needs of this session's texts, joined by program: part 2. -/
import Derived.Test.YtnopjjilpgekfaaRows
import Derived.ChangeArms
import Derived.Below
import Derived.DataElems
import Derived.SizedLaws
import Derived.Test.YtnopjjilpgekfaaProg
import Derived.Deep.Draws
import Derived.Deep.AppendLies
import Derived.Maps.AppendAt
import Derived.OwnWalk
import Derived.Laws.BytesArg
import Derived.Laws.MakeOwn
import Derived.Laws.OwnMore
import Derived.Deep.OwnRows
import Derived.Tactics
import Derived.Lib.ConvBytes
import Derived.Laws.Slices
import Derived.WalkKit
import Derived.KernelRfl
import Derived.RowKit3
import Derived.Deep.LoopGhost
import Derived.Deep.QuietTactic
import Derived.BigQuiet
import Derived.WideLaws
import Derived.Deep.DeepCutAuto
import Derived.Deep.CutBlock
import Derived.Deep.RegionHeld3
import Derived.Laws.Rows
import Derived.Lib.AppendStr
import Derived.ArgAppend
import Derived.Laws.IdiomCopy
import Derived.OrdersHeld
import Derived.Laws.BitsLemmas
import Derived.RowKit
import Derived.Maps.Own
import Derived.RangeFuncRecord
import Derived.Laws.CopyRow
import Derived.WalkSpells
import Derived.IntWalk
import Derived.Lib.Overlaps
import Derived.Lib.AppendZerosOnto
import Derived.Test.YtnopjjilpgekfaaQT0
namespace Go.Proofs.Ytnopjjilpgekfaa.Rdr
open Go.RowKit Go.Proofs.YtnopjjilpgekfaaW.PrintWords
theorem cells_get {w : World} {a : Addr} : ∀ {n : Nat} {cs : List Value}, w.cells? 0 a n = some cs → cs.length = n ∧ ∀ i u, cs[i]? = some u → w.cell? (a.add i) = some u := by
  intro n cs h
  obtain ⟨_, h1, h2⟩ := World.cells?_some h
  refine ⟨h1, fun i u hu => ?_⟩
  have hi := (List.getElem?_eq_some_iff.1 hu).1
  rw [h2 i (by omega)]
  exact hu
theorem all_get {H : Type} {e : TypeId} : ∀ {l : List (DataW H)} {i : Nat} {d : DataW H}, l[i]? = some d → ∀ n ∈ d.weights Try.prog e, n ∈ DataW.weightsAll Try.prog e l
  | [], _, _, h, _, _ => by cases h
  | d :: l, 0, _, h, n, hn => by
    obtain rfl := Option.some.inj h
    rw [DataW.weightsAll]
    exact List.mem_append_left _ hn
  | d :: l, i + 1, _, h, n, hn => by
    rw [DataW.weightsAll]
    exact List.mem_append_right _ (all_get (l := l) (i := i) h n hn)
/-- Cells of type t that can be read as data are a value of kind d; where its rows are no longer than the reach, it is as ok says. -/
def Reads {α : Type} (t : TypeId) (d : Kd α) (ok : α → Prop) : Prop :=
  ∀ {H : Type} (enc : TypeId × Value → H) (w : World) (spare : Nat → Bool) (held : Bool) (fuel : Nat) (cs : List Value) (x : DataW H × List MemPlace),
    DataW.trod enc Try.prog w 0 spare held fuel t cs = some x → ∃ a : α, d.K w a cs ∧ ((∀ n ∈ x.1.weights Try.prog t, n ≤ reachBytes) → ok a)
theorem int {t : TypeId} {k : IntKind} (ht : Try.prog.underlying t = some (.int k)) : Reads t (Kd.int k) (fun n => (Lit.int k n).wf = true) := by
  intro H enc w spare held fuel cs x h
  obtain ⟨n, rfl, rfl, hw⟩ := DataW.trod_int ht h
  exact ⟨n, rfl, fun _ => hw⟩
theorem bool {t : TypeId} (ht : Try.prog.underlying t = some .bool) : Reads t Kd.bool (fun _ => True) := by
  intro H enc w spare held fuel cs x h
  obtain ⟨n, rfl, rfl⟩ := DataW.trod_bool ht h
  exact ⟨n, rfl, fun _ => trivial⟩
theorem string {t : TypeId} (ht : Try.prog.underlying t = some .string) : Reads t Kd.string (fun s => s.size ≤ reachBytes) := by
  intro H enc w spare held fuel cs x h
  obtain ⟨s, rfl, rfl, hw⟩ := DataW.trod_string ht h
  refine ⟨s, rfl, fun hx => ?_⟩
  have := hx s.data.toList.length (by simp [DataW.weights])
  rw [Array.length_toList] at this
  exact this
theorem slice {α : Type} {t e : TypeId} {d : Kd α} {ok : α → Prop} (ht : Try.prog.underlying t = some (.slice e)) (hc : Try.prog.cellsOf e = d.sz) (R : Reads e d ok) :
    Reads t (Kd.slice e d) (fun xs => xs.length * Try.prog.bytesOf e ≤ reachBytes ∧ ∀ x ∈ xs, ok x) := by
  intro H enc w spare held fuel cs x h
  rcases DataW.trod_slice ht h with ⟨rfl, rfl⟩ | ⟨a, len, cap, elems, rest, n, rfl, rfl, rfl, _, hlc, hm, hel, hg, _, _⟩
  · exact ⟨[], ⟨none, 0, rfl, Nat.le_refl _, rfl, by simp, fun h => by simp at h⟩, fun _ => ⟨by simp, fun x hx => by cases hx⟩⟩
  · have step : ∀ i, i < len → ∃ (v : α) (c : List Value) (y : DataW H × List MemPlace), elems[i]? = some y ∧ c.length = d.sz ∧ d.K w v c ∧ (∀ j u, c[j]? = some u → w.cell? (a.add (i * d.sz + j)) = some u) ∧ ((∀ n ∈ y.1.weights Try.prog e, n ≤ reachBytes) → ok v) := by
      intro i hi
      have h1 := hg i hi
      obtain ⟨y, hy⟩ : ∃ y, elems[i]? = some y := ⟨_, List.getElem?_eq_getElem (by omega)⟩
      rw [hy] at h1
      obtain ⟨c, hc1, hc2⟩ := Option.bind_eq_some_iff.1 h1
      obtain ⟨v, hv1, hv2⟩ := R enc w spare held n c y hc2
      obtain ⟨g1, g2⟩ := cells_get hc1
      rw [hc] at g1 g2
      exact ⟨v, c, y, hy, g1, hv1, fun j u hu => by
        have := g2 j u hu
        rwa [Go.Addr.add_add] at this, hv2⟩
    have build : ∀ m, m ≤ len → ∃ xs : List α, xs.length = m ∧ (∀ (i : Nat) v, xs[i]? = some v → ∃ (c : List Value) (y : DataW H × List MemPlace), elems[i]? = some y ∧ c.length = d.sz ∧ d.K w v c ∧ (∀ j u, c[j]? = some u → w.cell? (a.add (i * d.sz + j)) = some u) ∧ ((∀ n ∈ y.1.weights Try.prog e, n ≤ reachBytes) → ok v)) := by
      intro m
      induction m with
      | zero => intro _; exact ⟨[], rfl, fun i v hv => by simp at hv⟩
      | succ m ih =>
        intro hm
        obtain ⟨xs, hx1, hx2⟩ := ih (by omega)
        obtain ⟨v, c, y, hv⟩ := step m (by omega)
        refine ⟨xs ++ [v], by simp [hx1], fun i u hu => ?_⟩
        rcases Nat.lt_or_ge i xs.length with hi | hi
        · rw [List.getElem?_append_left hi] at hu
          exact hx2 i u hu
        · have : i = m := by
            have := (List.getElem?_eq_some_iff.1 hu).1
            rw [List.length_append, List.length_singleton] at this
            omega
          subst this
          have : v = u := by rw [← hx1] at hu; simpa using hu
          subst this
          exact ⟨c, y, hv⟩
    obtain ⟨xs, hx1, hx2⟩ := build len (Nat.le_refl _)
    refine ⟨xs, ⟨some a, cap, by rw [hx1], by omega, ⟨rfl, by unfold maxLen at hm; omega, fun _ => ⟨a, rfl, fun i v hv => ?_⟩⟩⟩, fun hx => ⟨?_, ?_⟩⟩
    · obtain ⟨c, y, _, h2, h3, h4, _⟩ := hx2 i v hv
      exact ⟨c, h2, h3, h4⟩
    · rw [DataW.weights, ht] at hx
      have := hx _ (List.mem_cons_self ..)
      refine Nat.le_trans (Nat.mul_le_mul_right _ ?_) this
      rw [List.length_map, hx1]
      omega
    · intro v hv
      obtain ⟨i, hi⟩ := List.mem_iff_getElem?.1 hv
      obtain ⟨_, y, h1, _, _, _, h6⟩ := hx2 i v hi
      refine h6 (fun n hn => hx n ?_)
      rw [DataW.weights, ht]
      exact List.mem_cons_of_mem _ (List.mem_append_left _ (all_get (i := i) (by rw [List.getElem?_map, h1]; rfl) n hn))
/-- Fields one behind the other, from cell o on. -/
def ReadsAt {α : Type} (o : Nat) (fs : List Field) (d : Kd α) (ok : α → Prop) : Prop :=
  ∀ {H : Type} (enc : TypeId × Value → H) (w : World) (spare : Nat → Bool) (held : Bool) (n : Nat) (cs : List Value) (xs : List (DataW H × List MemPlace)), xs.length = fs.length →
    (∀ (i : Nat) (f : Field), fs[i]? = some f → DataW.trod enc Try.prog w 0 spare held n f.type ((cs.drop f.offset).take (Try.prog.cellsOf f.type)) = xs[i]?) →
    ∃ a : α, d.K w a ((cs.drop o).take d.sz) ∧ ((∀ n ∈ DataW.weightsEach Try.prog (fs.map (·.type)) (xs.map (·.1)), n ≤ reachBytes) → ok a)
theorem last {α : Type} {f : Field} {d : Kd α} {ok : α → Prop} (hc : Try.prog.cellsOf f.type = d.sz) (R : Reads f.type d ok) : ReadsAt f.offset [f] d ok := by
  intro H enc w spare held n cs xs hl hx
  match xs, hl with
  | [y], _ =>
    have h := hx 0 f rfl
    rw [hc] at h
    obtain ⟨a, h1, h2⟩ := R enc w spare held n _ y h
    refine ⟨a, h1, fun hw => h2 (fun m hm => hw m ?_)⟩
    simp only [List.map_cons, List.map_nil, DataW.weightsEach]
    exact List.mem_append_left _ hm
theorem more {α β : Type} {f : Field} {fs : List Field} {d : Kd α} {e : Kd β} {ok : α → Prop} {ok2 : β → Prop} (hc : Try.prog.cellsOf f.type = d.sz) (R : Reads f.type d ok) (R2 : ReadsAt (f.offset + d.sz) fs e ok2) :
    ReadsAt f.offset (f :: fs) (Kd.pair d e) (fun x => ok x.1 ∧ ok2 x.2) := by
  intro H enc w spare held n cs xs hl hx
  match xs, hl with
  | y :: ys, hl =>
    have h := hx 0 f rfl
    rw [hc] at h
    obtain ⟨a, h1, h2⟩ := R enc w spare held n _ y h
    obtain ⟨b, g1, g2⟩ := R2 enc w spare held n cs ys (by simpa using hl) (fun i f' hf => hx (i + 1) f' hf)
    refine ⟨(a, b), ⟨_, _, ?_, h1, g1⟩, fun hw => ⟨h2 (fun m hm => hw m ?_), g2 (fun m hm => hw m ?_)⟩⟩
    · show (cs.drop f.offset).take (d.sz + e.sz) = _
      rw [List.take_add, List.drop_drop]
    · simp only [List.map_cons, DataW.weightsEach]
      exact List.mem_append_left _ hm
    · simp only [List.map_cons, DataW.weightsEach]
      exact List.mem_append_right _ hm
theorem struct {α : Type} {t : TypeId} {fs : Array Field} {d : Kd α} {ok : α → Prop} (ht : Try.prog.underlying t = some (.struct fs)) (hc : Try.prog.cellsOf t = d.sz) (R : ReadsAt 0 fs.toList d ok) : Reads t d ok := by
  intro H enc w spare held fuel cs x h
  obtain ⟨xs, n, _, rfl, hl, hlen, hx⟩ := DataW.trod_struct ht h
  obtain ⟨a, h1, h2⟩ := R enc w spare held n cs xs (by rw [hlen, Array.length_toList]) (fun i f hf => hx i f (by rwa [Array.getElem?_toList] at hf))
  rw [List.drop_zero, List.take_of_length_le (by rw [hl, hc]; exact Nat.le_refl _)] at h1
  refine ⟨a, h1, fun hw => h2 (fun m hm => hw m ?_)⟩
  rw [DataW.weights, ht]
  exact hm
theorem iso {α β : Type} {t : TypeId} {d : Kd α} {ok : α → Prop} (R : Reads t d ok) (f : β → α) (g : α → β) (hfg : ∀ a, f (g a) = a) : Reads t (Kd.iso d f) (fun b => ok (f b)) := by
  intro H enc w spare held fuel cs x h
  obtain ⟨a, h1, h2⟩ := R enc w spare held fuel cs x h
  refine ⟨g a, ?_, fun hw => ?_⟩
  · show d.K w (f (g a)) cs
    rw [hfg]; exact h1
  · show ok (f (g a))
    rw [hfg]; exact h2 hw
/-- A parameter. -/
theorem Reads.param {α : Type} {t : TypeId} {d : Kd α} {ok : α → Prop} (R : Reads t d ok) {H : Type} {enc : TypeId × Value → H} {w : World} {spare : Nat → Bool} {held : Bool} {v : Value} {x : DataW H} {ps : List MemPlace}
    (h : DataW.Trod enc Try.prog w 0 spare held t v x ps) : ∃ a : α, d.K w a v.cells.toList ∧ ((∀ n ∈ x.weights Try.prog t, n ≤ reachBytes) → ok a) := by
  obtain ⟨fuel, hf⟩ := h
  exact R enc w spare held fuel _ _ hf
end Go.Proofs.Ytnopjjilpgekfaa.Rdr
namespace Go.Proofs.Ytnopjjilpgekfaa.PCa
open Go.RowKit Go.Proofs.YtnopjjilpgekfaaW.PrintWords Go.Proofs.YtnopjjilpgekfaaW.PrintLast Go.Proofs.YtnopjjilpgekfaaW.PrintMore
attribute [local go_sem] max2_int min2_int max_two min_two max_three min_three max_four min_four
set_option linter.unusedVariables false
set_option linter.unusedSimpArgs false
def errW : Option Int → Value
 | none => .nilIface
 | some c => .iface 0 (.int .i64 c)
theorem errW_none : errW none = .nilIface := rfl
theorem errW_some (c : Int) : errW (some c) = .iface 0 (.int .i64 c) := rfl
theorem info3 : (Try.prog.info? 3).map (fun i => (i.zero, i.size, i.bytes)) = some (some (.int .i64 0), 1, 8) := by kernel_rfl
theorem info32 : (Try.prog.info? 32).map (fun i => (i.zero, i.size, i.bytes)) = some (some (.agg #[(.int .i64 0), (.int .i64 0), (.int .i64 0), (.slice none 0 0), (.int .i64 0), (.int .i64 0), (.int .i64 0), (.int .i64 0), (.int .i64 0), (.int .i64 0), (.int .i64 0), (.string ⟨#[]⟩), (.string ⟨#[]⟩)]), 13, 136) := by kernel_rfl
structure S30 where
 f0 : Int
 f1 : Int
def z30 : S30 := ⟨(0 : Int), (0 : Int)⟩
def k30 : Kd S30 := Kd.iso (Kd.pair (Kd.int .i64) (Kd.int .i64)) (fun x : S30 => (x.f0, x.f1))
theorem k30_open {w : World} {x : S30} {cs : List Value} (h : k30.K w x cs) : cs = [.int .i64 x.f0, .int .i64 x.f1] := by
 obtain ⟨_, _, rfl, rfl, rfl⟩ := h
 exact rfl
theorem k30_openM {w : World} {base : Nat} {ok : Nat → Prop} {x : S30} {cs : List Value} (h : k30.M w base ok x cs) : cs = [.int .i64 x.f0, .int .i64 x.f1] := by
 obtain ⟨_, _, rfl, rfl, rfl⟩ := h
 exact rfl
theorem k30_mk (w : World) (x : S30)  : k30.K w x [.int .i64 x.f0, .int .i64 x.f1] := ⟨[.int .i64 x.f0], [.int .i64 x.f1], rfl, rfl, rfl⟩
theorem k30_mkM (w : World) (base : Nat) (ok : Nat → Prop) (x : S30)  : k30.M w base ok x [.int .i64 x.f0, .int .i64 x.f1] := ⟨[.int .i64 x.f0], [.int .i64 x.f1], rfl, rfl, rfl⟩
structure S32 where
 f0 : S30
 f1 : Int
 f2 : (List Int)
 f3 : Int
 f4 : S30
 f5 : S30
 f6 : S30
 f7 : ByteArray
 f8 : ByteArray
def z32 : S32 := ⟨z30, (0 : Int), ([] : List Int), (0 : Int), z30, z30, z30, (⟨#[]⟩ : ByteArray), (⟨#[]⟩ : ByteArray)⟩
def k32 : Kd S32 := Kd.iso (Kd.pair k30 (Kd.pair (Kd.int .i64) (Kd.pair (Kd.slice 3 (Kd.int .i64)) (Kd.pair (Kd.int .i64) (Kd.pair k30 (Kd.pair k30 (Kd.pair k30 (Kd.pair Kd.string Kd.string)))))))) (fun x : S32 => (x.f0, x.f1, x.f2, x.f3, x.f4, x.f5, x.f6, x.f7, x.f8))
theorem k32_open {w : World} {x : S32} {cs : List Value} (h : k32.K w x cs) : ∃ A3 c3, cs = [.int .i64 x.f0.f0, .int .i64 x.f0.f1, .int .i64 x.f1, .slice A3 x.f2.length c3, .int .i64 x.f3, .int .i64 x.f4.f0, .int .i64 x.f4.f1, .int .i64 x.f5.f0, .int .i64 x.f5.f1, .int .i64 x.f6.f0, .int .i64 x.f6.f1, .string x.f7, .string x.f8] ∧ x.f2.length ≤ c3 ∧ (Kd.int .i64).C w A3 x.f2.length x.f2 := by
 obtain ⟨_, _, rfl, s0, ⟨_, _, rfl, rfl, ⟨_, _, rfl, ⟨A3, c3, rfl, l3, g3⟩, ⟨_, _, rfl, rfl, ⟨_, _, rfl, s5, ⟨_, _, rfl, s7, ⟨_, _, rfl, s9, ⟨_, _, rfl, rfl, rfl⟩⟩⟩⟩⟩⟩⟩⟩ := h
 obtain rfl := k30_open s0
 obtain rfl := k30_open s5
 obtain rfl := k30_open s7
 obtain rfl := k30_open s9
 exact ⟨A3, c3, rfl, l3, g3⟩
theorem k32_openM {w : World} {base : Nat} {ok : Nat → Prop} {x : S32} {cs : List Value} (h : k32.M w base ok x cs) : ∃ v3, cs = [.int .i64 x.f0.f0, .int .i64 x.f0.f1, .int .i64 x.f1, v3, .int .i64 x.f3, .int .i64 x.f4.f0, .int .i64 x.f4.f1, .int .i64 x.f5.f0, .int .i64 x.f5.f1, .int .i64 x.f6.f0, .int .i64 x.f6.f1, .string x.f7, .string x.f8] ∧ (Kd.int .i64).R 3 w base ok v3 x.f2 := by
 obtain ⟨_, _, rfl, s0, ⟨_, _, rfl, rfl, ⟨_, _, rfl, ⟨v3, rfl, g3⟩, ⟨_, _, rfl, rfl, ⟨_, _, rfl, s5, ⟨_, _, rfl, s7, ⟨_, _, rfl, s9, ⟨_, _, rfl, rfl, rfl⟩⟩⟩⟩⟩⟩⟩⟩ := h
 obtain rfl := k30_openM s0
 obtain rfl := k30_openM s5
 obtain rfl := k30_openM s7
 obtain rfl := k30_openM s9
 exact ⟨v3, rfl, g3⟩
theorem k32_mk (w : World) (x : S32) {A3 : Option Addr} {c3 : Nat} (l3 : x.f2.length ≤ c3) (g3 : (Kd.int .i64).C w A3 x.f2.length x.f2) : k32.K w x [.int .i64 x.f0.f0, .int .i64 x.f0.f1, .int .i64 x.f1, .slice A3 x.f2.length c3, .int .i64 x.f3, .int .i64 x.f4.f0, .int .i64 x.f4.f1, .int .i64 x.f5.f0, .int .i64 x.f5.f1, .int .i64 x.f6.f0, .int .i64 x.f6.f1, .string x.f7, .string x.f8] := ⟨[.int .i64 x.f0.f0, .int .i64 x.f0.f1], [.int .i64 x.f1, .slice A3 x.f2.length c3, .int .i64 x.f3, .int .i64 x.f4.f0, .int .i64 x.f4.f1, .int .i64 x.f5.f0, .int .i64 x.f5.f1, .int .i64 x.f6.f0, .int .i64 x.f6.f1, .string x.f7, .string x.f8], rfl, (k30_mk w x.f0 ), ⟨[.int .i64 x.f1], [.slice A3 x.f2.length c3, .int .i64 x.f3, .int .i64 x.f4.f0, .int .i64 x.f4.f1, .int .i64 x.f5.f0, .int .i64 x.f5.f1, .int .i64 x.f6.f0, .int .i64 x.f6.f1, .string x.f7, .string x.f8], rfl, rfl, ⟨[.slice A3 x.f2.length c3], [.int .i64 x.f3, .int .i64 x.f4.f0, .int .i64 x.f4.f1, .int .i64 x.f5.f0, .int .i64 x.f5.f1, .int .i64 x.f6.f0, .int .i64 x.f6.f1, .string x.f7, .string x.f8], rfl, ⟨A3, c3, rfl, l3, g3⟩, ⟨[.int .i64 x.f3], [.int .i64 x.f4.f0, .int .i64 x.f4.f1, .int .i64 x.f5.f0, .int .i64 x.f5.f1, .int .i64 x.f6.f0, .int .i64 x.f6.f1, .string x.f7, .string x.f8], rfl, rfl, ⟨[.int .i64 x.f4.f0, .int .i64 x.f4.f1], [.int .i64 x.f5.f0, .int .i64 x.f5.f1, .int .i64 x.f6.f0, .int .i64 x.f6.f1, .string x.f7, .string x.f8], rfl, (k30_mk w x.f4 ), ⟨[.int .i64 x.f5.f0, .int .i64 x.f5.f1], [.int .i64 x.f6.f0, .int .i64 x.f6.f1, .string x.f7, .string x.f8], rfl, (k30_mk w x.f5 ), ⟨[.int .i64 x.f6.f0, .int .i64 x.f6.f1], [.string x.f7, .string x.f8], rfl, (k30_mk w x.f6 ), ⟨[.string x.f7], [.string x.f8], rfl, rfl, rfl⟩⟩⟩⟩⟩⟩⟩⟩
theorem k32_mkM (w : World) (base : Nat) (ok : Nat → Prop) (x : S32) {v3 : Value} (g3 : (Kd.int .i64).R 3 w base ok v3 x.f2) : k32.M w base ok x [.int .i64 x.f0.f0, .int .i64 x.f0.f1, .int .i64 x.f1, v3, .int .i64 x.f3, .int .i64 x.f4.f0, .int .i64 x.f4.f1, .int .i64 x.f5.f0, .int .i64 x.f5.f1, .int .i64 x.f6.f0, .int .i64 x.f6.f1, .string x.f7, .string x.f8] := ⟨[.int .i64 x.f0.f0, .int .i64 x.f0.f1], [.int .i64 x.f1, v3, .int .i64 x.f3, .int .i64 x.f4.f0, .int .i64 x.f4.f1, .int .i64 x.f5.f0, .int .i64 x.f5.f1, .int .i64 x.f6.f0, .int .i64 x.f6.f1, .string x.f7, .string x.f8], rfl, (k30_mkM w base ok x.f0 ), ⟨[.int .i64 x.f1], [v3, .int .i64 x.f3, .int .i64 x.f4.f0, .int .i64 x.f4.f1, .int .i64 x.f5.f0, .int .i64 x.f5.f1, .int .i64 x.f6.f0, .int .i64 x.f6.f1, .string x.f7, .string x.f8], rfl, rfl, ⟨[v3], [.int .i64 x.f3, .int .i64 x.f4.f0, .int .i64 x.f4.f1, .int .i64 x.f5.f0, .int .i64 x.f5.f1, .int .i64 x.f6.f0, .int .i64 x.f6.f1, .string x.f7, .string x.f8], rfl, ⟨v3, rfl, g3⟩, ⟨[.int .i64 x.f3], [.int .i64 x.f4.f0, .int .i64 x.f4.f1, .int .i64 x.f5.f0, .int .i64 x.f5.f1, .int .i64 x.f6.f0, .int .i64 x.f6.f1, .string x.f7, .string x.f8], rfl, rfl, ⟨[.int .i64 x.f4.f0, .int .i64 x.f4.f1], [.int .i64 x.f5.f0, .int .i64 x.f5.f1, .int .i64 x.f6.f0, .int .i64 x.f6.f1, .string x.f7, .string x.f8], rfl, (k30_mkM w base ok x.f4 ), ⟨[.int .i64 x.f5.f0, .int .i64 x.f5.f1], [.int .i64 x.f6.f0, .int .i64 x.f6.f1, .string x.f7, .string x.f8], rfl, (k30_mkM w base ok x.f5 ), ⟨[.int .i64 x.f6.f0, .int .i64 x.f6.f1], [.string x.f7, .string x.f8], rfl, (k30_mkM w base ok x.f6 ), ⟨[.string x.f7], [.string x.f8], rfl, rfl, rfl⟩⟩⟩⟩⟩⟩⟩⟩
theorem k32_openF {W : World} {ok : Nat → Prop} {x : S32} {cs : List Value} (h : Kd.FK k32 W ok x cs) : ∃ A3 c3, cs = [.int .i64 x.f0.f0, .int .i64 x.f0.f1, .int .i64 x.f1, .slice A3 x.f2.length c3, .int .i64 x.f3, .int .i64 x.f4.f0, .int .i64 x.f4.f1, .int .i64 x.f5.f0, .int .i64 x.f5.f1, .int .i64 x.f6.f0, .int .i64 x.f6.f1, .string x.f7, .string x.f8] ∧ x.f2.length ≤ c3 ∧ Kd.F (Kd.int .i64) W ok A3 x.f2.length x.f2 := by
 obtain ⟨A3, c3, rfl, l3, _⟩ := k32_open (Kd.FK_now h)
 exact ⟨A3, c3, rfl, l3, (fun W' hW => by obtain ⟨A3_, c3_, he, l3_, g3_⟩ := k32_open (h W' hW); injection (Option.some.inj (show some (Value.slice A3 x.f2.length c3) = some (Value.slice A3_ x.f2.length c3_) from congrArg (fun l => l[3]?) he)) with ha_ _ _; rw [ha_]; exact g3_)⟩
theorem k32_mkF (W : World) (ok : Nat → Prop) (x : S32) {A3 : Option Addr} {c3 : Nat} (l3 : x.f2.length ≤ c3) (g3 : Kd.F (Kd.int .i64) W ok A3 x.f2.length x.f2) : Kd.FK k32 W ok x [.int .i64 x.f0.f0, .int .i64 x.f0.f1, .int .i64 x.f1, .slice A3 x.f2.length c3, .int .i64 x.f3, .int .i64 x.f4.f0, .int .i64 x.f4.f1, .int .i64 x.f5.f0, .int .i64 x.f5.f1, .int .i64 x.f6.f0, .int .i64 x.f6.f1, .string x.f7, .string x.f8] := fun W2 hW => k32_mk W2 x l3 (g3 W2 hW)
def rd_T32 (xs : List S32) (i : Int) : S32 := xs.getD i.toNat z32
theorem at_T32 {w : World} {A : Option Addr} {n : Nat} {xs : List S32} (h : Kd.C k32 w A n xs) (i : Int) (h0 : 0 ≤ i) (h1 : i < n) : ∃ ad A3 c3, A = some ad ∧ w.cell? (ad.add (i.toNat * 13)) = some (.int .i64 (rd_T32 xs i).f0.f0) ∧ w.cell? ⟨(ad.add (i.toNat * 13)).block, (ad.add (i.toNat * 13)).off + 1, none⟩ = some (.int .i64 (rd_T32 xs i).f0.f1) ∧ w.cell? ⟨(ad.add (i.toNat * 13)).block, (ad.add (i.toNat * 13)).off + 2, none⟩ = some (.int .i64 (rd_T32 xs i).f1) ∧ w.cell? ⟨(ad.add (i.toNat * 13)).block, (ad.add (i.toNat * 13)).off + 3, none⟩ = some (.slice A3 (rd_T32 xs i).f2.length c3) ∧ w.cell? ⟨(ad.add (i.toNat * 13)).block, (ad.add (i.toNat * 13)).off + 4, none⟩ = some (.int .i64 (rd_T32 xs i).f3) ∧ w.cell? ⟨(ad.add (i.toNat * 13)).block, (ad.add (i.toNat * 13)).off + 5, none⟩ = some (.int .i64 (rd_T32 xs i).f4.f0) ∧ w.cell? ⟨(ad.add (i.toNat * 13)).block, (ad.add (i.toNat * 13)).off + 6, none⟩ = some (.int .i64 (rd_T32 xs i).f4.f1) ∧ w.cell? ⟨(ad.add (i.toNat * 13)).block, (ad.add (i.toNat * 13)).off + 7, none⟩ = some (.int .i64 (rd_T32 xs i).f5.f0) ∧ w.cell? ⟨(ad.add (i.toNat * 13)).block, (ad.add (i.toNat * 13)).off + 8, none⟩ = some (.int .i64 (rd_T32 xs i).f5.f1) ∧ w.cell? ⟨(ad.add (i.toNat * 13)).block, (ad.add (i.toNat * 13)).off + 9, none⟩ = some (.int .i64 (rd_T32 xs i).f6.f0) ∧ w.cell? ⟨(ad.add (i.toNat * 13)).block, (ad.add (i.toNat * 13)).off + 10, none⟩ = some (.int .i64 (rd_T32 xs i).f6.f1) ∧ w.cell? ⟨(ad.add (i.toNat * 13)).block, (ad.add (i.toNat * 13)).off + 11, none⟩ = some (.string (rd_T32 xs i).f7) ∧ w.cell? ⟨(ad.add (i.toNat * 13)).block, (ad.add (i.toNat * 13)).off + 12, none⟩ = some (.string (rd_T32 xs i).f8) ∧ (rd_T32 xs i).f2.length ≤ c3 ∧ (Kd.int .i64).C w A3 (rd_T32 xs i).f2.length (rd_T32 xs i).f2 := by
 obtain ⟨ad, c, e, _, hK, hc0⟩ := Kd.C_get h z32 i h0 h1
 have hc : ∀ j u, c[j]? = some u → w.cell? (ad.add (i.toNat * 13 + j)) = some u := hc0
 obtain ⟨A3, c3, rfl, l3, g3⟩ := k32_open hK
 exact ⟨ad, A3, c3, e, hc 0 _ rfl, by rw [← add_field _ _ 1 (by omega)]; exact hc 1 _ rfl, by rw [← add_field _ _ 2 (by omega)]; exact hc 2 _ rfl, by rw [← add_field _ _ 3 (by omega)]; exact hc 3 _ rfl, by rw [← add_field _ _ 4 (by omega)]; exact hc 4 _ rfl, by rw [← add_field _ _ 5 (by omega)]; exact hc 5 _ rfl, by rw [← add_field _ _ 6 (by omega)]; exact hc 6 _ rfl, by rw [← add_field _ _ 7 (by omega)]; exact hc 7 _ rfl, by rw [← add_field _ _ 8 (by omega)]; exact hc 8 _ rfl, by rw [← add_field _ _ 9 (by omega)]; exact hc 9 _ rfl, by rw [← add_field _ _ 10 (by omega)]; exact hc 10 _ rfl, by rw [← add_field _ _ 11 (by omega)]; exact hc 11 _ rfl, by rw [← add_field _ _ 12 (by omega)]; exact hc 12 _ rfl, l3, g3⟩
end Go.Proofs.Ytnopjjilpgekfaa.PCa
namespace Go.Proofs.Ytnopjjilpgekfaa.PCa
open Go.RowKit Go.Proofs.YtnopjjilpgekfaaW.PrintWords Go.Proofs.YtnopjjilpgekfaaW.PrintLast Go.Proofs.YtnopjjilpgekfaaW.PrintMore
set_option linter.unusedVariables false
set_option linter.unusedSimpArgs false
abbrev KeyP := Int × Int
def keyV (k : KeyP) : Value := .agg #[.int .i64 k.1, .int .i64 k.2]
theorem check_int (em : Bool) (n : Nat) (w : World) (a : Int) : (Instr.checkKey em (n + 1) 3 (.int .i64 a)).run Try.prog w = .ok () w := by
 unfold Instr.checkKey
 have hu := Try.underlying3
 go_simp
theorem check_key (em : Bool) (w : World) (k : KeyP) : (Instr.checkKey em 10000 76 (keyV k)).run Try.prog w = .ok () w := by
 unfold keyV
 rw [show (10000 : Nat) = 9999 + 1 from rfl]
 unfold Instr.checkKey
 have hu := Try.underlying76
 have h1 := fun w => check_int em 9998 w k.1
 have h2 := fun w => check_int em 9998 w k.2
 go_simp
theorem eqK76 (d : Nat) (w : World) (x0 y0 x1 y1 : Int) :
  (Op.equalIn (d + 2) 76 (.agg #[.int .i64 x0, .int .i64 x1]) (.agg #[.int .i64 y0, .int .i64 y1])).run Try.prog w = .ok (x0 == y0 && (x1 == y1)) w := by
 refine eqA_of Try.underlying76 (by kernel_rfl) ?_
 refine eqf_cons (by rfl) (by go_simp; rfl) (by go_simp; rfl) (by go_simp) ?_
 exact eqf_last (by rfl) (by go_simp; rfl) (by go_simp; rfl) (by go_simp)
def sameK (x y : KeyP) : Bool := x.1 == y.1 && (x.2 == y.2)
theorem sameK_iff {x y : KeyP} : sameK x y = true ↔ x = y := by
 cases x; cases y
 simp [sameK]
theorem equal_key (w : World) (x y : KeyP) : (Op.equal 76 (keyV x) (keyV y)).run Try.prog w = .ok (sameK x y) w :=
 eqK76 (Op.maxDepth - 2) w x.1 y.1 x.2 y.2
/-- The entries: each with its number and how often. -/
def entE (e : (Nat × KeyP) × Int) : MapEntry := { key := keyV e.1.2, val := .int .i64 e.2, born := e.1.1 }
def findP : List ((Nat × KeyP) × Int) → KeyP → Nat → Option (Nat × Value)
 | [], _, _ => none
 | e :: t, k, i => if sameK k e.1.2 = true then some (i, .int .i64 e.2) else findP t k (i + 1)
theorem ask_run (w : World) (k : KeyP) : ∀ (l : List ((Nat × KeyP) × Int)) (i : Nat), (Instr.findAsking 76 (keyV k) (l.map entE) i).run Try.prog w = .ok (findP l k i) w
 | [], i => by simp [Instr.findAsking, findP, Sem.run_pure]
 | e :: t, i => by
  rw [List.map_cons]
  unfold Instr.findAsking findP
  rw [Sem.run_bind, show (entE e).key = keyV e.1.2 from rfl, equal_key, Result.andThen_ok]
  cases sameK k e.1.2 with
  | true => simp [Sem.run_pure, entE]
  | false => simpa using ask_run w k t (i + 1)
theorem find_run (w : World) (k : KeyP) (l : List ((Nat × KeyP) × Int)) : (Instr.findKey 76 (keyV k) (l.map entE)).run Try.prog w = .ok (findP l k 0) w := by
 unfold Instr.findKey
 have hu := Try.underlying76
 cases l with
 | nil => simp [Instr.findNow, findP, go_sem, hu]
 | cons a t =>
  have h := ask_run w k (a :: t) 0
  rw [List.map_cons] at h ⊢
  simp only [Sem.run_bind]
  rw [show (underlying 76).run Try.prog w = .ok (TypeDesc.struct #[{ name := "replica", type := 3, offset := 0, embedded := false, tag := "", pkgPath := "topiary/causal", byteOffset := 0 }, { name := "seq", type := 3, offset := 1, embedded := false, tag := "", pkgPath := "topiary/causal", byteOffset := 8 }]) w from by simp [go_sem, hu], Result.andThen_ok]
  simp only [Instr.findNow, Instr.sameNow, keyV]
  exact h
/-- A map of one's own at block b. -/
def MapE (W : World) (b : Nat) (l : List ((Nat × KeyP) × Int)) (c : Nat) : Prop := W.heap[b]? = some (.map (l.map entE).toArray c)
def valP (l : List ((Nat × KeyP) × Int)) (k : KeyP) : Value := match findP l k 0 with | some (_, v) => v | none => .int .i64 0
theorem und_run (W : World) : (underlying 69).run Try.prog W = .ok (TypeDesc.map 76 3) W := by
 have hu := Try.underlying69
 simp [go_sem, hu]
theorem zero_run (W : World) : (zeroValue 3).run Try.prog W = .ok (.int .i64 0) W := by
 have hu := Try.underlying3
 go_simp
theorem get_run {W : World} {b c : Nat} {es : Array MapEntry} (h : W.heap[b]? = some (.map es c)) : (getObj b).run Try.prog W = .ok (.map es c) W := by simp [getObj, Sem.run, h]
theorem set_run {W : World} {b c : Nat} {es : Array MapEntry} {o' : Obj} (h : W.heap[b]? = some (.map es c)) : (setObj b o').run Try.prog W = .ok () (W.putObj b o') := by
 simp [setObj, Sem.run, h, World.putObj]
theorem look_run {W : World} {b c : Nat} {l : List ((Nat × KeyP) × Int)} (h : MapE W b l c) (k : KeyP) : (Instr.lookup 69 (.map (some b)) (keyV k) false).run Try.prog W = .ok (valP l k) W := by
 have e2 := get_run h
 have hf := find_run W k l
 have hc := fun em => check_key em W k
 unfold Instr.lookup valP
 simp only [Sem.run_bind, und_run, Result.andThen_ok, e2, Sem.run_pure, hc, hf]
 cases findP l k 0 with
 | none => simp [Sem.run_bind, zero_run, Sem.run_pure, Result.andThen_ok]
 | some r => simp [Sem.run_bind, Sem.run_pure, Result.andThen_ok]
theorem entry_run {W : World} {b c : Nat} {l : List ((Nat × KeyP) × Int)} (h : MapE W b l c) (k : KeyP) (hn : findP l k 0 = none) :
  (Instr.mapEntry 69 (.map (some b)) (keyV k)).run Try.prog W = .ok (.tuple #[.int .i64 0, .int .i64 (c : Int)]) (W.putObj b (.map ((l ++ [((c, k), 0)]).map entE).toArray (c + 1))) := by
 have e2 := get_run h
 have hf := find_run W k l
 rw [hn] at hf
 have hc := fun em => check_key em W k
 have hs := fun o' => set_run (o' := o') h
 unfold Instr.mapEntry
 simp only [Sem.run_bind, und_run, Result.andThen_ok, e2, Sem.run_pure, hc, hf, zero_run, hs]
 rw [List.map_append]
 simp [entE, goInt]
theorem modify_last_ {α : Type} {f : α → α} {a : α} : ∀ (l : List α), (l ++ [a]).modify l.length f = l ++ [f a]
 | [] => rfl
 | b :: l => by simp only [List.cons_append, List.length_cons, List.modify_succ_cons, modify_last_ l]
theorem store_run {W : World} {b c c' : Nat} {l : List ((Nat × KeyP) × Int)} (k : KeyP) (v : Int) (hb : ∀ e ∈ l, e.1.1 < c) (h : MapE W b (l ++ [((c, k), 0)]) c') :
  (Instr.entryStore 69 (.map (some b)) (.int .i64 (c : Int)) (.int .i64 v)).run Try.prog W = .ok () (W.putObj b (.map ((l ++ [((c, k), v)]).map entE).toArray c')) := by
 have e2 := get_run h
 have hs := fun o' => set_run (o' := o') h
 have hi : ((l ++ [((c, k), (0 : Int))]).map entE).toArray.findIdx? (fun e => (e.born : Int) == (c : Int)) = some (l.map entE).length := by
  rw [List.findIdx?_toArray, List.map_append, List.findIdx?_append]
  have h1 : (l.map entE).findIdx? (fun e => (e.born : Int) == (c : Int)) = none := by
   rw [List.findIdx?_eq_none_iff]
   intro e he
   obtain ⟨x, hx, rfl⟩ := List.mem_map.1 he
   have := hb x hx
   show ((x.1.1 : Int) == (c : Int)) = false
   simp only [beq_eq_false_iff_ne, ne_eq]
   omega
  rw [h1]
  simp [entE]
 have hm : ((l ++ [((c, k), (0 : Int))]).map entE).toArray.modify (l.map entE).length (fun e => { e with val := .int .i64 v }) = ((l ++ [((c, k), v)]).map entE).toArray := by
  rw [List.map_append, List.map_append, List.modify_toArray, List.map_cons, List.map_nil, modify_last_ (l.map entE)]
  rfl
 unfold Instr.entryStore
 have ha : (asInt (.int .i64 (c : Int))).run Try.prog W = .ok (c : Int) W := by simp [asInt, asIntOf, Sem.run_bind, Sem.run_pure, Result.andThen]
 simp only [Sem.run_bind, Result.andThen_ok, e2, ha, hi, hs]
 rw [hm]
theorem map_erase {α β : Type} (f : α → β) : ∀ (l : List α) (i : Nat), (l.eraseIdx i).map f = (l.map f).eraseIdx i
 | [], _ => rfl
 | _ :: _, 0 => rfl
 | a :: t, i + 1 => by simp [map_erase f t i]
theorem delete_run {W : World} {b c : Nat} {l : List ((Nat × KeyP) × Int)} (h : MapE W b l c) (k : KeyP) (ty : TypeId) :
  (Builtin.delete_ #[69, 76] ty #[.map (some b), keyV k]).run Try.prog W = .ok (.tuple #[]) (W.putObj b (.map ((match findP l k 0 with | some (i, _) => l.eraseIdx i | none => l).map entE).toArray c)) := by
 have e2 := get_run h
 have hf := find_run W k l
 have hc := fun em => check_key em W k
 have hs := fun o' => set_run (o' := o') h
 unfold Builtin.delete_
 have g0 : (#[69, 76] : Array TypeId)[0]? = some 69 := rfl
 have g1 : (#[.map (some b), keyV k] : Array Value)[0]? = some (.map (some b)) := rfl
 have g2 : (#[.map (some b), keyV k] : Array Value)[1]? = some (keyV k) := rfl
 simp only [g0, g1, g2, Sem.run_bind, und_run, Result.andThen_ok, e2, hc, hf]
 cases hq : findP l k 0 with
 | none => simp [hs, Sem.run_bind, Sem.run_pure, Result.andThen_ok]
 | some r =>
  obtain ⟨i, v⟩ := r
  simp [hs, Sem.run_bind, Sem.run_pure, Result.andThen_ok, map_erase]
end Go.Proofs.Ytnopjjilpgekfaa.PCa
namespace Go.Proofs.Ytnopjjilpgekfaa.PCa
open Go.RowKit Go.Proofs.YtnopjjilpgekfaaW.PrintWords Go.Proofs.YtnopjjilpgekfaaW.PrintLast Go.Proofs.YtnopjjilpgekfaaW.PrintMore
attribute [local go_sem] max2_int min2_int max_two min_two max_three min_three max_four min_four
set_option linter.unusedVariables false
set_option linter.unusedSimpArgs false
def keyOf (x : S32) : KeyP := (x.f0.f1, x.f1)
/-- The map tells of each held change that it is held once. -/
structure MapOk (es : List ((Nat × KeyP) × Int)) (c : Nat) (l : List S32) : Prop where
 born : ∀ e ∈ es, e.1.1 < c
 ones : ∀ e ∈ es, e.2 = 1
 nodup : (es.map (·.1.2)).Nodup
 once : (l.map keyOf).Nodup
 mem : ∀ k, k ∈ es.map (·.1.2) ↔ k ∈ l.map keyOf
 bn : (es.map (·.1.1)).Nodup
/-- The buffer at block g: P are its blocks. -/
def BufI (w : World) (base : Nat) (P : Nat → Prop) (g : Nat) (room : Int) (l : List S32) : Prop :=
 ∃ mb es c A ch, w.heap[g]? = some (.cells #[.int .i64 room, .slice A l.length ch, .map (some mb)] 71 (0, 0)) ∧ base ≤ g ∧ P g ∧ base ≤ mb ∧ P mb ∧ MapE w mb es c ∧ MapOk es c l ∧
  Kd.S k32 32 w base (fun k => P k ∧ k ≠ g) (.slice A l.length ch) l
theorem findP_none {es : List ((Nat × KeyP) × Int)} {k : KeyP} : ∀ {i : Nat}, k ∉ es.map (·.1.2) → findP es k i = none := by
 induction es with
 | nil => intro i _; rfl
 | cons e t ih =>
  intro i h
  simp only [List.map_cons, List.mem_cons, not_or] at h
  unfold findP
  rw [if_neg (fun hs => h.1 (sameK_iff.1 hs))]
  exact ih h.2
theorem findP_some {es : List ((Nat × KeyP) × Int)} {k : KeyP} : ∀ {i : Nat}, k ∈ es.map (·.1.2) → ∃ (j : Nat) (e : (Nat × KeyP) × Int), es[j]? = some e ∧ e.1.2 = k ∧ findP es k i = some (i + j, .int .i64 e.2) := by
 induction es with
 | nil => intro i h; cases h
 | cons e t ih =>
  intro i h
  unfold findP
  by_cases hs : sameK k e.1.2 = true
  ·exact ⟨0, e, rfl, (sameK_iff.1 hs).symm, by rw [if_pos hs]; rfl⟩
  ·rw [if_neg hs]
   have hk : k ∈ t.map (·.1.2) := by
    rcases List.mem_cons.1 h with h | h
    ·exact absurd (sameK_iff.2 h) hs
    ·exact h
   obtain ⟨j, e', h1, h2, h3⟩ := ih (i := i + 1) hk
   exact ⟨j + 1, e', h1, h2, by rw [h3, show i + 1 + j = i + (j + 1) from by omega]⟩
/-- How often: once, or not at all. -/
theorem MapOk.val {es : List ((Nat × KeyP) × Int)} {c : Nat} {l : List S32} (h : MapOk es c l) (k : KeyP) : valP es k = .int .i64 (if k ∈ l.map keyOf then 1 else 0) := by
 unfold valP
 by_cases hk : k ∈ l.map keyOf
 ·obtain ⟨j, e, h1, h2, h3⟩ := findP_some (i := 0) ((h.mem k).2 hk)
  rw [h3, if_pos hk, ← h.ones e (List.mem_of_getElem? h1)]
 ·rw [findP_none (fun hm => hk ((h.mem k).1 hm)), if_neg hk]
theorem MapOk.nil : MapOk [] 0 [] := ⟨(fun _ h => nomatch h), (fun _ h => nomatch h), List.nodup_nil, List.nodup_nil, fun _ => Iff.rfl, List.nodup_nil⟩
theorem MapOk.more {es : List ((Nat × KeyP) × Int)} {c : Nat} {l l' : List S32} (h : MapOk es c l) {x : S32} (hx : keyOf x ∉ l.map keyOf) (hp : l'.Perm (x :: l)) : MapOk (es ++ [((c, keyOf x), 1)]) (c + 1) l' := by
 have hq := hp.map keyOf
 refine ⟨fun e he => ?_, fun e he => ?_, ?_, ?_, fun k => ?_, ?_⟩
 ·rcases List.mem_append.1 he with he | he
  ·exact Nat.lt_succ_of_lt (h.born e he)
  ·rw [List.mem_singleton.1 he]; exact Nat.lt_succ_self _
 ·rcases List.mem_append.1 he with he | he
  ·exact h.ones e he
  ·rw [List.mem_singleton.1 he]
 ·rw [List.map_append]
  refine List.nodup_append.2 ⟨h.nodup, by simp, fun a ha b hb => ?_⟩
  simp only [List.map_cons, List.map_nil, List.mem_singleton] at hb
  subst hb
  intro e
  exact hx ((h.mem _).1 (e ▸ ha))
 ·exact hq.nodup_iff.2 (by rw [List.map_cons]; exact List.nodup_cons.2 ⟨hx, h.once⟩)
 ·have e1 : k ∈ (es ++ [((c, keyOf x), (1 : Int))]).map (·.1.2) ↔ k ∈ es.map (·.1.2) ∨ k = keyOf x := by
   rw [List.map_append, List.mem_append]
   exact or_congr Iff.rfl List.mem_singleton
  have e2 : k ∈ (x :: l).map keyOf ↔ k = keyOf x ∨ k ∈ l.map keyOf := List.mem_cons
  rw [hq.mem_iff, e1, e2, h.mem k]
  exact or_comm
 ·rw [List.map_append]
  refine List.nodup_append.2 ⟨h.bn, by simp, fun a ha b hb => ?_⟩
  simp only [List.map_cons, List.map_nil, List.mem_singleton] at hb
  subst hb
  obtain ⟨e, he, rfl⟩ := List.mem_map.1 ha
  exact Nat.ne_of_lt (h.born e he)
theorem len_calls {w : World} {base : Nat} {P : Nat → Prop} {g : Nat} {room : Int} {l : List S32} (h : BufI w base P g room l) :
  Calls Try.prog 16 #[.pointer (some ⟨g, 0, none⟩)] w fun e w' => e = .returned (.int .i64 (l.length : Int)) ∧ w' = w := by
 obtain ⟨mb, es, c, A, ch, h0, -⟩ := h
 have e1 : w.cell? ⟨g, 1, none⟩ = some (.slice A l.length ch) := (blk_cell h0 1).trans rfl
 go_enter Try.func16, Try.ntmps16
 go_wp2
 go_ret
 exact ⟨rfl, rfl⟩
theorem room_calls {w : World} {base : Nat} {P : Nat → Prop} {g : Nat} {room : Int} {l : List S32} (h : BufI w base P g room l) :
  Calls Try.prog 40 #[.pointer (some ⟨g, 0, none⟩)] w fun e w' => e = .returned (.int .i64 room) ∧ w' = w := by
 obtain ⟨mb, es, c, A, ch, h0, -⟩ := h
 have e1 : w.cell? ⟨g, 0, none⟩ = some (.int .i64 room) := (blk_cell h0 0).trans rfl
 go_enter Try.func40, Try.ntmps40
 go_wp2
 go_ret
 exact ⟨rfl, rfl⟩
set_option maxHeartbeats 4000000 in
theorem new_calls (w : World) (room : Int) (h0 : 0 ≤ room) (h1 : room ≤ 256) :
  Calls Try.prog 11 #[.int .i64 room] w fun e w' => ∃ g, e = .returned (.tuple #[.pointer (some ⟨g, 0, none⟩), .int .i64 0]) ∧ BufI w' w.heap.size (fun k => w.heap.size ≤ k) g room [] ∧ Below w.heap.size w w' := by
 have c1 : decide (room < 0) = false := decide_eq_false (by omega)
 have c2 : decide (room > 256) = false := decide_eq_false (by omega)
 clear h0 h1
 have hu := Try.underlying71
 have hu2 := Try.underlying69
 have hmm := @run_makeMap Try.prog
 go_enter Try.func11, Try.ntmps11
 go_wp2
 go_ret2
 refine ⟨w.heap.size + 1, rfl, ⟨w.heap.size, [], 0, none, 0, ?_, Nat.le_succ _, Nat.le_succ _, Nat.le_refl _, Nat.le_refl _, ?_, MapOk.nil, Kd.S_nil _ _ _ _ _⟩, below_alloc (below_alloc (Below.refl _ _) _) _⟩
 ·show (((w.heap.push _).push _)[w.heap.size + 1]?) = _
  rw [show w.heap.size + 1 = (w.heap.push (.map #[] 0)).size from (Array.size_push _).symm, Array.getElem?_push_size]
  rfl
 ·show (((w.heap.push _).push _)[w.heap.size]?) = _
  rw [Array.getElem?_push_lt (by rw [Array.size_push]; exact Nat.lt_succ_self _), Array.getElem_push_eq]
  rfl
theorem new_none (w : World) (room : Int) (h : room < 0 ∨ 256 < room) :
  Calls Try.prog 11 #[.int .i64 room] w fun e w' => e = .returned (.tuple #[.pointer none, .int .i64 1]) ∧ w' = w := by
 by_cases h0 : room < 0
 ·have c1 : decide (room < 0) = true := decide_eq_true h0
  clear h0 h
  go_enter Try.func11, Try.ntmps11
  go_wp2
  go_ret2
  exact ⟨rfl, rfl⟩
 ·have c1 : decide (room < 0) = false := decide_eq_false h0
  have c2 : decide (room > 256) = true := decide_eq_true (by omega)
  clear h0 h
  go_enter Try.func11, Try.ntmps11
  go_wp2
  go_ret2
  exact ⟨rfl, rfl⟩
end Go.Proofs.Ytnopjjilpgekfaa.PCa
namespace Go.Proofs.Ytnopjjilpgekfaa.PCa
open Go.RowKit Go.Proofs.YtnopjjilpgekfaaW.PrintWords Go.Proofs.YtnopjjilpgekfaaW.PrintLast Go.Proofs.YtnopjjilpgekfaaW.PrintMore
set_option linter.unusedVariables false
set_option linter.unusedSimpArgs false
/-- The blocks S may have been written, new ones laid; all else is as it was. -/
structure Kept (w W : World) (S : Nat → Prop) : Prop where
 size : w.heap.size ≤ W.heap.size
 block : ∀ i, i < w.heap.size → ¬ S i → W.heap[i]? = w.heap[i]?
 os : W.os = w.os
 tape : W.tape = w.tape
 output : W.output = w.output
section
variable {w W W2 : World} {S S2 S' : Nat → Prop}
theorem Kept.old (h : Kept w W S) : Go.Proofs.YtnopjjilpgekfaaW.PrintWords.Kept w W S := ⟨h.size, h.block⟩
theorem Kept.refl (w : World) (S : Nat → Prop) : Kept w w S := ⟨Nat.le_refl _, fun _ _ _ => rfl, rfl, rfl, rfl⟩
theorem Kept.of_below (h : Below w.heap.size w W) (S : Nat → Prop) : Kept w W S := ⟨h.size, fun i hi _ => h.block i hi, h.os, h.tape, h.output⟩
theorem Kept.mono (h : Kept w W S) (hs : ∀ k, S k → S' k) : Kept w W S' := ⟨h.size, fun i hi hn => h.block i hi (fun hk => hn (hs i hk)), h.os, h.tape, h.output⟩
theorem Kept.then_ (h : Kept w W S) (k : Kept W W2 S2) (hs : ∀ k, S2 k → S k ∨ w.heap.size ≤ k) : Kept w W2 S :=
 ⟨Nat.le_trans h.size k.size, fun i hi hn => (k.block i (Nat.lt_of_lt_of_le hi h.size) (fun h2 => (hs i h2).elim hn (fun h3 => by omega))).trans (h.block i hi hn), k.os.trans h.os, k.tape.trans h.tape, k.output.trans h.output⟩
theorem Kept.of_grown {row : Option Nat} (hg : W.grownBy W2 row) (h : Kept w W S) (hr : ∀ k, row = some k → S k ∨ w.heap.size ≤ k) : Kept w W2 S :=
 h.then_ (S2 := fun k => row = some k) ⟨hg.size, fun i hi hn => hg.block i hi (fun he => hn he.symm), hg.os, hg.tape, hg.output⟩ hr
theorem Kept.below (h : Kept w W S) (hb : Below W.heap.size W W2) : Kept w W2 S := h.then_ (Kept.of_below hb (fun _ => False)) (fun _ hk => hk.elim)
theorem Kept.alloc (h : Kept w W S) (o : Obj) : Kept w (W.alloc o) S := h.below (below_alloc (Below.refl _ _) o)
theorem Kept.drew (h : Kept w W S) : Kept w W.drew S := ⟨h.size, h.block, h.os, h.tape, h.output⟩
theorem Kept.setCell (h : Kept w W S) {p : Addr} (hp : S p.block ∨ w.heap.size ≤ p.block) (u : Value) : Kept w (W.setCell p u) S :=
 h.then_ (S2 := fun k => k = p.block) ⟨by simp [World.setCell], fun i _ hn => Below.heap_setCell W p u i hn, rfl, rfl, rfl⟩ (fun k hk => by rw [hk]; exact hp)
/-- Where nothing of old was written. -/
theorem Kept.to_below (h : Kept w W S) (hS : ∀ k, S k → w.heap.size ≤ k) : Below w.heap.size w W := ⟨h.os, h.tape, h.output, h.size, fun k hk => h.block k hk (fun hs => by have := hS k hs; omega)⟩
theorem Kd.R_kept {α : Type} {d : Kd α} {e base : Nat} {ok : Nat → Prop} {v : Value} {xs : List α} (h : d.R e W base ok v xs) (hk : Kept W W2 S) (hne : ∀ k, ok k → ¬ S k) : d.R e W2 base ok v xs := Go.Proofs.YtnopjjilpgekfaaW.PrintWords.Kd.R_kept h hk.old hne
theorem Kd.V_kept {α : Type} {d : Kd α} {e base : Nat} {ok : Nat → Prop} {v : Value} {xs : List α} (h : Kd.V d e W base ok v xs) (hk : Kept W W2 S) (hne : ∀ k, ok k → ¬ S k) : Kd.V d e W2 base ok v xs := Go.Proofs.YtnopjjilpgekfaaW.PrintWords.Kd.V_kept h hk.old hne
end
section
variable {α : Type} {d : Kd α} {e : Nat} {w w1 : World} {base : Nat} {ok ok' okr : Nat → Prop} {v v1 : Value} {xs ys : List α} {rows : List (List Value)}
/-- A row as its elements' cells. -/
theorem R_rows (h : d.R e w base ok v xs) : ∃ rows : List (List Value), rows.length = xs.length ∧ (Kd.raw d.sz).R e w base (fun k => some k = v.ownBlock) v rows ∧
  ∀ (j : Nat) (p : α) (c : List Value), xs[j]? = some p → rows[j]? = some c → d.M w base (fun k => ok k ∧ some k ≠ v.ownBlock) p c := by
 obtain ⟨h0, inner, ho, hr⟩ := h
 have hat : ∀ j, j < xs.length → ((List.range xs.length).map fun j => (inner.drop (j * d.sz)).take d.sz)[j]? = some ((inner.drop (j * d.sz)).take d.sz) := fun j hj => by
  rw [List.getElem?_map, List.getElem?_eq_getElem (by rw [List.length_range]; exact hj), List.getElem_range]
  rfl
 refine ⟨(List.range xs.length).map fun j => (inner.drop (j * d.sz)).take d.sz, by rw [List.length_map, List.length_range], ⟨fun k hk => hk.symm, inner, by rw [List.length_map, List.length_range]; exact ho, by rw [List.length_map, List.length_range]; exact hr.1, fun j p hj => ?_⟩, fun j p c hp hc => ?_⟩
 ·have hl : j < xs.length := by
   have := (List.getElem?_eq_some_iff.1 hj).1
   rwa [List.length_map, List.length_range] at this
  rw [hat j hl] at hj
  injection hj with hj
  subst hj
  have hm := hr.2 j _ (List.getElem?_eq_getElem hl)
  exact ⟨rfl, d.K_len (d.K_of_M hm), d.K_one (d.K_of_M hm)⟩
 ·rw [hat j (List.getElem?_eq_some_iff.1 hp).1] at hc
  injection hc with hc
  subst hc
  exact hr.2 j p hp
theorem rows_R (h : (Kd.raw d.sz).R e w base okr v rows) (hl : rows.length = ys.length) (hok : ∀ k, v.ownBlock = some k → ok k)
  (hM : ∀ (j : Nat) (p : α) (c : List Value), ys[j]? = some p → rows[j]? = some c → d.M w base (fun k => ok k ∧ some k ≠ v.ownBlock) p c) : d.R e w base ok v ys := by
 obtain ⟨_, inner, ho, hr⟩ := h
 refine ⟨hok, inner, by rw [← hl]; exact ho, by rw [← hl]; exact hr.1, fun j p hp => ?_⟩
 have hj : j < rows.length := by rw [hl]; exact (List.getElem?_eq_some_iff.1 hp).1
 have hc := hr.2 j _ (List.getElem?_eq_getElem hj)
 have := hM j p _ hp (List.getElem?_eq_getElem hj)
 rw [← hc.1] at this
 exact this
/-- A list with tags: the tags tell the owner. -/
theorem S_of_tags {f : Nat → Nat} {zs : List (α × Nat)} (h : (Kd.tag f d).R e w base ok v zs) (hn : (zs.map Prod.snd).Nodup) : Kd.S d e w base ok v (zs.map Prod.fst) := by
 refine ⟨fun k => (zs.map Prod.snd).idxOf (f k), ?_⟩
 obtain ⟨rows, hl, hr, hM⟩ := R_rows h
 refine rows_R (ok := ok) hr (by rw [List.length_zipIdx, List.length_map, hl]) h.1 (fun j p c hp hc => ?_)
 rw [List.getElem?_zipIdx, Nat.zero_add, List.getElem?_map] at hp
 cases hz : zs[j]? with
 | none => rw [hz] at hp; cases hp
 | some z =>
  rw [hz] at hp
  injection hp with hp
  subst hp
  have hj : j < zs.length := (List.getElem?_eq_some_iff.1 hz).1
  have hz' : zs[j] = z := (List.getElem?_eq_some_iff.1 hz).2
  have hm := hM j z c hz hc
  refine d.M_mono (fun k hk => ⟨hk.1, ?_⟩) hm
  show (zs.map Prod.snd).idxOf (f k) = j
  rw [hk.2, ← hz']
  have hjm : j < (zs.map Prod.snd).length := by rw [List.length_map]; exact hj
  have : (zs.map Prod.snd)[j] = zs[j].2 := List.getElem_map _
  rw [← this]
  exact List.Nodup.idxOf_getElem hn j hjm
theorem zip_nodup (xs : List α) (n : Nat) : ((xs.zipIdx n).map Prod.snd).Nodup := by
 rw [List.zipIdx_map_snd]
 exact List.nodup_range'
end
end Go.Proofs.Ytnopjjilpgekfaa.PCa
namespace Go.Proofs.Ytnopjjilpgekfaa.PCa
open Go.RowKit Go.Proofs.YtnopjjilpgekfaaW.PrintWords Go.Proofs.YtnopjjilpgekfaaW.PrintLast Go.Proofs.YtnopjjilpgekfaaW.PrintMore
attribute [local go_sem] max2_int min2_int max_two min_two max_three min_three max_four min_four
set_option linter.unusedVariables false
set_option linter.unusedSimpArgs false
theorem eqA30 (d : Nat) (w : World) (x0 y0 : Int) (x1 y1 : Int) :
  (Op.equalIn (d + 2) 30 (.agg #[.int .i64 x0, .int .i64 x1]) (.agg #[.int .i64 y0, .int .i64 y1])).run Try.prog w = .ok (x0 == y0 && (x1 == y1)) w := by
 refine eqA_of Try.underlying30 (by kernel_rfl) ?_
 refine eqf_cons (by rfl) (by go_simp; rfl) (by go_simp; rfl) (by go_simp) ?_
 exact eqf_last (by rfl) (by go_simp; rfl) (by go_simp; rfl) (by go_simp)
end Go.Proofs.Ytnopjjilpgekfaa.PCa
namespace Go.Proofs.Ytnopjjilpgekfaa.PCa
open Go.RowKit Go.Proofs.YtnopjjilpgekfaaW.PrintWords Go.Proofs.YtnopjjilpgekfaaW.PrintLast Go.Proofs.YtnopjjilpgekfaaW.PrintMore
attribute [local go_sem] max2_int min2_int max_two min_two max_three min_three max_four min_four
set_option linter.unusedVariables false
set_option linter.unusedSimpArgs false
attribute [local go_sem high] eqA30
def ident_Compare.f (a0_0 : Int) (a0_1 : Int) (a1_0 : Int) (a1_1 : Int) : Option (Int) := if (a0_0 == a1_0 && (a0_1 == a1_1)) = true then (some 0) else (if a0_0 < a1_0 then (some (-1)) else (if a0_0 = a1_0 then (if a0_1 < a1_1 then (some (-1)) else (some 1)) else (some 1)))
set_option maxHeartbeats 8000000 in
set_option maxRecDepth 100000 in
theorem ident_Compare.calls (a0_0 : Int) (a0_1 : Int) (a1_0 : Int) (a1_1 : Int) (r : Int) (w : World) (h : ident_Compare.f a0_0 a0_1 a1_0 a1_1 = some r) :
  Calls Try.prog 67 #[.agg #[.int .i64 a0_0, .int .i64 a0_1], .agg #[.int .i64 a1_0, .int .i64 a1_1]] w fun e w' => e = .returned (.int .i64 r) ∧ Below w.heap.size w w' := by
 have hu30 := Try.underlying30
 have HB := Aside0.mk (Below.refl w.heap.size w)
 have H : (if (a0_0 == a1_0 && (a0_1 == a1_1)) = true then (some 0) else (if a0_0 < a1_0 then (some (-1)) else (if a0_0 = a1_0 then (if a0_1 < a1_1 then (some (-1)) else (some 1)) else (some 1)))) = some r := h
 clear h
 by_cases c3 : (a0_0 == a1_0 && (a0_1 == a1_1)) = true
 ·rw [if_pos c3] at H
  have c3b0 : (a0_0 == a1_0 && (a0_1 == a1_1)) = true := c3
  (try (have c3b1 : decide (a0_0 = a1_0 && (a0_1 == a1_1)) = true := by simpa using c3))
  (try (have c3b2 : (a0_0 == a1_0 && (a0_1 == a1_1)) = true := by simpa using c3))
  clear c3
  obtain rfl := Option.some.inj H
  go_enter Try.func67, Try.ntmps67
  go_wp2_with (first | ((with_reducible refine gate_dst (N := 2) rfl ?_); refine box_event ?hg (N := 2) ?hd (cs := #[.int .i64 a0_0, .int .i64 a0_1]) (t := 30) ?hr ?_; (case hd => rfl); (case hg => rfl); (case hr => first | (go_simp; done) | (go_simp; rfl)); intro gb334 hg w4 hbox hb; have n0_ := Aside0.mk (below_step (by repeat (first | (with_reducible first | exact HB.out | apply below_alloc | apply pw_below_drewN | apply below_drew1) | exact HB.out)) hb); have n1_ := Aside0.mk (hbox); have n2_ := Aside0.mk ((by rw [hg]; exact (below_size (by repeat (first | (with_reducible first | exact HB.out | apply below_alloc | apply pw_below_drewN | apply below_drew1) | exact HB.out))) : w.heap.size ≤ gb334)); have n3_ := Aside0.mk ((by rw [hg]; exact (below_size (by repeat (first | (with_reducible first | exact HB.out | apply below_alloc | apply pw_below_drewN | apply below_drew1) | exact HB.out))) : w.heap.size ≤ gb334)); clear HB; have HB := n0_; have BK334 := n1_; have GW334 := n2_; have GE334 := n3_; clear n0_ n1_ n2_ n3_; clear hb hbox hg) | ((with_reducible refine gate_dst (N := 3) rfl ?_); refine box_event ?hg (N := 3) ?hd (cs := #[.int .i64 a1_0, .int .i64 a1_1]) (t := 30) ?hr ?_; (case hd => rfl); (case hg => rfl); (case hr => first | (go_simp; done) | (go_simp; rfl)); intro gb335 hg w5 hbox hb; have n0_ := Aside0.mk (blk_below (g := gb334) (o := .cells #[.int .i64 a0_0, .int .i64 a0_1] 30 (0, 0)) (by (with_reducible repeat (first | refine blk_drewN ?_ _ | refine blk_drew ?_ | refine blk_alloc ?_ _)); exact BK334.out) hb); have n1_ := Aside0.mk (below_step (by repeat (first | (with_reducible first | exact HB.out | apply below_alloc | apply pw_below_drewN | apply below_drew1 | refine below_set ?_ GE334.out) | exact HB.out)) hb); have n2_ := Aside0.mk (hbox); have n3_ := Aside0.mk ((by rw [hg]; exact (below_size (by repeat (first | (with_reducible first | exact HB.out | apply below_alloc | apply pw_below_drewN | apply below_drew1 | refine below_set ?_ GE334.out) | exact HB.out))) : w.heap.size ≤ gb335)); have n4_ := Aside0.mk ((by rw [hg]; exact (below_size (by repeat (first | (with_reducible first | exact HB.out | apply below_alloc | apply pw_below_drewN | apply below_drew1 | refine below_set ?_ GE334.out) | exact HB.out))) : w.heap.size ≤ gb335)); have n5_ := Aside0.mk ((by rw [hg]; exact Nat.ne_of_lt (blk_lt (g := gb334) (o := .cells #[.int .i64 a0_0, .int .i64 a0_1] 30 (0, 0)) (by (with_reducible repeat (first | refine blk_drewN ?_ _ | refine blk_drew ?_ | refine blk_alloc ?_ _)); exact BK334.out)) : gb334 ≠ gb335)); have n6_ := Aside0.mk ((by rw [hg]; exact Nat.ne_of_gt (blk_lt (g := gb334) (o := .cells #[.int .i64 a0_0, .int .i64 a0_1] 30 (0, 0)) (by (with_reducible repeat (first | refine blk_drewN ?_ _ | refine blk_drew ?_ | refine blk_alloc ?_ _)); exact BK334.out)) : gb335 ≠ gb334)); clear BK334; clear HB; have BK334 := n0_; have HB := n1_; have BK335 := n2_; have GW335 := n3_; have GE335 := n4_; have NB334_335 := n5_; have NB335_334 := n6_; clear n0_ n1_ n2_ n3_ n4_ n5_ n6_; clear hb hbox hg; have hnb6 := NB334_335.out; have hnc6 := NB335_334.out; have hcz7_0 : w5.cell? ⟨gb334, 0, none⟩ = some (.int .i64 a0_0) := (blk_cell BK334.out 0).trans rfl; have hcz7_1 : w5.cell? ⟨gb334, 1, none⟩ = some (.int .i64 a0_1) := (blk_cell BK334.out 1).trans rfl; have hfz7_0 := blk_frozen BK334.out 0; have hfz7_1 := blk_frozen BK334.out 1; have hcz8_0 : w5.cell? ⟨gb335, 0, none⟩ = some (.int .i64 a1_0) := (blk_cell BK335.out 0).trans rfl; have hcz8_1 : w5.cell? ⟨gb335, 1, none⟩ = some (.int .i64 a1_1) := (blk_cell BK335.out 1).trans rfl; have hfz8_0 := blk_frozen BK335.out 0; have hfz8_1 := blk_frozen BK335.out 1))
  go_ret
  exact ⟨by first | rfl | (simp [errW_none, errW_some] <;> rfl) | (simp [*, errW_none, errW_some] <;> rfl), by repeat (first | (with_reducible first | exact HB.out | apply below_alloc | apply pw_below_drewN | apply below_drew1 | refine below_set ?_ GE334.out | refine below_set ?_ GE335.out) | exact HB.out)⟩
 ·rw [if_neg c3] at H
  have c3b0 : (a0_0 == a1_0 && (a0_1 == a1_1)) = false := by simpa using c3
  (try (have c3b1 : decide (a0_0 = a1_0 && (a0_1 == a1_1)) = false := by simpa using c3))
  (try (have c3b2 : (a0_0 == a1_0 && (a0_1 == a1_1)) = false := by simpa using c3))
  (try (have c3b3 : ¬ (a0_0 = a1_0 && (a0_1 == a1_1)) := by simpa using c3))
  clear c3
  by_cases c9 : a0_0 < a1_0
  ·rw [if_pos c9] at H
   have c9b0 : decide (a0_0 < a1_0) = true := decide_eq_true c9
   clear c9
   obtain rfl := Option.some.inj H
   go_enter Try.func67, Try.ntmps67
   go_wp2_with (first | ((with_reducible refine gate_dst (N := 2) rfl ?_); refine box_event ?hg (N := 2) ?hd (cs := #[.int .i64 a0_0, .int .i64 a0_1]) (t := 30) ?hr ?_; (case hd => rfl); (case hg => rfl); (case hr => first | (go_simp; done) | (go_simp; rfl)); intro gb334 hg w10 hbox hb; have n0_ := Aside0.mk (below_step (by repeat (first | (with_reducible first | exact HB.out | apply below_alloc | apply pw_below_drewN | apply below_drew1) | exact HB.out)) hb); have n1_ := Aside0.mk (hbox); have n2_ := Aside0.mk ((by rw [hg]; exact (below_size (by repeat (first | (with_reducible first | exact HB.out | apply below_alloc | apply pw_below_drewN | apply below_drew1) | exact HB.out))) : w.heap.size ≤ gb334)); have n3_ := Aside0.mk ((by rw [hg]; exact (below_size (by repeat (first | (with_reducible first | exact HB.out | apply below_alloc | apply pw_below_drewN | apply below_drew1) | exact HB.out))) : w.heap.size ≤ gb334)); clear HB; have HB := n0_; have BK334 := n1_; have GW334 := n2_; have GE334 := n3_; clear n0_ n1_ n2_ n3_; clear hb hbox hg) | ((with_reducible refine gate_dst (N := 3) rfl ?_); refine box_event ?hg (N := 3) ?hd (cs := #[.int .i64 a1_0, .int .i64 a1_1]) (t := 30) ?hr ?_; (case hd => rfl); (case hg => rfl); (case hr => first | (go_simp; done) | (go_simp; rfl)); intro gb335 hg w11 hbox hb; have n0_ := Aside0.mk (blk_below (g := gb334) (o := .cells #[.int .i64 a0_0, .int .i64 a0_1] 30 (0, 0)) (by (with_reducible repeat (first | refine blk_drewN ?_ _ | refine blk_drew ?_ | refine blk_alloc ?_ _)); exact BK334.out) hb); have n1_ := Aside0.mk (below_step (by repeat (first | (with_reducible first | exact HB.out | apply below_alloc | apply pw_below_drewN | apply below_drew1 | refine below_set ?_ GE334.out) | exact HB.out)) hb); have n2_ := Aside0.mk (hbox); have n3_ := Aside0.mk ((by rw [hg]; exact (below_size (by repeat (first | (with_reducible first | exact HB.out | apply below_alloc | apply pw_below_drewN | apply below_drew1 | refine below_set ?_ GE334.out) | exact HB.out))) : w.heap.size ≤ gb335)); have n4_ := Aside0.mk ((by rw [hg]; exact (below_size (by repeat (first | (with_reducible first | exact HB.out | apply below_alloc | apply pw_below_drewN | apply below_drew1 | refine below_set ?_ GE334.out) | exact HB.out))) : w.heap.size ≤ gb335)); have n5_ := Aside0.mk ((by rw [hg]; exact Nat.ne_of_lt (blk_lt (g := gb334) (o := .cells #[.int .i64 a0_0, .int .i64 a0_1] 30 (0, 0)) (by (with_reducible repeat (first | refine blk_drewN ?_ _ | refine blk_drew ?_ | refine blk_alloc ?_ _)); exact BK334.out)) : gb334 ≠ gb335)); have n6_ := Aside0.mk ((by rw [hg]; exact Nat.ne_of_gt (blk_lt (g := gb334) (o := .cells #[.int .i64 a0_0, .int .i64 a0_1] 30 (0, 0)) (by (with_reducible repeat (first | refine blk_drewN ?_ _ | refine blk_drew ?_ | refine blk_alloc ?_ _)); exact BK334.out)) : gb335 ≠ gb334)); clear BK334; clear HB; have BK334 := n0_; have HB := n1_; have BK335 := n2_; have GW335 := n3_; have GE335 := n4_; have NB334_335 := n5_; have NB335_334 := n6_; clear n0_ n1_ n2_ n3_ n4_ n5_ n6_; clear hb hbox hg; have hnb12 := NB334_335.out; have hnc12 := NB335_334.out; have hcz13_0 : w11.cell? ⟨gb334, 0, none⟩ = some (.int .i64 a0_0) := (blk_cell BK334.out 0).trans rfl; have hcz13_1 : w11.cell? ⟨gb334, 1, none⟩ = some (.int .i64 a0_1) := (blk_cell BK334.out 1).trans rfl; have hfz13_0 := blk_frozen BK334.out 0; have hfz13_1 := blk_frozen BK334.out 1; have hcz14_0 : w11.cell? ⟨gb335, 0, none⟩ = some (.int .i64 a1_0) := (blk_cell BK335.out 0).trans rfl; have hcz14_1 : w11.cell? ⟨gb335, 1, none⟩ = some (.int .i64 a1_1) := (blk_cell BK335.out 1).trans rfl; have hfz14_0 := blk_frozen BK335.out 0; have hfz14_1 := blk_frozen BK335.out 1))
   go_ret
   exact ⟨by first | rfl | (simp [errW_none, errW_some] <;> rfl) | (simp [*, errW_none, errW_some] <;> rfl), by repeat (first | (with_reducible first | exact HB.out | apply below_alloc | apply pw_below_drewN | apply below_drew1 | refine below_set ?_ GE334.out | refine below_set ?_ GE335.out) | exact HB.out)⟩
  ·rw [if_neg c9] at H
   have c9b0 : decide (a0_0 < a1_0) = false := decide_eq_false c9
   clear c9
   by_cases c15 : a0_0 = a1_0
   ·rw [if_pos c15] at H
    have c15b0 : (a0_0 == a1_0) = true := beq_iff_eq.mpr c15
    have c15b1 : (a0_0 != a1_0) = false := bne_eq_false_iff_eq.mpr c15
    have c15x : (a0_1 == a1_1) = false := by simpa [c15b0] using c3b0
    clear c15
    by_cases c16 : a0_1 < a1_1
    ·rw [if_pos c16] at H
     have c16b0 : decide (a0_1 < a1_1) = true := decide_eq_true c16
     clear c16
     obtain rfl := Option.some.inj H
     go_enter Try.func67, Try.ntmps67
     go_wp2_with (first | ((with_reducible refine gate_dst (N := 2) rfl ?_); refine box_event ?hg (N := 2) ?hd (cs := #[.int .i64 a0_0, .int .i64 a0_1]) (t := 30) ?hr ?_; (case hd => rfl); (case hg => rfl); (case hr => first | (go_simp; done) | (go_simp; rfl)); intro gb334 hg w17 hbox hb; have n0_ := Aside0.mk (below_step (by repeat (first | (with_reducible first | exact HB.out | apply below_alloc | apply pw_below_drewN | apply below_drew1) | exact HB.out)) hb); have n1_ := Aside0.mk (hbox); have n2_ := Aside0.mk ((by rw [hg]; exact (below_size (by repeat (first | (with_reducible first | exact HB.out | apply below_alloc | apply pw_below_drewN | apply below_drew1) | exact HB.out))) : w.heap.size ≤ gb334)); have n3_ := Aside0.mk ((by rw [hg]; exact (below_size (by repeat (first | (with_reducible first | exact HB.out | apply below_alloc | apply pw_below_drewN | apply below_drew1) | exact HB.out))) : w.heap.size ≤ gb334)); clear HB; have HB := n0_; have BK334 := n1_; have GW334 := n2_; have GE334 := n3_; clear n0_ n1_ n2_ n3_; clear hb hbox hg) | ((with_reducible refine gate_dst (N := 3) rfl ?_); refine box_event ?hg (N := 3) ?hd (cs := #[.int .i64 a1_0, .int .i64 a1_1]) (t := 30) ?hr ?_; (case hd => rfl); (case hg => rfl); (case hr => first | (go_simp; done) | (go_simp; rfl)); intro gb335 hg w18 hbox hb; have n0_ := Aside0.mk (blk_below (g := gb334) (o := .cells #[.int .i64 a0_0, .int .i64 a0_1] 30 (0, 0)) (by (with_reducible repeat (first | refine blk_drewN ?_ _ | refine blk_drew ?_ | refine blk_alloc ?_ _)); exact BK334.out) hb); have n1_ := Aside0.mk (below_step (by repeat (first | (with_reducible first | exact HB.out | apply below_alloc | apply pw_below_drewN | apply below_drew1 | refine below_set ?_ GE334.out) | exact HB.out)) hb); have n2_ := Aside0.mk (hbox); have n3_ := Aside0.mk ((by rw [hg]; exact (below_size (by repeat (first | (with_reducible first | exact HB.out | apply below_alloc | apply pw_below_drewN | apply below_drew1 | refine below_set ?_ GE334.out) | exact HB.out))) : w.heap.size ≤ gb335)); have n4_ := Aside0.mk ((by rw [hg]; exact (below_size (by repeat (first | (with_reducible first | exact HB.out | apply below_alloc | apply pw_below_drewN | apply below_drew1 | refine below_set ?_ GE334.out) | exact HB.out))) : w.heap.size ≤ gb335)); have n5_ := Aside0.mk ((by rw [hg]; exact Nat.ne_of_lt (blk_lt (g := gb334) (o := .cells #[.int .i64 a0_0, .int .i64 a0_1] 30 (0, 0)) (by (with_reducible repeat (first | refine blk_drewN ?_ _ | refine blk_drew ?_ | refine blk_alloc ?_ _)); exact BK334.out)) : gb334 ≠ gb335)); have n6_ := Aside0.mk ((by rw [hg]; exact Nat.ne_of_gt (blk_lt (g := gb334) (o := .cells #[.int .i64 a0_0, .int .i64 a0_1] 30 (0, 0)) (by (with_reducible repeat (first | refine blk_drewN ?_ _ | refine blk_drew ?_ | refine blk_alloc ?_ _)); exact BK334.out)) : gb335 ≠ gb334)); clear BK334; clear HB; have BK334 := n0_; have HB := n1_; have BK335 := n2_; have GW335 := n3_; have GE335 := n4_; have NB334_335 := n5_; have NB335_334 := n6_; clear n0_ n1_ n2_ n3_ n4_ n5_ n6_; clear hb hbox hg; have hnb19 := NB334_335.out; have hnc19 := NB335_334.out; have hcz20_0 : w18.cell? ⟨gb334, 0, none⟩ = some (.int .i64 a0_0) := (blk_cell BK334.out 0).trans rfl; have hcz20_1 : w18.cell? ⟨gb334, 1, none⟩ = some (.int .i64 a0_1) := (blk_cell BK334.out 1).trans rfl; have hfz20_0 := blk_frozen BK334.out 0; have hfz20_1 := blk_frozen BK334.out 1; have hcz21_0 : w18.cell? ⟨gb335, 0, none⟩ = some (.int .i64 a1_0) := (blk_cell BK335.out 0).trans rfl; have hcz21_1 : w18.cell? ⟨gb335, 1, none⟩ = some (.int .i64 a1_1) := (blk_cell BK335.out 1).trans rfl; have hfz21_0 := blk_frozen BK335.out 0; have hfz21_1 := blk_frozen BK335.out 1))
     go_ret
     exact ⟨by first | rfl | (simp [errW_none, errW_some] <;> rfl) | (simp [*, errW_none, errW_some] <;> rfl), by repeat (first | (with_reducible first | exact HB.out | apply below_alloc | apply pw_below_drewN | apply below_drew1 | refine below_set ?_ GE334.out | refine below_set ?_ GE335.out) | exact HB.out)⟩
    ·rw [if_neg c16] at H
     have c16b0 : decide (a0_1 < a1_1) = false := decide_eq_false c16
     clear c16
     obtain rfl := Option.some.inj H
     go_enter Try.func67, Try.ntmps67
     go_wp2_with (first | ((with_reducible refine gate_dst (N := 2) rfl ?_); refine box_event ?hg (N := 2) ?hd (cs := #[.int .i64 a0_0, .int .i64 a0_1]) (t := 30) ?hr ?_; (case hd => rfl); (case hg => rfl); (case hr => first | (go_simp; done) | (go_simp; rfl)); intro gb334 hg w22 hbox hb; have n0_ := Aside0.mk (below_step (by repeat (first | (with_reducible first | exact HB.out | apply below_alloc | apply pw_below_drewN | apply below_drew1) | exact HB.out)) hb); have n1_ := Aside0.mk (hbox); have n2_ := Aside0.mk ((by rw [hg]; exact (below_size (by repeat (first | (with_reducible first | exact HB.out | apply below_alloc | apply pw_below_drewN | apply below_drew1) | exact HB.out))) : w.heap.size ≤ gb334)); have n3_ := Aside0.mk ((by rw [hg]; exact (below_size (by repeat (first | (with_reducible first | exact HB.out | apply below_alloc | apply pw_below_drewN | apply below_drew1) | exact HB.out))) : w.heap.size ≤ gb334)); clear HB; have HB := n0_; have BK334 := n1_; have GW334 := n2_; have GE334 := n3_; clear n0_ n1_ n2_ n3_; clear hb hbox hg) | ((with_reducible refine gate_dst (N := 3) rfl ?_); refine box_event ?hg (N := 3) ?hd (cs := #[.int .i64 a1_0, .int .i64 a1_1]) (t := 30) ?hr ?_; (case hd => rfl); (case hg => rfl); (case hr => first | (go_simp; done) | (go_simp; rfl)); intro gb335 hg w23 hbox hb; have n0_ := Aside0.mk (blk_below (g := gb334) (o := .cells #[.int .i64 a0_0, .int .i64 a0_1] 30 (0, 0)) (by (with_reducible repeat (first | refine blk_drewN ?_ _ | refine blk_drew ?_ | refine blk_alloc ?_ _)); exact BK334.out) hb); have n1_ := Aside0.mk (below_step (by repeat (first | (with_reducible first | exact HB.out | apply below_alloc | apply pw_below_drewN | apply below_drew1 | refine below_set ?_ GE334.out) | exact HB.out)) hb); have n2_ := Aside0.mk (hbox); have n3_ := Aside0.mk ((by rw [hg]; exact (below_size (by repeat (first | (with_reducible first | exact HB.out | apply below_alloc | apply pw_below_drewN | apply below_drew1 | refine below_set ?_ GE334.out) | exact HB.out))) : w.heap.size ≤ gb335)); have n4_ := Aside0.mk ((by rw [hg]; exact (below_size (by repeat (first | (with_reducible first | exact HB.out | apply below_alloc | apply pw_below_drewN | apply below_drew1 | refine below_set ?_ GE334.out) | exact HB.out))) : w.heap.size ≤ gb335)); have n5_ := Aside0.mk ((by rw [hg]; exact Nat.ne_of_lt (blk_lt (g := gb334) (o := .cells #[.int .i64 a0_0, .int .i64 a0_1] 30 (0, 0)) (by (with_reducible repeat (first | refine blk_drewN ?_ _ | refine blk_drew ?_ | refine blk_alloc ?_ _)); exact BK334.out)) : gb334 ≠ gb335)); have n6_ := Aside0.mk ((by rw [hg]; exact Nat.ne_of_gt (blk_lt (g := gb334) (o := .cells #[.int .i64 a0_0, .int .i64 a0_1] 30 (0, 0)) (by (with_reducible repeat (first | refine blk_drewN ?_ _ | refine blk_drew ?_ | refine blk_alloc ?_ _)); exact BK334.out)) : gb335 ≠ gb334)); clear BK334; clear HB; have BK334 := n0_; have HB := n1_; have BK335 := n2_; have GW335 := n3_; have GE335 := n4_; have NB334_335 := n5_; have NB335_334 := n6_; clear n0_ n1_ n2_ n3_ n4_ n5_ n6_; clear hb hbox hg; have hnb24 := NB334_335.out; have hnc24 := NB335_334.out; have hcz25_0 : w23.cell? ⟨gb334, 0, none⟩ = some (.int .i64 a0_0) := (blk_cell BK334.out 0).trans rfl; have hcz25_1 : w23.cell? ⟨gb334, 1, none⟩ = some (.int .i64 a0_1) := (blk_cell BK334.out 1).trans rfl; have hfz25_0 := blk_frozen BK334.out 0; have hfz25_1 := blk_frozen BK334.out 1; have hcz26_0 : w23.cell? ⟨gb335, 0, none⟩ = some (.int .i64 a1_0) := (blk_cell BK335.out 0).trans rfl; have hcz26_1 : w23.cell? ⟨gb335, 1, none⟩ = some (.int .i64 a1_1) := (blk_cell BK335.out 1).trans rfl; have hfz26_0 := blk_frozen BK335.out 0; have hfz26_1 := blk_frozen BK335.out 1))
     go_ret
     exact ⟨by first | rfl | (simp [errW_none, errW_some] <;> rfl) | (simp [*, errW_none, errW_some] <;> rfl), by repeat (first | (with_reducible first | exact HB.out | apply below_alloc | apply pw_below_drewN | apply below_drew1 | refine below_set ?_ GE334.out | refine below_set ?_ GE335.out) | exact HB.out)⟩
   ·rw [if_neg c15] at H
    have c15b0 : (a0_0 == a1_0) = false := beq_eq_false_iff_ne.mpr c15
    have c15b1 : (a0_0 != a1_0) = true := bne_iff_ne.mpr c15
    obtain rfl := Option.some.inj H
    go_enter Try.func67, Try.ntmps67
    go_wp2_with (first | ((with_reducible refine gate_dst (N := 2) rfl ?_); refine box_event ?hg (N := 2) ?hd (cs := #[.int .i64 a0_0, .int .i64 a0_1]) (t := 30) ?hr ?_; (case hd => rfl); (case hg => rfl); (case hr => first | (go_simp; done) | (go_simp; rfl)); intro gb334 hg w27 hbox hb; have n0_ := Aside0.mk (below_step (by repeat (first | (with_reducible first | exact HB.out | apply below_alloc | apply pw_below_drewN | apply below_drew1) | exact HB.out)) hb); have n1_ := Aside0.mk (hbox); have n2_ := Aside0.mk ((by rw [hg]; exact (below_size (by repeat (first | (with_reducible first | exact HB.out | apply below_alloc | apply pw_below_drewN | apply below_drew1) | exact HB.out))) : w.heap.size ≤ gb334)); have n3_ := Aside0.mk ((by rw [hg]; exact (below_size (by repeat (first | (with_reducible first | exact HB.out | apply below_alloc | apply pw_below_drewN | apply below_drew1) | exact HB.out))) : w.heap.size ≤ gb334)); clear HB; have HB := n0_; have BK334 := n1_; have GW334 := n2_; have GE334 := n3_; clear n0_ n1_ n2_ n3_; clear hb hbox hg) | ((with_reducible refine gate_dst (N := 3) rfl ?_); refine box_event ?hg (N := 3) ?hd (cs := #[.int .i64 a1_0, .int .i64 a1_1]) (t := 30) ?hr ?_; (case hd => rfl); (case hg => rfl); (case hr => first | (go_simp; done) | (go_simp; rfl)); intro gb335 hg w28 hbox hb; have n0_ := Aside0.mk (blk_below (g := gb334) (o := .cells #[.int .i64 a0_0, .int .i64 a0_1] 30 (0, 0)) (by (with_reducible repeat (first | refine blk_drewN ?_ _ | refine blk_drew ?_ | refine blk_alloc ?_ _)); exact BK334.out) hb); have n1_ := Aside0.mk (below_step (by repeat (first | (with_reducible first | exact HB.out | apply below_alloc | apply pw_below_drewN | apply below_drew1 | refine below_set ?_ GE334.out) | exact HB.out)) hb); have n2_ := Aside0.mk (hbox); have n3_ := Aside0.mk ((by rw [hg]; exact (below_size (by repeat (first | (with_reducible first | exact HB.out | apply below_alloc | apply pw_below_drewN | apply below_drew1 | refine below_set ?_ GE334.out) | exact HB.out))) : w.heap.size ≤ gb335)); have n4_ := Aside0.mk ((by rw [hg]; exact (below_size (by repeat (first | (with_reducible first | exact HB.out | apply below_alloc | apply pw_below_drewN | apply below_drew1 | refine below_set ?_ GE334.out) | exact HB.out))) : w.heap.size ≤ gb335)); have n5_ := Aside0.mk ((by rw [hg]; exact Nat.ne_of_lt (blk_lt (g := gb334) (o := .cells #[.int .i64 a0_0, .int .i64 a0_1] 30 (0, 0)) (by (with_reducible repeat (first | refine blk_drewN ?_ _ | refine blk_drew ?_ | refine blk_alloc ?_ _)); exact BK334.out)) : gb334 ≠ gb335)); have n6_ := Aside0.mk ((by rw [hg]; exact Nat.ne_of_gt (blk_lt (g := gb334) (o := .cells #[.int .i64 a0_0, .int .i64 a0_1] 30 (0, 0)) (by (with_reducible repeat (first | refine blk_drewN ?_ _ | refine blk_drew ?_ | refine blk_alloc ?_ _)); exact BK334.out)) : gb335 ≠ gb334)); clear BK334; clear HB; have BK334 := n0_; have HB := n1_; have BK335 := n2_; have GW335 := n3_; have GE335 := n4_; have NB334_335 := n5_; have NB335_334 := n6_; clear n0_ n1_ n2_ n3_ n4_ n5_ n6_; clear hb hbox hg; have hnb29 := NB334_335.out; have hnc29 := NB335_334.out; have hcz30_0 : w28.cell? ⟨gb334, 0, none⟩ = some (.int .i64 a0_0) := (blk_cell BK334.out 0).trans rfl; have hcz30_1 : w28.cell? ⟨gb334, 1, none⟩ = some (.int .i64 a0_1) := (blk_cell BK334.out 1).trans rfl; have hfz30_0 := blk_frozen BK334.out 0; have hfz30_1 := blk_frozen BK334.out 1; have hcz31_0 : w28.cell? ⟨gb335, 0, none⟩ = some (.int .i64 a1_0) := (blk_cell BK335.out 0).trans rfl; have hcz31_1 : w28.cell? ⟨gb335, 1, none⟩ = some (.int .i64 a1_1) := (blk_cell BK335.out 1).trans rfl; have hfz31_0 := blk_frozen BK335.out 0; have hfz31_1 := blk_frozen BK335.out 1))
    go_ret
    exact ⟨by first | rfl | (simp [errW_none, errW_some] <;> rfl) | (simp [*, errW_none, errW_some] <;> rfl), by repeat (first | (with_reducible first | exact HB.out | apply below_alloc | apply pw_below_drewN | apply below_drew1 | refine below_set ?_ GE334.out | refine below_set ?_ GE335.out) | exact HB.out)⟩
end Go.Proofs.Ytnopjjilpgekfaa.PCa
namespace Go.Proofs.Ytnopjjilpgekfaa.PCa
open Go.RowKit Go.Proofs.YtnopjjilpgekfaaW.PrintWords Go.Proofs.YtnopjjilpgekfaaW.PrintLast Go.Proofs.YtnopjjilpgekfaaW.PrintMore
attribute [local go_sem] max2_int min2_int max_two min_two max_three min_three max_four min_four
set_option linter.unusedVariables false
set_option linter.unusedSimpArgs false
def causal_compare.f (a0_0 : Int) (a0_1 : Int) (a0_2 : Int) (l0_3 : List Int) (a0_4 : Int) (a0_5 : Int) (a0_6 : Int) (a0_7 : Int) (a0_8 : Int) (a0_9 : Int) (a0_10 : Int) (a0_11 : ByteArray) (a0_12 : ByteArray) (a1_0 : Int) (a1_1 : Int) (a1_2 : Int) (l1_3 : List Int) (a1_4 : Int) (a1_5 : Int) (a1_6 : Int) (a1_7 : Int) (a1_8 : Int) (a1_9 : Int) (a1_10 : Int) (a1_11 : ByteArray) (a1_12 : ByteArray) : Option (Int) := (ident_Compare.f a0_0 a0_1 a1_0 a1_1).bind fun t395 => (if t395 = 0 then (some (wrap64 (a0_2 - a1_2))) else (some t395))
set_option maxHeartbeats 8000000 in
set_option maxRecDepth 100000 in
theorem causal_compare.calls (a0_0 : Int) (a0_1 : Int) (a0_2 : Int) (A0_3 : Option Addr) (c0_3 : Nat) (l0_3 : List Int) (a0_4 : Int) (a0_5 : Int) (a0_6 : Int) (a0_7 : Int) (a0_8 : Int) (a0_9 : Int) (a0_10 : Int) (a0_11 : ByteArray) (a0_12 : ByteArray) (a1_0 : Int) (a1_1 : Int) (a1_2 : Int) (A1_3 : Option Addr) (c1_3 : Nat) (l1_3 : List Int) (a1_4 : Int) (a1_5 : Int) (a1_6 : Int) (a1_7 : Int) (a1_8 : Int) (a1_9 : Int) (a1_10 : Int) (a1_11 : ByteArray) (a1_12 : ByteArray) (r : Int) (w : World) (hr0_3 : Kd.C (Kd.int .i64) w A0_3 l0_3.length l0_3) (hc0_3 : l0_3.length ≤ c0_3) (hr1_3 : Kd.C (Kd.int .i64) w A1_3 l1_3.length l1_3) (hc1_3 : l1_3.length ≤ c1_3) (h : causal_compare.f a0_0 a0_1 a0_2 l0_3 a0_4 a0_5 a0_6 a0_7 a0_8 a0_9 a0_10 a0_11 a0_12 a1_0 a1_1 a1_2 l1_3 a1_4 a1_5 a1_6 a1_7 a1_8 a1_9 a1_10 a1_11 a1_12 = some r) :
  Calls Try.prog 42 #[.agg #[.int .i64 a0_0, .int .i64 a0_1, .int .i64 a0_2, .slice A0_3 l0_3.length c0_3, .int .i64 a0_4, .int .i64 a0_5, .int .i64 a0_6, .int .i64 a0_7, .int .i64 a0_8, .int .i64 a0_9, .int .i64 a0_10, .string a0_11, .string a0_12], .agg #[.int .i64 a1_0, .int .i64 a1_1, .int .i64 a1_2, .slice A1_3 l1_3.length c1_3, .int .i64 a1_4, .int .i64 a1_5, .int .i64 a1_6, .int .i64 a1_7, .int .i64 a1_8, .int .i64 a1_9, .int .i64 a1_10, .string a1_11, .string a1_12]] w fun e w' => e = .returned (.int .i64 r) ∧ Below w.heap.size w w' := by
 have hu32 := Try.underlying32
 have hu30 := Try.underlying30
 have HR0_3 := Aside0.mk hr0_3
 have HC0_3 := Aside0.mk hc0_3
 clear hr0_3 hc0_3
 have HR1_3 := Aside0.mk hr1_3
 have HC1_3 := Aside0.mk hc1_3
 clear hr1_3 hc1_3
 have HB := Aside0.mk (Below.refl w.heap.size w)
 have H : ((ident_Compare.f a0_0 a0_1 a1_0 a1_1).bind fun t395 => (if t395 = 0 then (some (wrap64 (a0_2 - a1_2))) else (some t395))) = some r := h
 clear h
 replace H := Option.bind_eq_some_iff.mp H
 obtain ⟨t395, A30, H⟩ := H
 replace H : (if t395 = 0 then (some (wrap64 (a0_2 - a1_2))) else (some t395)) = some r := H
 have A3 := Aside0.mk A30
 clear A30
 by_cases c4 : t395 = 0
 ·rw [if_pos c4] at H
  have c4b0 : (t395 == 0) = true := beq_iff_eq.mpr c4
  have c4b1 : (t395 != 0) = false := bne_eq_false_iff_eq.mpr c4
  clear c4
  obtain rfl := Option.some.inj H
  go_enter Try.func42, Try.ntmps42
  go_wp2_with (first | ((with_reducible refine gate_dst (N := 2) rfl ?_); refine box_event ?hg (N := 2) ?hd (cs := #[.int .i64 a0_0, .int .i64 a0_1, .int .i64 a0_2, .slice A0_3 l0_3.length c0_3, .int .i64 a0_4, .int .i64 a0_5, .int .i64 a0_6, .int .i64 a0_7, .int .i64 a0_8, .int .i64 a0_9, .int .i64 a0_10, .string a0_11, .string a0_12]) (t := 32) ?hr ?_; (case hd => rfl); (case hg => rfl); (case hr => first | (go_simp; done) | (go_simp; rfl)); intro gb393 hg w5 hbox hb; have n0_ := Aside0.mk (below_step (by repeat (first | (with_reducible first | exact HB.out | apply below_alloc | apply pw_below_drewN | apply below_drew1) | exact HB.out)) hb); have n1_ := Aside0.mk (hbox); have n2_ := Aside0.mk ((by rw [hg]; exact (below_size (by repeat (first | (with_reducible first | exact HB.out | apply below_alloc | apply pw_below_drewN | apply below_drew1) | exact HB.out))) : w.heap.size ≤ gb393)); have n3_ := Aside0.mk ((by rw [hg]; exact (below_size (by repeat (first | (with_reducible first | exact HB.out | apply below_alloc | apply pw_below_drewN | apply below_drew1) | exact HB.out))) : w.heap.size ≤ gb393)); clear HB; have HB := n0_; have BK393 := n1_; have GW393 := n2_; have GE393 := n3_; clear n0_ n1_ n2_ n3_; clear hb hbox hg) | ((with_reducible refine gate_dst (N := 3) rfl ?_); refine box_event ?hg (N := 3) ?hd (cs := #[.int .i64 a1_0, .int .i64 a1_1, .int .i64 a1_2, .slice A1_3 l1_3.length c1_3, .int .i64 a1_4, .int .i64 a1_5, .int .i64 a1_6, .int .i64 a1_7, .int .i64 a1_8, .int .i64 a1_9, .int .i64 a1_10, .string a1_11, .string a1_12]) (t := 32) ?hr ?_; (case hd => rfl); (case hg => rfl); (case hr => first | (go_simp; done) | (go_simp; rfl)); intro gb394 hg w6 hbox hb; have n0_ := Aside0.mk (blk_below (g := gb393) (o := .cells #[.int .i64 a0_0, .int .i64 a0_1, .int .i64 a0_2, .slice A0_3 l0_3.length c0_3, .int .i64 a0_4, .int .i64 a0_5, .int .i64 a0_6, .int .i64 a0_7, .int .i64 a0_8, .int .i64 a0_9, .int .i64 a0_10, .string a0_11, .string a0_12] 32 (0, 0)) (by (with_reducible repeat (first | refine blk_drewN ?_ _ | refine blk_drew ?_ | refine blk_alloc ?_ _)); exact BK393.out) hb); have n1_ := Aside0.mk (below_step (by repeat (first | (with_reducible first | exact HB.out | apply below_alloc | apply pw_below_drewN | apply below_drew1 | refine below_set ?_ GE393.out) | exact HB.out)) hb); have n2_ := Aside0.mk (hbox); have n3_ := Aside0.mk ((by rw [hg]; exact (below_size (by repeat (first | (with_reducible first | exact HB.out | apply below_alloc | apply pw_below_drewN | apply below_drew1 | refine below_set ?_ GE393.out) | exact HB.out))) : w.heap.size ≤ gb394)); have n4_ := Aside0.mk ((by rw [hg]; exact (below_size (by repeat (first | (with_reducible first | exact HB.out | apply below_alloc | apply pw_below_drewN | apply below_drew1 | refine below_set ?_ GE393.out) | exact HB.out))) : w.heap.size ≤ gb394)); have n5_ := Aside0.mk ((by rw [hg]; exact Nat.ne_of_lt (blk_lt (g := gb393) (o := .cells #[.int .i64 a0_0, .int .i64 a0_1, .int .i64 a0_2, .slice A0_3 l0_3.length c0_3, .int .i64 a0_4, .int .i64 a0_5, .int .i64 a0_6, .int .i64 a0_7, .int .i64 a0_8, .int .i64 a0_9, .int .i64 a0_10, .string a0_11, .string a0_12] 32 (0, 0)) (by (with_reducible repeat (first | refine blk_drewN ?_ _ | refine blk_drew ?_ | refine blk_alloc ?_ _)); exact BK393.out)) : gb393 ≠ gb394)); have n6_ := Aside0.mk ((by rw [hg]; exact Nat.ne_of_gt (blk_lt (g := gb393) (o := .cells #[.int .i64 a0_0, .int .i64 a0_1, .int .i64 a0_2, .slice A0_3 l0_3.length c0_3, .int .i64 a0_4, .int .i64 a0_5, .int .i64 a0_6, .int .i64 a0_7, .int .i64 a0_8, .int .i64 a0_9, .int .i64 a0_10, .string a0_11, .string a0_12] 32 (0, 0)) (by (with_reducible repeat (first | refine blk_drewN ?_ _ | refine blk_drew ?_ | refine blk_alloc ?_ _)); exact BK393.out)) : gb394 ≠ gb393)); clear BK393; clear HB; have BK393 := n0_; have HB := n1_; have BK394 := n2_; have GW394 := n3_; have GE394 := n4_; have NB393_394 := n5_; have NB394_393 := n6_; clear n0_ n1_ n2_ n3_ n4_ n5_ n6_; clear hb hbox hg; have hnb7 := NB393_394.out; have hnc7 := NB394_393.out; obtain ⟨hcz8_0, hcz8_1, hcz8_2, hcz8_3, hcz8_4, hcz8_5, hcz8_6, hcz8_7, hcz8_8, hcz8_9, hcz8_10, hcz8_11, hcz8_12⟩ := cells13 BK393.out; obtain ⟨hcz9_0, hcz9_1, hcz9_2, hcz9_3, hcz9_4, hcz9_5, hcz9_6, hcz9_7, hcz9_8, hcz9_9, hcz9_10, hcz9_11, hcz9_12⟩ := cells13 BK394.out) | ((with_reducible refine gate_callee (f := 67) rfl ?_); refine goesL_ (some 10) rfl rfl Try.func67 (by kernel_rfl) rfl #[.agg #[.int .i64 a0_0, .int .i64 a0_1], .agg #[.int .i64 a1_0, .int .i64 a1_1]] rfl (by (try simp only [List.map_toArray, List.map_cons, List.map_nil]); first | done | rfl | (simp only [List.length_drop, List.length_take]; rfl)) ?_; (with_reducible refine (ident_Compare.calls a0_0 a0_1 a1_0 a1_1 t395 _ A3.out).mono ?_); rintro e w10 ⟨rfl, hb⟩; refine ⟨_, rfl, ?_⟩; have n0_ := Aside0.mk (blk_below (g := gb393) (o := .cells #[.int .i64 a0_0, .int .i64 a0_1, .int .i64 a0_2, .slice A0_3 l0_3.length c0_3, .int .i64 a0_4, .int .i64 a0_5, .int .i64 a0_6, .int .i64 a0_7, .int .i64 a0_8, .int .i64 a0_9, .int .i64 a0_10, .string a0_11, .string a0_12] 32 (0, 0)) (by (with_reducible repeat (first | refine blk_drewN ?_ _ | refine blk_drew ?_ | refine blk_alloc ?_ _)); exact BK393.out) hb); have n1_ := Aside0.mk (blk_below (g := gb394) (o := .cells #[.int .i64 a1_0, .int .i64 a1_1, .int .i64 a1_2, .slice A1_3 l1_3.length c1_3, .int .i64 a1_4, .int .i64 a1_5, .int .i64 a1_6, .int .i64 a1_7, .int .i64 a1_8, .int .i64 a1_9, .int .i64 a1_10, .string a1_11, .string a1_12] 32 (0, 0)) (by (with_reducible repeat (first | refine blk_drewN ?_ _ | refine blk_drew ?_ | refine blk_alloc ?_ _)); exact BK394.out) hb); have n2_ := Aside0.mk (below_step (by repeat (first | (with_reducible first | exact HB.out | apply below_alloc | apply pw_below_drewN | apply below_drew1 | refine below_set ?_ GE393.out | refine below_set ?_ GE394.out) | exact HB.out)) hb); clear BK393; clear BK394; clear HB; have BK393 := n0_; have BK394 := n1_; have HB := n2_; clear n0_ n1_ n2_; (try clear hb); (try clear hb2); (try clear hk); (try clear hi); obtain ⟨hcz11_0, hcz11_1, hcz11_2, hcz11_3, hcz11_4, hcz11_5, hcz11_6, hcz11_7, hcz11_8, hcz11_9, hcz11_10, hcz11_11, hcz11_12⟩ := cells13 BK393.out; obtain ⟨hcz12_0, hcz12_1, hcz12_2, hcz12_3, hcz12_4, hcz12_5, hcz12_6, hcz12_7, hcz12_8, hcz12_9, hcz12_10, hcz12_11, hcz12_12⟩ := cells13 BK394.out))
  go_ret
  exact ⟨by first | rfl | (simp [errW_none, errW_some] <;> rfl) | (simp [*, errW_none, errW_some] <;> rfl), by repeat (first | (with_reducible first | exact HB.out | apply below_alloc | apply pw_below_drewN | apply below_drew1 | refine below_set ?_ GE393.out | refine below_set ?_ GE394.out) | exact HB.out)⟩
 ·rw [if_neg c4] at H
  have c4b0 : (t395 == 0) = false := beq_eq_false_iff_ne.mpr c4
  have c4b1 : (t395 != 0) = true := bne_iff_ne.mpr c4
  obtain rfl := Option.some.inj H
  go_enter Try.func42, Try.ntmps42
  go_wp2_with (first | ((with_reducible refine gate_dst (N := 2) rfl ?_); refine box_event ?hg (N := 2) ?hd (cs := #[.int .i64 a0_0, .int .i64 a0_1, .int .i64 a0_2, .slice A0_3 l0_3.length c0_3, .int .i64 a0_4, .int .i64 a0_5, .int .i64 a0_6, .int .i64 a0_7, .int .i64 a0_8, .int .i64 a0_9, .int .i64 a0_10, .string a0_11, .string a0_12]) (t := 32) ?hr ?_; (case hd => rfl); (case hg => rfl); (case hr => first | (go_simp; done) | (go_simp; rfl)); intro gb393 hg w13 hbox hb; have n0_ := Aside0.mk (below_step (by repeat (first | (with_reducible first | exact HB.out | apply below_alloc | apply pw_below_drewN | apply below_drew1) | exact HB.out)) hb); have n1_ := Aside0.mk (hbox); have n2_ := Aside0.mk ((by rw [hg]; exact (below_size (by repeat (first | (with_reducible first | exact HB.out | apply below_alloc | apply pw_below_drewN | apply below_drew1) | exact HB.out))) : w.heap.size ≤ gb393)); have n3_ := Aside0.mk ((by rw [hg]; exact (below_size (by repeat (first | (with_reducible first | exact HB.out | apply below_alloc | apply pw_below_drewN | apply below_drew1) | exact HB.out))) : w.heap.size ≤ gb393)); clear HB; have HB := n0_; have BK393 := n1_; have GW393 := n2_; have GE393 := n3_; clear n0_ n1_ n2_ n3_; clear hb hbox hg) | ((with_reducible refine gate_dst (N := 3) rfl ?_); refine box_event ?hg (N := 3) ?hd (cs := #[.int .i64 a1_0, .int .i64 a1_1, .int .i64 a1_2, .slice A1_3 l1_3.length c1_3, .int .i64 a1_4, .int .i64 a1_5, .int .i64 a1_6, .int .i64 a1_7, .int .i64 a1_8, .int .i64 a1_9, .int .i64 a1_10, .string a1_11, .string a1_12]) (t := 32) ?hr ?_; (case hd => rfl); (case hg => rfl); (case hr => first | (go_simp; done) | (go_simp; rfl)); intro gb394 hg w14 hbox hb; have n0_ := Aside0.mk (blk_below (g := gb393) (o := .cells #[.int .i64 a0_0, .int .i64 a0_1, .int .i64 a0_2, .slice A0_3 l0_3.length c0_3, .int .i64 a0_4, .int .i64 a0_5, .int .i64 a0_6, .int .i64 a0_7, .int .i64 a0_8, .int .i64 a0_9, .int .i64 a0_10, .string a0_11, .string a0_12] 32 (0, 0)) (by (with_reducible repeat (first | refine blk_drewN ?_ _ | refine blk_drew ?_ | refine blk_alloc ?_ _)); exact BK393.out) hb); have n1_ := Aside0.mk (below_step (by repeat (first | (with_reducible first | exact HB.out | apply below_alloc | apply pw_below_drewN | apply below_drew1 | refine below_set ?_ GE393.out) | exact HB.out)) hb); have n2_ := Aside0.mk (hbox); have n3_ := Aside0.mk ((by rw [hg]; exact (below_size (by repeat (first | (with_reducible first | exact HB.out | apply below_alloc | apply pw_below_drewN | apply below_drew1 | refine below_set ?_ GE393.out) | exact HB.out))) : w.heap.size ≤ gb394)); have n4_ := Aside0.mk ((by rw [hg]; exact (below_size (by repeat (first | (with_reducible first | exact HB.out | apply below_alloc | apply pw_below_drewN | apply below_drew1 | refine below_set ?_ GE393.out) | exact HB.out))) : w.heap.size ≤ gb394)); have n5_ := Aside0.mk ((by rw [hg]; exact Nat.ne_of_lt (blk_lt (g := gb393) (o := .cells #[.int .i64 a0_0, .int .i64 a0_1, .int .i64 a0_2, .slice A0_3 l0_3.length c0_3, .int .i64 a0_4, .int .i64 a0_5, .int .i64 a0_6, .int .i64 a0_7, .int .i64 a0_8, .int .i64 a0_9, .int .i64 a0_10, .string a0_11, .string a0_12] 32 (0, 0)) (by (with_reducible repeat (first | refine blk_drewN ?_ _ | refine blk_drew ?_ | refine blk_alloc ?_ _)); exact BK393.out)) : gb393 ≠ gb394)); have n6_ := Aside0.mk ((by rw [hg]; exact Nat.ne_of_gt (blk_lt (g := gb393) (o := .cells #[.int .i64 a0_0, .int .i64 a0_1, .int .i64 a0_2, .slice A0_3 l0_3.length c0_3, .int .i64 a0_4, .int .i64 a0_5, .int .i64 a0_6, .int .i64 a0_7, .int .i64 a0_8, .int .i64 a0_9, .int .i64 a0_10, .string a0_11, .string a0_12] 32 (0, 0)) (by (with_reducible repeat (first | refine blk_drewN ?_ _ | refine blk_drew ?_ | refine blk_alloc ?_ _)); exact BK393.out)) : gb394 ≠ gb393)); clear BK393; clear HB; have BK393 := n0_; have HB := n1_; have BK394 := n2_; have GW394 := n3_; have GE394 := n4_; have NB393_394 := n5_; have NB394_393 := n6_; clear n0_ n1_ n2_ n3_ n4_ n5_ n6_; clear hb hbox hg; have hnb15 := NB393_394.out; have hnc15 := NB394_393.out; obtain ⟨hcz16_0, hcz16_1, hcz16_2, hcz16_3, hcz16_4, hcz16_5, hcz16_6, hcz16_7, hcz16_8, hcz16_9, hcz16_10, hcz16_11, hcz16_12⟩ := cells13 BK393.out; obtain ⟨hcz17_0, hcz17_1, hcz17_2, hcz17_3, hcz17_4, hcz17_5, hcz17_6, hcz17_7, hcz17_8, hcz17_9, hcz17_10, hcz17_11, hcz17_12⟩ := cells13 BK394.out) | ((with_reducible refine gate_callee (f := 67) rfl ?_); refine goesL_ (some 10) rfl rfl Try.func67 (by kernel_rfl) rfl #[.agg #[.int .i64 a0_0, .int .i64 a0_1], .agg #[.int .i64 a1_0, .int .i64 a1_1]] rfl (by (try simp only [List.map_toArray, List.map_cons, List.map_nil]); first | done | rfl | (simp only [List.length_drop, List.length_take]; rfl)) ?_; (with_reducible refine (ident_Compare.calls a0_0 a0_1 a1_0 a1_1 t395 _ A3.out).mono ?_); rintro e w18 ⟨rfl, hb⟩; refine ⟨_, rfl, ?_⟩; have n0_ := Aside0.mk (blk_below (g := gb393) (o := .cells #[.int .i64 a0_0, .int .i64 a0_1, .int .i64 a0_2, .slice A0_3 l0_3.length c0_3, .int .i64 a0_4, .int .i64 a0_5, .int .i64 a0_6, .int .i64 a0_7, .int .i64 a0_8, .int .i64 a0_9, .int .i64 a0_10, .string a0_11, .string a0_12] 32 (0, 0)) (by (with_reducible repeat (first | refine blk_drewN ?_ _ | refine blk_drew ?_ | refine blk_alloc ?_ _)); exact BK393.out) hb); have n1_ := Aside0.mk (blk_below (g := gb394) (o := .cells #[.int .i64 a1_0, .int .i64 a1_1, .int .i64 a1_2, .slice A1_3 l1_3.length c1_3, .int .i64 a1_4, .int .i64 a1_5, .int .i64 a1_6, .int .i64 a1_7, .int .i64 a1_8, .int .i64 a1_9, .int .i64 a1_10, .string a1_11, .string a1_12] 32 (0, 0)) (by (with_reducible repeat (first | refine blk_drewN ?_ _ | refine blk_drew ?_ | refine blk_alloc ?_ _)); exact BK394.out) hb); have n2_ := Aside0.mk (below_step (by repeat (first | (with_reducible first | exact HB.out | apply below_alloc | apply pw_below_drewN | apply below_drew1 | refine below_set ?_ GE393.out | refine below_set ?_ GE394.out) | exact HB.out)) hb); clear BK393; clear BK394; clear HB; have BK393 := n0_; have BK394 := n1_; have HB := n2_; clear n0_ n1_ n2_; (try clear hb); (try clear hb2); (try clear hk); (try clear hi)))
  go_ret
  exact ⟨by first | rfl | (simp [errW_none, errW_some] <;> rfl) | (simp [*, errW_none, errW_some] <;> rfl), by repeat (first | (with_reducible first | exact HB.out | apply below_alloc | apply pw_below_drewN | apply below_drew1 | refine below_set ?_ GE393.out | refine below_set ?_ GE394.out) | exact HB.out)⟩
def delr.T5 : Bool × List (List Nat × List Nat) := (true, [([], []), ([], []), ([0, 1], [0, 1]), ([], []), ([], []), ([3, 4], [3, 4]), ([2, 5], [2, 5]), ([6, 6, 0, 1, 2, 3, 4, 5, 6], [0, 3, 6])])
def delr.B5 : List Nat := [0, 0, 3, 0, 0, 24, 63, 127]
theorem delr.tab5 : rtab .any (opsOf Try.f74 5) = delr.T5 := by kernel_rfl
theorem delr.bits5 : waitsOk delr.T5.2 delr.B5 = true := by kernel_rfl
theorem run_copy_wide {P : Program} (w : World) (dT sT ty elem : TypeId) (sz g o dLen dCap : Nat) (a : Addr) (sLen sCap : Nat) (cur : Array Value) (t : TypeId) (cs : List Value)
  (hu : P.underlying dT = some (.slice elem)) (hs : (P.info? elem).map (·.size) = some sz)
  (hg : w.heap[g]? = some (.cells cur t (0, 0))) (hn : cs.length = Nat.min sLen dLen * sz)
  (hsrc : ∀ j v, cs[j]? = some v → w.cell? (a.add j) = some v) (hfit : o + cs.length ≤ cur.size) (h1 : ∀ v ∈ cs, v.oneCell' = true) :
  (Builtin.copy_ #[dT, sT] ty #[.slice (some ⟨g, o, none⟩) dLen dCap, .slice (some a) sLen sCap]).run P w =
   .ok (goInt (Nat.min sLen dLen)) (w.setRow g (cur.toList.take o ++ cs ++ cur.toList.drop (o + cs.length)).toArray) := by
 have hl := run_loadCells_list (P := P) w a cs hsrc
 have hst := run_storeCells_at P g o t cs 0 cur w hg (by simpa using hfit) h1
 cases hq : P.info? elem with
 | none => simp [hq] at hs
 | some i =>
  have hi : i.size = sz := by simpa [hq] using hs
  rw [hn] at hl hst
  simp [Builtin.copy_, run_underlying hu, Builtin.lenOf, Builtin.firstCells, sizeOf, typeInfo, hq, hi, hn, hl, hst]
/-- What lies behind a row's elements may be written. -/
theorem R_spare {α : Type} {d : Kd α} {e : Nat} {w : World} {base : Nat} {ok : Nat → Prop} {g m c : Nat} {xs : List α} (h : d.R e w base ok (.slice (some ⟨g, 0, none⟩) m c) xs) (cs : List Value) (o : Nat) (ho : m * d.sz ≤ o) (hc : o + cs.length ≤ c * d.sz) (h1 : ∀ v ∈ cs, v.oneCell' = true) (P : Program) :
  ∃ w1, (storeCells ⟨g, o, none⟩ cs).run P w = .ok () w1 ∧ d.R e w1 base ok (.slice (some ⟨g, 0, none⟩) m c) xs ∧ w.grownBy w1 (some g) := by
 have hm := (Kd.R_reads' h).1
 obtain ⟨h0, inner, hown, hr⟩ := h
 rcases hown.2 with ⟨hv, _⟩ | ⟨g', cap', cur, hv, hb, hh, hnc, hcm, hcs, htake⟩
 ·cases hv
 injection hv with ha' hm' hc'
 injection ha' with ha'
 injection ha' with hg
 subst hg; subst hc'
 have hfit : o + 0 + cs.length ≤ cur.size := by omega
 have hrun := run_storeCells_at P g o e cs 0 cur w hh hfit h1
 refine ⟨_, hrun, ⟨h0, inner, ⟨hown.1, .inr ⟨g, c, _, by rw [← hm], hb, setRow_heap w g cur _ e (0, 0) hh, hnc, hcm, ?_, ?_⟩⟩, ?_⟩, ⟨rfl, rfl, rfl, by simp [World.setRow], fun k hk hne => setRow_other w g k _ (fun e => hne (by rw [e]))⟩⟩
 ·simp
  omega
 ·rw [← htake]
  have hlen : cur.toList.length = c * d.sz := by simpa using hcs
  simp only [Nat.add_zero, List.append_assoc]
  rw [List.take_append_of_le_length (by rw [List.length_take, hlen, ← hm]; omega), List.take_take, Nat.min_eq_left (by rw [← hm]; exact ho)]
 ·refine hr.imp_ (fun p q hp => d.M_move (fun k' hk' => setRow_other w g k' _ (fun e => hk'.2 (by simp [Value.ownBlock, e]))) hp)
theorem grown_trans {w w1 w2 : World} {r : Option Nat} (h : w.grownBy w1 r) (h2 : w1.grownBy w2 r) : w.grownBy w2 r :=
 ⟨h2.os.trans h.os, h2.tape.trans h.tape, h2.output.trans h.output, Nat.le_trans h.size h2.size, fun k hk hn => (h2.block k (Nat.lt_of_lt_of_le hk h.size) hn).trans (h.block k hk hn)⟩
theorem grown_drew (w : World) (r : Option Nat) : w.grownBy w.drew r := ⟨rfl, rfl, rfl, Nat.le_refl _, fun _ _ _ => rfl⟩
theorem zero32_len : (Builtin.zeroCells (Value.agg #[(.int .i64 0), (.int .i64 0), (.int .i64 0), (.slice none 0 0), (.int .i64 0), (.int .i64 0), (.int .i64 0), (.int .i64 0), (.int .i64 0), (.int .i64 0), (.int .i64 0), (.string ⟨#[]⟩), (.string ⟨#[]⟩)]).cells 1).toList = [(.int .i64 0), (.int .i64 0), (.int .i64 0), (.slice none 0 0), (.int .i64 0), (.int .i64 0), (.int .i64 0), (.int .i64 0), (.int .i64 0), (.int .i64 0), (.int .i64 0), (.string ⟨#[]⟩), (.string ⟨#[]⟩)] := by kernel_rfl
theorem clear_one {α : Type} {d : Kd α} (hd : d.sz = 13) {w : World} {base g n c i : Nat} {ok : Nat → Prop} {xs : List α} (h : d.R 32 w base ok (.slice (some ⟨g, 0, none⟩) (n - 1) c) xs) (hi : i < n) (hnc : n ≤ c) :
  ∃ w2, (∀ ty cc, (Builtin.clear_ #[22] ty #[.slice (some ⟨g, (n - 1) * 13, none⟩) 1 cc]).run Try.prog w = .ok (.tuple #[]) w2) ∧ d.R 32 w2 base ok (.slice (some ⟨g, 0, none⟩) (n - 1) c) xs ∧ w.grownBy w2 (some g) := by
 obtain ⟨w2, h1, h2, h3⟩ := R_spare h [(.int .i64 0), (.int .i64 0), (.int .i64 0), (.slice none 0 0), (.int .i64 0), (.int .i64 0), (.int .i64 0), (.int .i64 0), (.int .i64 0), (.int .i64 0), (.int .i64 0), (.string ⟨#[]⟩), (.string ⟨#[]⟩)] ((n - 1) * 13) (by rw [hd]; exact Nat.le_refl _) (by rw [hd]; simp only [List.length_cons, List.length_nil]; omega) (by decide) Try.prog
 refine ⟨w2, fun ty cc => ?_, h2, h3⟩
 obtain ⟨i0, hi0, hzz⟩ := Option.map_eq_some_iff.1 info32
 simp only [Prod.mk.injEq] at hzz
 have hz := zero32_len
 simp [Builtin.clear_, run_underlying Try.underlying22, zeroValue, typeInfo, hi0, hzz.1, hz, h1]
set_option maxHeartbeats 4000000 in
set_option maxRecDepth 100000 in
theorem delete_calls {α : Type} {d : Kd α} (hd : d.sz = 13) {w : World} {base g n c i : Nat} {ok : Nat → Prop} {xs : List α} (h : d.R 32 w base ok (.slice (some ⟨g, 0, none⟩) n c) xs) (hi : i < n) (hn : n < 100000) :
  Calls Try.prog 74 #[.slice (some ⟨g, 0, none⟩) n c, .int .i64 (i : Int), .int .i64 ((i + 1 : Nat) : Int)] w fun e w' => e = .returned (.slice (some ⟨g, 0, none⟩) (n - 1) c) ∧ d.R 32 w' base ok (.slice (some ⟨g, 0, none⟩) (n - 1) c) (xs.eraseIdx i) ∧ w.grownBy w' (some g) := by
 have hnc := (Kd.R_reads' h).2.1
 have HR := Aside0.mk h
 have c1 : ((i : Int) == (i : Int) + 1) = false := by rw [beq_eq_false_iff_ne]; omega
 have b1 : (0 ≤ (i : Int)) = True := eq_true (by omega)
 have b2 : ((i : Int) ≤ (i : Int) + 1) = True := eq_true (by omega)
 have b8 : (n = i) = False := eq_false (by omega)
 have b7 : (0 ≤ (i : Int) + 1) = True := eq_true (by omega)
 have b3 : ((i : Int) + 1 ≤ (n : Int)) = True := eq_true (by omega)
 have b4 : ((n : Int) ≤ (c : Int)) = True := eq_true (by omega)
 have hbs : base ≤ w.heap.size := by
  obtain ⟨_, hown⟩ := Kd.R_own h
  have := own_base hown g rfl
  have := own_lt hown g rfl
  omega
 have HBS := Aside0.mk hbs
 have b5 : (i ≤ c) = True := eq_true (by omega)
 have b6 : (n - 1 ≤ n) = True := eq_true (by omega)
 have HI := Aside0.mk hi
 have HN := Aside0.mk hn
 clear h hbs hi hn
 go_enter Try.func74, Try.ntmps74
 go_wp2_with (fail)
 have HR1 := Aside0.mk (Kd.R_drew HR.out)
 clear HR
 refine start_ (n := 8) (S := (fun _ => True)) (ds := []) #[false, false, false, false, false, false, false, false] (by kernel_rfl) rfl rfl (trivial) (fun hHeld => ?_)
 refine with_tabW delr.tab5 delr.bits5 (fun HT_ HW_ => ?_)
 refine pureS (i := 0) (N := (some 20)) #[true, false, false, false, false, false, false, false] HT_ ?_
 refine pureS (i := 1) (N := (some 21)) #[true, true, false, false, false, false, false, false] HT_ ?_
 refine pureS (i := 2) (N := (some 22)) #[true, true, true, false, false, false, false, false] HT_ ?_
 refine pureS (i := 3) (N := (some 23)) #[true, true, true, true, false, false, false, false] HT_ ?_
 refine pureS (i := 4) (N := (some 24)) #[true, true, true, true, true, false, false, false] HT_ ?_
 refine pureS (i := 5) (N := (some 25)) #[true, true, true, true, true, true, false, false] HT_ ?_
 refine one_ (i := 6) (N := (some 26)) #[true, true, true, true, true, true, true, false] rfl rfl (one_of HT_.out (by kernel_rfl)) (by decide) (fun K hK => ?_)
 refine Kd.R_delete_step d (w0 := w.drew) base (by rfl) (.tmp 22) (.tmp 25) 22 32 rfl Try.underlying22 ?hinfo rfl rfl ?hA rfl HR1.out HI.out (Below.refl _ _) HBS.out ?_
 case hinfo => rw [hd]; kernel_rfl
 case hA => rw [hd, Option.map_some, add_at, Nat.zero_add]
 intro w1 ho1 hb1 hg1
 have HO1 := Aside0.mk ho1
 have HG1 := Aside0.mk hg1
 clear ho1 hb1 hg1
 refine hK.out _ _ (trivial) (fun hHeld => ?_)
 clear hK K
 refine norm_ (a' := ?_) ?_ ?_
 rotate_left
 ·show Act.put _ (some 26) _ = _
  simp only [Act.put, List.setIfInBounds_toArray, List.set_cons_zero, List.set_cons_succ, i64_w, i32_w]
  rfl
 refine pureS (i := 7) (N := (some 0)) #[true, true, true, true, true, true, true, true] HT_ ?_
 refine done_ (done_of HT_.out (by kernel_rfl)) ?_
 generalize (if c = i + 1 then some (⟨g, 0, none⟩ : Addr) else some ⟨g, (i + 1) * 13, none⟩) = AA
 obtain ⟨w2, hst, ho2, hg2⟩ := clear_one hd HO1.out HI.out hnc
 have HO2 := Aside0.mk ho2
 have HG2 := Aside0.mk hg2
 clear ho2 hg2
 have i0 := HI.out
 have n1 : n - (n - 1) = 1 := by omega
 have n2 : (0 ≤ ((n - 1 : Nat) : Int)) = True := eq_true (by omega)
 have n3 : (((n - 1 : Nat) : Int) ≤ (n : Int)) = True := eq_true (by omega)
 clear i0
 go_wp2
 go_ret
 exact ⟨rfl, HO2.out, grown_trans (grown_trans (grown_drew _ _) HG1.out) HG2.out⟩
end Go.Proofs.Ytnopjjilpgekfaa.PCa
namespace Go.Proofs.Ytnopjjilpgekfaa.PCa
open Go.RowKit Go.Proofs.YtnopjjilpgekfaaW.PrintWords Go.Proofs.YtnopjjilpgekfaaW.PrintLast Go.Proofs.YtnopjjilpgekfaaW.PrintMore
set_option linter.unusedVariables false
set_option linter.unusedSimpArgs false
theorem ins_place (cur inner cs : List Value) (a n b : Nat) (hin : cur.take n = inner) (hn : n + b ≤ cur.length) (ha : a ≤ n) (hb : cs.length = b) :
  ((cur.take (a + b) ++ inner.drop a ++ cur.drop (a + b + (inner.drop a).length)).take a ++ cs ++ (cur.take (a + b) ++ inner.drop a ++ cur.drop (a + b + (inner.drop a).length)).drop (a + cs.length)).take (n + b) = inner.take a ++ cs ++ inner.drop a ∧
  ((cur.take (a + b) ++ inner.drop a ++ cur.drop (a + b + (inner.drop a).length)).take a ++ cs ++ (cur.take (a + b) ++ inner.drop a ++ cur.drop (a + b + (inner.drop a).length)).drop (a + cs.length)).length = cur.length := by
 have hil : inner.length = n := by rw [← hin, List.length_take]; omega
 have hdl : (inner.drop a).length = n - a := by rw [List.length_drop, hil]
 have h1 : (cur.take (a + b) ++ inner.drop a ++ cur.drop (a + b + (inner.drop a).length)).take a = inner.take a := by
  rw [List.append_assoc, List.take_append_of_le_length (by rw [List.length_take]; omega), List.take_take, Nat.min_eq_left (by omega), ← hin, List.take_take, Nat.min_eq_left ha]
 have h2 : (cur.take (a + b) ++ inner.drop a ++ cur.drop (a + b + (inner.drop a).length)).drop (a + cs.length) = inner.drop a ++ cur.drop (a + b + (inner.drop a).length) := by
  rw [List.append_assoc, hb]
  exact List.drop_left' (by rw [List.length_take]; omega)
 rw [h1, h2]
 refine ⟨?_, ?_⟩
 ·rw [← List.append_assoc]
  exact List.take_left' (by simp only [List.length_append, List.length_take, hb, hdl]; omega)
 ·simp only [List.length_append, List.length_take, List.length_drop, hb, hil]
  omega
theorem ins_grow (row inner cs : List Value) (a n b : Nat) (hr : row.take a = inner.take a) (hil : inner.length = n) (hn : n + b ≤ row.length) (ha : a ≤ n) (hb : cs.length = b) :
  ((row.take a ++ cs ++ row.drop (a + cs.length)).take (a + b) ++ inner.drop a ++ (row.take a ++ cs ++ row.drop (a + cs.length)).drop (a + b + (inner.drop a).length)).take (n + b) = inner.take a ++ cs ++ inner.drop a ∧
  ((row.take a ++ cs ++ row.drop (a + cs.length)).take (a + b) ++ inner.drop a ++ (row.take a ++ cs ++ row.drop (a + cs.length)).drop (a + b + (inner.drop a).length)).length = row.length := by
 have hdl : (inner.drop a).length = n - a := by rw [List.length_drop, hil]
 have h1 : (row.take a ++ cs ++ row.drop (a + cs.length)).take (a + b) = inner.take a ++ cs := by
  rw [hr]
  exact List.take_left' (by simp only [List.length_append, List.length_take, hb, hil]; omega)
 rw [h1]
 refine ⟨List.take_left' (by simp only [List.length_append, List.length_take, hb, hdl, hil]; omega), ?_⟩
 simp only [List.length_append, List.length_take, List.length_drop, hb, hil]
 omega
section
variable {w W : World} {base g c n i N G : Nat} {ok : Nat → Prop} {rows : List (List Value)} {cs inner : List Value}
abbrev rawP (x cs : List Value) : Prop := cs = x ∧ cs.length = 13 ∧ ∀ u ∈ cs, u.oneCell' = true
theorem raw_open (h : (Kd.raw 13).R 32 w base ok (.slice (some ⟨g, 0, none⟩) n c) rows) : ∃ inner cur, rows.length = n ∧ n ≤ c ∧ c ≤ maxLen ∧ base ≤ g ∧ ok g ∧ w.heap[g]? = some (.cells cur 32 (0, 0)) ∧ cur.size = c * 13 ∧ cur.toList.take (n * 13) = inner ∧ Reps rawP 13 rows inner := by
 have hm := (Kd.R_reads' h).1
 obtain ⟨h0, inner, hown, hr⟩ := h
 rcases hown.2 with ⟨hv, _⟩ | ⟨g', cap', cur, hv, hb, hh, hnc, hcm, hcs, htake⟩
 ·cases hv
 injection hv with ha' hm' hc'
 injection ha' with ha'
 injection ha' with hg
 subst hg; subst hc'
 exact ⟨inner, cur, hm.symm, by rw [hm]; exact hnc, hcm, hb, h0 g rfl, hh, hcs, by rw [hm]; exact htake, hr⟩
theorem raw_ins (hr : Reps rawP 13 rows inner) (hi : i ≤ rows.length) (hc : cs.length = 13) (h1 : ∀ u ∈ cs, u.oneCell' = true) : Reps rawP 13 (rows.take i ++ cs :: rows.drop i) (inner.take (i * 13) ++ cs ++ inner.drop (i * 13)) := by
 have e : rows.take i ++ cs :: rows.drop i = rows.take i ++ [cs] ++ rows.drop i := by rw [List.append_assoc]; rfl
 rw [e]
 exact Kd.reps_append ((Kd.reps_take hr hi).snoc ⟨rfl, hc, h1⟩ hc) (Kd.reps_drop hr)
theorem raw_fin {cur : List Value} (hN : W.heap[N]? = some (.cells cur.toArray 32 (0, 0))) (hb : base ≤ N) (hsz : cur.length = G * 13) (hG : n + 1 ≤ G) (hm : G ≤ maxLen) (hok : ok N) (hl : rows.length = n) (hi : i ≤ n)
  (htake : cur.take (n * 13 + 13) = inner.take (i * 13) ++ cs ++ inner.drop (i * 13)) (hr : Reps rawP 13 rows inner) (hc : cs.length = 13) (h1 : ∀ u ∈ cs, u.oneCell' = true) :
  (Kd.raw 13).R 32 W base ok (.slice (some ⟨N, 0, none⟩) (n + 1) G) (rows.take i ++ cs :: rows.drop i) := by
 have hlen : (rows.take i ++ cs :: rows.drop i).length = n + 1 := by
  rw [List.length_append, List.length_take, List.length_cons, List.length_drop]; omega
 have hr' := raw_ins (cs := cs) hr (by omega : i ≤ rows.length) hc h1
 refine ⟨fun k hk => ?_, _, ⟨hr'.1, .inr ⟨N, G, cur.toArray, by rw [hlen], hb, hN, by rw [hlen]; exact hG, hm, by rw [List.size_toArray]; exact hsz, ?_⟩⟩, hr'⟩
 ·have : N = k := by simpa [Value.ownBlock] using hk
  rw [← this]; exact hok
 ·rw [hlen, show (n + 1) * (Kd.raw 13).sz = n * 13 + 13 from by show (n + 1) * 13 = _; omega]
  exact htake
end
end Go.Proofs.Ytnopjjilpgekfaa.PCa
namespace Go.Proofs.Ytnopjjilpgekfaa.PCa
open Go.RowKit Go.Proofs.YtnopjjilpgekfaaW.PrintWords Go.Proofs.YtnopjjilpgekfaaW.PrintLast Go.Proofs.YtnopjjilpgekfaaW.PrintMore
attribute [local go_sem] max2_int min2_int max_two min_two max_three min_three max_four min_four
set_option linter.unusedVariables false
set_option linter.unusedSimpArgs false
def insg.T11 : Bool × List (List Nat × List Nat) := (true, [([], []), ([], []), ([], []), ([1, 2], [1, 2]), ([0, 3], [0, 3]), ([], []), ([], []), ([5, 6], [5, 6]), ([4, 7], [4, 7])])
def insg.B11 : List Nat := [0, 0, 0, 6, 15, 0, 0, 96, 255]
theorem insg.tab11 : rtab .any (opsOf Try.f43 11) = insg.T11 := by kernel_rfl
theorem insg.bits11 : waitsOk insg.T11.2 insg.B11 = true := by kernel_rfl
def insp.T15 : Bool × List (List Nat × List Nat) := (true, [([], []), ([], []), ([], []), ([1, 2], [1, 2]), ([0, 3], [0, 3]), ([], []), ([], []), ([5, 6], [5, 6]), ([4, 7], [4, 7])])
def insp.B15 : List Nat := [0, 0, 0, 6, 15, 0, 0, 96, 255]
theorem insp.tab15 : rtab .any (opsOf Try.f43 15) = insp.T15 := by kernel_rfl
theorem insp.bits15 : waitsOk insp.T15.2 insp.B15 = true := by kernel_rfl
set_option maxHeartbeats 4000000 in
set_option maxRecDepth 100000 in
theorem insert_end {w : World} {base n c : Nat} {A : Option Addr} {ok : Nat → Prop} {rows : List (List Value)} {cs : List Value} (h : (Kd.raw 13).R 32 w base ok (.slice A n c) rows) (hn : n < 100000) (vb : Nat) (hv : w.heap[vb]? = some (.cells cs.toArray 32 (0, 0))) (hc : cs.length = 13) (h1 : ∀ u ∈ cs, u.oneCell' = true) (hfresh : ∀ k, w.heap.size ≤ k → ok k) (hbase : base ≤ w.heap.size) :
  Calls Try.prog 43 #[.slice A n c, .int .i64 (n : Int), .slice (some ⟨vb, 0, none⟩) 1 1] w fun e w' => ∃ v', e = .returned v' ∧ (Kd.raw 13).R 32 w' base ok v' (rows ++ [cs]) ∧ w.grownBy w' (Value.slice A n c).ownBlock ∧ (v'.ownBlock = (Value.slice A n c).ownBlock ∨ ∃ b, v'.ownBlock = some b ∧ w.heap.size ≤ b) := by
 have hm := (Kd.R_reads' h).1
 have HR := Aside0.mk h
 have HV := Aside0.mk hv
 have HF := Aside0.mk hfresh
 have hC : (Kd.raw 13).C w (some ⟨vb, 0, none⟩) 1 [cs] := by
  refine ⟨rfl, by decide, fun _ => ⟨_, rfl, fun j p hj => ?_⟩⟩
  cases j with
  | zero =>
   injection hj with hj
   subst hj
   refine ⟨cs, hc, ⟨rfl, hc, h1⟩, fun i u hu => ?_⟩
   rw [add_at, Nat.zero_mul, Nat.zero_add, Nat.zero_add, cell_of_row w vb _ _ 32 (0, 0) hv, List.getElem?_toArray]
   exact hu
  | succ j => cases hj
 have HC := Aside0.mk hC
 have e1 : ((n : Int) == (n : Int)) = true := by rw [beq_self_eq_true]
 have e0 : ((1 : Int) == 0) = false := by decide
 have b1 : (0 ≤ (n : Int)) = True := eq_true (by omega)
 have b2 : ((n : Int) ≤ (n : Int)) = True := eq_true (by omega)
 have HN := Aside0.mk hn
 have HM := Aside0.mk hm
 have HBS := Aside0.mk hbase
 have hsl : ∀ W, (Instr.slice 22 (.slice A n c) (some (.int .i64 (n : Int))) none none).run Try.prog W = .ok (.slice (if c = n then A else A.map (·.add (n * 13))) (n - n) (c - n)) W := fun W => by
  have hu := Try.underlying22
  have b3 : (n ≤ c) = True := eq_true (Kd.R_reads' h).2.1
  cases A with
  | none =>
   by_cases hcn : c = n
   ·subst hcn
    go_simp
   ·have e : (c = n) = False := eq_false hcn
    go_simp
  | some ad =>
   by_cases hcn : c = n
   ·subst hcn
    go_simp
   ·have e : (c = n) = False := eq_false hcn
    go_simp
 obtain ⟨U, hU⟩ : ∃ U, (Value.slice (if c = n then A else A.map (·.add (n * 13))) (n - n) (c - n)) = U := ⟨_, rfl⟩
 rw [hU] at hsl
 clear hU
 have hlen : ∀ W ty, (Builtin.len_ #[22] ty #[.slice A n c]).run Try.prog W = .ok (.int .i64 (n : Int)) W := fun W ty => by go_simp
 clear h hv hfresh hC hn hm hbase hc h1
 go_enter Try.func43, Try.ntmps43
 go_wp2_with (first | ((with_reducible refine gate_builtin (b := .append) (xs := #[.tmp 23, .tmp 24]) rfl ?_); at_builtin; refine Kd.R_append_rows (Kd.raw 13) (w0 := w) base rfl (.tmp 23) (.tmp 24) 22 32 (.agg #[(.int .i64 0), (.int .i64 0), (.int .i64 0), (.slice none 0 0), (.int .i64 0), (.int .i64 0), (.int .i64 0), (.int .i64 0), (.int .i64 0), (.int .i64 0), (.int .i64 0), (.string ⟨#[]⟩), (.string ⟨#[]⟩)]) 136 rfl Try.underlying22 info32 rfl (by decide) (by omega) (.slice A n c) rows [cs] _ 1 1 ok (fun _ => False) rfl rfl HR.out HC.out (fun _ _ h => h) (fun _ h => h.elim) HF.out (Below.refl _ _) HBS.out ?aL ?_; (case aL => have h1_ := HN.out; have h2_ := HM.out; omega); intro v1 w1 ho hb hg hat))
 go_ret
 exact ⟨v1, rfl, ho, hg, hat⟩
theorem toNat1 (i : Nat) : ((i : Int) + 1).toNat = i + 1 := by omega
theorem copy_run (W : World) {N o dLen : Nat} (a : Addr) (sLen : Nat) (row cs : List Value) (hN : W.heap[N]? = some (.cells row.toArray 32 (0, 0))) (hn : cs.length = Nat.min sLen dLen * 13)
  (hsrc : ∀ j v, cs[j]? = some v → W.cell? (a.add j) = some v) (hfit : o + cs.length ≤ row.length) (h1 : ∀ v ∈ cs, v.oneCell' = true) :
  ∃ W2, (∀ ty dc sc, (Builtin.copy_ #[22, 22] ty #[.slice (some ⟨N, o, none⟩) dLen dc, .slice (some a) sLen sc]).run Try.prog W = .ok (goInt (Nat.min sLen dLen)) W2) ∧
   W2.heap[N]? = some (.cells (row.take o ++ cs ++ row.drop (o + cs.length)).toArray 32 (0, 0)) ∧ W.grownBy W2 (some N) :=
 ⟨_, fun ty dc sc => run_copy_wide W 22 22 ty 32 13 N o dLen dc a sLen sc row.toArray 32 cs Try.underlying22 (by kernel_rfl) hN hn hsrc (by rw [List.size_toArray]; exact hfit) h1,
  setRow_heap W N _ _ 32 (0, 0) hN, ⟨rfl, rfl, rfl, by simp [World.setRow], fun k hk hne => setRow_other W N k _ (fun e => hne (by rw [e]))⟩⟩
theorem grow_run {w : World} {g n c i : Nat} {cur : Array Value} {inner : List Value} (hh : w.heap[g]? = some (.cells cur 32 (0, 0))) (hcs : cur.size = c * 13) (htake : cur.toList.take (n * 13) = inner) (hil : inner.length = n * 13) (hi : i < n) (hnc : n ≤ c) (hroom : c < n + 1) (hn : n < 100000) :
  ∃ (W1 : World) (row : List Value) (G : Nat), (∀ ty, (Builtin.append_ #[22, 3] ty #[.slice (some ⟨g, 0, none⟩) i c, .int .i64 ((n : Int) + 1 - (i : Int))]).run Try.prog w = .ok (.slice (some ⟨w.heap.size, 0, none⟩) (n + 1) G) W1) ∧
   W1.heap[w.heap.size]? = some (.cells row.toArray 32 (0, 0)) ∧ row.length = G * 13 ∧ row.take (i * 13) = inner.take (i * 13) ∧ n + 1 ≤ G ∧ G ≤ maxLen ∧ w.grownBy W1 none := by
 obtain ⟨i0, hi0, hzz⟩ := Option.map_eq_some_iff.1 info32
 simp only [Prod.mk.injEq] at hzz
 obtain ⟨hz0, hzs, hzb⟩ := hzz
 have hkk : (n : Int) + 1 - (i : Int) = ((n + 1 - i : Nat) : Int) := by omega
 have hik : i + (n + 1 - i) = n + 1 := by omega
 have hold : (Builtin.firstCells i0.size i (.slice (some ⟨g, 0, none⟩) i c)).run Try.prog w.drew = .ok (inner.take (i * 13)).toArray w.drew := by
  rw [hzs]
  exact run_firstCells_some w.drew 13 i ⟨g, 0, none⟩ i c (inner.take (i * 13)) (by rw [List.length_take, hil]; omega) (fun j v hj => by
   rw [add_at, cell_of_row w.drew g _ cur 32 (0, 0) hh, ← Array.getElem?_toList, Nat.zero_add]
   rw [← htake, List.getElem?_take] at hj
   split at hj
   ·rw [List.getElem?_take] at hj
    split at hj
    ·exact hj
    ·cases hj
   ·cases hj)
 have hzc : (Value.agg #[(.int .i64 0), (.int .i64 0), (.int .i64 0), (.slice none 0 0), (.int .i64 0), (.int .i64 0), (.int .i64 0), (.int .i64 0), (.int .i64 0), (.int .i64 0), (.int .i64 0), (.string ⟨#[]⟩), (.string ⟨#[]⟩)]).cells.size = 13 := by kernel_rfl
 have hG := grownCap_ge w (n + 1) c 32
 have hGm := grownCap_le_maxLen w (n + 1) c 32 (by unfold maxLen; omega)
 have h := fun ty => Lib.run_append_grow_zeros w 22 3 ty 32 i0 _ .i64 .i64 Try.underlying22 Try.underlying3 hi0 hz0 (some ⟨g, 0, none⟩) i c (inner.take (i * 13)) hold (n + 1 - i) (by omega) (by rw [hzs]; decide) (by omega) (by omega) (by rw [hzb]; omega) (by rw [hzb, hik]; exact growslice_fits hroom (by omega))
 rw [hik] at h
 rw [hkk]
 generalize grownCap w (n + 1) c 32 = G at *
 generalize hz : (Value.agg #[(.int .i64 0), (.int .i64 0), (.int .i64 0), (.slice none 0 0), (.int .i64 0), (.int .i64 0), (.int .i64 0), (.int .i64 0), (.int .i64 0), (.int .i64 0), (.int .i64 0), (.string ⟨#[]⟩), (.string ⟨#[]⟩)]).cells = z at *
 obtain ⟨row, hrow⟩ : ∃ row, (inner.take (i * 13)).toArray ++ Builtin.zeroCells z (n + 1 - i) ++ Builtin.zeroCells z (G - (n + 1)) = row := ⟨_, rfl⟩
 rw [hrow] at h
 have hsz : ∀ m, (Builtin.zeroCells z m).size = m * 13 := fun m => by simp [Builtin.zeroCells, hzc]
 have hl : (inner.take (i * 13)).length = i * 13 := by rw [List.length_take, hil]; omega
 refine ⟨_, row.toList, G, h, ?_, ?_, ?_, hG, hGm, ?_⟩
 ·exact heap_alloc_new w.drew _
 ·rw [← hrow, Array.length_toList, Array.size_append, Array.size_append, hsz, hsz, List.size_toArray, hl]
  omega
 ·rw [← hrow, Array.toList_append, Array.toList_append, List.append_assoc]
  exact List.take_left' hl
 ·exact grown_trans (grown_drew w none) (World.grownBy_alloc w.drew _ none)
set_option maxHeartbeats 4000000 in
set_option maxRecDepth 100000 in
theorem insert_grow {w : World} {base g n c i : Nat} {ok : Nat → Prop} {rows : List (List Value)} {cs : List Value} (h : (Kd.raw 13).R 32 w base ok (.slice (some ⟨g, 0, none⟩) n c) rows) (hi : i < n) (hroom : c < n + 1) (hn : n < 100000) (vb : Nat) (hv : w.heap[vb]? = some (.cells cs.toArray 32 (0, 0))) (hc : cs.length = 13) (h1 : ∀ u ∈ cs, u.oneCell' = true) (hfresh : ∀ k, w.heap.size ≤ k → ok k) (hbase : base ≤ w.heap.size) :
  Calls Try.prog 43 #[.slice (some ⟨g, 0, none⟩) n c, .int .i64 (i : Int), .slice (some ⟨vb, 0, none⟩) 1 1] w fun e w' => ∃ v', e = .returned v' ∧ (Kd.raw 13).R 32 w' base ok v' (rows.take i ++ cs :: rows.drop i) ∧ w.grownBy w' (Value.slice (some ⟨g, 0, none⟩) n c).ownBlock ∧ (v'.ownBlock = (Value.slice (some ⟨g, 0, none⟩) n c).ownBlock ∨ ∃ b, v'.ownBlock = some b ∧ w.heap.size ≤ b) := by
 obtain ⟨inner, cur, hm, hnc, hcm, hb, hok, hh, hcs, htake, hr⟩ := raw_open h
 have hil : inner.length = n * 13 := by rw [hr.1, hm]
 have hone : ∀ v ∈ inner.drop (i * 13), v.oneCell' = true := fun v hv => by
  obtain ⟨q, hq, rfl⟩ := List.mem_iff_getElem.1 (List.mem_of_mem_drop hv)
  have hql : q / 13 < rows.length := by omega
  refine (hr.2 (q / 13) _ (List.getElem?_eq_getElem hql)).2.2 _ ?_
  rw [List.mem_iff_getElem?]
  refine ⟨q % 13, ?_⟩
  rw [List.getElem?_take, if_pos (Nat.mod_lt q (by decide)), List.getElem?_drop, show q / 13 * 13 + q % 13 = q from by omega, List.getElem?_eq_getElem hq]
 have hcells : ∀ j v, (inner.drop (i * 13))[j]? = some v → w.cell? ⟨g, i * 13 + j, none⟩ = some v := fun j v hj => by
  rw [cell_of_row w g _ cur 32 (0, 0) hh, ← Array.getElem?_toList]
  rw [List.getElem?_drop, ← htake, List.getElem?_take] at hj
  split at hj
  ·exact hj
  ·cases hj
 have hgw : g < w.heap.size := blk_lt hh
 have hvw : vb < w.heap.size := blk_lt hv
 obtain ⟨W1, row, G, hrz, hN, hrl, hrt, hG, hGm, hg1⟩ := grow_run hh hcs htake hil hi hnc hroom hn
 have hmn : Nat.min 1 (n + 1 - i) = 1 := Nat.min_eq_left (by omega)
 obtain ⟨W2, hcp2, hN2, hg2⟩ := copy_run W1 (o := i * 13) (dLen := n + 1 - i) ⟨vb, 0, none⟩ 1 row cs hN (by rw [hmn, hc]) (fun j v hj => by
  rw [add_at, Nat.zero_add, cell_of_row W1 vb _ _ 32 (0, 0) ((hg1.block vb hvw (by simp)).trans hv), List.getElem?_toArray]
  exact hj) (by rw [hc, hrl]; omega) h1
 have hmn3 : Nat.min (n - i) (n - i) = n - i := Nat.min_self _
 obtain ⟨W3, hcp3, hN3, hg3⟩ := copy_run W2.drew (o := (i + 1) * 13) (dLen := n - i) ⟨g, i * 13, none⟩ (n - i) _ (inner.drop (i * 13)) hN2 (by rw [hmn3, List.length_drop, hil]; omega) (fun j v hj => by
  rw [add_at]
  refine ((hg2.cell ((hg1.cell (hcells j v hj) (by simp))) ?_))
  intro e
  injection e with e
  exact absurd e (by show g ≠ _; omega)) (by simp only [List.length_append, List.length_take, List.length_drop, hc, hrl, hil]; omega) hone
 have hw3 : W2.drew.grownBy W3 (some w.heap.size) := hg3
 have hall : w.grownBy W3 (some g) := ⟨hg3.os.trans (hg2.os.trans hg1.os), hg3.tape.trans (hg2.tape.trans hg1.tape), hg3.output.trans (hg2.output.trans hg1.output), Nat.le_trans hg1.size (Nat.le_trans hg2.size hg3.size), fun k hk hne => by
  have e1 : some k ≠ some w.heap.size := fun e => by injection e with e; omega
  exact (hg3.block k (Nat.lt_of_lt_of_le hk (Nat.le_trans hg1.size hg2.size)) e1).trans ((hg2.block k (Nat.lt_of_lt_of_le hk hg1.size) e1).trans (hg1.block k hk (by simp)))⟩
 obtain ⟨g1, g2⟩ := ins_grow row inner cs (i * 13) (n * 13) 13 hrt hil (by rw [hrl]; omega) (by omega) hc
 rw [show (i + 1) * 13 = i * 13 + 13 from by omega] at hN3
 have hfin := raw_fin (W := W3) (base := base) (ok := ok) hN3 (by omega) (by rw [g2]; exact hrl) hG hGm (hfresh _ (Nat.le_refl _)) hm (by omega) g1 hr hc h1
 have HFIN := Aside0.mk hfin
 have HALL := Aside0.mk hall
 rw [hmn] at hcp2
 rw [hmn3] at hcp3
 have hb1 : (0 ≤ (i : Int)) = True := eq_true (by omega)
 have hb2 : ((i : Int) ≤ (n : Int)) = True := eq_true (by omega)
 have hb3 : (c = i) = False := eq_false (by omega)
 have hb4 : (G = i) = False := eq_false (by omega)
 have hb5 : (G = i + 1) = False := eq_false (by omega)
 have hb6 : (0 ≤ (i : Int) + 1) = True := eq_true (by omega)
 have hb7 : (i ≤ c) = True := eq_true (by omega)
 have hb8 : ((i : Int) ≤ (n : Int) + 1) = True := eq_true (by omega)
 have e0 : ((1 : Int) == 0) = false := by decide
 have e1 : ((i : Int) == (n : Int)) = false := by rw [beq_eq_false_iff_ne]; omega
 have e2 : decide ((n : Int) + 1 > (c : Int)) = true := decide_eq_true (by omega)
 have e3 : decide ((c : Int) < (n : Int) + 1) = true := decide_eq_true (by omega)
 have hw1 : IntKind.i64.wrap ((n : Int) + 1) = (n : Int) + 1 := by rw [IntKind.wrap_i64]; omega
 have hw2 : IntKind.i64.wrap ((n : Int) + 1 - (i : Int)) = (n : Int) + 1 - (i : Int) := by rw [IntKind.wrap_i64]; omega
 have hw3 : IntKind.i64.wrap ((i : Int) + 1) = (i : Int) + 1 := by rw [IntKind.wrap_i64]; omega
 have hw4 : wrap64 ((i : Int) + 1) = (i : Int) + 1 := by rw [← i64_w]; exact hw3
 have htn := toNat1 i
 have hg0 : goInt ((1 : Nat) : Int) = .int .i64 1 := rfl
 clear h hm hnc hcm hb hok hh hcs htake hr hil hone hcells hgw hvw hN hrl hrt hG hGm hg1 hmn hN2 hg2 hmn3 hN3 hg3 hw3 hall g1 g2 hfin hi hroom hn hv hc h1 hfresh hbase
 go_enter Try.func43, Try.ntmps43
 go_wp2_with (first | (at_builtin; refine Lib.wpList_append_run _ rfl _ _ _ _ rfl _ _ rfl rfl _ _ (hrz _) ?_))
 refine start_ (n := 9) (S := (fun _ => True)) (ds := []) #[false, false, false, false, false, false, false, false, false] (by kernel_rfl) rfl rfl (trivial) (fun hHeld => ?_)
 refine with_tabW insg.tab11 insg.bits11 (fun HT_ HW_ => ?_)
 refine pureS (i := 0) (N := (some 46)) #[true, false, false, false, false, false, false, false, false] HT_ ?_
 refine pureS (i := 1) (N := (some 47)) #[true, true, false, false, false, false, false, false, false] HT_ ?_
 refine pureS (i := 2) (N := (some 48)) #[true, true, true, false, false, false, false, false, false] HT_ ?_
 refine pureS (i := 3) (N := (some 49)) #[true, true, true, true, false, false, false, false, false] HT_ ?_
 refine pureS (i := 4) (N := (some 50)) #[true, true, true, true, true, false, false, false, false] HT_ ?_
 refine pureS (i := 5) (N := (some 51)) #[true, true, true, true, true, true, false, false, false] HT_ ?_
 refine pureS (i := 6) (N := (some 52)) #[true, true, true, true, true, true, true, false, false] HT_ ?_
 refine pureS (i := 7) (N := (some 53)) #[true, true, true, true, true, true, true, true, false] HT_ ?_
 refine one_ (i := 8) (N := (some 54)) #[true, true, true, true, true, true, true, true, true] rfl rfl (one_of HT_.out (by kernel_rfl)) (by decide) (fun K hK => ?_)
 refine value_ (w1 := ?_) (v := ?_) (by rfl) rfl ?_ ?_
 rotate_left 2
 ·go_simp
  constructor
  ·rfl
  ·rfl
 refine hK.out _ _ (trivial) (fun hHeld => ?_)
 clear hK K
 refine norm_ (a' := ?_) ?_ ?_
 rotate_left
 ·show Act.put _ (some 54) _ = _
  simp only [Act.put, List.setIfInBounds_toArray, List.set_cons_zero, List.set_cons_succ, i64_w, i32_w]
  rfl
 refine done_ (done_of HT_.out (by kernel_rfl)) ?_
 go_wp2
 go_ret
 exact ⟨_, rfl, HFIN.out, HALL.out, .inr ⟨_, rfl, Nat.le_refl _⟩⟩
set_option maxHeartbeats 4000000 in
set_option maxRecDepth 100000 in
theorem insert_place {w : World} {base g n c i : Nat} {ok : Nat → Prop} {rows : List (List Value)} {cs : List Value} (h : (Kd.raw 13).R 32 w base ok (.slice (some ⟨g, 0, none⟩) n c) rows) (hi : i < n) (hroom : n + 1 ≤ c) (hn : n < 100000) (vb : Nat) (hne : vb ≠ g) (hv : w.heap[vb]? = some (.cells cs.toArray 32 (0, 0))) (hc : cs.length = 13) (h1 : ∀ u ∈ cs, u.oneCell' = true) :
  Calls Try.prog 43 #[.slice (some ⟨g, 0, none⟩) n c, .int .i64 (i : Int), .slice (some ⟨vb, 0, none⟩) 1 1] w fun e w' => ∃ v', e = .returned v' ∧ (Kd.raw 13).R 32 w' base ok v' (rows.take i ++ cs :: rows.drop i) ∧ w.grownBy w' (Value.slice (some ⟨g, 0, none⟩) n c).ownBlock ∧ (v'.ownBlock = (Value.slice (some ⟨g, 0, none⟩) n c).ownBlock ∨ ∃ b, v'.ownBlock = some b ∧ w.heap.size ≤ b) := by
 obtain ⟨inner, cur, hm, hnc, hcm, hb, hok, hh, hcs, htake, hr⟩ := raw_open h
 have hil : inner.length = n * 13 := by rw [hr.1, hm]
 have hone : ∀ v ∈ inner.drop (i * 13), v.oneCell' = true := fun v hv => by
  obtain ⟨q, hq, rfl⟩ := List.mem_iff_getElem.1 (List.mem_of_mem_drop hv)
  have hql : q / 13 < rows.length := by omega
  refine (hr.2 (q / 13) _ (List.getElem?_eq_getElem hql)).2.2 _ ?_
  rw [List.mem_iff_getElem?]
  refine ⟨q % 13, ?_⟩
  rw [List.getElem?_take, if_pos (Nat.mod_lt q (by decide)), List.getElem?_drop, show q / 13 * 13 + q % 13 = q from by omega, List.getElem?_eq_getElem hq]
 have hcells : ∀ j v, (inner.drop (i * 13))[j]? = some v → w.cell? ⟨g, i * 13 + j, none⟩ = some v := fun j v hj => by
  rw [cell_of_row w g _ cur 32 (0, 0) hh, ← Array.getElem?_toList]
  rw [List.getElem?_drop, ← htake, List.getElem?_take] at hj
  split at hj
  ·exact hj
  ·cases hj
 have hgw : g < w.heap.size := blk_lt hh
 have hvw : vb < w.heap.size := blk_lt hv
 have hcl : cur.toList.length = c * 13 := by rw [Array.length_toList]; exact hcs
 have hmn3 : Nat.min (n + 1 - i) (n - i) = n - i := Nat.min_eq_right (by omega)
 have hh2 : w.drew.heap[g]? = some (.cells cur.toList.toArray 32 (0, 0)) := by rw [Array.toArray_toList]; exact hh
 obtain ⟨W1, hcp1, hN1, hg1⟩ := copy_run w.drew (o := (i + 1) * 13) (dLen := n - i) ⟨g, i * 13, none⟩ (n + 1 - i) _ (inner.drop (i * 13)) hh2 (by rw [hmn3, List.length_drop, hil]; omega) (fun j v hj => by
  rw [add_at]
  exact hcells j v hj) (by rw [List.length_drop, hil, hcl]; omega) hone
 have hmn : Nat.min 1 (n + 1 - i) = 1 := Nat.min_eq_left (by omega)
 obtain ⟨W2, hcp2, hN2, hg2⟩ := copy_run W1 (o := i * 13) (dLen := n + 1 - i) ⟨vb, 0, none⟩ 1 _ cs hN1 (by rw [hmn, hc]) (fun j v hj => by
  rw [add_at, Nat.zero_add, cell_of_row W1 vb _ _ 32 (0, 0) ((hg1.block vb hvw (fun e => hne (by injection e))).trans hv), List.getElem?_toArray]
  exact hj) (by simp only [List.length_append, List.length_take, List.length_drop, hc, hcl, hil]; omega) h1
 have hall : w.grownBy W2 (some g) := ⟨hg2.os.trans hg1.os, hg2.tape.trans hg1.tape, hg2.output.trans hg1.output, Nat.le_trans hg1.size hg2.size, fun k hk hne =>
  (hg2.block k (Nat.lt_of_lt_of_le hk hg1.size) hne).trans (hg1.block k hk hne)⟩
 obtain ⟨g1, g2⟩ := ins_place cur.toList inner cs (i * 13) (n * 13) 13 htake (by rw [hcl]; omega) (by omega) hc
 rw [show (i + 1) * 13 = i * 13 + 13 from by omega] at hN2
 have hfin := raw_fin (W := W2) (base := base) (ok := ok) hN2 hb (by rw [g2]; exact hcl) hroom hcm hok hm (by omega) g1 hr hc h1
 have HFIN := Aside0.mk hfin
 have HALL := Aside0.mk hall
 rw [hmn] at hcp2
 rw [hmn3] at hcp1
 obtain ⟨i0, hi0, hzz⟩ := Option.map_eq_some_iff.1 info32
 simp only [Prod.mk.injEq] at hzz
 have hov : ∀ lb cb, (callFunc 68 #[.slice (some ⟨vb, 0, none⟩) 1 1, .slice (some ⟨g, (i + 1) * 13, none⟩) lb cb]).run Try.prog w = .ok (.value (.bool false)) w := fun lb cb => by
  rw [run_callFunc_extern Try.func68 (by kernel_rfl) (by kernel_rfl) (by kernel_rfl) (e := Extern.SlicesOverlaps.overlaps #[22, 22] #[4]) (by kernel_rfl),
   Lib.run_overlaps_apart w 22 4 32 Try.underlying22 13 (fun w => by simp [sizeOf, typeInfo, hi0, hzz.2.1]) ⟨vb, 0, none⟩ ⟨g, (i + 1) * 13, none⟩ 1 1 lb cb hne 32 32 13 cur.size (by simp [World.shape?, hv, hc]) (by simp [World.shape?, hh]) (by rw [hcs]; omega) (blk_frozen hv _) (blk_frozen hv _)]
  rfl
 have hb1 : (0 ≤ (i : Int)) = True := eq_true (by omega)
 have hb2 : ((i : Int) ≤ (n : Int)) = True := eq_true (by omega)
 have hb3 : (c = i) = False := eq_false (by omega)
 have hb5 : (c = i + 1) = False := eq_false (by omega)
 have hb6 : (0 ≤ (i : Int) + 1) = True := eq_true (by omega)
 have hb7 : (n + 1 ≤ c) = True := eq_true (by omega)
 have hb8 : ((i : Int) ≤ (n : Int) + 1) = True := eq_true (by omega)
 have hb9 : (0 ≤ (n : Int) + 1) = True := eq_true (by omega)
 have hb10 : ((n : Int) + 1 ≤ (c : Int)) = True := eq_true (by omega)
 have e0 : ((1 : Int) == 0) = false := by decide
 have e1 : ((i : Int) == (n : Int)) = false := by rw [beq_eq_false_iff_ne]; omega
 have e2 : decide ((n : Int) + 1 > (c : Int)) = false := decide_eq_false (by omega)
 have e3 : decide ((c : Int) < (n : Int) + 1) = false := decide_eq_false (by omega)
 have hw1 : IntKind.i64.wrap ((n : Int) + 1) = (n : Int) + 1 := by rw [IntKind.wrap_i64]; omega
 have hw3 : IntKind.i64.wrap ((i : Int) + 1) = (i : Int) + 1 := by rw [IntKind.wrap_i64]; omega
 have hw4 : wrap64 ((i : Int) + 1) = (i : Int) + 1 := by rw [← i64_w]; exact hw3
 have htn := toNat1 i
 have htn2 := toNat1 n
 clear h hm hnc hcm hb hok hh hcs htake hr hil hone hcells hgw hvw hcl hh2 hN1 hg1 hmn hN2 hg2 hmn3 hall g1 g2 hfin hi hroom hn hv hc h1 hne hi0 hzz
 go_enter Try.func43, Try.ntmps43
 go_wp2_with (simp only [hov])
 refine start_ (n := 9) (S := (fun _ => True)) (ds := []) #[false, false, false, false, false, false, false, false, false] (by kernel_rfl) rfl rfl (trivial) (fun hHeld => ?_)
 refine with_tabW insp.tab15 insp.bits15 (fun HT_ HW_ => ?_)
 refine pureS (i := 0) (N := (some 69)) #[true, false, false, false, false, false, false, false, false] HT_ ?_
 refine pureS (i := 1) (N := (some 70)) #[true, true, false, false, false, false, false, false, false] HT_ ?_
 refine pureS (i := 2) (N := (some 71)) #[true, true, true, false, false, false, false, false, false] HT_ ?_
 refine pureS (i := 3) (N := (some 72)) #[true, true, true, true, false, false, false, false, false] HT_ ?_
 refine pureS (i := 4) (N := (some 73)) #[true, true, true, true, true, false, false, false, false] HT_ ?_
 refine pureS (i := 5) (N := (some 74)) #[true, true, true, true, true, true, false, false, false] HT_ ?_
 refine pureS (i := 6) (N := (some 75)) #[true, true, true, true, true, true, true, false, false] HT_ ?_
 refine pureS (i := 7) (N := (some 76)) #[true, true, true, true, true, true, true, true, false] HT_ ?_
 refine one_ (i := 8) (N := (some 77)) #[true, true, true, true, true, true, true, true, true] rfl rfl (one_of HT_.out (by kernel_rfl)) (by decide) (fun K hK => ?_)
 refine value_ (w1 := ?_) (v := ?_) (by rfl) rfl ?_ ?_
 rotate_left 2
 ·go_simp
  constructor
  ·rfl
  ·rfl
 refine hK.out _ _ (trivial) (fun hHeld => ?_)
 clear hK K
 refine norm_ (a' := ?_) ?_ ?_
 rotate_left
 ·show Act.put _ (some 77) _ = _
  simp only [Act.put, List.setIfInBounds_toArray, List.set_cons_zero, List.set_cons_succ, i64_w, i32_w]
  rfl
 refine done_ (done_of HT_.out (by kernel_rfl)) ?_
 go_wp2
 go_ret
 exact ⟨_, rfl, HFIN.out, HALL.out, .inl rfl⟩
end Go.Proofs.Ytnopjjilpgekfaa.PCa
namespace Go.Proofs.Ytnopjjilpgekfaa.PCa
open Go.RowKit Go.Proofs.YtnopjjilpgekfaaW.PrintWords Go.Proofs.YtnopjjilpgekfaaW.PrintLast Go.Proofs.YtnopjjilpgekfaaW.PrintMore
set_option linter.unusedVariables false
set_option linter.unusedSimpArgs false
theorem insert_raw {w : World} {base n c i : Nat} {A : Option Addr} {ok : Nat → Prop} {rows : List (List Value)} {cs : List Value} (h : (Kd.raw 13).R 32 w base ok (.slice A n c) rows) (hi : i ≤ n) (hn : n < 100000) (vb : Nat) (hne : some vb ≠ (Value.slice A n c).ownBlock) (hv : w.heap[vb]? = some (.cells cs.toArray 32 (0, 0))) (hc : cs.length = 13) (h1 : ∀ u ∈ cs, u.oneCell' = true) (hfresh : ∀ k, w.heap.size ≤ k → ok k) (hbase : base ≤ w.heap.size) :
  Calls Try.prog 43 #[.slice A n c, .int .i64 (i : Int), .slice (some ⟨vb, 0, none⟩) 1 1] w fun e w' => ∃ v', e = .returned v' ∧ (Kd.raw 13).R 32 w' base ok v' (rows.take i ++ cs :: rows.drop i) ∧ w.grownBy w' (Value.slice A n c).ownBlock ∧ (v'.ownBlock = (Value.slice A n c).ownBlock ∨ ∃ b, v'.ownBlock = some b ∧ w.heap.size ≤ b) := by
 have hm := (Kd.R_reads' h).1
 by_cases hin : i = n
 ·subst hin
  have e : rows.take i ++ cs :: rows.drop i = rows ++ [cs] := by rw [hm, List.take_length, List.drop_length]
  rw [e]
  exact insert_end h hn vb hv hc h1 hfresh hbase
 ·cases A with
  | none =>
   exfalso
   obtain ⟨_, _, _, _, hC⟩ := Kd.R_reads' h
   obtain ⟨ad, had, _⟩ := hC (by omega)
   cases had
  | some ad =>
   obtain ⟨g, rfl⟩ := Kd.R_head h
   by_cases hroom : c < n + 1
   ·exact insert_grow h (by omega) hroom hn vb hv hc h1 hfresh hbase
   ·exact insert_place h (by omega) (by omega) hn vb (fun e => hne (by rw [e]; rfl)) hv hc h1
theorem insert_S {w : World} {base n c i : Nat} {A : Option Addr} {ok okp : Nat → Prop} {l : List S32} {x : S32} {cs : List Value} (h : Kd.S k32 32 w base (fun k => ok k ∧ ¬ okp k) (.slice A n c) l) (hi : i ≤ n) (hn : n < 100000) (hM : k32.M w base okp x cs) (hokp : ∀ k, okp k → ok k) (hfresh : ∀ k, w.heap.size ≤ k → ok k)
  (vb : Nat) (hne : some vb ≠ (Value.slice A n c).ownBlock) (hv : w.heap[vb]? = some (.cells cs.toArray 32 (0, 0))) (hbase : base ≤ w.heap.size) :
  Calls Try.prog 43 #[.slice A n c, .int .i64 (i : Int), .slice (some ⟨vb, 0, none⟩) 1 1] w fun e w' => ∃ v', e = .returned v' ∧ Kd.S k32 32 w' base ok v' (l.take i ++ x :: l.drop i) ∧ w.grownBy w' (Value.slice A n c).ownBlock ∧ (v'.ownBlock = (Value.slice A n c).ownBlock ∨ ∃ b, v'.ownBlock = some b ∧ w.heap.size ≤ b) := by
 obtain ⟨f, hf, hR⟩ := Kd.S_tag h l.length okp (fun _ hk h2 => h2.2 hk)
 obtain ⟨rows, hl, hraw, hel⟩ := R_rows hR
 rw [List.length_zipIdx] at hl
 have hK := k32.K_of_M hM
 have hnl : n = l.length := by
  have := (Kd.R_reads' hR).1
  rwa [List.length_zipIdx] at this
 refine (insert_raw (Kd.R_mono hraw (ok' := fun _ => True) (fun _ _ => trivial)) hi hn vb hne hv (k32.K_len hK) (k32.K_one hK) (fun _ _ => trivial) hbase).mono ?_
 rintro e w' ⟨v', rfl, hr, hg, hat⟩
 have hown : ∀ k, v'.ownBlock = some k → (Value.slice A n c).ownBlock = some k ∨ w.heap.size ≤ k := fun k hk => by
  rcases hat with ha | ⟨b, ha, hb⟩
  ·exact .inl (ha ▸ hk)
  ·rw [ha] at hk
   injection hk with hk
   exact .inr (by omega)
 have hrR := rows_R (d := Kd.tag f k32) (ok := ok) (ys := l.zipIdx.take i ++ (x, l.length) :: l.zipIdx.drop i) hr
  (by simp only [List.length_append, List.length_cons, List.length_take, List.length_drop, List.length_zipIdx, hl])
  (fun k hk => by
   rcases hown k hk with h1 | h1
   ·exact (hR.1 k h1).1
   ·exact hfresh k h1)
  (fun j p cc hp hc => by
   have hmv : ∀ (q : S32 × Nat) (cq : List Value), (Kd.tag f k32).M w base (fun k => (ok k ∧ ¬ okp k) ∧ some k ≠ (Value.slice A n c).ownBlock) q cq → (Kd.tag f k32).M w' base (fun k => ok k ∧ some k ≠ v'.ownBlock) q cq := fun q cq hq =>
    (Kd.tag f k32).M_mono (fun k hk => ⟨hk.1.1.1.1, fun e => by
     rcases hown k e.symm with h1 | h1
     ·exact hk.1.1.2 h1.symm
     ·have := hk.1.2.2.1; omega⟩) (Kd.M_grown (ok := fun k => ((((ok k ∧ ¬ okp k) ∧ some k ≠ (Value.slice A n c).ownBlock) ∧ base ≤ k ∧ k < w.heap.size ∧ ∃ q, q ∈ (Kd.tag f k32).E ∧ ∃ cells, w.heap[k]? = some (.cells cells q (0, 0)))) ∧ True) ((Kd.tag f k32).M_mono (fun k hk => ⟨hk, trivial⟩) ((Kd.tag f k32).M_bound hq)) hg (fun k hk => hk.1.1.2))
   rcases Nat.lt_trichotomy j i with hj | hj | hj
   ·rw [List.getElem?_append_left (by rw [List.length_take, List.length_zipIdx]; omega), List.getElem?_take, if_pos hj] at hp
    rw [List.getElem?_append_left (by rw [List.length_take, hl]; omega), List.getElem?_take, if_pos hj] at hc
    exact hmv _ _ (hel j p cc hp hc)
   ·subst hj
    rw [List.getElem?_append_right (by rw [List.length_take, List.length_zipIdx]; omega), List.length_take, List.length_zipIdx, Nat.min_eq_left (by omega), Nat.sub_self, List.getElem?_cons_zero] at hp
    rw [List.getElem?_append_right (by rw [List.length_take, hl]; omega), List.length_take, hl, Nat.min_eq_left (by omega), Nat.sub_self, List.getElem?_cons_zero] at hc
    injection hp with hp
    injection hc with hc
    subst hp; subst hc
    show k32.M w' base _ x cs
    have hno : ∀ k, okp k → some k ≠ (Value.slice A n c).ownBlock := fun k hk e => (hR.1 k e.symm).2 hk
    refine k32.M_mono (fun k hk => ⟨⟨hokp k hk.1, fun e => ?_⟩, hf k hk.1⟩) (Kd.M_grown (k32.M_bound hM) hg (fun k hk => hno k hk.1))
    rcases hown k e.symm with h1 | h1
    ·exact hno k hk.1 h1.symm
    ·have := hk.2.2.1; omega
   ·obtain ⟨m, rfl⟩ : ∃ m, j = i + (m + 1) := ⟨j - i - 1, by omega⟩
    rw [List.getElem?_append_right (by rw [List.length_take, List.length_zipIdx]; omega), List.length_take, List.length_zipIdx, Nat.min_eq_left (by omega), Nat.add_sub_cancel_left, List.getElem?_cons_succ, List.getElem?_drop] at hp
    rw [List.getElem?_append_right (by rw [List.length_take, hl]; omega), List.length_take, hl, Nat.min_eq_left (by omega), Nat.add_sub_cancel_left, List.getElem?_cons_succ, List.getElem?_drop] at hc
    exact hmv _ _ (hel (i + m) p cc hp hc))
 refine ⟨v', rfl, ?_, hg, hat⟩
 have hfin := S_of_tags hrR (by
  refine ((List.perm_middle.map Prod.snd).nodup_iff).2 ?_
  rw [List.take_append_drop, List.map_cons]
  refine List.nodup_cons.2 ⟨fun hmem => ?_, zip_nodup _ _⟩
  rw [List.zipIdx_map_snd, List.mem_range'] at hmem
  obtain ⟨q, hq, e⟩ := hmem
  have e' : l.length = 0 + 1 * q := e
  omega)
 have e : (l.zipIdx.take i ++ (x, l.length) :: l.zipIdx.drop i).map Prod.fst = l.take i ++ x :: l.drop i := by
  rw [List.map_append, List.map_cons, List.map_take, List.map_drop, List.zipIdx_map_fst]
 rw [e] at hfin
 exact hfin
/-- An element goes: its blocks are its own. -/
theorem delete_S {w : World} {base n c i g : Nat} {ok : Nat → Prop} {l : List S32} (h : Kd.S k32 32 w base ok (.slice (some ⟨g, 0, none⟩) n c) l) (hi : i < n) (hn : n < 100000) :
  ∃ O : Nat → Prop, (∀ k, O k → ok k ∧ k ≠ g) ∧ (∃ cs, k32.M w base O (rd_T32 l (i : Int)) cs ∧ ∀ j u, cs[j]? = some u → w.cell? ⟨g, i * 13 + j, none⟩ = some u) ∧
  Calls Try.prog 74 #[.slice (some ⟨g, 0, none⟩) n c, .int .i64 (i : Int), .int .i64 ((i + 1 : Nat) : Int)] w fun e w' => e = .returned (.slice (some ⟨g, 0, none⟩) (n - 1) c) ∧ Kd.S k32 32 w' base (fun k => ok k ∧ ¬ O k) (.slice (some ⟨g, 0, none⟩) (n - 1) c) (l.eraseIdx i) ∧ w.grownBy w' (some g) := by
 obtain ⟨f, hR⟩ := h
 have hgo : ∀ m, (Value.slice (some ⟨g, 0, none⟩) m c).ownBlock = some g := fun m => rfl
 refine ⟨fun k => (ok k ∧ some k ≠ (Value.slice (some ⟨g, 0, none⟩) n c).ownBlock) ∧ f k = i, fun k hk => ⟨hk.1.1, fun e => hk.1.2 (by rw [e, hgo])⟩, ?_, (delete_calls (d := Kd.tag f k32) rfl hR hi hn).mono ?_⟩
 ·have hnl : n = l.length := by
   have := (Kd.R_reads' hR).1
   rwa [List.length_zipIdx] at this
  obtain ⟨c', hcl, hM, hcc, _⟩ := Kd.R_elem hR (z32, i) (i : Int) (by omega) (by omega)
  rw [Int.toNat_natCast] at hM hcc
  have e : l.zipIdx.getD i (z32, i) = (rd_T32 l (i : Int), i) := by
   have hil : i < l.length := by omega
   have hz : l.zipIdx[i]? = some (l[i], i) := by rw [List.getElem?_zipIdx, List.getElem?_eq_getElem hil, Nat.zero_add]; rfl
   rw [List.getD_eq_getElem?_getD, hz, Option.getD_some, rd_T32, Int.toNat_natCast, List.getD_eq_getElem?_getD, List.getElem?_eq_getElem hil, Option.getD_some]
  rw [e] at hM
  refine ⟨c', k32.M_mono (fun k hk => ⟨⟨hk.1.1, fun e => ?_⟩, hk.2⟩) hM, hcc⟩
  rw [hgo] at e
  injection e with e
  exact hk.1.2 e
 ·rintro e w' ⟨rfl, hr, hg⟩
  refine ⟨rfl, ?_, hg⟩
  have hz : ∀ k, f k = i → f k = i := fun _ h => h
  obtain ⟨rows, hl, hraw, hel⟩ := R_rows hr
  have hr2 : (Kd.tag f k32).R 32 w' base (fun k => ok k ∧ ¬((ok k ∧ some k ≠ (Value.slice (some ⟨g, 0, none⟩) n c).ownBlock) ∧ f k = i)) (.slice (some ⟨g, 0, none⟩) (n - 1) c) (l.zipIdx.eraseIdx i) := by
   refine rows_R hraw hl (fun k hk => ⟨hr.1 k hk, fun h2 => h2.1.2 (by rw [hgo] at hk ⊢; exact hk.symm)⟩) (fun j p cc hp hc => ?_)
   have hm := hel j p cc hp hc
   have hp2 : p.2 ≠ i := by
    have hmem : p ∈ l.zipIdx.eraseIdx i := List.mem_of_getElem? hp
    intro e
    rw [List.mem_eraseIdx_iff_getElem?] at hmem
    obtain ⟨q, hq, hp3⟩ := hmem
    rw [List.getElem?_zipIdx] at hp3
    obtain ⟨y, _, rfl⟩ := Option.map_eq_some_iff.1 hp3
    exact hq (by rw [Nat.zero_add] at e; exact e)
   refine k32.M_mono (fun k hk => ⟨⟨⟨hk.1.1, fun h2 => hp2 (hk.2.symm.trans h2.2)⟩, hk.1.2⟩, hk.2⟩) hm
  exact Kd.S_erase hr2
abbrev chA (x : S32) (v : Value) : Array Value := #[.int .i64 x.f0.f0, .int .i64 x.f0.f1, .int .i64 x.f1, v, .int .i64 x.f3, .int .i64 x.f4.f0, .int .i64 x.f4.f1, .int .i64 x.f5.f0, .int .i64 x.f5.f1, .int .i64 x.f6.f0, .int .i64 x.f6.f1, .string x.f7, .string x.f8]
abbrev chL (x : S32) (v : Value) : List Value := [.int .i64 x.f0.f0, .int .i64 x.f0.f1, .int .i64 x.f1, v, .int .i64 x.f3, .int .i64 x.f4.f0, .int .i64 x.f4.f1, .int .i64 x.f5.f0, .int .i64 x.f5.f1, .int .i64 x.f6.f0, .int .i64 x.f6.f1, .string x.f7, .string x.f8]
theorem chM {w : World} {base : Nat} {ok : Nat → Prop} {x : S32} {cs : List Value} (h : k32.M w base ok x cs) : ∃ v, cs = chL x v ∧ (Kd.int .i64).R 3 w base ok v x.f2 := k32_openM h
theorem chMk {w : World} {base : Nat} {ok : Nat → Prop} {x : S32} {v : Value} (h : (Kd.int .i64).R 3 w base ok v x.f2) : k32.M w base ok x (chL x v) := k32_mkM w base ok x h
section
variable {o : Oper} {ops : Array Oper} {rest : List Oper} {a : Act} {Q : Exit → Act → World → Prop} {W : World} {x : S32} {v : Value}
theorem load32_run (ρ : Operand → Value) {p : Operand} (ho : o.op = .load 32 p) {ad : Addr} (hp : ρ p = .pointer (some ad)) (hc : ∀ j u, (chL x v)[j]? = some u → W.cell? (ad.add j) = some u) :
  (execOp ρ o).run Try.prog W = .ok (.value (.agg (chA x v))) W := by
 have e : execOp ρ o = (do let v ← Instr.loadAt 32 (ρ p); pure (.value v)) := by
  unfold execOp
  rw [ho]
 obtain ⟨i0, hi0, hzz⟩ := Option.map_eq_some_iff.1 info32
 simp only [Prod.mk.injEq] at hzz
 have hl := run_loadCells_list (P := Try.prog) W ad (chL x v) hc
 have hl2 : (loadCells ad 13).run Try.prog W = .ok (chA x v) W := hl
 rw [e, hp]
 simp [Instr.loadAt, Instr.sureAddr, loadVar, isAgg, run_underlying Try.underlying32, sizeOf, typeInfo, hi0, hzz.2.1, hl2]
theorem store32_run (ρ : Operand → Value) {p q : Operand} (ho : o.op = .store 32 p q) {g : Nat} (hp : ρ p = .pointer (some ⟨g, 0, none⟩)) (hq : ρ q = .agg (chA x v)) (hv : v.oneCell' = true) {cs : Array Value} (hg : W.heap[g]? = some (.cells cs 32 (0, 0))) (hs : cs.size = 13) :
  (execOp ρ o).run Try.prog W = .ok .skip (W.setRow g (chA x v)) := by
 have e : execOp ρ o = (do Instr.storeAt 32 (ρ p) (ρ q); pure .skip) := by
  unfold execOp
  rw [ho]
 obtain ⟨i0, hi0, hzz⟩ := Option.map_eq_some_iff.1 info32
 simp only [Prod.mk.injEq] at hzz
 have hone : ∀ u ∈ chL x v, u.oneCell' = true := by
  intro u hu
  simp only [chL, List.mem_cons, List.not_mem_nil, or_false] at hu
  rcases hu with rfl | rfl | rfl | rfl | rfl | rfl | rfl | rfl | rfl | rfl | rfl | rfl | rfl <;> first | rfl | exact hv
 have hst := run_storeCells_at Try.prog g 0 32 (chL x v) 0 cs W hg (by rw [hs]; exact (Nat.le_refl 13 : 0 + 0 + 13 ≤ 13)) hone
 have hrow : (cs.toList.take (0 + 0) ++ chL x v ++ cs.toList.drop (0 + 0 + (chL x v).length)).toArray = chA x v := by
  rw [List.drop_of_length_le (by rw [Array.length_toList, hs]; exact (Nat.le_refl 13 : 13 ≤ 0 + 0 + 13))]
  rfl
 rw [hrow] at hst
 have hcl : v.cells = #[v] := by
  cases v <;> first | rfl | simp [Value.oneCell'] at hv
 have hcells : (Value.agg (chA x v)).cells = chA x v := by
  unfold Value.cells
  simp [hcl]
 rw [e, hp, hq]
 simp [Instr.storeAt, Instr.sureAddr, storeVar, sizeOf, typeInfo, hi0, hzz.2.1, hcells, hst]
theorem load32_ev (hgd : o.guard = none) {N : Tmp} (_hd : o.dst = some N) (x : S32) (v : Value) {p : Operand} (ho : o.op = .load 32 p) {ad : Addr} (hp : a.eval p = .pointer (some ad)) (hc : ∀ j u, (chL x v)[j]? = some u → W.cell? (ad.add j) = some u)
  (h : wpList Try.prog ops Q rest (a.put o.dst (.agg (chA x v))) W) : wpList Try.prog ops Q (o :: rest) a W :=
 Kd.event_run hgd (load32_run a.eval ho hp hc) h
theorem store32_ev (hgd : o.guard = none) (hN : o.dst = none) (x : S32) (v : Value) {p q : Operand} (ho : o.op = .store 32 p q) {g : Nat} (hp : a.eval p = .pointer (some ⟨g, 0, none⟩)) (hq : a.eval q = .agg (chA x v)) (hv : v.oneCell' = true) {cs : Array Value} (hg : W.heap[g]? = some (.cells cs 32 (0, 0))) (hs : cs.size = 13)
  (h : ∀ w1, w1.heap[g]? = some (.cells (chA x v) 32 (0, 0)) → W.grownBy w1 (some g) → wpList Try.prog ops Q rest a w1) : wpList Try.prog ops Q (o :: rest) a W := by
 refine wpList_plain hgd fun K hK => ?_
 unfold Oper.wp
 rw [store32_run a.eval ho hp hq hv hg hs]
 show K (a.put o.dst undef) _
 rw [hN]
 exact hK _ _ (h _ (setRow_heap W g cs _ 32 (0, 0) hg) ⟨rfl, rfl, rfl, by simp [World.setRow], fun k hk hne => setRow_other W g k _ (fun e => hne (by rw [e]))⟩)
theorem blk_cells {w : World} {g : Nat} {x : S32} {v : Value} (h : w.heap[g]? = some (.cells (chA x v) 32 (0, 0))) : ∀ j u, (chL x v)[j]? = some u → w.cell? ((⟨g, 0, none⟩ : Addr).add j) = some u := fun j u hj => by
 rw [add_at, Nat.zero_add, blk_cell h, show (chA x v)[j]? = ((chL x v).toArray)[j]? from rfl, List.getElem?_toArray]
 exact hj
end
end Go.Proofs.Ytnopjjilpgekfaa.PCa
namespace Go.Proofs.Ytnopjjilpgekfaa.PCa
open Go.RowKit Go.Proofs.YtnopjjilpgekfaaW.PrintWords Go.Proofs.YtnopjjilpgekfaaW.PrintLast Go.Proofs.YtnopjjilpgekfaaW.PrintMore
attribute [local go_sem] max2_int min2_int max_two min_two max_three min_three max_four min_four
set_option linter.unusedVariables false
set_option linter.unusedSimpArgs false
def causal_of.f (a0_0 : Int) (a0_1 : Int) (a0_2 : Int) (l0_3 : List Int) (a0_4 : Int) (a0_5 : Int) (a0_6 : Int) (a0_7 : Int) (a0_8 : Int) (a0_9 : Int) (a0_10 : Int) (a0_11 : ByteArray) (a0_12 : ByteArray) : Option (Int × Int) := some (a0_1, a0_2)
set_option maxHeartbeats 8000000 in
set_option maxRecDepth 100000 in
theorem causal_of.calls (a0_0 : Int) (a0_1 : Int) (a0_2 : Int) (A0_3 : Option Addr) (c0_3 : Nat) (l0_3 : List Int) (a0_4 : Int) (a0_5 : Int) (a0_6 : Int) (a0_7 : Int) (a0_8 : Int) (a0_9 : Int) (a0_10 : Int) (a0_11 : ByteArray) (a0_12 : ByteArray) (r1 : Int) (r2 : Int) (w : World) (hr0_3 : Kd.C (Kd.int .i64) w A0_3 l0_3.length l0_3) (hc0_3 : l0_3.length ≤ c0_3) (h : causal_of.f a0_0 a0_1 a0_2 l0_3 a0_4 a0_5 a0_6 a0_7 a0_8 a0_9 a0_10 a0_11 a0_12 = some (r1, r2)) :
  Calls Try.prog 36 #[.agg #[.int .i64 a0_0, .int .i64 a0_1, .int .i64 a0_2, .slice A0_3 l0_3.length c0_3, .int .i64 a0_4, .int .i64 a0_5, .int .i64 a0_6, .int .i64 a0_7, .int .i64 a0_8, .int .i64 a0_9, .int .i64 a0_10, .string a0_11, .string a0_12]] w fun e w' => e = .returned (.agg #[.int .i64 r1, .int .i64 r2]) ∧ Below w.heap.size w w' := by
 have hu32 := Try.underlying32
 have hu76 := Try.underlying76
 have HR0_3 := Aside0.mk hr0_3
 have HC0_3 := Aside0.mk hc0_3
 clear hr0_3 hc0_3
 have HB := Aside0.mk (Below.refl w.heap.size w)
 have H : (some (a0_1, a0_2)) = some (r1, r2) := h
 clear h
 simp only [Option.some.injEq, Prod.mk.injEq] at H
 obtain ⟨rfl, rfl⟩ := H
 go_enter Try.func36, Try.ntmps36
 go_wp2_with (first | ((with_reducible refine gate_dst (N := 1) rfl ?_); refine box_event ?hg (N := 1) ?hd (cs := #[.int .i64 a0_0, .int .i64 a0_1, .int .i64 a0_2, .slice A0_3 l0_3.length c0_3, .int .i64 a0_4, .int .i64 a0_5, .int .i64 a0_6, .int .i64 a0_7, .int .i64 a0_8, .int .i64 a0_9, .int .i64 a0_10, .string a0_11, .string a0_12]) (t := 32) ?hr ?_; (case hd => rfl); (case hg => rfl); (case hr => first | (go_simp; done) | (go_simp; rfl)); intro gb358 hg w2 hbox hb; have n0_ := Aside0.mk (below_step (by repeat (first | (with_reducible first | exact HB.out | apply below_alloc | apply pw_below_drewN | apply below_drew1) | exact HB.out)) hb); have n1_ := Aside0.mk (hbox); have n2_ := Aside0.mk ((by rw [hg]; exact (below_size (by repeat (first | (with_reducible first | exact HB.out | apply below_alloc | apply pw_below_drewN | apply below_drew1) | exact HB.out))) : w.heap.size ≤ gb358)); have n3_ := Aside0.mk ((by rw [hg]; exact (below_size (by repeat (first | (with_reducible first | exact HB.out | apply below_alloc | apply pw_below_drewN | apply below_drew1) | exact HB.out))) : w.heap.size ≤ gb358)); clear HB; have HB := n0_; have BK358 := n1_; have GW358 := n2_; have GE358 := n3_; clear n0_ n1_ n2_ n3_; clear hb hbox hg) | ((with_reducible refine gate_dst (N := 2) rfl ?_); refine box_event ?hg (N := 2) ?hd (cs := #[.int .i64 0, .int .i64 0]) (t := 76) ?hr ?_; (case hd => rfl); (case hg => rfl); (case hr => first | (go_simp; done) | (go_simp; rfl)); intro gb359 hg w3 hbox hb; have n0_ := Aside0.mk (blk_below (g := gb358) (o := .cells #[.int .i64 a0_0, .int .i64 a0_1, .int .i64 a0_2, .slice A0_3 l0_3.length c0_3, .int .i64 a0_4, .int .i64 a0_5, .int .i64 a0_6, .int .i64 a0_7, .int .i64 a0_8, .int .i64 a0_9, .int .i64 a0_10, .string a0_11, .string a0_12] 32 (0, 0)) (by (with_reducible repeat (first | refine blk_drewN ?_ _ | refine blk_drew ?_ | refine blk_alloc ?_ _)); exact BK358.out) hb); have n1_ := Aside0.mk (below_step (by repeat (first | (with_reducible first | exact HB.out | apply below_alloc | apply pw_below_drewN | apply below_drew1 | refine below_set ?_ GE358.out) | exact HB.out)) hb); have n2_ := Aside0.mk (hbox); have n3_ := Aside0.mk ((by rw [hg]; exact (below_size (by repeat (first | (with_reducible first | exact HB.out | apply below_alloc | apply pw_below_drewN | apply below_drew1 | refine below_set ?_ GE358.out) | exact HB.out))) : w.heap.size ≤ gb359)); have n4_ := Aside0.mk ((by rw [hg]; exact (below_size (by repeat (first | (with_reducible first | exact HB.out | apply below_alloc | apply pw_below_drewN | apply below_drew1 | refine below_set ?_ GE358.out) | exact HB.out))) : w.heap.size ≤ gb359)); have n5_ := Aside0.mk ((by rw [hg]; exact Nat.ne_of_lt (blk_lt (g := gb358) (o := .cells #[.int .i64 a0_0, .int .i64 a0_1, .int .i64 a0_2, .slice A0_3 l0_3.length c0_3, .int .i64 a0_4, .int .i64 a0_5, .int .i64 a0_6, .int .i64 a0_7, .int .i64 a0_8, .int .i64 a0_9, .int .i64 a0_10, .string a0_11, .string a0_12] 32 (0, 0)) (by (with_reducible repeat (first | refine blk_drewN ?_ _ | refine blk_drew ?_ | refine blk_alloc ?_ _)); exact BK358.out)) : gb358 ≠ gb359)); have n6_ := Aside0.mk ((by rw [hg]; exact Nat.ne_of_gt (blk_lt (g := gb358) (o := .cells #[.int .i64 a0_0, .int .i64 a0_1, .int .i64 a0_2, .slice A0_3 l0_3.length c0_3, .int .i64 a0_4, .int .i64 a0_5, .int .i64 a0_6, .int .i64 a0_7, .int .i64 a0_8, .int .i64 a0_9, .int .i64 a0_10, .string a0_11, .string a0_12] 32 (0, 0)) (by (with_reducible repeat (first | refine blk_drewN ?_ _ | refine blk_drew ?_ | refine blk_alloc ?_ _)); exact BK358.out)) : gb359 ≠ gb358)); clear BK358; clear HB; have BK358 := n0_; have HB := n1_; have BK359 := n2_; have GW359 := n3_; have GE359 := n4_; have NB358_359 := n5_; have NB359_358 := n6_; clear n0_ n1_ n2_ n3_ n4_ n5_ n6_; clear hb hbox hg; have hnb4 := NB358_359.out; have hnc4 := NB359_358.out; obtain ⟨hcz5_0, hcz5_1, hcz5_2, hcz5_3, hcz5_4, hcz5_5, hcz5_6, hcz5_7, hcz5_8, hcz5_9, hcz5_10, hcz5_11, hcz5_12⟩ := cells13 BK358.out; have hcz6_0 : w3.cell? ⟨gb359, 0, none⟩ = some (.int .i64 0) := (blk_cell BK359.out 0).trans rfl; have hcz6_1 : w3.cell? ⟨gb359, 1, none⟩ = some (.int .i64 0) := (blk_cell BK359.out 1).trans rfl; have hfz6_0 := blk_frozen BK359.out 0; have hfz6_1 := blk_frozen BK359.out 1))
 refine bodyPost_ret (results_cell_row rfl _ _ gb359 76 #[.int .i64 a0_1, .int .i64 a0_2] (0, 0) _ rfl (by (with_reducible repeat (first | refine blk_drewN ?_ _ | refine blk_drew ?_ | refine blk_alloc ?_ _)); refine blk_put (cs := #[.int .i64 a0_1, .int .i64 0]) ?_ 1 _ rfl; (with_reducible repeat (first | refine blk_drewN ?_ _ | refine blk_drew ?_ | refine blk_alloc ?_ _)); refine blk_put (cs := #[.int .i64 0, .int .i64 0]) ?_ 0 _ rfl; (with_reducible repeat (first | refine blk_drewN ?_ _ | refine blk_drew ?_ | refine blk_alloc ?_ _)); exact BK359.out) Try.underlying76 rfl (by kernel_rfl)) rfl ?_
 exact ⟨by first | rfl | (simp [errW_none, errW_some] <;> rfl) | (simp [*, errW_none, errW_some] <;> rfl), by repeat (first | (with_reducible first | exact HB.out | apply below_alloc | apply pw_below_drewN | apply below_drew1 | refine below_set ?_ GE358.out | refine below_set ?_ GE359.out) | exact HB.out)⟩
def takr.T2 : Bool × List (List Nat × List Nat) := (true, [([], []), ([0], [0]), ([1], [1]), ([2], [2]), ([], []), ([4], [4]), ([3, 5, 5], [3, 5])])
def takr.B2 : List Nat := [0, 1, 3, 7, 0, 16, 63]
theorem takr.tab2 : rtab .any (opsOf Try.f56 2) = takr.T2 := by kernel_rfl
theorem takr.bits2 : waitsOk takr.T2.2 takr.B2 = true := by kernel_rfl
theorem nodup_mem_erase {α : Type} [BEq α] [LawfulBEq α] {L : List α} (hn : L.Nodup) {j : Nat} {a : α} (hj : L[j]? = some a) (b : α) : b ∈ L.eraseIdx j ↔ b ∈ L ∧ b ≠ a := by
 rw [List.mem_eraseIdx_iff_getElem?]
 constructor
 ·rintro ⟨q, hq, hb⟩
  refine ⟨List.mem_of_getElem? hb, ?_⟩
  rintro rfl
  obtain ⟨h1, h2⟩ := List.getElem?_eq_some_iff.1 hb
  obtain ⟨h3, h4⟩ := List.getElem?_eq_some_iff.1 hj
  have e1 := List.Nodup.idxOf_getElem hn q h1
  have e2 := List.Nodup.idxOf_getElem hn j h3
  rw [h2] at e1
  rw [h4] at e2
  exact hq (e1.symm.trans e2)
 ·rintro ⟨hb, hne⟩
  obtain ⟨q, hq⟩ := List.mem_iff_getElem?.1 hb
  refine ⟨q, ?_, hq⟩
  rintro rfl
  rw [hq] at hj
  injection hj with hj
  exact hne hj
theorem MapOk.less {es : List ((Nat × KeyP) × Int)} {c : Nat} {l : List S32} (h : MapOk es c l) {i : Nat} {x : S32} (hi : l[i]? = some x) :
  ∃ j v, findP es (keyOf x) 0 = some (j, v) ∧ MapOk (es.eraseIdx j) c (l.eraseIdx i) := by
 have hm : keyOf x ∈ l.map keyOf := List.mem_map_of_mem (List.mem_of_getElem? hi)
 obtain ⟨j, e, h1, h2, h3⟩ := findP_some (i := 0) ((h.mem (keyOf x)).2 hm)
 rw [Nat.zero_add] at h3
 refine ⟨j, _, h3, ⟨fun e he => h.born e (List.mem_of_mem_eraseIdx he), fun e he => h.ones e (List.mem_of_mem_eraseIdx he), ?_, ?_, fun k => ?_, ?_⟩⟩
 ·rw [map_erase]
  exact h.nodup.sublist (List.eraseIdx_sublist _ _)
 ·rw [map_erase]
  exact h.once.sublist (List.eraseIdx_sublist _ _)
 ·rw [map_erase, map_erase, nodup_mem_erase h.nodup (a := keyOf x) (by rw [List.getElem?_map, h1, Option.map_some, h2]), nodup_mem_erase h.once (a := keyOf x) (by rw [List.getElem?_map, hi, Option.map_some]), h.mem k]
 ·rw [map_erase]
  exact h.bn.sublist (List.eraseIdx_sublist _ _)
theorem putObj_other (w : World) (b : Nat) (o : Obj) (k : Nat) (h : k ≠ b) : (w.putObj b o).heap[k]? = w.heap[k]? := by
 simp [World.putObj, Array.getElem?_setIfInBounds_ne (Ne.symm h)]
theorem putObj_at (w : World) (b : Nat) (o : Obj) (h : b < w.heap.size) : (w.putObj b o).heap[b]? = some o := by
 simp [World.putObj, Array.getElem?_setIfInBounds, h]
theorem Kept.putObj {w W : World} {S : Nat → Prop} (h : Kept w W S) (b : Nat) (o : Obj) (hb : S b ∨ w.heap.size ≤ b) : Kept w (W.putObj b o) S :=
 h.then_ (S2 := fun k => k = b) ⟨by simp [World.putObj], fun i _ hn => putObj_other W b o i hn, rfl, rfl, rfl⟩ (fun k hk => by rw [hk]; exact hb)
/-- The buffer opened. -/
structure BufO (w : World) (base : Nat) (P : Nat → Prop) (g : Nat) (room : Int) (l : List S32) (mb : Nat) (es : List ((Nat × KeyP) × Int)) (c : Nat) (A : Option Addr) (ch : Nat) : Prop where
 blk : w.heap[g]? = some (.cells #[.int .i64 room, .slice A l.length ch, .map (some mb)] 71 (0, 0))
 bg : base ≤ g
 Pg : P g
 bm : base ≤ mb
 Pm : P mb
 map : MapE w mb es c
 ok : MapOk es c l
 row : Kd.S k32 32 w base (fun k => (P k ∧ k < w.heap.size) ∧ k ≠ g ∧ k ≠ mb) (.slice A l.length ch) l
theorem BufI.opened {w : World} {base : Nat} {P : Nat → Prop} {g : Nat} {room : Int} {l : List S32} (h : BufI w base P g room l) : ∃ mb es c A ch, BufO w base P g room l mb es c A ch := by
 obtain ⟨mb, es, c, A, ch, h1, h2, h3, h4, h5, h6, h7, h8⟩ := h
 refine ⟨mb, es, c, A, ch, h1, h2, h3, h4, h5, h6, h7, Kd.S_mono (Kd.S_bound h8) (fun k hk => ⟨⟨hk.1.1, hk.2.2.1⟩, hk.1.2, ?_⟩)⟩
 rintro rfl
 obtain ⟨_, _, _, q, _, cells, hc⟩ := hk
 rw [h6] at hc
 cases hc
theorem BufO.shut {w : World} {base : Nat} {P : Nat → Prop} {g : Nat} {room : Int} {l : List S32} {mb : Nat} {es : List ((Nat × KeyP) × Int)} {c : Nat} {A : Option Addr} {ch : Nat} (h : BufO w base P g room l mb es c A ch) : BufI w base P g room l :=
 ⟨mb, es, c, A, ch, h.blk, h.bg, h.Pg, h.bm, h.Pm, h.map, h.ok, Kd.S_mono h.row (fun k hk => ⟨hk.1.1, hk.2.1⟩)⟩
theorem BufO.ne {w : World} {base : Nat} {P : Nat → Prop} {g : Nat} {room : Int} {l : List S32} {mb : Nat} {es : List ((Nat × KeyP) × Int)} {c : Nat} {A : Option Addr} {ch : Nat} (h : BufO w base P g room l mb es c A ch) : g ≠ mb := by
 intro e
 have h1 := h.blk
 have h2 := h.map
 rw [e] at h1
 unfold MapE at h2
 rw [h1] at h2
 cases h2
theorem take_fin {w w6 w7 w9 : World} {base : Nat} {P O : Nat → Prop} {g mb gr ch c i j0 r0 : Nat} {room : Int} {l : List S32} {es : List ((Nat × KeyP) × Int)} {x : S32} {v : Value}
  (hO : BufO w base P g room l mb es c (some ⟨gr, 0, none⟩) ch) (hi : i < l.length) (hxi : l[i]? = some x) (hMO : MapOk (es.eraseIdx j0) c (l.eraseIdx i)) (hr0 : w.heap.size ≤ r0) (hk6 : Kept w w6 (fun k => k = mb)) (hM6 : MapE w6 mb (es.eraseIdx j0) c)
  (hO1 : ∀ k, O k → ((P k ∧ k < w.heap.size) ∧ k ≠ g ∧ k ≠ mb) ∧ k ≠ gr) (hv : (Kd.int .i64).R 3 w6 base O v x.f2) (hg7 : w6.grownBy w7 (some gr)) (hG7 : w7.heap[g]? = some (.cells #[.int .i64 room, .slice (some ⟨gr, 0, none⟩) l.length ch, .map (some mb)] 71 (0, 0)))
  (hS7 : Kd.S k32 32 w7 base (fun k => ((P k ∧ k < w.heap.size) ∧ k ≠ g ∧ k ≠ mb) ∧ ¬ O k) (.slice (some ⟨gr, 0, none⟩) (l.length - 1) ch) (l.eraseIdx i))
  (hg9 : (w7.setCell ⟨g, 1, none⟩ (.slice (some ⟨gr, 0, none⟩) (l.length - 1) ch)).grownBy w9 (some r0)) (h0 : r0 ≠ g) (h0r : r0 ≠ gr) (hgm : gr ≠ mb) :
  ∃ (O : Nat → Prop) (v' : Value), Ending.returned (.agg (chA x v)) = .returned (.agg (chA x v')) ∧ (Kd.int .i64).R 3 w9 base O v' x.f2 ∧ (∀ k, O k → P k) ∧ BufI w9 base (fun k => P k ∧ ¬ O k) g room (l.eraseIdx i) ∧ Kept w w9 P := by
 have hG8 : (w7.setCell ⟨g, 1, none⟩ (.slice (some ⟨gr, 0, none⟩) (l.length - 1) ch)).heap[g]? = some (.cells #[.int .i64 room, .slice (some ⟨gr, 0, none⟩) (l.length - 1) ch, .map (some mb)] 71 (0, 0)) := blk_put hG7 1 _ rfl
 have hel : (l.eraseIdx i).length = l.length - 1 := List.length_eraseIdx_of_lt hi
 have hgo := hO.row
 have hsz6 := hk6.size
 have hPgr : P gr := ((Kd.S_R hO.row).1 gr rfl).1.1
 have far : ∀ k, k ≠ g → k ≠ r0 → k < w7.heap.size → w9.heap[k]? = w7.heap[k]? := fun k h1 h2 h3 =>
  (hg9.block k (by simpa [World.setCell] using h3) (fun e => h2 (by injection e))).trans (Below.heap_setCell w7 ⟨g, 1, none⟩ _ k h1)
 have hOr0 : ∀ k, k < w.heap.size → k ≠ r0 := fun k hk e => by omega
 refine ⟨O, v, rfl, ?_, fun k hk => (hO1 k hk).1.1.1, ?_, ?_⟩
 ·refine Kd.R_step (Kd.R_step hv (fun k hk hlt => hg7.block k hlt (fun e => (hO1 k hk).2 (by injection e)))) (fun k hk hlt => far k (hO1 k hk).1.2.1 (hOr0 k (hO1 k hk).1.1.2) hlt)
 ·refine BufO.shut (mb := mb) (es := es.eraseIdx j0) (c := c) (A := some ⟨gr, 0, none⟩) (ch := ch) ⟨?_, hO.bg, ⟨hO.Pg, fun h => (hO1 g h).1.2.1 rfl⟩, hO.bm, ⟨hO.Pm, fun h => (hO1 mb h).1.2.2 rfl⟩, ?_, hMO, ?_⟩
  ·rw [hel]
   exact blk_grown hG8 hg9 (fun e => h0 (by injection e with e; exact e.symm))
  ·unfold MapE at hM6 ⊢
   have hmbw := blk_lt hO.map
   rw [far mb (Ne.symm hO.ne) (hOr0 mb hmbw) (Nat.lt_of_lt_of_le (blk_lt hM6) hg7.size), hg7.block mb (blk_lt hM6) (fun e => hgm (by injection e with e; exact e.symm))]
   exact hM6
  ·rw [hel]
   refine Kd.S_mono (Kd.S_step hS7 (fun k hk hlt => far k hk.1.2.1 (hOr0 k hk.1.1.2) hlt)) (fun k hk => ⟨⟨⟨hk.1.1.1, hk.2⟩, ?_⟩, hk.1.2⟩)
   have h1 := hk.1.1.2
   have h2 := hg7.size
   have h3 := hg9.size
   have h4 : (w7.setCell ⟨g, 1, none⟩ (.slice (some ⟨gr, 0, none⟩) (l.length - 1) ch)).heap.size = w7.heap.size := by simp [World.setCell]
   omega
 ·have k1 : Kept w w6 P := hk6.mono (fun k hk => by rw [hk]; exact hO.Pm)
  have k2 : Kept w w7 P := Kept.of_grown hg7 k1 (fun k hk => by injection hk with hk; rw [← hk]; exact .inl hPgr)
  have k3 := Kept.setCell k2 (p := ⟨g, 1, none⟩) (.inl hO.Pg) (.slice (some ⟨gr, 0, none⟩) (l.length - 1) ch)
  exact Kept.of_grown hg9 k3 (fun k hk => by injection hk with hk; rw [← hk]; exact .inr hr0)
set_option maxHeartbeats 4000000 in
set_option maxRecDepth 100000 in
theorem take_calls {w : World} {base : Nat} {P : Nat → Prop} {g : Nat} {room : Int} {l : List S32} (h : BufI w base P g room l) (i : Nat) (hi : i < l.length) (hn : l.length < 100000) :
  Calls Try.prog 56 #[.pointer (some ⟨g, 0, none⟩), .int .i64 (i : Int)] w fun e w' => ∃ (O : Nat → Prop) (v : Value), e = .returned (.agg (chA (rd_T32 l (i : Int)) v)) ∧ (Kd.int .i64).R 3 w' base O v (rd_T32 l (i : Int)).f2 ∧ (∀ k, O k → P k) ∧ BufI w' base (fun k => P k ∧ ¬ O k) g room (l.eraseIdx i) ∧ Kept w w' P := by
 obtain ⟨mb, es, c, A, ch, hO⟩ := h.opened
 obtain ⟨gr, cap, hform, hbgr, hgrw, cells, hgr⟩ := Kd.S_form hO.row (by omega)
 injection hform with hA _ hch
 subst hA; subst hch
 have hxi : l[i]? = some (rd_T32 l (i : Int)) := by
  rw [List.getElem?_eq_getElem hi, rd_T32, Int.toNat_natCast, List.getD_eq_getElem?_getD, List.getElem?_eq_getElem hi, Option.getD_some]
 obtain ⟨j0, fv, hfp, hMO⟩ := hO.ok.less hxi
 obtain ⟨c', hcl, hM, hcc, hfr⟩ := Kd.R_elem (Kd.S_R hO.row) z32 (i : Int) (by omega) (by omega)
 rw [Int.toNat_natCast] at hcc
 have hM2 : k32.M w base (fun k => ((P k ∧ k < w.heap.size) ∧ k ≠ g ∧ k ≠ mb) ∧ k ≠ gr) (rd_T32 l (i : Int)) c' := hM
 clear hM
 obtain ⟨v, rfl, hv⟩ := chM hM2
 generalize hx : (rd_T32 l (i : Int)) = x at *
 obtain ⟨A3, c3, rfl, hl3, hC3⟩ := Kd.R_reads hv
 have hgrok := (Kd.S_R hO.row).1 gr rfl
 have HO := Aside0.mk hO
 have HCC := Aside0.mk hcc
 have HV := Aside0.mk hv
 have HI := Aside0.mk hi
 have HN := Aside0.mk hn
 have HX := Aside0.mk hx
 have HMO := Aside0.mk hMO
 have HFP := Aside0.mk hfp
 have HXI := Aside0.mk hxi
 have HGR := Aside0.mk hgr
 have HOK := Aside0.mk hgrok
 have HC := Aside0.mk hC3
 have HL := Aside0.mk hl3
 have b1 : (0 ≤ (i : Int)) = True := eq_true (by omega)
 have b2 : ((i : Int) < (l.length : Int)) = True := eq_true (by omega)
 have b3 : (i < l.length) = True := eq_true hi
 have HGW := Aside0.mk (blk_lt hO.blk)
 have HRW := Aside0.mk hgrw
 clear h hO hcc hv hi hn hx hMO hfp hxi hgr hgrok hC3 hl3 hM2 hbgr hgrw hfr hcl
 go_enter Try.func56, Try.ntmps56
 go_wp2_with (first | ((with_reducible refine gate_dst (N := 4) rfl ?_); refine box_event ?hg (N := 4) ?hd (cs := #[.int .i64 0, .int .i64 0, .int .i64 0, .slice none 0 0, .int .i64 0, .int .i64 0, .int .i64 0, .int .i64 0, .int .i64 0, .int .i64 0, .int .i64 0, .string ⟨#[]⟩, .string ⟨#[]⟩]) (t := 32) ?hr ?_; (case hd => rfl); (case hg => rfl); (case hr => first | (go_simp; done) | (go_simp; rfl)); intro r0 hr0 w1 hbox hb; have HR0 := Aside0.mk hbox; have HB1 := Aside0.mk hb; have HN0 := Aside0.mk (Nat.le_of_eq hr0.symm); clear hbox hb hr0; have q1 := (blk_cell (blk_below HO.out.blk HB1.out) 1).trans rfl; have q1' : w1.cell? ⟨g, 1, none⟩ = some (.slice (some ⟨gr, 0, none⟩) l.length ch) := q1; clear q1) | ((with_reducible refine gate_dst (N := 12) rfl ?_); refine load32_ev rfl (N := 12) rfl x (.slice A3 x.f2.length c3) (p := .tmp 11) rfl (ad := ⟨gr, i * 13, none⟩) rfl ?hc ?_; (case hc => exact fun j u hj => by rw [add_at]; exact (HB1.out.cell (p := ⟨gr, i * 13 + j, none⟩) HRW.out).trans (HCC.out j u hj))) | ((with_reducible refine gate_dst (N := 5) rfl ?_); refine box_event ?hg (N := 5) ?hd (cs := #[.int .i64 0, .int .i64 0, .int .i64 0, .slice none 0 0, .int .i64 0, .int .i64 0, .int .i64 0, .int .i64 0, .int .i64 0, .int .i64 0, .int .i64 0, .string ⟨#[]⟩, .string ⟨#[]⟩]) (t := 32) ?hr ?_; (case hd => rfl); (case hg => rfl); (case hr => first | (go_simp; done) | (go_simp; rfl)); intro r1 hr1 w2 hbox hb; have HR1 := Aside0.mk hbox; have HB2 := Aside0.mk hb; have HN1 := Aside0.mk (Nat.le_of_eq hr1.symm); clear hbox hb hr1) | ((with_reducible refine gate_store (t := 32) (p := 5) (v := .tmp 12) rfl ?_); refine store32_ev rfl rfl x (.slice A3 x.f2.length c3) (p := .tmp 5) (q := .tmp 12) rfl (g := r1) rfl rfl rfl HR1.out rfl ?_; intro w3 hb3 hg3; have HB3 := Aside0.mk hb3; have HG3 := Aside0.mk hg3; clear hb3 hg3))
 have hk3 : Kept w w3 (fun _ => False) := ((Kept.of_below HB1.out _).below HB2.out).then_ (S2 := fun k => k = r1) ⟨HG3.out.size, fun k hk hn => HG3.out.block k hk (fun e => hn (by injection e)), HG3.out.os, HG3.out.tape, HG3.out.output⟩ (fun k hk => .inr (by rw [hk]; exact Nat.le_trans HB1.out.size HN1.out))
 have HK3 := Aside0.mk hk3.drew
 have HG := Aside0.mk ((hk3.drew.block g HGW.out (fun h => h)).trans HO.out.blk)
 have HM3 := Aside0.mk ((hk3.drew.block mb (blk_lt HO.out.map) (fun h => h)).trans HO.out.map)
 have HR0' := Aside0.mk ((hk3.drew.block gr HRW.out (fun h => h)).trans HGR.out)
 have HC3 := Aside0.mk (Kd.C_below HC.out (hk3.drew.to_below (fun _ h => h.elim)))
 have HR1' : Aside0 (w3.drew.heap[r1]? = _) := ⟨HB3.out⟩
 have r0n := Aside0.mk (Nat.lt_of_lt_of_le HGW.out HN0.out)
 have HR0n : w.heap.size ≤ r0 := HN0.out
 have HR1n : w1.heap.size ≤ r1 := HN1.out
 have h01 : r0 < r1 := Nat.lt_of_lt_of_le (blk_lt HR0.out) HN1.out
 have H01 := Aside0.mk h01
 have HZ : Aside0 (w3.drew.heap[r0]? = _) := ⟨(HG3.out.block r0 (Nat.lt_of_lt_of_le (blk_lt HR0.out) HB2.out.size) (fun e => by injection e with e; omega)).trans (blk_below HR0.out HB2.out)⟩
 clear hk3 HR0n HR1n h01 q1'
 refine start_ (n := 7) (S := (fun w' => w'.cell? ⟨g, 2, none⟩ = some (.map (some mb)) ∧ w'.heap[r1]? = some (.cells (chA x (.slice A3 x.f2.length c3)) 32 (0, 0)))) (ds := []) #[false, false, false, false, false, false, false] (by kernel_rfl) rfl rfl (⟨(blk_cell HG.out 2).trans rfl, HR1'.out⟩) (fun hHeld => ?_)
 refine with_tabW takr.tab2 takr.bits2 (fun HT_ HW_ => ?_)
 refine pureS (i := 0) (N := (some 13)) #[true, false, false, false, false, false, false] HT_ ?_
 refine pureS (i := 1) (N := (some 14)) #[true, true, false, false, false, false, false] HT_ ?_
 refine pureS (i := 2) (N := (some 15)) #[true, true, true, false, false, false, false] HT_ ?_
 refine take_ (i := 3) (N := (some 16)) (v := ?_) (a' := ?_) #[true, true, true, true, false, false, false] rfl rfl (take_ofW HT_.out HW_.out (by kernel_rfl)) (fun _ _ _ h => h) (Or.inl ⟨by rfl, ?_⟩) hHeld ?_ ?_
 rotate_left
 ·rintro w' ⟨s0, s1⟩
  go_simp
  with_reducible rfl
 rotate_left
 ·simp only [Act.put, List.setIfInBounds_toArray, List.set_cons_zero, List.set_cons_succ, i64_w, i32_w]
  rfl
 refine take_ (i := 4) (N := (some 17)) (v := ?_) (a' := ?_) #[true, true, true, true, true, false, false] rfl rfl (take_ofW HT_.out HW_.out (by kernel_rfl)) (fun _ _ _ h => h) (Or.inl ⟨by rfl, ?_⟩) hHeld ?_ ?_
 rotate_left
 ·rintro w' ⟨s0, s1⟩
  refine Eq.trans (load32_run (x := x) (v := (.slice A3 x.f2.length c3)) _ (p := .tmp 5) ?ho_ ?hp_ (blk_cells s1)) ?hr_
  case ho_ => rfl
  case hp_ => rfl
  case hr_ => rfl
 rotate_left
 ·simp only [Act.put, List.setIfInBounds_toArray, List.set_cons_zero, List.set_cons_succ, i64_w, i32_w]
  rfl
 refine one_ (i := 5) (N := (some 18)) #[true, true, true, true, true, true, false] rfl rfl (one_of HT_.out (by kernel_rfl)) (by decide) (fun K hK => ?_)
 refine goes_ Try.func36 (by kernel_rfl) rfl #[(.agg #[.int .i64 x.f0.f0, .int .i64 x.f0.f1, .int .i64 x.f1, (.slice A3 x.f2.length c3), .int .i64 x.f3, .int .i64 x.f4.f0, .int .i64 x.f4.f1, .int .i64 x.f5.f0, .int .i64 x.f5.f1, .int .i64 x.f6.f0, .int .i64 x.f6.f1, .string x.f7, .string x.f8])] (by rfl) rfl rfl (by (try simp only [List.map_toArray, List.map_cons, List.map_nil]); first | done | rfl) ?_
 refine (causal_of.calls x.f0.f0 x.f0.f1 x.f1 A3 c3 x.f2 x.f3 x.f4.f0 x.f4.f1 x.f5.f0 x.f5.f1 x.f6.f0 x.f6.f1 x.f7 x.f8 x.f0.f1 x.f1 _ HC3.out HL.out rfl).mono ?_
 rintro e w5 ⟨rfl, hb5⟩
 refine ⟨_, rfl, ?_⟩
 have hS5 : (fun w' => w'.cell? ⟨g, 2, none⟩ = some (.map (some mb)) ∧ w'.heap[r1]? = some (.cells (chA x (.slice A3 x.f2.length c3)) 32 (0, 0))) w5 := ⟨(hb5.cell (World.block_lt_of_cell? _ _ hHeld.1)).trans hHeld.1, blk_below hHeld.2 hb5⟩
 have HB5 := Aside0.mk hb5
 clear hb5
 have hdel : ∀ ty, (Builtin.delete_ #[69, 76] ty #[.map (some mb), (.agg #[.int .i64 x.f0.f1, .int .i64 x.f1])]).run Try.prog w5 = .ok (.tuple #[]) (w5.putObj mb (.map ((es.eraseIdx j0).map entE).toArray c)) := fun ty => by
  have h_ := delete_run (blk_below HM3.out HB5.out) (keyOf x) ty
  rw [HFP.out] at h_
  exact h_
 refine hK.out _ _ (hS5) (fun hHeld => ?_)
 clear hK K
 refine norm_ (a' := ?_) ?_ ?_
 rotate_left
 ·show Act.put _ (some 18) _ = _
  simp only [Act.put, List.setIfInBounds_toArray, List.set_cons_zero, List.set_cons_succ, i64_w, i32_w]
  rfl
 refine one_ (i := 6) (N := none) #[true, true, true, true, true, true, true] rfl rfl (one_of HT_.out (by kernel_rfl)) (by decide) (fun K hK => ?_)
 refine value_ (w1 := ?_) (v := ?_) (by rfl) rfl ?_ ?_
 rotate_left 2
 ·go_simp
  constructor
  ·rfl
  ·rfl
 refine hK.out _ _ (⟨(World.cell?_of_block (putObj_other _ _ _ _ HO.out.ne)).trans hS5.1, (putObj_other _ _ _ _ (fun e => by have h_ := blk_lt HO.out.map; have h2_ := HN1.out; have h3_ := HB1.out.size; omega)).trans hS5.2⟩) (fun hHeld => ?_)
 clear hK K
 refine done_ (done_of HT_.out (by kernel_rfl)) ?_
 have hk6 : Kept w (w5.putObj mb (.map ((es.eraseIdx j0).map entE).toArray c)) (fun k => k = mb) := ((HK3.out.below HB5.out).mono (fun _ h => h.elim)).putObj mb _ (.inl rfl)
 have hM6 : MapE (w5.putObj mb (.map ((es.eraseIdx j0).map entE).toArray c)) mb (es.eraseIdx j0) c := putObj_at _ _ _ (blk_lt (blk_below HM3.out HB5.out))
 have hZ6 : (w5.putObj mb (.map ((es.eraseIdx j0).map entE).toArray c)).heap[r0]? = _ := (putObj_other _ _ _ _ (fun e => by have h_ := blk_lt HO.out.map; have h2_ := HN0.out; omega)).trans (blk_below HZ.out HB5.out)
 have hR6 := hHeld.2
 generalize w5.putObj mb (.map ((es.eraseIdx j0).map entE).toArray c) = w6 at *
 have hG6 := (hk6.block g HGW.out HO.out.ne).trans HO.out.blk
 have hS6 := Kd.S_step HO.out.row (fun k hk _ => hk6.block k hk.1.2 hk.2.2)
 obtain ⟨O, hO1, ⟨cs, hMO6, hcc6⟩, hcall⟩ := delete_S (i := i) hS6 HI.out HN.out
 rw [HX.out] at hMO6
 obtain ⟨v', rfl, hv'⟩ := chM hMO6
 have hvv : v' = .slice A3 x.f2.length c3 := by
  have e1 := hcc6 3 _ rfl
  have e2 := HCC.out 3 _ rfl
  rw [World.cell?_of_block (a := ⟨gr, i * 13 + 3, none⟩) (hk6.block gr HRW.out HOK.out.2.2)] at e1
  exact Option.some.inj (e1.symm.trans e2)
 subst hvv
 rw [show ((i + 1 : Nat) : Int) = (i : Int) + 1 from rfl] at hcall
 have HCALL := Aside0.mk hcall
 have HO1 := Aside0.mk hO1
 have HV6 := Aside0.mk hv'
 have HM6 := Aside0.mk hM6
 have HZ6 := Aside0.mk hZ6
 have HR6 := Aside0.mk hR6
 have HK6 := Aside0.mk hk6
 have HG6 := Aside0.mk hG6
 have q1 : w6.cell? ⟨g, 1, none⟩ = some (.slice (some ⟨gr, 0, none⟩) l.length ch) := (blk_cell HG6.out 1).trans rfl
 have hw1 : IntKind.i64.wrap ((i : Int) + 1) = (i : Int) + 1 := by rw [IntKind.wrap_i64]; have h_ := HI.out; have h2_ := HN.out; omega
 clear hcall hO1 hv' hM6 hZ6 hR6 hk6 hG6 hS6 hcc6 hHeld hdel hS5 hMO6
 go_wp2_with (fail)
 refine HCALL.out.mono ?_
 rintro e w7 ⟨rfl, hS7, hg7⟩
 have hgg : (some g : Option Nat) ≠ some gr := fun e => by injection e with e; exact HOK.out.2.1 e.symm
 have HG7 := Aside0.mk (blk_grown HG6.out hg7 hgg)
 have HS7 := Aside0.mk hS7
 have HG7' := Aside0.mk hg7
 have h1r : r1 ≠ g := fun e => by have h_ := HGW.out; have h2_ := HN1.out; have h3_ := HB1.out.size; omega
 have h0r : r0 ≠ g := fun e => by have h_ := HGW.out; have h2_ := HN0.out; omega
 have h1gr : r1 ≠ gr := fun e => by have h_ := HRW.out; have h2_ := HN1.out; have h3_ := HB1.out.size; omega
 have h0gr : r0 ≠ gr := fun e => by have h_ := HRW.out; have h2_ := HN0.out; omega
 have H1R := Aside0.mk h1r
 have HR7 := Aside0.mk (blk_far (p := ⟨g, 1, none⟩) (blk_grown HR6.out hg7 (fun e => h1gr (by injection e))) h1r (.slice (some ⟨gr, 0, none⟩) (l.length - 1) ch))
 have HZ7 := Aside0.mk (blk_far (p := ⟨g, 1, none⟩) (blk_grown HZ6.out hg7 (fun e => h0gr (by injection e))) h0r (.slice (some ⟨gr, 0, none⟩) (l.length - 1) ch))
 have H0 := Aside0.mk h0r
 have H0R := Aside0.mk h0gr
 have q2 : w7.cell? ⟨g, 1, none⟩ = some (.slice (some ⟨gr, 0, none⟩) l.length ch) := (blk_cell HG7.out 1).trans rfl
 have q3 := blk_frozen HG7.out 1
 clear hgg h1r h0r h1gr h0gr hS7 hg7 q1
 go_wp2_with (first | ((with_reducible refine gate_dst (N := 30) rfl ?_); refine load32_ev rfl (N := 30) rfl x (.slice A3 x.f2.length c3) (p := .tmp 5) rfl (ad := ⟨r1, 0, none⟩) rfl (blk_cells HR7.out) ?_) | ((with_reducible refine gate_store (t := 32) (p := 4) (v := .tmp 30) rfl ?_); refine store32_ev rfl rfl x (.slice A3 x.f2.length c3) (p := .tmp 4) (q := .tmp 30) rfl (g := r0) rfl rfl rfl HZ7.out rfl ?_; intro w9 hb9 hg9; have HB9 := Aside0.mk hb9; have HG9 := Aside0.mk hg9; clear hb9 hg9))
 refine bodyPost_ret (results_cell_row rfl _ _ r0 32 (chA x (.slice A3 x.f2.length c3)) (0, 0) _ rfl HB9.out Try.underlying32 rfl (by kernel_rfl)) rfl ?_
 exact take_fin HO.out HI.out HXI.out HMO.out HN0.out HK6.out HM6.out HO1.out HV6.out HG7'.out HG7.out HS7.out HG9.out H0.out H0R.out HOK.out.2.2
def topiaryref02_Check.l0 : Nat → List Int → Int → Option (Int)
 | 0, _, _ => none
 | k + 1, x0, x3 => if x3 < (x0.length : Int) then (if 0 ≤ x3 then (if (rd x0 x3) < 0 then (some 1) else (if (rd x0 x3) > 1099511627776 then (some 1) else (topiaryref02_Check.l0 k x0 (wrap64 (x3 + 1))))) else (none)) else (some 0)
def topiaryref02_Check.f (k : Nat) (l0 : List Int) : Option (Int) := if (l0.length : Int) > 64 then (some 3) else (topiaryref02_Check.l0 k l0 0)
set_option maxHeartbeats 8000000 in
set_option maxRecDepth 100000 in
theorem topiaryref02_Check.calls (k : Nat) (A0 : Option Addr) (c0 : Nat) (l0 : List Int) (r : Int) (w : World) (hr0 : Kd.C (Kd.int .i64) w A0 l0.length l0) (hc0 : l0.length ≤ c0) (h : topiaryref02_Check.f k l0 = some r) :
  Calls Try.prog 46 #[.slice A0 l0.length c0] w fun e w' => e = .returned (.int .i64 r) ∧ Drawn0 w w' := by
 have HR0 := Aside0.mk hr0
 have HC0 := Aside0.mk hc0
 clear hr0 hc0
 have H : (if (l0.length : Int) > 64 then (some 3) else (topiaryref02_Check.l0 k l0 0)) = some r := h
 clear h
 by_cases c2 : (l0.length : Int) > 64
 ·rw [if_pos c2] at H
  have c2b0 : decide (64 < (l0.length : Int)) = true := decide_eq_true c2
  have c2b1 : decide (64 < l0.length) = true := decide_eq_true (by omega)
  clear c2
  obtain rfl := Option.some.inj H
  go_enter Try.func46, Try.ntmps46
  go_wp2
  go_ret
  exact ⟨by first | rfl | (simp; done) | (simp [*]; done), by repeat (first | exact Drawn0.refl _ | apply Drawn0.step)⟩
 ·rw [if_neg c2] at H
  have c2b0 : decide (64 < (l0.length : Int)) = false := decide_eq_false c2
  have c2b1 : decide (64 < l0.length) = false := decide_eq_false (by omega)
  clear c2
  have H' := Aside0.mk H
  clear H
  go_enter Try.func46, Try.ntmps46
  go_wp2
  go_loopg [3] k (fun kq v3 w' => ∃ (x3_1 : Int), v3 = .int .i64 x3_1 ∧ Aside0 (topiaryref02_Check.l0 kq l0 x3_1 = some r) ∧ Aside0 (kq ≤ k) ∧ Drawn0 w w')
  case atStart => exact ⟨(0), (by first | rfl | (simp; done) | (simp [*]; done)), H', ⟨Nat.le_refl _⟩, by repeat (first | exact Drawn0.refl _ | apply Drawn0.step)⟩
  case round =>
   clear H'
   (try clear c2); (try clear c2b0); (try clear c2b1); (try clear p2)
   obtain ⟨x3_1, rfl, HA, HK1, ⟨m1, rfl⟩⟩ := hrel
   cases gk with
   | zero => exact absurd HA.out (by simp [topiaryref02_Check.l0])
   | succ k1 =>
    have H := HA.out
    clear HA
    simp only [topiaryref02_Check.l0] at H
    by_cases c3 : x3_1 < (l0.length : Int)
    ·rw [if_pos c3] at H
     have c3b0 : decide (x3_1 < (l0.length : Int)) = true := decide_eq_true c3
     clear c3
     by_cases c4 : 0 ≤ x3_1
     ·rw [if_pos c4] at H
      have c4b0 : decide (0 ≤ x3_1) = true := decide_eq_true c4
      clear c4
      by_cases c5 : (rd l0 x3_1) < 0
      ·rw [if_pos c5] at H
       have c5b0 : decide ((rd l0 x3_1) < 0) = true := decide_eq_true c5
       clear c5
       obtain rfl := Option.some.inj H
       have p126 : 0 ≤ (x3_1 : Int) := of_decide_eq_true (by first | (with_reducible assumption) | assumption)
       have q126 : x3_1 < (l0.length : Int) := of_decide_eq_true (by first | (with_reducible assumption) | assumption)
       obtain ⟨ad126, e126, hx126_0⟩ := Kd.at_int HR0.out x3_1 p126 q126
       cases e126
       replace p126 := eq_true p126
       replace q126 := eq_true q126
       go_wp2
       go_ret
       exact ⟨by first | rfl | (simp; done) | (simp [*]; done), by repeat (first | exact Drawn0.refl _ | apply Drawn0.step)⟩
      ·rw [if_neg c5] at H
       have c5b0 : decide ((rd l0 x3_1) < 0) = false := decide_eq_false c5
       clear c5
       by_cases c6 : (rd l0 x3_1) > 1099511627776
       ·rw [if_pos c6] at H
        have c6b0 : decide (1099511627776 < (rd l0 x3_1)) = true := decide_eq_true c6
        clear c6
        obtain rfl := Option.some.inj H
        have p126 : 0 ≤ (x3_1 : Int) := of_decide_eq_true (by first | (with_reducible assumption) | assumption)
        have q126 : x3_1 < (l0.length : Int) := of_decide_eq_true (by first | (with_reducible assumption) | assumption)
        obtain ⟨ad126, e126, hx126_0⟩ := Kd.at_int HR0.out x3_1 p126 q126
        cases e126
        replace p126 := eq_true p126
        replace q126 := eq_true q126
        have p127 : 0 ≤ (x3_1 : Int) := of_decide_eq_true (by first | (with_reducible assumption) | assumption)
        have q127 : x3_1 < (l0.length : Int) := of_decide_eq_true (by first | (with_reducible assumption) | assumption)
        obtain ⟨ad127, e127, hx127_0⟩ := Kd.at_int HR0.out x3_1 p127 q127
        obtain rfl : ad126 = ad127 := (by injection e127)
        replace p127 := eq_true p127
        replace q127 := eq_true q127
        go_wp2
        go_ret
        exact ⟨by first | rfl | (simp; done) | (simp [*]; done), by repeat (first | exact Drawn0.refl _ | apply Drawn0.step)⟩
       ·rw [if_neg c6] at H
        have c6b0 : decide (1099511627776 < (rd l0 x3_1)) = false := decide_eq_false c6
        clear c6
        have H' := Aside0.mk H
        clear H
        have p126 : 0 ≤ (x3_1 : Int) := of_decide_eq_true (by first | (with_reducible assumption) | assumption)
        have q126 : x3_1 < (l0.length : Int) := of_decide_eq_true (by first | (with_reducible assumption) | assumption)
        obtain ⟨ad126, e126, hx126_0⟩ := Kd.at_int HR0.out x3_1 p126 q126
        cases e126
        replace p126 := eq_true p126
        replace q126 := eq_true q126
        have p127 : 0 ≤ (x3_1 : Int) := of_decide_eq_true (by first | (with_reducible assumption) | assumption)
        have q127 : x3_1 < (l0.length : Int) := of_decide_eq_true (by first | (with_reducible assumption) | assumption)
        obtain ⟨ad127, e127, hx127_0⟩ := Kd.at_int HR0.out x3_1 p127 q127
        obtain rfl : ad126 = ad127 := (by injection e127)
        replace p127 := eq_true p127
        replace q127 := eq_true q127
        go_wp2
        go_roundg k1
        case measure => have := HK1.out; omega
        case rel => exact ⟨(wrap64 (x3_1 + 1)), (by first | rfl | (simp; done) | (simp [*]; done)), H', ⟨by have := HK1.out; omega⟩, by repeat (first | exact Drawn0.refl _ | apply Drawn0.step)⟩
     ·rw [if_neg c4] at H
      exact absurd H (by simp)
    ·rw [if_neg c3] at H
     have c3b0 : decide (x3_1 < (l0.length : Int)) = false := decide_eq_false c3
     clear c3
     obtain rfl := Option.some.inj H
     go_wp2
     go_ret
     exact ⟨by first | rfl | (simp; done) | (simp [*]; done), by repeat (first | exact Drawn0.refl _ | apply Drawn0.step)⟩
def topiaryref02_At.f (l0 : List Int) (a1 : Int) : Option (Int) := if a1 ≥ 0 then (if a1 < (l0.length : Int) then (if 0 ≤ a1 then (some (rd l0 a1)) else (none)) else (some 0)) else (some 0)
set_option maxHeartbeats 8000000 in
set_option maxRecDepth 100000 in
theorem topiaryref02_At.calls (A0 : Option Addr) (c0 : Nat) (l0 : List Int) (a1 : Int) (r : Int) (w : World) (hr0 : Kd.C (Kd.int .i64) w A0 l0.length l0) (hc0 : l0.length ≤ c0) (h : topiaryref02_At.f l0 a1 = some r) :
  Calls Try.prog 49 #[.slice A0 l0.length c0, .int .i64 a1] w fun e w' => e = .returned (.int .i64 r) ∧ Drawn0 w w' := by
 have HR0 := Aside0.mk hr0
 have HC0 := Aside0.mk hc0
 clear hr0 hc0
 have H : (if a1 ≥ 0 then (if a1 < (l0.length : Int) then (if 0 ≤ a1 then (some (rd l0 a1)) else (none)) else (some 0)) else (some 0)) = some r := h
 clear h
 by_cases c3 : a1 ≥ 0
 ·rw [if_pos c3] at H
  have c3b0 : decide (0 ≤ a1) = true := decide_eq_true c3
  clear c3
  by_cases c4 : a1 < (l0.length : Int)
  ·rw [if_pos c4] at H
   have c4b0 : decide (a1 < (l0.length : Int)) = true := decide_eq_true c4
   clear c4
   by_cases c5 : 0 ≤ a1
   ·rw [if_pos c5] at H
    have c5b0 : decide (0 ≤ a1) = true := decide_eq_true c5
    clear c5
    obtain rfl := Option.some.inj H
    have p128 : 0 ≤ (a1 : Int) := of_decide_eq_true (by first | (with_reducible assumption) | assumption)
    have q128 : a1 < (l0.length : Int) := of_decide_eq_true (by first | (with_reducible assumption) | assumption)
    obtain ⟨ad128, e128, hx128_0⟩ := Kd.at_int HR0.out a1 p128 q128
    cases e128
    replace p128 := eq_true p128
    replace q128 := eq_true q128
    go_enter Try.func49, Try.ntmps49
    go_wp2
    go_ret
    exact ⟨by first | rfl | (simp; done) | (simp [*]; done), by repeat (first | exact Drawn0.refl _ | apply Drawn0.step)⟩
   ·rw [if_neg c5] at H
    exact absurd H (by simp)
  ·rw [if_neg c4] at H
   have c4b0 : decide (a1 < (l0.length : Int)) = false := decide_eq_false c4
   clear c4
   obtain rfl := Option.some.inj H
   go_enter Try.func49, Try.ntmps49
   go_wp2
   go_ret
   exact ⟨by first | rfl | (simp; done) | (simp [*]; done), by repeat (first | exact Drawn0.refl _ | apply Drawn0.step)⟩
 ·rw [if_neg c3] at H
  have c3b0 : decide (0 ≤ a1) = false := decide_eq_false c3
  clear c3
  obtain rfl := Option.some.inj H
  go_enter Try.func49, Try.ntmps49
  go_wp2
  go_ret
  exact ⟨by first | rfl | (simp; done) | (simp [*]; done), by repeat (first | exact Drawn0.refl _ | apply Drawn0.step)⟩
def clock_Check.l0 : Nat → List Int → Int → Int → Option (Int)
 | 0, _, _, _ => none
 | k + 1, x8, x9, x10 => if x10 < x9 then (if 0 ≤ x10 then (if x10 < (x8.length : Int) then (if (rd x8 x10) < 0 then (some 1) else (if (rd x8 x10) > 1099511627776 then (some 1) else (clock_Check.l0 k x8 x9 (wrap64 (x10 + 1))))) else (none)) else (none)) else (some 0)
def clock_Check.f (k : Nat) (l0 : List Int) : Option (Int) := if (l0.length : Int) > 64 then (some 3) else (clock_Check.l0 k l0 (l0.length : Int) 0)
set_option maxHeartbeats 8000000 in
set_option maxRecDepth 100000 in
theorem clock_Check.calls (k : Nat) (A0 : Option Addr) (c0 : Nat) (l0 : List Int) (r : Int) (w : World) (hr0 : Kd.C (Kd.int .i64) w A0 l0.length l0) (hc0 : l0.length ≤ c0) (h : clock_Check.f k l0 = some r) :
  Calls Try.prog 33 #[.slice A0 l0.length c0] w fun e w' => e = .returned (.int .i64 r) ∧ Drawn0 w w' := by
 have HR0 := Aside0.mk hr0
 have HC0 := Aside0.mk hc0
 clear hr0 hc0
 have H : (if (l0.length : Int) > 64 then (some 3) else (clock_Check.l0 k l0 (l0.length : Int) 0)) = some r := h
 clear h
 by_cases c2 : (l0.length : Int) > 64
 ·rw [if_pos c2] at H
  have c2b0 : decide (64 < (l0.length : Int)) = true := decide_eq_true c2
  have c2b1 : decide (64 < l0.length) = true := decide_eq_true (by omega)
  clear c2
  obtain rfl := Option.some.inj H
  go_enter Try.func33, Try.ntmps33
  go_wp2
  go_ret
  exact ⟨by first | rfl | (simp; done) | (simp [*]; done), by repeat (first | exact Drawn0.refl _ | apply Drawn0.step)⟩
 ·rw [if_neg c2] at H
  have c2b0 : decide (64 < (l0.length : Int)) = false := decide_eq_false c2
  have c2b1 : decide (64 < l0.length) = false := decide_eq_false (by omega)
  clear c2
  have H' := Aside0.mk H
  clear H
  go_enter Try.func33, Try.ntmps33
  go_wp2
  go_loopg [10] k (fun kq v10 w' => ∃ (x10_1 : Int), v10 = .int .i64 x10_1 ∧ Aside0 (clock_Check.l0 kq l0 (l0.length : Int) x10_1 = some r) ∧ Aside0 (kq ≤ k) ∧ Drawn0 w w')
  case atStart => exact ⟨(0), (by first | rfl | (simp; done) | (simp [*]; done)), H', ⟨Nat.le_refl _⟩, by repeat (first | exact Drawn0.refl _ | apply Drawn0.step)⟩
  case round =>
   clear H'
   (try clear c2); (try clear c2b0); (try clear c2b1); (try clear p2)
   obtain ⟨x10_1, rfl, HA, HK1, ⟨m1, rfl⟩⟩ := hrel
   cases gk with
   | zero => exact absurd HA.out (by simp [clock_Check.l0])
   | succ k1 =>
    have H := HA.out
    clear HA
    simp only [clock_Check.l0] at H
    by_cases c3 : x10_1 < (l0.length : Int)
    ·rw [if_pos c3] at H
     have c3b0 : decide (x10_1 < (l0.length : Int)) = true := decide_eq_true c3
     clear c3
     by_cases c4 : 0 ≤ x10_1
     ·rw [if_pos c4] at H
      have c4b0 : decide (0 ≤ x10_1) = true := decide_eq_true c4
      clear c4
      by_cases c5 : x10_1 < (l0.length : Int)
      ·rw [if_pos c5] at H
       have c5b0 : decide (x10_1 < (l0.length : Int)) = true := decide_eq_true c5
       clear c5
       by_cases c6 : (rd l0 x10_1) < 0
       ·rw [if_pos c6] at H
        have c6b0 : decide ((rd l0 x10_1) < 0) = true := decide_eq_true c6
        clear c6
        obtain rfl := Option.some.inj H
        have p325 : 0 ≤ (x10_1 : Int) := of_decide_eq_true (by first | (with_reducible assumption) | assumption)
        have q325 : x10_1 < (l0.length : Int) := of_decide_eq_true (by first | (with_reducible assumption) | assumption)
        obtain ⟨ad325, e325, hx325_0⟩ := Kd.at_int HR0.out x10_1 p325 q325
        cases e325
        replace p325 := eq_true p325
        replace q325 := eq_true q325
        go_wp2
        go_ret
        exact ⟨by first | rfl | (simp; done) | (simp [*]; done), by repeat (first | exact Drawn0.refl _ | apply Drawn0.step)⟩
       ·rw [if_neg c6] at H
        have c6b0 : decide ((rd l0 x10_1) < 0) = false := decide_eq_false c6
        clear c6
        by_cases c7 : (rd l0 x10_1) > 1099511627776
        ·rw [if_pos c7] at H
         have c7b0 : decide (1099511627776 < (rd l0 x10_1)) = true := decide_eq_true c7
         clear c7
         obtain rfl := Option.some.inj H
         have p325 : 0 ≤ (x10_1 : Int) := of_decide_eq_true (by first | (with_reducible assumption) | assumption)
         have q325 : x10_1 < (l0.length : Int) := of_decide_eq_true (by first | (with_reducible assumption) | assumption)
         obtain ⟨ad325, e325, hx325_0⟩ := Kd.at_int HR0.out x10_1 p325 q325
         cases e325
         replace p325 := eq_true p325
         replace q325 := eq_true q325
         go_wp2
         go_ret
         exact ⟨by first | rfl | (simp; done) | (simp [*]; done), by repeat (first | exact Drawn0.refl _ | apply Drawn0.step)⟩
        ·rw [if_neg c7] at H
         have c7b0 : decide (1099511627776 < (rd l0 x10_1)) = false := decide_eq_false c7
         clear c7
         have H' := Aside0.mk H
         clear H
         have p325 : 0 ≤ (x10_1 : Int) := of_decide_eq_true (by first | (with_reducible assumption) | assumption)
         have q325 : x10_1 < (l0.length : Int) := of_decide_eq_true (by first | (with_reducible assumption) | assumption)
         obtain ⟨ad325, e325, hx325_0⟩ := Kd.at_int HR0.out x10_1 p325 q325
         cases e325
         replace p325 := eq_true p325
         replace q325 := eq_true q325
         go_wp2
         go_roundg k1
         case measure => have := HK1.out; omega
         case rel => exact ⟨(wrap64 (x10_1 + 1)), (by first | rfl | (simp; done) | (simp [*]; done)), H', ⟨by have := HK1.out; omega⟩, by repeat (first | exact Drawn0.refl _ | apply Drawn0.step)⟩
      ·rw [if_neg c5] at H
       exact absurd H (by simp)
     ·rw [if_neg c4] at H
      exact absurd H (by simp)
    ·rw [if_neg c3] at H
     have c3b0 : decide (x10_1 < (l0.length : Int)) = false := decide_eq_false c3
     clear c3
     obtain rfl := Option.some.inj H
     go_wp2
     go_ret
     exact ⟨by first | rfl | (simp; done) | (simp [*]; done), by repeat (first | exact Drawn0.refl _ | apply Drawn0.step)⟩
def clock_At.f (l0 : List Int) (a1 : Int) : Option (Int) := if a1 < 0 then (some 0) else (if a1 ≥ (l0.length : Int) then (some 0) else (if 0 ≤ a1 then (if a1 < (l0.length : Int) then (some (rd l0 a1)) else (none)) else (none)))
set_option maxHeartbeats 8000000 in
set_option maxRecDepth 100000 in
theorem clock_At.calls (A0 : Option Addr) (c0 : Nat) (l0 : List Int) (a1 : Int) (r : Int) (w : World) (hr0 : Kd.C (Kd.int .i64) w A0 l0.length l0) (hc0 : l0.length ≤ c0) (h : clock_At.f l0 a1 = some r) :
  Calls Try.prog 35 #[.slice A0 l0.length c0, .int .i64 a1] w fun e w' => e = .returned (.int .i64 r) ∧ Drawn0 w w' := by
 have HR0 := Aside0.mk hr0
 have HC0 := Aside0.mk hc0
 clear hr0 hc0
 have H : (if a1 < 0 then (some 0) else (if a1 ≥ (l0.length : Int) then (some 0) else (if 0 ≤ a1 then (if a1 < (l0.length : Int) then (some (rd l0 a1)) else (none)) else (none)))) = some r := h
 clear h
 by_cases c3 : a1 < 0
 ·rw [if_pos c3] at H
  have c3b0 : decide (a1 < 0) = true := decide_eq_true c3
  clear c3
  obtain rfl := Option.some.inj H
  go_enter Try.func35, Try.ntmps35
  go_wp2
  go_ret
  exact ⟨by first | rfl | (simp; done) | (simp [*]; done), by repeat (first | exact Drawn0.refl _ | apply Drawn0.step)⟩
 ·rw [if_neg c3] at H
  have c3b0 : decide (a1 < 0) = false := decide_eq_false c3
  clear c3
  by_cases c4 : a1 ≥ (l0.length : Int)
  ·rw [if_pos c4] at H
   have c4b0 : decide ((l0.length : Int) ≤ a1) = true := decide_eq_true c4
   clear c4
   obtain rfl := Option.some.inj H
   go_enter Try.func35, Try.ntmps35
   go_wp2
   go_ret
   exact ⟨by first | rfl | (simp; done) | (simp [*]; done), by repeat (first | exact Drawn0.refl _ | apply Drawn0.step)⟩
  ·rw [if_neg c4] at H
   have c4b0 : decide ((l0.length : Int) ≤ a1) = false := decide_eq_false c4
   clear c4
   by_cases c5 : 0 ≤ a1
   ·rw [if_pos c5] at H
    have c5b0 : decide (0 ≤ a1) = true := decide_eq_true c5
    clear c5
    by_cases c6 : a1 < (l0.length : Int)
    ·rw [if_pos c6] at H
     have c6b0 : decide (a1 < (l0.length : Int)) = true := decide_eq_true c6
     clear c6
     obtain rfl := Option.some.inj H
     have p328 : 0 ≤ (a1 : Int) := of_decide_eq_true (by first | (with_reducible assumption) | assumption)
     have q328 : a1 < (l0.length : Int) := of_decide_eq_true (by first | (with_reducible assumption) | assumption)
     obtain ⟨ad328, e328, hx328_0⟩ := Kd.at_int HR0.out a1 p328 q328
     cases e328
     replace p328 := eq_true p328
     replace q328 := eq_true q328
     go_enter Try.func35, Try.ntmps35
     go_wp2
     go_ret
     exact ⟨by first | rfl | (simp; done) | (simp [*]; done), by repeat (first | exact Drawn0.refl _ | apply Drawn0.step)⟩
    ·rw [if_neg c6] at H
     exact absurd H (by simp)
   ·rw [if_neg c5] at H
    exact absurd H (by simp)
end Go.Proofs.Ytnopjjilpgekfaa.PCa
namespace Go.Proofs.Ytnopjjilpgekfaa.PCa
open Go.RowKit Go.Proofs.YtnopjjilpgekfaaW.PrintWords Go.Proofs.YtnopjjilpgekfaaW.PrintLast Go.Proofs.YtnopjjilpgekfaaW.PrintMore
set_option linter.unusedVariables false
def badN (n : Int) : Bool := decide (n < 0) || decide (n > 1099511627776)
def chkC (l : List Int) : Int := if 64 < l.length then 3 else if l.any badN = true then 1 else 0
def atC (l : List Int) (r : Int) : Int := if r < 0 ∨ (l.length : Int) ≤ r then 0 else rd l r
theorem w1 {n : Nat} (h : n < 100000) : wrap64 ((n : Int) + 1) = ((n + 1 : Nat) : Int) := by rw [← i64_w, IntKind.wrap_i64]; omega
theorem rd_drop {l : List Int} {i : Nat} (h : i < l.length) : l.drop i = rd l (i : Int) :: l.drop (i + 1) := by
 rw [List.drop_eq_getElem_cons h]
 congr 1
 unfold rd
 simp [List.getD_eq_getElem?_getD, h]
theorem chk_loop (l : List Int) (hl : l.length ≤ 64) : ∀ (n i k : Nat), i + n = l.length → n < k → clock_Check.l0 k l (l.length : Int) (i : Int) = some (if (l.drop i).any badN = true then 1 else 0) := by
 intro n
 induction n with
 | zero =>
  intro i k hi hk
  obtain ⟨k, rfl⟩ : ∃ m, k = m + 1 := ⟨k - 1, by omega⟩
  rw [clock_Check.l0, if_neg (by omega), List.drop_of_length_le (by omega)]
  rfl
 | succ n ih =>
  intro i k hi hk
  obtain ⟨k, rfl⟩ : ∃ m, k = m + 1 := ⟨k - 1, by omega⟩
  rw [clock_Check.l0, if_pos (by omega), if_pos (by omega), if_pos (by omega), rd_drop (by omega : i < l.length), List.any_cons]
  by_cases h1 : rd l (i : Int) < 0
  ·rw [if_pos h1]; simp [badN, h1]
  ·rw [if_neg h1]
   by_cases h2 : rd l (i : Int) > 1099511627776
   ·rw [if_pos h2]; simp [badN, h2]
   ·rw [if_neg h2, w1 (by omega), ih (i + 1) k (by omega) (by omega)]
    have hb : badN (rd l (i : Int)) = false := by simp only [badN, decide_eq_false h1, decide_eq_false h2]; rfl
    rw [hb, Bool.false_or]
theorem clock_Check_is (l : List Int) (k : Nat) (hk : 65 < k) : clock_Check.f k l = some (chkC l) := by
 unfold clock_Check.f chkC
 by_cases h : 64 < l.length
 ·rw [if_pos (by omega), if_pos h]
 ·rw [if_neg (by omega), if_neg h]
  have := chk_loop l (by omega) l.length 0 k (by omega) (by omega)
  rw [List.drop_zero] at this
  exact this
theorem rchk_loop (l : List Int) (hl : l.length ≤ 64) : ∀ (n i k : Nat), i + n = l.length → n < k → topiaryref02_Check.l0 k l (i : Int) = some (if (l.drop i).any badN = true then 1 else 0) := by
 intro n
 induction n with
 | zero =>
  intro i k hi hk
  obtain ⟨k, rfl⟩ : ∃ m, k = m + 1 := ⟨k - 1, by omega⟩
  rw [topiaryref02_Check.l0, if_neg (by omega), List.drop_of_length_le (by omega)]
  rfl
 | succ n ih =>
  intro i k hi hk
  obtain ⟨k, rfl⟩ : ∃ m, k = m + 1 := ⟨k - 1, by omega⟩
  rw [topiaryref02_Check.l0, if_pos (by omega), if_pos (by omega), rd_drop (by omega : i < l.length), List.any_cons]
  by_cases h1 : rd l (i : Int) < 0
  ·rw [if_pos h1]; simp [badN, h1]
  ·rw [if_neg h1]
   by_cases h2 : rd l (i : Int) > 1099511627776
   ·rw [if_pos h2]; simp [badN, h2]
   ·rw [if_neg h2, w1 (by omega), ih (i + 1) k (by omega) (by omega)]
    have hb : badN (rd l (i : Int)) = false := by simp only [badN, decide_eq_false h1, decide_eq_false h2]; rfl
    rw [hb, Bool.false_or]
theorem ref_Check_is (l : List Int) (k : Nat) (hk : 65 < k) : topiaryref02_Check.f k l = some (chkC l) := by
 unfold topiaryref02_Check.f chkC
 by_cases h : 64 < l.length
 ·rw [if_pos (by omega), if_pos h]
 ·rw [if_neg (by omega), if_neg h]
  have := rchk_loop l (by omega) l.length 0 k (by omega) (by omega)
  rw [List.drop_zero] at this
  exact this
theorem clock_At_is (l : List Int) (r : Int) : clock_At.f l r = some (atC l r) := by
 unfold clock_At.f atC
 by_cases h : r < 0
 ·rw [if_pos h, if_pos (Or.inl h)]
 ·rw [if_neg h]
  by_cases h2 : r ≥ (l.length : Int)
  ·rw [if_pos h2, if_pos (Or.inr h2)]
  ·rw [if_neg h2, if_pos (by omega), if_pos (by omega), if_neg (by omega)]
theorem ref_At_is (l : List Int) (r : Int) : topiaryref02_At.f l r = some (atC l r) := by
 unfold topiaryref02_At.f atC
 by_cases h : r ≥ 0
 ·rw [if_pos h]
  by_cases h2 : r < (l.length : Int)
  ·rw [if_pos h2, if_pos h, if_neg (by omega)]
  ·rw [if_neg h2, if_pos (by omega)]
 ·rw [if_neg h, if_pos (by omega)]
end Go.Proofs.Ytnopjjilpgekfaa.PCa
namespace Go.Proofs.Ytnopjjilpgekfaa.PCa
open Go.RowKit Go.Proofs.YtnopjjilpgekfaaW.PrintWords Go.Proofs.YtnopjjilpgekfaaW.PrintLast Go.Proofs.YtnopjjilpgekfaaW.PrintMore
attribute [local go_sem] max2_int min2_int max_two min_two max_three min_three max_four min_four
set_option linter.unusedVariables false
set_option linter.unusedSimpArgs false
mutual
def topiaryref02_Trim.l0 : Nat → List Int → List Int → Int → Int → Option (List Int)
 | 0, _, _, _, _ => none
 | k + 1, x0, x3, x4, x5 => if x5 < (x0.length : Int) then (if 0 ≤ x5 then (if (rd x0 x5) = 0 then (topiaryref02_Trim.l0 k x0 x3 (wrap64 (x4 + 1)) (wrap64 (x5 + 1))) else (topiaryref02_Trim.l1 k x0 x3 x4 x5)) else (none)) else (some x3)
def topiaryref02_Trim.l1 : Nat → List Int → List Int → Int → Int → Option (List Int)
 | 0, _, _, _, _ => none
 | k + 1, x0, x3, x4, x5 => if x4 > 0 then (if x3.length < 17592186044416 then (topiaryref02_Trim.l1 k x0 (x3 ++ [0]) (wrap64 (x4 - 1)) x5) else (none)) else (if 0 ≤ x5 then (if x5 < (x0.length : Int) then (if x3.length < 17592186044416 then (topiaryref02_Trim.l0 k x0 (x3 ++ [rd x0 x5]) x4 (wrap64 (x5 + 1))) else (none)) else (none)) else (none))
end
def topiaryref02_Trim.f (k : Nat) (l0 : List Int) : Option (List Int) := topiaryref02_Trim.l0 k l0 (([] : List Int)) 0 0
set_option maxHeartbeats 8000000 in
set_option maxRecDepth 100000 in
theorem topiaryref02_Trim.calls (k : Nat) (A0 : Option Addr) (c0 : Nat) (l0 : List Int) (r : List Int) (w : World) (hr0 : Kd.C (Kd.int .i64) w A0 l0.length l0) (hc0 : l0.length ≤ c0) (h : topiaryref02_Trim.f k l0 = some r) :
  Calls Try.prog 44 #[.slice A0 l0.length c0] w fun e w' => ∃ v0_ : Value, e = .returned (v0_) ∧ Kd.R (Kd.int .i64) 3 w' w.heap.size (fun _ => True) v0_ r ∧ Below w.heap.size w w' := by
 have HR0 := Aside0.mk hr0
 have HC0 := Aside0.mk hc0
 clear hr0 hc0
 have HB := Aside0.mk (Below.refl w.heap.size w)
 have H : (topiaryref02_Trim.l0 k l0 (([] : List Int)) 0 0) = some r := h
 clear h
 obtain ⟨y101, hy101⟩ : ∃ y_ : List Int, y_ = (([] : List Int)) := ⟨_, rfl⟩
 replace H : (topiaryref02_Trim.l0 k l0 y101 0 0) = some r := by first | (rw [hy101]; with_reducible exact H) | (have H2_ := (Option.bind_some _ _).symm.trans H; rw [hy101]; with_reducible exact H2_) | (have H2_ := (Option.bind_some _ _).symm.trans H; with_reducible exact H2_) | with_reducible exact H | (rw [hy101]; exact H) | exact H
 have Ny101 := Aside0.mk hy101
 clear hy101
 have H' := Aside0.mk H
 clear H
 go_enter Try.func44, Try.ntmps44
 go_wp2_with (first | ((with_reducible refine gate_dst (N := 6) rfl ?_); refine Kd.R_lit (Kd.int .i64) _ 3 ?hg (N := 6) ?hd (xs := ([] : List Int)) (inner := []) (ok := fun _ => True) (okp := fun _ => True) ?hr ?hp (fun _ hk => hk) trivial (Below.refl _ _) (Nat.le_refl _) (by simp) ?_; (case hd => rfl); (case hg => rfl); (case hr => first | (go_simp; done) | (go_simp; rfl)); (case hp => exact (Reps.none _ _)); intro v102 w2 ho3 hb hg_ hnew_; clear hg_ hnew_; (first | rw [← Ny101.out] at ho3 | (simp only [Int.reduceToNat] at ho3; rw [← Ny101.out] at ho3)); have n0_ := Aside0.mk (Kd.R_lower ho3 (below_size (by repeat (first | (with_reducible first | exact HB.out | apply below_alloc | apply pw_below_drewN | apply below_drew1) | exact HB.out)))); have n1_ := Aside0.mk (below_step (by repeat (first | (with_reducible first | exact HB.out | apply below_alloc | apply pw_below_drewN | apply below_drew1) | exact HB.out)) hb); clear HB; have HO103 := n0_; have HB := n1_; clear n0_ n1_; clear hb ho3))
 go_loopg [3, 4, 5] k (fun kq v3 v4 v5 w' => ∃ (x3_1 : List Int) (x4_1 : Int) (x5_1 : Int), v4 = .int .i64 x4_1 ∧ v5 = .int .i64 x5_1 ∧ Aside0 (topiaryref02_Trim.l0 kq l0 x3_1 x4_1 x5_1 = some r) ∧ Aside0 (kq ≤ k) ∧ Aside0 (Kd.R (Kd.int .i64) 3 w' w.heap.size (fun _ => True) v3 x3_1) ∧ Aside0 (Below w.heap.size w w'))
 case atStart => exact ⟨(y101), (0), (0), (by first | rfl | (simp; done) | (simp [*]; done)), (by first | rfl | (simp; done) | (simp [*]; done)), H', ⟨Nat.le_refl _⟩, ⟨by (with_reducible repeat (first | apply Kd.R_alloc | apply Kd.R_drewN | apply Kd.R_drew)); exact HO103.out⟩, ⟨by repeat (first | (with_reducible first | exact HB.out | apply below_alloc | apply pw_below_drewN | apply below_drew1) | exact HB.out)⟩⟩
 case round =>
  clear H'
  (try clear p2)
  obtain ⟨x3_1, x4_1, x5_1, rfl, rfl, HA, HK1, HO_3, HB⟩ := hrel
  cases gk with
  | zero => exact absurd HA.out (by simp [topiaryref02_Trim.l0])
  | succ k1 =>
   have H := HA.out
   clear HA
   simp only [topiaryref02_Trim.l0] at H
   by_cases c4 : x5_1 < (l0.length : Int)
   ·rw [if_pos c4] at H
    have c4b0 : decide (x5_1 < (l0.length : Int)) = true := decide_eq_true c4
    clear c4
    by_cases c5 : 0 ≤ x5_1
    ·rw [if_pos c5] at H
     have c5b0 : decide (0 ≤ x5_1) = true := decide_eq_true c5
     clear c5
     by_cases c6 : (rd l0 x5_1) = 0
     ·rw [if_pos c6] at H
      have c6b0 : ((rd l0 x5_1) == 0) = true := beq_iff_eq.mpr c6
      have c6b1 : ((rd l0 x5_1) != 0) = false := bne_eq_false_iff_eq.mpr c6
      clear c6
      have H' := Aside0.mk H
      clear H
      have p104 : 0 ≤ (x5_1 : Int) := of_decide_eq_true (by first | (with_reducible assumption) | assumption)
      have q104 : x5_1 < (l0.length : Int) := of_decide_eq_true (by first | (with_reducible assumption) | assumption)
      obtain ⟨ad104, e104, hx104_0⟩ := Kd.at_int HR0.out x5_1 p104 q104
      cases e104
      replace hx104_0 := (HB.out.cell (World.block_lt_of_cell? w _ hx104_0)).trans hx104_0
      replace p104 := eq_true p104
      replace q104 := eq_true q104
      go_wp2
      go_roundg k1
      case measure => have := HK1.out; omega
      case rel => exact ⟨(x3_1), (wrap64 (x4_1 + 1)), (wrap64 (x5_1 + 1)), (by first | rfl | (simp; done) | (simp [*]; done)), (by first | rfl | (simp; done) | (simp [*]; done)), H', ⟨by have := HK1.out; omega⟩, ⟨by (with_reducible repeat (first | apply Kd.R_alloc | apply Kd.R_drewN | apply Kd.R_drew)); exact HO_3.out⟩, ⟨by repeat (first | (with_reducible first | exact HB.out | apply below_alloc | apply pw_below_drewN | apply below_drew1) | exact HB.out)⟩⟩
     ·rw [if_neg c6] at H
      have c6b0 : ((rd l0 x5_1) == 0) = false := beq_eq_false_iff_ne.mpr c6
      have c6b1 : ((rd l0 x5_1) != 0) = true := bne_iff_ne.mpr c6
      have H' := Aside0.mk H
      clear H
      have p104 : 0 ≤ (x5_1 : Int) := of_decide_eq_true (by first | (with_reducible assumption) | assumption)
      have q104 : x5_1 < (l0.length : Int) := of_decide_eq_true (by first | (with_reducible assumption) | assumption)
      obtain ⟨ad104, e104, hx104_0⟩ := Kd.at_int HR0.out x5_1 p104 q104
      cases e104
      replace hx104_0 := (HB.out.cell (World.block_lt_of_cell? w _ hx104_0)).trans hx104_0
      replace p104 := eq_true p104
      replace q104 := eq_true q104
      go_wp2
      go_loopg [3, 4] k1 (fun kq v3 v4 w' => ∃ (x3_2 : List Int) (x4_2 : Int), v4 = .int .i64 x4_2 ∧ Aside0 (topiaryref02_Trim.l1 kq l0 x3_2 x4_2 x5_1 = some r) ∧ Aside0 (kq ≤ k1) ∧ Aside0 (Kd.R (Kd.int .i64) 3 w' w.heap.size (fun _ => True) v3 x3_2) ∧ Aside0 (Below w.heap.size w w'))
      case atStart => exact ⟨(x3_1), (x4_1), (by first | rfl | (simp; done) | (simp [*]; done)), H', ⟨Nat.le_refl _⟩, ⟨by (with_reducible repeat (first | apply Kd.R_alloc | apply Kd.R_drewN | apply Kd.R_drew)); exact HO_3.out⟩, ⟨by repeat (first | (with_reducible first | exact HB.out | apply below_alloc | apply pw_below_drewN | apply below_drew1) | exact HB.out)⟩⟩
      case round =>
       clear H'
       (try clear p1); (try clear q1); (try clear hx1); (try clear p2); (try clear p2); (try clear c4); (try clear c4b0); (try clear c5); (try clear c5b0); (try clear c6); (try clear c6b0); (try clear c6b1); (try clear p6); (try clear hx104_0); (try clear p104); (try clear q104)
       obtain ⟨x3_2, x4_2, rfl, HA, HK2, HO_3, HB⟩ := hrel
       cases gk with
       | zero => exact absurd HA.out (by simp [topiaryref02_Trim.l1])
       | succ k2 =>
        have H := HA.out
        clear HA
        simp only [topiaryref02_Trim.l1] at H
        by_cases c7 : x4_2 > 0
        ·rw [if_pos c7] at H
         have c7b0 : decide (0 < x4_2) = true := decide_eq_true c7
         clear c7
         by_cases c8 : x3_2.length < 17592186044416
         ·rw [if_pos c8] at H
          have LMc8 := Aside0.mk c8
          clear c8
          obtain ⟨y105, hy105⟩ : ∃ y_ : List Int, y_ = (x3_2 ++ [0]) := ⟨_, rfl⟩
          replace H : (topiaryref02_Trim.l1 k2 l0 y105 (wrap64 (x4_2 - 1)) x5_1) = some r := by first | (rw [hy105]; with_reducible exact H) | (have H2_ := (Option.bind_some _ _).symm.trans H; rw [hy105]; with_reducible exact H2_) | (have H2_ := (Option.bind_some _ _).symm.trans H; with_reducible exact H2_) | with_reducible exact H | (rw [hy105]; exact H) | exact H
          have Ny105 := Aside0.mk hy105
          clear hy105
          have H' := Aside0.mk H
          clear H
          go_wp2_with (first | ((with_reducible refine gate_builtin (b := .append) (xs := #[.tmp 22, .tmp 23]) rfl ?_); at_builtin; refine Kd.R_append (Kd.int .i64) (w0 := w) w.heap.size rfl (.tmp 22) (.tmp 23) 23 3 (.int .i64 0) 8 rfl Try.underlying23 info3 rfl (by decide) (by omega) u3 x3_2 0 [.int .i64 0] (fun _ => True) (fun _ => False) rfl rfl ?aP (fun _ hk => hk.elim) ?aF ?aO ?aB ?aS ?aL ?_; (case aP => exact rfl); (case aB => exact (by repeat (first | (with_reducible first | exact HB.out | apply below_alloc | apply pw_below_drewN | apply below_drew1) | exact HB.out))); (case aF => exact (fun _ _ => trivial)); (case aO => exact (by (with_reducible repeat (first | apply Kd.R_alloc | apply Kd.R_drewN | apply Kd.R_drew)); exact HO_3.out)); (case aS => exact (below_size (by repeat (first | (with_reducible first | exact HB.out | apply below_alloc | apply pw_below_drewN | apply below_drew1) | exact HB.out)))); (case aL => have := LMc8.out; omega); intro v106 w9 ho hb hg hat; rw [← Ny105.out] at ho; have n0_ := Aside0.mk (hb); have n1_ := Aside0.mk (ho); clear HB; clear HO_3; have HB := n0_; have HO107 := n1_; clear n0_ n1_; clear ho hb hg hat))
          go_roundg k2
          case measure => have := HK1.out; have := HK2.out; omega
          case rel => exact ⟨(y105), (wrap64 (x4_2 - 1)), (by first | rfl | (simp; done) | (simp [*]; done)), H', ⟨by have := HK1.out; have := HK2.out; omega⟩, ⟨by (with_reducible repeat (first | apply Kd.R_alloc | apply Kd.R_drewN | apply Kd.R_drew)); exact HO107.out⟩, ⟨by repeat (first | (with_reducible first | exact HB.out | apply below_alloc | apply pw_below_drewN | apply below_drew1) | exact HB.out)⟩⟩
         ·rw [if_neg c8] at H
          exact absurd H (by simp)
        ·rw [if_neg c7] at H
         have c7b0 : decide (0 < x4_2) = false := decide_eq_false c7
         clear c7
         by_cases c10 : 0 ≤ x5_1
         ·rw [if_pos c10] at H
          have c10b0 : decide (0 ≤ x5_1) = true := decide_eq_true c10
          clear c10
          by_cases c11 : x5_1 < (l0.length : Int)
          ·rw [if_pos c11] at H
           have c11b0 : decide (x5_1 < (l0.length : Int)) = true := decide_eq_true c11
           clear c11
           by_cases c12 : x3_2.length < 17592186044416
           ·rw [if_pos c12] at H
            have LMc12 := Aside0.mk c12
            clear c12
            obtain ⟨y109, hy109⟩ : ∃ y_ : List Int, y_ = (x3_2 ++ [rd l0 x5_1]) := ⟨_, rfl⟩
            replace H : (topiaryref02_Trim.l0 k2 l0 y109 x4_2 (wrap64 (x5_1 + 1))) = some r := by first | (rw [hy109]; with_reducible exact H) | (have H2_ := (Option.bind_some _ _).symm.trans H; rw [hy109]; with_reducible exact H2_) | (have H2_ := (Option.bind_some _ _).symm.trans H; with_reducible exact H2_) | with_reducible exact H | (rw [hy109]; exact H) | exact H
            have Ny109 := Aside0.mk hy109
            clear hy109
            have H' := Aside0.mk H
            clear H
            have p108 : 0 ≤ (x5_1 : Int) := of_decide_eq_true (by first | (with_reducible assumption) | assumption)
            have q108 : x5_1 < (l0.length : Int) := of_decide_eq_true (by first | (with_reducible assumption) | assumption)
            obtain ⟨ad108, e108, hx108_0⟩ := Kd.at_int HR0.out x5_1 p108 q108
            obtain rfl : ad104 = ad108 := (by injection e108)
            replace hx108_0 := (HB.out.cell (World.block_lt_of_cell? w _ hx108_0)).trans hx108_0
            replace p108 := eq_true p108
            replace q108 := eq_true q108
            go_wp2_with (first | ((with_reducible refine gate_builtin (b := .append) (xs := #[.tmp 27, .tmp 32]) rfl ?_); at_builtin; refine Kd.R_append (Kd.int .i64) (w0 := w) w.heap.size rfl (.tmp 27) (.tmp 32) 23 3 (.int .i64 0) 8 rfl Try.underlying23 info3 rfl (by decide) (by omega) u3 x3_2 (rd l0 x5_1) [.int .i64 (rd l0 x5_1)] (fun _ => True) (fun _ => False) rfl rfl ?aP (fun _ hk => hk.elim) ?aF ?aO ?aB ?aS ?aL ?_; (case aP => exact rfl); (case aB => exact (by repeat (first | (with_reducible first | exact HB.out | apply below_alloc | apply pw_below_drewN | apply below_drew1) | exact HB.out))); (case aF => exact (fun _ _ => trivial)); (case aO => exact (by (with_reducible repeat (first | apply Kd.R_alloc | apply Kd.R_drewN | apply Kd.R_drew)); exact HO_3.out)); (case aS => exact (below_size (by repeat (first | (with_reducible first | exact HB.out | apply below_alloc | apply pw_below_drewN | apply below_drew1) | exact HB.out)))); (case aL => have := LMc12.out; omega); intro v110 w13 ho hb hg hat; rw [← Ny109.out] at ho; have n0_ := Aside0.mk (hb); have n1_ := Aside0.mk (ho); clear HB; clear HO_3; have HB := n0_; have HO111 := n1_; clear n0_ n1_; clear ho hb hg hat))
            go_roundg k2
            case measure => have := HK1.out; have := HK2.out; omega
            case rel => exact ⟨(y109), (x4_2), (wrap64 (x5_1 + 1)), (by first | rfl | (simp; done) | (simp [*]; done)), (by first | rfl | (simp; done) | (simp [*]; done)), H', ⟨by have := HK1.out; have := HK2.out; omega⟩, ⟨by (with_reducible repeat (first | apply Kd.R_alloc | apply Kd.R_drewN | apply Kd.R_drew)); exact HO111.out⟩, ⟨by repeat (first | (with_reducible first | exact HB.out | apply below_alloc | apply pw_below_drewN | apply below_drew1) | exact HB.out)⟩⟩
           ·rw [if_neg c12] at H
            exact absurd H (by simp)
          ·rw [if_neg c11] at H
           exact absurd H (by simp)
         ·rw [if_neg c10] at H
          exact absurd H (by simp)
    ·rw [if_neg c5] at H
     exact absurd H (by simp)
   ·rw [if_neg c4] at H
    have c4b0 : decide (x5_1 < (l0.length : Int)) = false := decide_eq_false c4
    clear c4
    obtain rfl := Option.some.inj H
    go_wp2
    go_ret
    exact ⟨_, by first | rfl | (simp [errW_none, errW_some] <;> rfl) | (simp [*, errW_none, errW_some] <;> rfl), by (with_reducible repeat (first | apply Kd.R_alloc | apply Kd.R_drewN | apply Kd.R_drew)); exact HO_3.out, by repeat (first | (with_reducible first | exact HB.out | apply below_alloc | apply pw_below_drewN | apply below_drew1) | exact HB.out)⟩
def clock_Trim.l0 : Nat → List Int → Int → Option (List Int)
 | 0, _, _ => none
 | k + 1, x0, x3 => if x3 > 0 then (if 0 ≤ (wrap64 (x3 - 1)) then (if (wrap64 (x3 - 1)) < (x0.length : Int) then (if (rd x0 (wrap64 (x3 - 1))) = 0 then (clock_Trim.l0 k x0 (wrap64 (x3 - 1))) else ((some (([] : List Int) : List Int)).bind fun y365 => (if 0 ≤ x3 then (if x3 ≤ (x0.length : Int) then (if y365.length + (x0.take (x3 : Int).toNat).length < 17592186044416 then (some (y365 ++ (x0.take (x3 : Int).toNat))) else (none)) else (none)) else (none)))) else (none)) else (none)) else ((some (([] : List Int) : List Int)).bind fun y372 => (if 0 ≤ x3 then (if x3 ≤ (x0.length : Int) then (if y372.length + (x0.take (x3 : Int).toNat).length < 17592186044416 then (some (y372 ++ (x0.take (x3 : Int).toNat))) else (none)) else (none)) else (none)))
def clock_Trim.f (k : Nat) (l0 : List Int) : Option (List Int) := clock_Trim.l0 k l0 (l0.length : Int)
set_option maxHeartbeats 8000000 in
set_option maxRecDepth 100000 in
theorem clock_Trim.calls (k : Nat) (A0 : Option Addr) (c0 : Nat) (l0 : List Int) (r : List Int) (w : World) (hr0 : Kd.C (Kd.int .i64) w A0 l0.length l0) (hc0 : l0.length ≤ c0) (h : clock_Trim.f k l0 = some r) :
  Calls Try.prog 85 #[.slice A0 l0.length c0] w fun e w' => ∃ v0_ : Value, e = .returned (v0_) ∧ Kd.R (Kd.int .i64) 3 w' w.heap.size (fun _ => True) v0_ r ∧ Below w.heap.size w w' := by
 have HR0 := Aside0.mk hr0
 have HC0 := Aside0.mk hc0
 clear hr0 hc0
 have HB := Aside0.mk (Below.refl w.heap.size w)
 have H : (clock_Trim.l0 k l0 (l0.length : Int)) = some r := h
 clear h
 have H' := Aside0.mk H
 clear H
 go_enter Try.func85, Try.ntmps85
 go_wp2
 go_loopg [3] k (fun kq v3 w' => ∃ (x3_1 : Int), v3 = .int .i64 x3_1 ∧ Aside0 (clock_Trim.l0 kq l0 x3_1 = some r) ∧ Aside0 (kq ≤ k) ∧ Aside0 (Below w.heap.size w w'))
 case atStart => exact ⟨((l0.length : Int)), (by first | rfl | (simp; done) | (simp [*]; done)), H', ⟨Nat.le_refl _⟩, ⟨by repeat (first | (with_reducible first | exact HB.out | apply below_alloc | apply pw_below_drewN | apply below_drew1) | exact HB.out)⟩⟩
 case round =>
  clear H'
  obtain ⟨x3_1, rfl, HA, HK1, HB⟩ := hrel
  cases gk with
  | zero => exact absurd HA.out (by simp [clock_Trim.l0])
  | succ k1 =>
   have H := HA.out
   clear HA
   simp only [clock_Trim.l0] at H
   by_cases c2 : x3_1 > 0
   ·rw [if_pos c2] at H
    have c2b0 : decide (0 < x3_1) = true := decide_eq_true c2
    clear c2
    obtain ⟨ji3, hji3⟩ : ∃ j_ : Int, (wrap64 (x3_1 - 1)) = j_ := ⟨_, rfl⟩
    replace H : (if 0 ≤ (ji3) then (if (ji3) < (l0.length : Int) then (if (rd l0 (ji3)) = 0 then (clock_Trim.l0 k1 l0 ji3) else ((some (([] : List Int) : List Int)).bind fun y365 => (if 0 ≤ x3_1 then (if x3_1 ≤ (l0.length : Int) then (if y365.length + (l0.take (x3_1 : Int).toNat).length < 17592186044416 then (some (y365 ++ (l0.take (x3_1 : Int).toNat))) else (none)) else (none)) else (none)))) else (none)) else (none)) = some r := by first | (rw [hji3] at H; exact H) | (simp only [hji3] at H ⊢; exact H)
    have hji3w : (IntKind.i64.wrap (x3_1 - 1)) = ji3 := (i64_w _).trans hji3
    by_cases c4 : 0 ≤ (ji3)
    ·rw [if_pos c4] at H
     have c4b0 : decide (0 ≤ (ji3)) = true := decide_eq_true c4
     clear c4
     by_cases c5 : (ji3) < (l0.length : Int)
     ·rw [if_pos c5] at H
      have c5b0 : decide ((ji3) < (l0.length : Int)) = true := decide_eq_true c5
      clear c5
      by_cases c6 : (rd l0 (ji3)) = 0
      ·rw [if_pos c6] at H
       have c6b0 : ((rd l0 (ji3)) == 0) = true := beq_iff_eq.mpr c6
       have c6b1 : ((rd l0 (ji3)) != 0) = false := bne_eq_false_iff_eq.mpr c6
       clear c6
       have H' := Aside0.mk H
       clear H
       have p364 : 0 ≤ ((ji3) : Int) := of_decide_eq_true (by first | (with_reducible assumption) | assumption)
       have q364 : (ji3) < (l0.length : Int) := of_decide_eq_true (by first | (with_reducible assumption) | assumption)
       obtain ⟨ad364, e364, hx364_0⟩ := Kd.at_int HR0.out (ji3) p364 q364
       cases e364
       replace hx364_0 := (HB.out.cell (World.block_lt_of_cell? w _ hx364_0)).trans hx364_0
       replace p364 := eq_true p364
       replace q364 := eq_true q364
       go_wp2
       go_roundg k1
       case measure => have := HK1.out; omega
       case rel => exact ⟨(ji3), (by first | rfl | (simp; done) | (simp only [← hji3] <;> (first | rfl | simp)) | (simp [*]; done)), H', ⟨by have := HK1.out; omega⟩, ⟨by repeat (first | (with_reducible first | exact HB.out | apply below_alloc | apply pw_below_drewN | apply below_drew1) | exact HB.out)⟩⟩
      ·rw [if_neg c6] at H
       have c6b0 : ((rd l0 (ji3)) == 0) = false := beq_eq_false_iff_ne.mpr c6
       have c6b1 : ((rd l0 (ji3)) != 0) = true := bne_iff_ne.mpr c6
       obtain ⟨y365, hy365⟩ : ∃ y_ : List Int, y_ = (([] : List Int)) := ⟨_, rfl⟩
       replace H : (if 0 ≤ x3_1 then (if x3_1 ≤ (l0.length : Int) then (if y365.length + (l0.take (x3_1 : Int).toNat).length < 17592186044416 then (some (y365 ++ (l0.take (x3_1 : Int).toNat))) else (none)) else (none)) else (none)) = some r := by first | (rw [hy365]; with_reducible exact H) | (have H2_ := (Option.bind_some _ _).symm.trans H; rw [hy365]; with_reducible exact H2_) | (have H2_ := (Option.bind_some _ _).symm.trans H; with_reducible exact H2_) | with_reducible exact H | (rw [hy365]; exact H) | exact H
       have Ny365 := Aside0.mk hy365
       clear hy365
       by_cases c7 : 0 ≤ x3_1
       ·rw [if_pos c7] at H
        have c7b0 := eq_true c7
        have c7b1 : decide (0 ≤ x3_1) = true := decide_eq_true c7
        clear c7
        by_cases c8 : x3_1 ≤ (l0.length : Int)
        ·rw [if_pos c8] at H
         have c8b0 := eq_true c8
         have c8b1 : decide (x3_1 ≤ (l0.length : Int)) = true := decide_eq_true c8
         clear c8
         by_cases c9 : y365.length + (l0.take (x3_1 : Int).toNat).length < 17592186044416
         ·rw [if_pos c9] at H
          have LMc9 := Aside0.mk c9
          clear c9
          obtain ⟨y369, hy369⟩ : ∃ y_ : List Int, y_ = (y365 ++ (l0.take (x3_1 : Int).toNat)) := ⟨_, rfl⟩
          replace H : (some y369) = some r := by first | (rw [hy369]; with_reducible exact H) | (have H2_ := (Option.bind_some _ _).symm.trans H; rw [hy369]; with_reducible exact H2_) | (have H2_ := (Option.bind_some _ _).symm.trans H; with_reducible exact H2_) | with_reducible exact H | (rw [hy369]; exact H) | exact H
          have Ny369 := Aside0.mk hy369
          clear hy369
          obtain rfl := Option.some.inj H
          have p364 : 0 ≤ ((ji3) : Int) := of_decide_eq_true (by first | (with_reducible assumption) | assumption)
          have q364 : (ji3) < (l0.length : Int) := of_decide_eq_true (by first | (with_reducible assumption) | assumption)
          obtain ⟨ad364, e364, hx364_0⟩ := Kd.at_int HR0.out (ji3) p364 q364
          cases e364
          replace hx364_0 := (HB.out.cell (World.block_lt_of_cell? w _ hx364_0)).trans hx364_0
          replace p364 := eq_true p364
          replace q364 := eq_true q364
          go_wp2_with (first | ((with_reducible refine gate_dst (N := 18) rfl ?_); refine Kd.R_lit (Kd.int .i64) _ 3 ?hg (N := 18) ?hd (xs := ([] : List Int)) (inner := []) (ok := fun _ => True) (okp := fun _ => True) ?hr ?hp (fun _ hk => hk) trivial (Below.refl _ _) (Nat.le_refl _) (by simp) ?_; (case hd => rfl); (case hg => rfl); (case hr => first | (go_simp; done) | (go_simp; rfl)); (case hp => exact (Reps.none _ _)); intro v366 w10 ho11 hb hg_ hnew_; clear hg_ hnew_; (first | rw [← Ny365.out] at ho11 | (simp only [Int.reduceToNat] at ho11; rw [← Ny365.out] at ho11)); have n0_ := Aside0.mk (Kd.R_lower ho11 (below_size (by repeat (first | (with_reducible first | exact HB.out | apply below_alloc | apply pw_below_drewN | apply below_drew1) | exact HB.out)))); have n1_ := Aside0.mk (below_step (by repeat (first | (with_reducible first | exact HB.out | apply below_alloc | apply pw_below_drewN | apply below_drew1) | exact HB.out)) hb); clear HB; have HO367 := n0_; have HB := n1_; clear n0_ n1_; clear hb ho11; obtain ⟨i012, hi012, _, hsz12, _⟩ := info_parts info3; obtain ⟨hcut12, hA12, hC12⟩ := print_take_of (P := Try.prog) (Value.int .i64) 0 23 3 .i64 Try.underlying23 hi012 hsz12 (some ad364) c0 l0 x3_1 (of_decide_eq_true (by first | (with_reducible assumption) | assumption)) (of_decide_eq_true (by first | (with_reducible assumption) | assumption)) HC0.out; have HR368 := Aside0.mk (Kd.C_of_reads (h1 := fun _ => rfl) (hA12 _ (Kd.reads_of_C HR0.out))); have HC368 := Aside0.mk hC12; clear hA12 hC12 hi012 hsz12) | ((with_reducible refine gate_builtin (b := .append) (xs := #[.tmp 18, .tmp 21]) rfl ?_); at_builtin; refine Kd.R_append_rows (Kd.int .i64) (w0 := w) w.heap.size rfl (.tmp 18) (.tmp 21) 23 3 (.int .i64 0) 8 rfl Try.underlying23 info3 rfl (by decide) (by omega) v366 y365 (l0.take (x3_1 : Int).toNat) _ _ _ (fun _ => True) (fun _ => False) rfl rfl ?aO ?aR (fun _ _ h => h) (fun _ h => h.elim) ?aF ?aB ?aS ?aL ?_; (case aR => first | (have h_ := Kd.C_below HR368.out HB.out; rw [show (l0.take (x3_1 : Int).toNat).length = x3_1.toNat from (by rw [List.length_take]; have h_ : (x3_1 : Int) ≤ (l0.length : Int) := of_decide_eq_true (by first | (with_reducible assumption) | assumption); omega)] at h_; exact h_) | (rw [← show (l0.take (x3_1 : Int).toNat).length = x3_1.toNat from (by rw [List.length_take]; have h_ : (x3_1 : Int) ≤ (l0.length : Int) := of_decide_eq_true (by first | (with_reducible assumption) | assumption); omega)]; repeat (first | exact (Kd.C_below HR368.out HB.out) | (with_reducible refine Kd.C_alloc ?_ _) | (with_reducible refine Kd.C_drewN ?_ _) | (with_reducible refine Kd.C_drew ?_)); done) | (repeat (first | exact (Kd.C_below HR368.out HB.out) | (with_reducible refine Kd.C_alloc ?_ _) | (with_reducible refine Kd.C_drewN ?_ _) | (with_reducible refine Kd.C_drew ?_)))); (case aB => exact (by repeat (first | (with_reducible first | exact HB.out | apply below_alloc | apply pw_below_drewN | apply below_drew1) | exact HB.out))); (case aF => exact (fun _ _ => trivial)); (case aO => exact (by (with_reducible repeat (first | apply Kd.R_alloc | apply Kd.R_drewN | apply Kd.R_drew)); exact HO367.out)); (case aS => exact (below_size (by repeat (first | (with_reducible first | exact HB.out | apply below_alloc | apply pw_below_drewN | apply below_drew1) | exact HB.out)))); (case aL => have := LMc9.out; have hlx_ := (show (l0.take (x3_1 : Int).toNat).length = x3_1.toNat from (by rw [List.length_take]; have h_ : (x3_1 : Int) ≤ (l0.length : Int) := of_decide_eq_true (by first | (with_reducible assumption) | assumption); omega)); omega); intro v370 w13 ho hb hg hat; rw [← Ny369.out] at ho; have n0_ := Aside0.mk (hb); have n1_ := Aside0.mk (ho); clear HB; clear HO367; have HB := n0_; have HO371 := n1_; clear n0_ n1_; clear ho hb hg hat))
          go_ret
          exact ⟨_, by first | rfl | (simp [errW_none, errW_some] <;> rfl) | (simp only [← hji3]; first | rfl | (simp [errW_none, errW_some] <;> rfl)) | (simp [*, errW_none, errW_some] <;> rfl), by (with_reducible repeat (first | apply Kd.R_alloc | apply Kd.R_drewN | apply Kd.R_drew)); exact HO371.out, by repeat (first | (with_reducible first | exact HB.out | apply below_alloc | apply pw_below_drewN | apply below_drew1) | exact HB.out)⟩
         ·rw [if_neg c9] at H
          exact absurd H (by simp)
        ·rw [if_neg c8] at H
         exact absurd H (by simp)
       ·rw [if_neg c7] at H
        exact absurd H (by simp)
     ·rw [if_neg c5] at H
      exact absurd H (by simp)
    ·rw [if_neg c4] at H
     exact absurd H (by simp)
   ·rw [if_neg c2] at H
    have c2b0 : decide (0 < x3_1) = false := decide_eq_false c2
    clear c2
    obtain ⟨y372, hy372⟩ : ∃ y_ : List Int, y_ = (([] : List Int)) := ⟨_, rfl⟩
    replace H : (if 0 ≤ x3_1 then (if x3_1 ≤ (l0.length : Int) then (if y372.length + (l0.take (x3_1 : Int).toNat).length < 17592186044416 then (some (y372 ++ (l0.take (x3_1 : Int).toNat))) else (none)) else (none)) else (none)) = some r := by first | (rw [hy372]; with_reducible exact H) | (have H2_ := (Option.bind_some _ _).symm.trans H; rw [hy372]; with_reducible exact H2_) | (have H2_ := (Option.bind_some _ _).symm.trans H; with_reducible exact H2_) | with_reducible exact H | (rw [hy372]; exact H) | exact H
    have Ny372 := Aside0.mk hy372
    clear hy372
    by_cases c14 : 0 ≤ x3_1
    ·rw [if_pos c14] at H
     have c14b0 := eq_true c14
     have c14b1 : decide (0 ≤ x3_1) = true := decide_eq_true c14
     clear c14
     by_cases c15 : x3_1 ≤ (l0.length : Int)
     ·rw [if_pos c15] at H
      have c15b0 := eq_true c15
      have c15b1 : decide (x3_1 ≤ (l0.length : Int)) = true := decide_eq_true c15
      clear c15
      by_cases c16 : y372.length + (l0.take (x3_1 : Int).toNat).length < 17592186044416
      ·rw [if_pos c16] at H
       have LMc16 := Aside0.mk c16
       clear c16
       obtain ⟨y376, hy376⟩ : ∃ y_ : List Int, y_ = (y372 ++ (l0.take (x3_1 : Int).toNat)) := ⟨_, rfl⟩
       replace H : (some y376) = some r := by first | (rw [hy376]; with_reducible exact H) | (have H2_ := (Option.bind_some _ _).symm.trans H; rw [hy376]; with_reducible exact H2_) | (have H2_ := (Option.bind_some _ _).symm.trans H; with_reducible exact H2_) | with_reducible exact H | (rw [hy376]; exact H) | exact H
       have Ny376 := Aside0.mk hy376
       clear hy376
       obtain rfl := Option.some.inj H
       go_wp2_with (first | ((with_reducible refine gate_dst (N := 18) rfl ?_); refine Kd.R_lit (Kd.int .i64) _ 3 ?hg (N := 18) ?hd (xs := ([] : List Int)) (inner := []) (ok := fun _ => True) (okp := fun _ => True) ?hr ?hp (fun _ hk => hk) trivial (Below.refl _ _) (Nat.le_refl _) (by simp) ?_; (case hd => rfl); (case hg => rfl); (case hr => first | (go_simp; done) | (go_simp; rfl)); (case hp => exact (Reps.none _ _)); intro v373 w17 ho18 hb hg_ hnew_; clear hg_ hnew_; (first | rw [← Ny372.out] at ho18 | (simp only [Int.reduceToNat] at ho18; rw [← Ny372.out] at ho18)); have n0_ := Aside0.mk (Kd.R_lower ho18 (below_size (by repeat (first | (with_reducible first | exact HB.out | apply below_alloc | apply pw_below_drewN | apply below_drew1) | exact HB.out)))); have n1_ := Aside0.mk (below_step (by repeat (first | (with_reducible first | exact HB.out | apply below_alloc | apply pw_below_drewN | apply below_drew1) | exact HB.out)) hb); clear HB; have HO374 := n0_; have HB := n1_; clear n0_ n1_; clear hb ho18; obtain ⟨i019, hi019, _, hsz19, _⟩ := info_parts info3; obtain ⟨hcut19, hA19, hC19⟩ := print_take_of (P := Try.prog) (Value.int .i64) 0 23 3 .i64 Try.underlying23 hi019 hsz19 A0 c0 l0 x3_1 (of_decide_eq_true (by first | (with_reducible assumption) | assumption)) (of_decide_eq_true (by first | (with_reducible assumption) | assumption)) HC0.out; have HR375 := Aside0.mk (Kd.C_of_reads (h1 := fun _ => rfl) (hA19 _ (Kd.reads_of_C HR0.out))); have HC375 := Aside0.mk hC19; clear hA19 hC19 hi019 hsz19) | ((with_reducible refine gate_builtin (b := .append) (xs := #[.tmp 18, .tmp 21]) rfl ?_); at_builtin; refine Kd.R_append_rows (Kd.int .i64) (w0 := w) w.heap.size rfl (.tmp 18) (.tmp 21) 23 3 (.int .i64 0) 8 rfl Try.underlying23 info3 rfl (by decide) (by omega) v373 y372 (l0.take (x3_1 : Int).toNat) _ _ _ (fun _ => True) (fun _ => False) rfl rfl ?aO ?aR (fun _ _ h => h) (fun _ h => h.elim) ?aF ?aB ?aS ?aL ?_; (case aR => first | (have h_ := Kd.C_below HR375.out HB.out; rw [show (l0.take (x3_1 : Int).toNat).length = x3_1.toNat from (by rw [List.length_take]; have h_ : (x3_1 : Int) ≤ (l0.length : Int) := of_decide_eq_true (by first | (with_reducible assumption) | assumption); omega)] at h_; exact h_) | (rw [← show (l0.take (x3_1 : Int).toNat).length = x3_1.toNat from (by rw [List.length_take]; have h_ : (x3_1 : Int) ≤ (l0.length : Int) := of_decide_eq_true (by first | (with_reducible assumption) | assumption); omega)]; repeat (first | exact (Kd.C_below HR375.out HB.out) | (with_reducible refine Kd.C_alloc ?_ _) | (with_reducible refine Kd.C_drewN ?_ _) | (with_reducible refine Kd.C_drew ?_)); done) | (repeat (first | exact (Kd.C_below HR375.out HB.out) | (with_reducible refine Kd.C_alloc ?_ _) | (with_reducible refine Kd.C_drewN ?_ _) | (with_reducible refine Kd.C_drew ?_)))); (case aB => exact (by repeat (first | (with_reducible first | exact HB.out | apply below_alloc | apply pw_below_drewN | apply below_drew1) | exact HB.out))); (case aF => exact (fun _ _ => trivial)); (case aO => exact (by (with_reducible repeat (first | apply Kd.R_alloc | apply Kd.R_drewN | apply Kd.R_drew)); exact HO374.out)); (case aS => exact (below_size (by repeat (first | (with_reducible first | exact HB.out | apply below_alloc | apply pw_below_drewN | apply below_drew1) | exact HB.out)))); (case aL => have := LMc16.out; have hlx_ := (show (l0.take (x3_1 : Int).toNat).length = x3_1.toNat from (by rw [List.length_take]; have h_ : (x3_1 : Int) ≤ (l0.length : Int) := of_decide_eq_true (by first | (with_reducible assumption) | assumption); omega)); omega); intro v377 w20 ho hb hg hat; rw [← Ny376.out] at ho; have n0_ := Aside0.mk (hb); have n1_ := Aside0.mk (ho); clear HB; clear HO374; have HB := n0_; have HO378 := n1_; clear n0_ n1_; clear ho hb hg hat))
       go_ret
       exact ⟨_, by first | rfl | (simp [errW_none, errW_some] <;> rfl) | (simp [*, errW_none, errW_some] <;> rfl), by (with_reducible repeat (first | apply Kd.R_alloc | apply Kd.R_drewN | apply Kd.R_drew)); exact HO378.out, by repeat (first | (with_reducible first | exact HB.out | apply below_alloc | apply pw_below_drewN | apply below_drew1) | exact HB.out)⟩
      ·rw [if_neg c16] at H
       exact absurd H (by simp)
     ·rw [if_neg c15] at H
      exact absurd H (by simp)
    ·rw [if_neg c14] at H
     exact absurd H (by simp)
end Go.Proofs.Ytnopjjilpgekfaa.PCa
namespace Go.Proofs.Ytnopjjilpgekfaa.PCa
open Go.RowKit Go.Proofs.YtnopjjilpgekfaaW.PrintWords Go.Proofs.YtnopjjilpgekfaaW.PrintLast Go.Proofs.YtnopjjilpgekfaaW.PrintMore
set_option linter.unusedVariables false
set_option linter.unusedSimpArgs false
/-- How many stay of the first n. -/
def trimN (l : List Int) : Nat → Nat
 | 0 => 0
 | n + 1 => if rd l (n : Int) = 0 then trimN l n else n + 1
def trimC (l : List Int) : List Int := l.take (trimN l l.length)
theorem trimN_le (l : List Int) : ∀ n, trimN l n ≤ n
 | 0 => Nat.le_refl _
 | n + 1 => by
  unfold trimN
  split
  ·exact Nat.le_succ_of_le (trimN_le l n)
  ·exact Nat.le_refl _
theorem w1' {n : Nat} (h : n < 100000) : wrap64 (((n + 1 : Nat) : Int) - 1) = (n : Int) := by rw [← i64_w, IntKind.wrap_i64]; omega
theorem trim_loop (l : List Int) (hl : l.length < 100000) : ∀ (n k : Nat), n ≤ l.length → n < k → clock_Trim.l0 k l (n : Int) = some (l.take (trimN l n)) := by
 intro n
 induction n with
 | zero =>
  intro k hn hk
  obtain ⟨k, rfl⟩ : ∃ m, k = m + 1 := ⟨k - 1, by omega⟩
  rw [clock_Trim.l0, if_neg (by omega)]
  simp [trimN]
 | succ n ih =>
  intro k hn hk
  obtain ⟨k, rfl⟩ : ∃ m, k = m + 1 := ⟨k - 1, by omega⟩
  rw [clock_Trim.l0, if_pos (by omega), w1' (by omega), if_pos (by omega), if_pos (by omega)]
  unfold trimN
  by_cases h : rd l (n : Int) = 0
  ·rw [if_pos h, if_pos h]
   exact ih k (by omega) (by omega)
  ·rw [if_neg h, if_neg h, Option.bind_some, if_pos (by omega), if_pos (by omega), if_pos (by simp only [List.length_nil, List.length_take]; omega), List.nil_append, Int.toNat_natCast]
theorem clock_Trim_is (l : List Int) (k : Nat) (hl : l.length < 100000) (hk : l.length < k) : clock_Trim.f k l = some (trimC l) := trim_loop l hl l.length k (Nat.le_refl _) hk
theorem take_more {l : List Int} {i : Nat} (h : i < l.length) : l.take i ++ [rd l (i : Int)] = l.take (i + 1) := by
 rw [List.take_succ_eq_append_getElem h]
 congr 2
 unfold rd
 simp [List.getD_eq_getElem?_getD, h]
theorem zeros_take (l : List Int) : ∀ i, i ≤ l.length → l.take (trimN l i) ++ List.replicate (i - trimN l i) 0 = l.take i
 | 0, _ => by simp [trimN]
 | i + 1, h => by
  unfold trimN
  by_cases h0 : rd l (i : Int) = 0
  ·rw [if_pos h0, ← take_more (by omega), ← zeros_take l i (by omega), h0, show i + 1 - trimN l i = (i - trimN l i) + 1 from by have := trimN_le l i; omega, List.replicate_succ', List.append_assoc]
  ·rw [if_neg h0, Nat.sub_self, List.replicate_zero, List.append_nil]
theorem fill_loop (l : List Int) (hl : l.length < 100000) (i : Nat) (hi : i < l.length) : ∀ (z k : Nat) (out : List Int), z < k → out.length + z < 100000 →
  topiaryref02_Trim.l1 (k + 1) l out (z : Int) (i : Int) = topiaryref02_Trim.l0 (k - z) l (out ++ List.replicate z 0 ++ [rd l (i : Int)]) 0 ((i + 1 : Nat) : Int) := by
 intro z
 induction z with
 | zero =>
  intro k out hk ho
  rw [topiaryref02_Trim.l1, if_neg (by omega), if_pos (by omega), if_pos (by omega), if_pos (by omega), w1 (by omega)]
  simp
 | succ z ih =>
  intro k out hk ho
  obtain ⟨k, rfl⟩ : ∃ m, k = m + 1 := ⟨k - 1, by omega⟩
  rw [topiaryref02_Trim.l1, if_pos (by omega), if_pos (by omega), w1' (by omega), ih k (out ++ [0]) (by omega) (by rw [List.length_append]; simp only [List.length_cons, List.length_nil]; omega)]
  rw [show k + 1 - (z + 1) = k - z from by omega, List.replicate_succ, List.append_assoc out [0], List.singleton_append]
theorem rtrim_loop (l : List Int) (hl : l.length < 100000) : ∀ (n i k : Nat), i + n = l.length → 3 * n + (i - trimN l i) < k →
  topiaryref02_Trim.l0 k l (l.take (trimN l i)) ((i - trimN l i : Nat) : Int) (i : Int) = some (trimC l) := by
 intro n
 induction n with
 | zero =>
  intro i k hi hk
  obtain ⟨k, rfl⟩ : ∃ m, k = m + 1 := ⟨k - 1, by omega⟩
  rw [topiaryref02_Trim.l0, if_neg (by omega), show i = l.length from by omega]
  rfl
 | succ n ih =>
  intro i k hi hk
  obtain ⟨k, rfl⟩ : ∃ m, k = m + 1 := ⟨k - 1, by omega⟩
  have ht := trimN_le l i
  rw [topiaryref02_Trim.l0, if_pos (by omega), if_pos (by omega)]
  by_cases h : rd l (i : Int) = 0
  ·have e : trimN l (i + 1) = trimN l i := by rw [trimN, if_pos h]
   have := ih (i + 1) k (by omega) (by rw [e]; omega)
   rw [e, show i + 1 - trimN l i = (i - trimN l i) + 1 from by omega] at this
   rw [if_pos h, w1 (by omega), w1 (by omega)]
   exact this
  ·have e : trimN l (i + 1) = i + 1 := by rw [trimN, if_neg h]
   obtain ⟨k, rfl⟩ : ∃ m, k = m + 1 := ⟨k - 1, by omega⟩
   rw [if_neg h, fill_loop l hl i (by omega) _ k _ (by omega) (by rw [List.length_take]; omega), zeros_take l i (by omega), take_more (by omega)]
   have := ih (i + 1) (k - (i - trimN l i)) (by omega) (by rw [e]; omega)
   rw [e, Nat.sub_self] at this
   exact this
theorem ref_Trim_is (l : List Int) (k : Nat) (hl : l.length < 100000) (hk : 3 * l.length < k) : topiaryref02_Trim.f k l = some (trimC l) := by
 have := rtrim_loop l hl l.length 0 k (by omega) (by simp [trimN]; omega)
 simpa [trimN, topiaryref02_Trim.f] using this
end Go.Proofs.Ytnopjjilpgekfaa.PCa
