/- What the statement's row needs of this session's texts, joined by program: part 2. -/
import Derived.Test.YtnkbgimihikhoaaRows
import Derived.ChangeArms
import Derived.Below
import Derived.DataElems
import Derived.SizedLaws
import Derived.Test.YtnkbgimihikhoaaProg
import Derived.Deep.Draws
import Derived.Deep.AppendLies
import Derived.Maps.AppendAt
import Derived.OwnWalk
import Derived.Laws.BytesArg
import Derived.Laws.MakeOwn
import Derived.Laws.OwnMore
import Derived.Deep.OwnRows
import Derived.Tactics
import Derived.Lib.ConvBytes
import Derived.Laws.Slices
import Derived.WalkKit
import Derived.KernelRfl
import Derived.RowKit3
import Derived.Deep.LoopGhost
import Derived.Deep.QuietTactic
import Derived.BigQuiet
import Derived.WideLaws
import Derived.Deep.DeepCutAuto
import Derived.Deep.CutBlock
import Derived.Deep.RegionHeld3
import Derived.Laws.Rows
import Derived.Lib.AppendStr
import Derived.ArgAppend
import Derived.Laws.IdiomCopy
import Derived.OrdersHeld
import Derived.Laws.BitsLemmas
import Derived.RowKit
import Derived.Maps.Own
import Derived.RangeFuncRecord
import Derived.RangeFuncOwn
import Derived.Test.YtnkbgimihikhoaaQU0
namespace Go.Proofs.Ytnkbgimihikhoaa.Rdr
open Go.RowKit Go.Proofs.YtnkbgimihikhoaaW.PrintWords
theorem cells_get {w : World} {a : Addr} : ∀ {n : Nat} {cs : List Value}, w.cells? 0 a n = some cs → cs.length = n ∧ ∀ i u, cs[i]? = some u → w.cell? (a.add i) = some u := by
  intro n cs h
  obtain ⟨_, h1, h2⟩ := World.cells?_some h
  refine ⟨h1, fun i u hu => ?_⟩
  have hi := (List.getElem?_eq_some_iff.1 hu).1
  rw [h2 i (by omega)]
  exact hu
theorem all_get {H : Type} {e : TypeId} : ∀ {l : List (DataW H)} {i : Nat} {d : DataW H}, l[i]? = some d → ∀ n ∈ d.weights Try.prog e, n ∈ DataW.weightsAll Try.prog e l
  | [], _, _, h, _, _ => by cases h
  | d :: l, 0, _, h, n, hn => by
    obtain rfl := Option.some.inj h
    rw [DataW.weightsAll]
    exact List.mem_append_left _ hn
  | d :: l, i + 1, _, h, n, hn => by
    rw [DataW.weightsAll]
    exact List.mem_append_right _ (all_get (l := l) (i := i) h n hn)
/-- Cells of type t that can be read as data are a value of kind d; where its rows are no longer than the reach, it is as ok says. -/
def Reads {α : Type} (t : TypeId) (d : Kd α) (ok : α → Prop) : Prop :=
  ∀ {H : Type} (enc : TypeId × Value → H) (w : World) (spare : Nat → Bool) (held : Bool) (fuel : Nat) (cs : List Value) (x : DataW H × List MemPlace),
    DataW.trod enc Try.prog w 0 spare held fuel t cs = some x → ∃ a : α, d.K w a cs ∧ ((∀ n ∈ x.1.weights Try.prog t, n ≤ reachBytes) → ok a)
theorem int {t : TypeId} {k : IntKind} (ht : Try.prog.underlying t = some (.int k)) : Reads t (Kd.int k) (fun n => (Lit.int k n).wf = true) := by
  intro H enc w spare held fuel cs x h
  obtain ⟨n, rfl, rfl, hw⟩ := DataW.trod_int ht h
  exact ⟨n, rfl, fun _ => hw⟩
theorem bool {t : TypeId} (ht : Try.prog.underlying t = some .bool) : Reads t Kd.bool (fun _ => True) := by
  intro H enc w spare held fuel cs x h
  obtain ⟨n, rfl, rfl⟩ := DataW.trod_bool ht h
  exact ⟨n, rfl, fun _ => trivial⟩
theorem string {t : TypeId} (ht : Try.prog.underlying t = some .string) : Reads t Kd.string (fun s => s.size ≤ reachBytes) := by
  intro H enc w spare held fuel cs x h
  obtain ⟨s, rfl, rfl, hw⟩ := DataW.trod_string ht h
  refine ⟨s, rfl, fun hx => ?_⟩
  have := hx s.data.toList.length (by simp [DataW.weights])
  rw [Array.length_toList] at this
  exact this
theorem slice {α : Type} {t e : TypeId} {d : Kd α} {ok : α → Prop} (ht : Try.prog.underlying t = some (.slice e)) (hc : Try.prog.cellsOf e = d.sz) (R : Reads e d ok) :
    Reads t (Kd.slice e d) (fun xs => xs.length * Try.prog.bytesOf e ≤ reachBytes ∧ ∀ x ∈ xs, ok x) := by
  intro H enc w spare held fuel cs x h
  rcases DataW.trod_slice ht h with ⟨rfl, rfl⟩ | ⟨a, len, cap, elems, rest, n, rfl, rfl, rfl, _, hlc, hm, hel, hg, _, _⟩
  · exact ⟨[], ⟨none, 0, rfl, Nat.le_refl _, rfl, by simp, fun h => by simp at h⟩, fun _ => ⟨by simp, fun x hx => by cases hx⟩⟩
  · have step : ∀ i, i < len → ∃ (v : α) (c : List Value) (y : DataW H × List MemPlace), elems[i]? = some y ∧ c.length = d.sz ∧ d.K w v c ∧ (∀ j u, c[j]? = some u → w.cell? (a.add (i * d.sz + j)) = some u) ∧ ((∀ n ∈ y.1.weights Try.prog e, n ≤ reachBytes) → ok v) := by
      intro i hi
      have h1 := hg i hi
      obtain ⟨y, hy⟩ : ∃ y, elems[i]? = some y := ⟨_, List.getElem?_eq_getElem (by omega)⟩
      rw [hy] at h1
      obtain ⟨c, hc1, hc2⟩ := Option.bind_eq_some_iff.1 h1
      obtain ⟨v, hv1, hv2⟩ := R enc w spare held n c y hc2
      obtain ⟨g1, g2⟩ := cells_get hc1
      rw [hc] at g1 g2
      exact ⟨v, c, y, hy, g1, hv1, fun j u hu => by
        have := g2 j u hu
        rwa [Go.Addr.add_add] at this, hv2⟩
    have build : ∀ m, m ≤ len → ∃ xs : List α, xs.length = m ∧ (∀ (i : Nat) v, xs[i]? = some v → ∃ (c : List Value) (y : DataW H × List MemPlace), elems[i]? = some y ∧ c.length = d.sz ∧ d.K w v c ∧ (∀ j u, c[j]? = some u → w.cell? (a.add (i * d.sz + j)) = some u) ∧ ((∀ n ∈ y.1.weights Try.prog e, n ≤ reachBytes) → ok v)) := by
      intro m
      induction m with
      | zero => intro _; exact ⟨[], rfl, fun i v hv => by simp at hv⟩
      | succ m ih =>
        intro hm
        obtain ⟨xs, hx1, hx2⟩ := ih (by omega)
        obtain ⟨v, c, y, hv⟩ := step m (by omega)
        refine ⟨xs ++ [v], by simp [hx1], fun i u hu => ?_⟩
        rcases Nat.lt_or_ge i xs.length with hi | hi
        · rw [List.getElem?_append_left hi] at hu
          exact hx2 i u hu
        · have : i = m := by
            have := (List.getElem?_eq_some_iff.1 hu).1
            rw [List.length_append, List.length_singleton] at this
            omega
          subst this
          have : v = u := by rw [← hx1] at hu; simpa using hu
          subst this
          exact ⟨c, y, hv⟩
    obtain ⟨xs, hx1, hx2⟩ := build len (Nat.le_refl _)
    refine ⟨xs, ⟨some a, cap, by rw [hx1], by omega, ⟨rfl, by unfold maxLen at hm; omega, fun _ => ⟨a, rfl, fun i v hv => ?_⟩⟩⟩, fun hx => ⟨?_, ?_⟩⟩
    · obtain ⟨c, y, _, h2, h3, h4, _⟩ := hx2 i v hv
      exact ⟨c, h2, h3, h4⟩
    · rw [DataW.weights, ht] at hx
      have := hx _ (List.mem_cons_self ..)
      refine Nat.le_trans (Nat.mul_le_mul_right _ ?_) this
      rw [List.length_map, hx1]
      omega
    · intro v hv
      obtain ⟨i, hi⟩ := List.mem_iff_getElem?.1 hv
      obtain ⟨_, y, h1, _, _, _, h6⟩ := hx2 i v hi
      refine h6 (fun n hn => hx n ?_)
      rw [DataW.weights, ht]
      exact List.mem_cons_of_mem _ (List.mem_append_left _ (all_get (i := i) (by rw [List.getElem?_map, h1]; rfl) n hn))
/-- Fields one behind the other, from cell o on. -/
def ReadsAt {α : Type} (o : Nat) (fs : List Field) (d : Kd α) (ok : α → Prop) : Prop :=
  ∀ {H : Type} (enc : TypeId × Value → H) (w : World) (spare : Nat → Bool) (held : Bool) (n : Nat) (cs : List Value) (xs : List (DataW H × List MemPlace)), xs.length = fs.length →
    (∀ (i : Nat) (f : Field), fs[i]? = some f → DataW.trod enc Try.prog w 0 spare held n f.type ((cs.drop f.offset).take (Try.prog.cellsOf f.type)) = xs[i]?) →
    ∃ a : α, d.K w a ((cs.drop o).take d.sz) ∧ ((∀ n ∈ DataW.weightsEach Try.prog (fs.map (·.type)) (xs.map (·.1)), n ≤ reachBytes) → ok a)
theorem last {α : Type} {f : Field} {d : Kd α} {ok : α → Prop} (hc : Try.prog.cellsOf f.type = d.sz) (R : Reads f.type d ok) : ReadsAt f.offset [f] d ok := by
  intro H enc w spare held n cs xs hl hx
  match xs, hl with
  | [y], _ =>
    have h := hx 0 f rfl
    rw [hc] at h
    obtain ⟨a, h1, h2⟩ := R enc w spare held n _ y h
    refine ⟨a, h1, fun hw => h2 (fun m hm => hw m ?_)⟩
    simp only [List.map_cons, List.map_nil, DataW.weightsEach]
    exact List.mem_append_left _ hm
theorem more {α β : Type} {f : Field} {fs : List Field} {d : Kd α} {e : Kd β} {ok : α → Prop} {ok2 : β → Prop} (hc : Try.prog.cellsOf f.type = d.sz) (R : Reads f.type d ok) (R2 : ReadsAt (f.offset + d.sz) fs e ok2) :
    ReadsAt f.offset (f :: fs) (Kd.pair d e) (fun x => ok x.1 ∧ ok2 x.2) := by
  intro H enc w spare held n cs xs hl hx
  match xs, hl with
  | y :: ys, hl =>
    have h := hx 0 f rfl
    rw [hc] at h
    obtain ⟨a, h1, h2⟩ := R enc w spare held n _ y h
    obtain ⟨b, g1, g2⟩ := R2 enc w spare held n cs ys (by simpa using hl) (fun i f' hf => hx (i + 1) f' hf)
    refine ⟨(a, b), ⟨_, _, ?_, h1, g1⟩, fun hw => ⟨h2 (fun m hm => hw m ?_), g2 (fun m hm => hw m ?_)⟩⟩
    · show (cs.drop f.offset).take (d.sz + e.sz) = _
      rw [List.take_add, List.drop_drop]
    · simp only [List.map_cons, DataW.weightsEach]
      exact List.mem_append_left _ hm
    · simp only [List.map_cons, DataW.weightsEach]
      exact List.mem_append_right _ hm
theorem struct {α : Type} {t : TypeId} {fs : Array Field} {d : Kd α} {ok : α → Prop} (ht : Try.prog.underlying t = some (.struct fs)) (hc : Try.prog.cellsOf t = d.sz) (R : ReadsAt 0 fs.toList d ok) : Reads t d ok := by
  intro H enc w spare held fuel cs x h
  obtain ⟨xs, n, _, rfl, hl, hlen, hx⟩ := DataW.trod_struct ht h
  obtain ⟨a, h1, h2⟩ := R enc w spare held n cs xs (by rw [hlen, Array.length_toList]) (fun i f hf => hx i f (by rwa [Array.getElem?_toList] at hf))
  rw [List.drop_zero, List.take_of_length_le (by rw [hl, hc]; exact Nat.le_refl _)] at h1
  refine ⟨a, h1, fun hw => h2 (fun m hm => hw m ?_)⟩
  rw [DataW.weights, ht]
  exact hm
theorem iso {α β : Type} {t : TypeId} {d : Kd α} {ok : α → Prop} (R : Reads t d ok) (f : β → α) (g : α → β) (hfg : ∀ a, f (g a) = a) : Reads t (Kd.iso d f) (fun b => ok (f b)) := by
  intro H enc w spare held fuel cs x h
  obtain ⟨a, h1, h2⟩ := R enc w spare held fuel cs x h
  refine ⟨g a, ?_, fun hw => ?_⟩
  · show d.K w (f (g a)) cs
    rw [hfg]; exact h1
  · show ok (f (g a))
    rw [hfg]; exact h2 hw
/-- A parameter. -/
theorem Reads.param {α : Type} {t : TypeId} {d : Kd α} {ok : α → Prop} (R : Reads t d ok) {H : Type} {enc : TypeId × Value → H} {w : World} {spare : Nat → Bool} {held : Bool} {v : Value} {x : DataW H} {ps : List MemPlace}
    (h : DataW.Trod enc Try.prog w 0 spare held t v x ps) : ∃ a : α, d.K w a v.cells.toList ∧ ((∀ n ∈ x.weights Try.prog t, n ≤ reachBytes) → ok a) := by
  obtain ⟨fuel, hf⟩ := h
  exact R enc w spare held fuel _ _ hf
end Go.Proofs.Ytnkbgimihikhoaa.Rdr
namespace Go.Proofs.Ytnkbgimihikhoaa.PVt
open Go.RowKit Go.Proofs.YtnkbgimihikhoaaW.PrintWords Go.Proofs.YtnkbgimihikhoaaW.PrintLast Go.Proofs.YtnkbgimihikhoaaW.PrintMore
attribute [local go_sem] max2_int min2_int max_two min_two max_three min_three max_four min_four
set_option linter.unusedVariables false
set_option linter.unusedSimpArgs false
def errW : Option Int → Value
 | none => .nilIface
 | some c => .iface 0 (.int .i64 c)
theorem errW_none : errW none = .nilIface := rfl
theorem errW_some (c : Int) : errW (some c) = .iface 0 (.int .i64 c) := rfl
theorem info23 : (Try.prog.info? 23).map (fun i => (i.zero, i.size, i.bytes)) = some (some (.agg #[(.int .i64 0), (.int .i64 0)]), 2, 16) := by kernel_rfl
theorem info27 : (Try.prog.info? 27).map (fun i => (i.zero, i.size, i.bytes)) = some (some (.agg #[(.int .i64 0), (.int .i64 0), (.string ⟨#[]⟩), (.string ⟨#[]⟩), (.slice none 0 0), (.slice none 0 0)]), 6, 96) := by kernel_rfl
theorem info52 : (Try.prog.info? 52).map (fun i => (i.zero, i.size, i.bytes)) = some (some (.agg #[(.int .i64 0), (.int .i64 0), (.string ⟨#[]⟩)]), 3, 32) := by kernel_rfl
theorem info74 : (Try.prog.info? 74).map (fun i => (i.zero, i.size, i.bytes)) = some (some (.agg #[(.int .i64 0), (.int .i64 0), (.slice none 0 0)]), 3, 40) := by kernel_rfl
theorem info97 : (Try.prog.info? 97).map (fun i => (i.zero, i.size, i.bytes)) = some (some (.agg #[(.int .i64 0), (.int .i64 0), (.int .i64 0), (.int .i64 0), (.int .i64 0), (.int .i64 0)]), 6, 48) := by kernel_rfl
theorem info99 : (Try.prog.info? 99).map (fun i => (i.zero, i.size, i.bytes)) = some (some (.agg #[(.string ⟨#[]⟩), (.string ⟨#[]⟩)]), 2, 32) := by kernel_rfl
theorem info111 : (Try.prog.info? 111).map (fun i => (i.zero, i.size, i.bytes)) = some (some (.agg #[(.int .i64 0), (.int .i64 0), (.string ⟨#[]⟩), (.int .i64 0), (.int .i64 0), (.string ⟨#[]⟩), (.bool false)]), 7, 72) := by kernel_rfl
structure S23 where
 f0 : Int
 f1 : Int
def z23 : S23 := ⟨(0 : Int), (0 : Int)⟩
def k23 : Kd S23 := Kd.iso (Kd.pair (Kd.int .i64) (Kd.int .i64)) (fun x : S23 => (x.f0, x.f1))
theorem k23_open {w : World} {x : S23} {cs : List Value} (h : k23.K w x cs) : cs = [.int .i64 x.f0, .int .i64 x.f1] := by
 obtain ⟨_, _, rfl, rfl, rfl⟩ := h
 exact rfl
theorem k23_mk (w : World) (x : S23)  : k23.K w x [.int .i64 x.f0, .int .i64 x.f1] := ⟨[.int .i64 x.f0], [.int .i64 x.f1], rfl, rfl, rfl⟩
theorem k23_mkM (w : World) (base : Nat) (ok : Nat → Prop) (x : S23)  : k23.M w base ok x [.int .i64 x.f0, .int .i64 x.f1] := ⟨[.int .i64 x.f0], [.int .i64 x.f1], rfl, rfl, rfl⟩
def rd_T23 (xs : List S23) (i : Int) : S23 := xs.getD i.toNat z23
theorem at_T23 {w : World} {A : Option Addr} {n : Nat} {xs : List S23} (h : Kd.C k23 w A n xs) (i : Int) (h0 : 0 ≤ i) (h1 : i < n) : ∃ ad , A = some ad ∧ w.cell? (ad.add (i.toNat * 2)) = some (.int .i64 (rd_T23 xs i).f0) ∧ w.cell? ⟨(ad.add (i.toNat * 2)).block, (ad.add (i.toNat * 2)).off + 1, none⟩ = some (.int .i64 (rd_T23 xs i).f1) := by
 obtain ⟨ad, c, e, _, hK, hc0⟩ := Kd.C_get h z23 i h0 h1
 have hc : ∀ j u, c[j]? = some u → w.cell? (ad.add (i.toNat * 2 + j)) = some u := hc0
 obtain rfl := k23_open hK
 exact ⟨ad, e, hc 0 _ rfl, by rw [← add_field _ _ 1 (by omega)]; exact hc 1 _ rfl⟩
structure S99 where
 f0 : ByteArray
 f1 : ByteArray
def z99 : S99 := ⟨(⟨#[]⟩ : ByteArray), (⟨#[]⟩ : ByteArray)⟩
def k99 : Kd S99 := Kd.iso (Kd.pair Kd.string Kd.string) (fun x : S99 => (x.f0, x.f1))
theorem k99_open {w : World} {x : S99} {cs : List Value} (h : k99.K w x cs) : cs = [.string x.f0, .string x.f1] := by
 obtain ⟨_, _, rfl, rfl, rfl⟩ := h
 exact rfl
theorem k99_mkM (w : World) (base : Nat) (ok : Nat → Prop) (x : S99)  : k99.M w base ok x [.string x.f0, .string x.f1] := ⟨[.string x.f0], [.string x.f1], rfl, rfl, rfl⟩
def rd_T99 (xs : List S99) (i : Int) : S99 := xs.getD i.toNat z99
theorem at_T99 {w : World} {A : Option Addr} {n : Nat} {xs : List S99} (h : Kd.C k99 w A n xs) (i : Int) (h0 : 0 ≤ i) (h1 : i < n) : ∃ ad , A = some ad ∧ w.cell? (ad.add (i.toNat * 2)) = some (.string (rd_T99 xs i).f0) ∧ w.cell? ⟨(ad.add (i.toNat * 2)).block, (ad.add (i.toNat * 2)).off + 1, none⟩ = some (.string (rd_T99 xs i).f1) := by
 obtain ⟨ad, c, e, _, hK, hc0⟩ := Kd.C_get h z99 i h0 h1
 have hc : ∀ j u, c[j]? = some u → w.cell? (ad.add (i.toNat * 2 + j)) = some u := hc0
 obtain rfl := k99_open hK
 exact ⟨ad, e, hc 0 _ rfl, by rw [← add_field _ _ 1 (by omega)]; exact hc 1 _ rfl⟩
structure S27 where
 f0 : S23
 f1 : ByteArray
 f2 : ByteArray
 f3 : (List S99)
 f4 : (List S27)
def z27 : S27 := ⟨z23, (⟨#[]⟩ : ByteArray), (⟨#[]⟩ : ByteArray), ([] : List S99), ([] : List S27)⟩
def F27 (d : Kd S27) : Kd S27 := Kd.iso (Kd.pair k23 (Kd.pair Kd.string (Kd.pair Kd.string (Kd.pair (Kd.slice 99 k99) (Kd.slice 27 d))))) (fun x : S27 => (x.f0, x.f1, x.f2, x.f3, x.f4))
theorem mono27 : Kd.Mono F27 := Kd.mono_iso _ (Kd.mono_pair (Kd.mono_const _) (Kd.mono_pair (Kd.mono_const _) (Kd.mono_pair (Kd.mono_const _) (Kd.mono_pair (Kd.mono_const _) (Kd.mono_slice 27 Kd.mono_id)))))
theorem sub27 : Kd.Sub F27 [27, 99] := Kd.sub_iso _ (Kd.sub_pair (Kd.sub_const _ (by decide)) (Kd.sub_pair (Kd.sub_const _ (by decide)) (Kd.sub_pair (Kd.sub_const _ (by decide)) (Kd.sub_pair (Kd.sub_const _ (by decide)) (Kd.sub_slice 27 (by decide) Kd.sub_id)))))
theorem sz27 : ∀ n, (Kd.upto F27 6 [27, 99] n).sz = 6 := Kd.upto_sz (fun _ => rfl)
def k27 : Kd S27 := Kd.fix F27 6 [27, 99] sz27 (Kd.upto_E sub27)
theorem k27_open {w : World} {x : S27} {cs : List Value} (h : k27.K w x cs) : ∃ A4 c4 A5 c5, cs = [.int .i64 x.f0.f0, .int .i64 x.f0.f1, .string x.f1, .string x.f2, .slice A4 x.f3.length c4, .slice A5 x.f4.length c5] ∧ x.f3.length ≤ c4 ∧ k99.C w A4 x.f3.length x.f3 ∧ x.f4.length ≤ c5 ∧ k27.C w A5 x.f4.length x.f4 := by
 obtain ⟨n, h⟩ := h
 cases n with
 | zero => exact h.elim
 | succ n =>
  obtain ⟨_, _, rfl, s0, ⟨_, _, rfl, rfl, ⟨_, _, rfl, rfl, ⟨_, _, rfl, ⟨A4, c4, rfl, l4, g4⟩, ⟨A5, c5, rfl, l5, g5⟩⟩⟩⟩⟩ := h
  obtain rfl := k23_open s0
  exact ⟨A4, c4, A5, c5, rfl, l4, g4, l5, Kd.fix_C g5⟩
theorem k27_mk (w : World) (x : S27) {A4 : Option Addr} {c4 : Nat} (l4 : x.f3.length ≤ c4) (g4 : k99.C w A4 x.f3.length x.f3) {A5 : Option Addr} {c5 : Nat} (l5 : x.f4.length ≤ c5) (g5 : k27.C w A5 x.f4.length x.f4) : k27.K w x [.int .i64 x.f0.f0, .int .i64 x.f0.f1, .string x.f1, .string x.f2, .slice A4 x.f3.length c4, .slice A5 x.f4.length c5] := by
 obtain ⟨n5, q5⟩ := Kd.fix_C_back mono27 g5
 have r5 := Kd.upto_C_le mono27 sz27 (show n5 ≤ n5 by omega) q5
 exact ⟨n5 + 1, ⟨[.int .i64 x.f0.f0, .int .i64 x.f0.f1], [.string x.f1, .string x.f2, .slice A4 x.f3.length c4, .slice A5 x.f4.length c5], rfl, (k23_mk w x.f0 ), ⟨[.string x.f1], [.string x.f2, .slice A4 x.f3.length c4, .slice A5 x.f4.length c5], rfl, rfl, ⟨[.string x.f2], [.slice A4 x.f3.length c4, .slice A5 x.f4.length c5], rfl, rfl, ⟨[.slice A4 x.f3.length c4], [.slice A5 x.f4.length c5], rfl, ⟨A4, c4, rfl, l4, g4⟩, ⟨A5, c5, rfl, l5, r5⟩⟩⟩⟩⟩⟩
theorem k27_openF {W : World} {ok : Nat → Prop} {x : S27} {cs : List Value} (h : Kd.FK k27 W ok x cs) : ∃ A4 c4 A5 c5, cs = [.int .i64 x.f0.f0, .int .i64 x.f0.f1, .string x.f1, .string x.f2, .slice A4 x.f3.length c4, .slice A5 x.f4.length c5] ∧ x.f3.length ≤ c4 ∧ Kd.F k99 W ok A4 x.f3.length x.f3 ∧ x.f4.length ≤ c5 ∧ Kd.F k27 W ok A5 x.f4.length x.f4 := by
 obtain ⟨A4, c4, A5, c5, rfl, l4, _, l5, _⟩ := k27_open (Kd.FK_now h)
 exact ⟨A4, c4, A5, c5, rfl, l4, (fun W' hW => by obtain ⟨A4_, c4_, A5_, c5_, he, l4_, g4_, l5_, g5_⟩ := k27_open (h W' hW); injection (Option.some.inj (show some (Value.slice A4 x.f3.length c4) = some (Value.slice A4_ x.f3.length c4_) from congrArg (fun l => l[4]?) he)) with ha_ _ _; rw [ha_]; exact g4_), l5, (fun W' hW => by obtain ⟨A4_, c4_, A5_, c5_, he, l4_, g4_, l5_, g5_⟩ := k27_open (h W' hW); injection (Option.some.inj (show some (Value.slice A5 x.f4.length c5) = some (Value.slice A5_ x.f4.length c5_) from congrArg (fun l => l[5]?) he)) with ha_ _ _; rw [ha_]; exact g5_)⟩
theorem k27_mkF (W : World) (ok : Nat → Prop) (x : S27) {A4 : Option Addr} {c4 : Nat} (l4 : x.f3.length ≤ c4) (g4 : Kd.F k99 W ok A4 x.f3.length x.f3) {A5 : Option Addr} {c5 : Nat} (l5 : x.f4.length ≤ c5) (g5 : Kd.F k27 W ok A5 x.f4.length x.f4) : Kd.FK k27 W ok x [.int .i64 x.f0.f0, .int .i64 x.f0.f1, .string x.f1, .string x.f2, .slice A4 x.f3.length c4, .slice A5 x.f4.length c5] := fun W2 hW => k27_mk W2 x l4 (g4 W2 hW) l5 (g5 W2 hW)
def rd_T27 (xs : List S27) (i : Int) : S27 := xs.getD i.toNat z27
theorem at_T27 {w : World} {A : Option Addr} {n : Nat} {xs : List S27} (h : Kd.C k27 w A n xs) (i : Int) (h0 : 0 ≤ i) (h1 : i < n) : ∃ ad A4 c4 A5 c5, A = some ad ∧ w.cell? (ad.add (i.toNat * 6)) = some (.int .i64 (rd_T27 xs i).f0.f0) ∧ w.cell? ⟨(ad.add (i.toNat * 6)).block, (ad.add (i.toNat * 6)).off + 1, none⟩ = some (.int .i64 (rd_T27 xs i).f0.f1) ∧ w.cell? ⟨(ad.add (i.toNat * 6)).block, (ad.add (i.toNat * 6)).off + 2, none⟩ = some (.string (rd_T27 xs i).f1) ∧ w.cell? ⟨(ad.add (i.toNat * 6)).block, (ad.add (i.toNat * 6)).off + 3, none⟩ = some (.string (rd_T27 xs i).f2) ∧ w.cell? ⟨(ad.add (i.toNat * 6)).block, (ad.add (i.toNat * 6)).off + 4, none⟩ = some (.slice A4 (rd_T27 xs i).f3.length c4) ∧ w.cell? ⟨(ad.add (i.toNat * 6)).block, (ad.add (i.toNat * 6)).off + 5, none⟩ = some (.slice A5 (rd_T27 xs i).f4.length c5) ∧ (rd_T27 xs i).f3.length ≤ c4 ∧ k99.C w A4 (rd_T27 xs i).f3.length (rd_T27 xs i).f3 ∧ (rd_T27 xs i).f4.length ≤ c5 ∧ k27.C w A5 (rd_T27 xs i).f4.length (rd_T27 xs i).f4 := by
 obtain ⟨ad, c, e, _, hK, hc0⟩ := Kd.C_get h z27 i h0 h1
 have hc : ∀ j u, c[j]? = some u → w.cell? (ad.add (i.toNat * 6 + j)) = some u := hc0
 obtain ⟨A4, c4, A5, c5, rfl, l4, g4, l5, g5⟩ := k27_open hK
 exact ⟨ad, A4, c4, A5, c5, e, hc 0 _ rfl, by rw [← add_field _ _ 1 (by omega)]; exact hc 1 _ rfl, by rw [← add_field _ _ 2 (by omega)]; exact hc 2 _ rfl, by rw [← add_field _ _ 3 (by omega)]; exact hc 3 _ rfl, by rw [← add_field _ _ 4 (by omega)]; exact hc 4 _ rfl, by rw [← add_field _ _ 5 (by omega)]; exact hc 5 _ rfl, l4, g4, l5, g5⟩
structure S74 where
 f0 : S23
 f1 : (List S23)
def z74 : S74 := ⟨z23, ([] : List S23)⟩
def k74 : Kd S74 := Kd.iso (Kd.pair k23 (Kd.slice 23 k23)) (fun x : S74 => (x.f0, x.f1))
theorem k74_open {w : World} {x : S74} {cs : List Value} (h : k74.K w x cs) : ∃ A2 c2, cs = [.int .i64 x.f0.f0, .int .i64 x.f0.f1, .slice A2 x.f1.length c2] ∧ x.f1.length ≤ c2 ∧ k23.C w A2 x.f1.length x.f1 := by
 obtain ⟨_, _, rfl, s0, ⟨A2, c2, rfl, l2, g2⟩⟩ := h
 obtain rfl := k23_open s0
 exact ⟨A2, c2, rfl, l2, g2⟩
theorem k74_mkM (w : World) (base : Nat) (ok : Nat → Prop) (x : S74) {v2 : Value} (g2 : k23.R 23 w base ok v2 x.f1) : k74.M w base ok x [.int .i64 x.f0.f0, .int .i64 x.f0.f1, v2] := ⟨[.int .i64 x.f0.f0, .int .i64 x.f0.f1], [v2], rfl, (k23_mkM w base ok x.f0 ), ⟨v2, rfl, g2⟩⟩
theorem k74_openF {W : World} {ok : Nat → Prop} {x : S74} {cs : List Value} (h : Kd.FK k74 W ok x cs) : ∃ A2 c2, cs = [.int .i64 x.f0.f0, .int .i64 x.f0.f1, .slice A2 x.f1.length c2] ∧ x.f1.length ≤ c2 ∧ Kd.F k23 W ok A2 x.f1.length x.f1 := by
 obtain ⟨A2, c2, rfl, l2, _⟩ := k74_open (Kd.FK_now h)
 exact ⟨A2, c2, rfl, l2, (fun W' hW => by obtain ⟨A2_, c2_, he, l2_, g2_⟩ := k74_open (h W' hW); injection (Option.some.inj (show some (Value.slice A2 x.f1.length c2) = some (Value.slice A2_ x.f1.length c2_) from congrArg (fun l => l[2]?) he)) with ha_ _ _; rw [ha_]; exact g2_)⟩
def rd_T74 (xs : List S74) (i : Int) : S74 := xs.getD i.toNat z74
theorem at_T74 {w : World} {A : Option Addr} {n : Nat} {xs : List S74} (h : Kd.C k74 w A n xs) (i : Int) (h0 : 0 ≤ i) (h1 : i < n) : ∃ ad A2 c2, A = some ad ∧ w.cell? (ad.add (i.toNat * 3)) = some (.int .i64 (rd_T74 xs i).f0.f0) ∧ w.cell? ⟨(ad.add (i.toNat * 3)).block, (ad.add (i.toNat * 3)).off + 1, none⟩ = some (.int .i64 (rd_T74 xs i).f0.f1) ∧ w.cell? ⟨(ad.add (i.toNat * 3)).block, (ad.add (i.toNat * 3)).off + 2, none⟩ = some (.slice A2 (rd_T74 xs i).f1.length c2) ∧ (rd_T74 xs i).f1.length ≤ c2 ∧ k23.C w A2 (rd_T74 xs i).f1.length (rd_T74 xs i).f1 := by
 obtain ⟨ad, c, e, _, hK, hc0⟩ := Kd.C_get h z74 i h0 h1
 have hc : ∀ j u, c[j]? = some u → w.cell? (ad.add (i.toNat * 3 + j)) = some u := hc0
 obtain ⟨A2, c2, rfl, l2, g2⟩ := k74_open hK
 exact ⟨ad, A2, c2, e, hc 0 _ rfl, by rw [← add_field _ _ 1 (by omega)]; exact hc 1 _ rfl, by rw [← add_field _ _ 2 (by omega)]; exact hc 2 _ rfl, l2, g2⟩
structure S52 where
 f0 : S23
 f1 : ByteArray
def z52 : S52 := ⟨z23, (⟨#[]⟩ : ByteArray)⟩
def k52 : Kd S52 := Kd.iso (Kd.pair k23 Kd.string) (fun x : S52 => (x.f0, x.f1))
theorem k52_open {w : World} {x : S52} {cs : List Value} (h : k52.K w x cs) : cs = [.int .i64 x.f0.f0, .int .i64 x.f0.f1, .string x.f1] := by
 obtain ⟨_, _, rfl, s0, rfl⟩ := h
 obtain rfl := k23_open s0
 exact rfl
def rd_T52 (xs : List S52) (i : Int) : S52 := xs.getD i.toNat z52
theorem at_T52 {w : World} {A : Option Addr} {n : Nat} {xs : List S52} (h : Kd.C k52 w A n xs) (i : Int) (h0 : 0 ≤ i) (h1 : i < n) : ∃ ad , A = some ad ∧ w.cell? (ad.add (i.toNat * 3)) = some (.int .i64 (rd_T52 xs i).f0.f0) ∧ w.cell? ⟨(ad.add (i.toNat * 3)).block, (ad.add (i.toNat * 3)).off + 1, none⟩ = some (.int .i64 (rd_T52 xs i).f0.f1) ∧ w.cell? ⟨(ad.add (i.toNat * 3)).block, (ad.add (i.toNat * 3)).off + 2, none⟩ = some (.string (rd_T52 xs i).f1) := by
 obtain ⟨ad, c, e, _, hK, hc0⟩ := Kd.C_get h z52 i h0 h1
 have hc : ∀ j u, c[j]? = some u → w.cell? (ad.add (i.toNat * 3 + j)) = some u := hc0
 obtain rfl := k52_open hK
 exact ⟨ad, e, hc 0 _ rfl, by rw [← add_field _ _ 1 (by omega)]; exact hc 1 _ rfl, by rw [← add_field _ _ 2 (by omega)]; exact hc 2 _ rfl⟩
structure S97 where
 f0 : S23
 f1 : S23
 f2 : S23
def z97 : S97 := ⟨z23, z23, z23⟩
def k97 : Kd S97 := Kd.iso (Kd.pair k23 (Kd.pair k23 k23)) (fun x : S97 => (x.f0, x.f1, x.f2))
theorem k97_open {w : World} {x : S97} {cs : List Value} (h : k97.K w x cs) : cs = [.int .i64 x.f0.f0, .int .i64 x.f0.f1, .int .i64 x.f1.f0, .int .i64 x.f1.f1, .int .i64 x.f2.f0, .int .i64 x.f2.f1] := by
 obtain ⟨_, _, rfl, s0, ⟨_, _, rfl, s2, s4⟩⟩ := h
 obtain rfl := k23_open s0
 obtain rfl := k23_open s2
 obtain rfl := k23_open s4
 exact rfl
def rd_T97 (xs : List S97) (i : Int) : S97 := xs.getD i.toNat z97
theorem at_T97 {w : World} {A : Option Addr} {n : Nat} {xs : List S97} (h : Kd.C k97 w A n xs) (i : Int) (h0 : 0 ≤ i) (h1 : i < n) : ∃ ad , A = some ad ∧ w.cell? (ad.add (i.toNat * 6)) = some (.int .i64 (rd_T97 xs i).f0.f0) ∧ w.cell? ⟨(ad.add (i.toNat * 6)).block, (ad.add (i.toNat * 6)).off + 1, none⟩ = some (.int .i64 (rd_T97 xs i).f0.f1) ∧ w.cell? ⟨(ad.add (i.toNat * 6)).block, (ad.add (i.toNat * 6)).off + 2, none⟩ = some (.int .i64 (rd_T97 xs i).f1.f0) ∧ w.cell? ⟨(ad.add (i.toNat * 6)).block, (ad.add (i.toNat * 6)).off + 3, none⟩ = some (.int .i64 (rd_T97 xs i).f1.f1) ∧ w.cell? ⟨(ad.add (i.toNat * 6)).block, (ad.add (i.toNat * 6)).off + 4, none⟩ = some (.int .i64 (rd_T97 xs i).f2.f0) ∧ w.cell? ⟨(ad.add (i.toNat * 6)).block, (ad.add (i.toNat * 6)).off + 5, none⟩ = some (.int .i64 (rd_T97 xs i).f2.f1) := by
 obtain ⟨ad, c, e, _, hK, hc0⟩ := Kd.C_get h z97 i h0 h1
 have hc : ∀ j u, c[j]? = some u → w.cell? (ad.add (i.toNat * 6 + j)) = some u := hc0
 obtain rfl := k97_open hK
 exact ⟨ad, e, hc 0 _ rfl, by rw [← add_field _ _ 1 (by omega)]; exact hc 1 _ rfl, by rw [← add_field _ _ 2 (by omega)]; exact hc 2 _ rfl, by rw [← add_field _ _ 3 (by omega)]; exact hc 3 _ rfl, by rw [← add_field _ _ 4 (by omega)]; exact hc 4 _ rfl, by rw [← add_field _ _ 5 (by omega)]; exact hc 5 _ rfl⟩
structure S111 where
 f0 : S23
 f1 : ByteArray
 f2 : S23
 f3 : ByteArray
 f4 : Bool
def z111 : S111 := ⟨z23, (⟨#[]⟩ : ByteArray), z23, (⟨#[]⟩ : ByteArray), false⟩
def k111 : Kd S111 := Kd.iso (Kd.pair k23 (Kd.pair Kd.string (Kd.pair k23 (Kd.pair Kd.string Kd.bool)))) (fun x : S111 => (x.f0, x.f1, x.f2, x.f3, x.f4))
theorem k111_open {w : World} {x : S111} {cs : List Value} (h : k111.K w x cs) : cs = [.int .i64 x.f0.f0, .int .i64 x.f0.f1, .string x.f1, .int .i64 x.f2.f0, .int .i64 x.f2.f1, .string x.f3, .bool x.f4] := by
 obtain ⟨_, _, rfl, s0, ⟨_, _, rfl, rfl, ⟨_, _, rfl, s3, ⟨_, _, rfl, rfl, rfl⟩⟩⟩⟩ := h
 obtain rfl := k23_open s0
 obtain rfl := k23_open s3
 exact rfl
theorem k111_mkM (w : World) (base : Nat) (ok : Nat → Prop) (x : S111)  : k111.M w base ok x [.int .i64 x.f0.f0, .int .i64 x.f0.f1, .string x.f1, .int .i64 x.f2.f0, .int .i64 x.f2.f1, .string x.f3, .bool x.f4] := ⟨[.int .i64 x.f0.f0, .int .i64 x.f0.f1], [.string x.f1, .int .i64 x.f2.f0, .int .i64 x.f2.f1, .string x.f3, .bool x.f4], rfl, (k23_mkM w base ok x.f0 ), ⟨[.string x.f1], [.int .i64 x.f2.f0, .int .i64 x.f2.f1, .string x.f3, .bool x.f4], rfl, rfl, ⟨[.int .i64 x.f2.f0, .int .i64 x.f2.f1], [.string x.f3, .bool x.f4], rfl, (k23_mkM w base ok x.f2 ), ⟨[.string x.f3], [.bool x.f4], rfl, rfl, rfl⟩⟩⟩⟩
def rd_T111 (xs : List S111) (i : Int) : S111 := xs.getD i.toNat z111
theorem at_T111 {w : World} {A : Option Addr} {n : Nat} {xs : List S111} (h : Kd.C k111 w A n xs) (i : Int) (h0 : 0 ≤ i) (h1 : i < n) : ∃ ad , A = some ad ∧ w.cell? (ad.add (i.toNat * 7)) = some (.int .i64 (rd_T111 xs i).f0.f0) ∧ w.cell? ⟨(ad.add (i.toNat * 7)).block, (ad.add (i.toNat * 7)).off + 1, none⟩ = some (.int .i64 (rd_T111 xs i).f0.f1) ∧ w.cell? ⟨(ad.add (i.toNat * 7)).block, (ad.add (i.toNat * 7)).off + 2, none⟩ = some (.string (rd_T111 xs i).f1) ∧ w.cell? ⟨(ad.add (i.toNat * 7)).block, (ad.add (i.toNat * 7)).off + 3, none⟩ = some (.int .i64 (rd_T111 xs i).f2.f0) ∧ w.cell? ⟨(ad.add (i.toNat * 7)).block, (ad.add (i.toNat * 7)).off + 4, none⟩ = some (.int .i64 (rd_T111 xs i).f2.f1) ∧ w.cell? ⟨(ad.add (i.toNat * 7)).block, (ad.add (i.toNat * 7)).off + 5, none⟩ = some (.string (rd_T111 xs i).f3) ∧ w.cell? ⟨(ad.add (i.toNat * 7)).block, (ad.add (i.toNat * 7)).off + 6, none⟩ = some (.bool (rd_T111 xs i).f4) := by
 obtain ⟨ad, c, e, _, hK, hc0⟩ := Kd.C_get h z111 i h0 h1
 have hc : ∀ j u, c[j]? = some u → w.cell? (ad.add (i.toNat * 7 + j)) = some u := hc0
 obtain rfl := k111_open hK
 exact ⟨ad, e, hc 0 _ rfl, by rw [← add_field _ _ 1 (by omega)]; exact hc 1 _ rfl, by rw [← add_field _ _ 2 (by omega)]; exact hc 2 _ rfl, by rw [← add_field _ _ 3 (by omega)]; exact hc 3 _ rfl, by rw [← add_field _ _ 4 (by omega)]; exact hc 4 _ rfl, by rw [← add_field _ _ 5 (by omega)]; exact hc 5 _ rfl, by rw [← add_field _ _ 6 (by omega)]; exact hc 6 _ rfl⟩
structure S91 where
 f0 : S23
 f1 : Int
 f2 : (List Int)
 f3 : Int
 f4 : S23
 f5 : S23
 f6 : S23
 f7 : ByteArray
 f8 : ByteArray
structure S126 where
 f0 : S23
 f1 : S23
 f2 : S23
 f3 : Bool
structure S151 where
 f0 : S23
 f1 : S23
theorem k23_heap : Kd.Heap k23 := Kd.heap_iso _ (Kd.heap_pair (Kd.heap_int .i64) (Kd.heap_int .i64))
theorem k74_heap : Kd.Heap k74 := Kd.heap_iso _ (Kd.heap_pair k23_heap (Kd.heap_slice 23 k23_heap))
theorem k52_heap : Kd.Heap k52 := Kd.heap_iso _ (Kd.heap_pair k23_heap Kd.heap_string)
theorem k97_heap : Kd.Heap k97 := Kd.heap_iso _ (Kd.heap_pair k23_heap (Kd.heap_pair k23_heap k23_heap))
theorem k111_heap : Kd.Heap k111 := Kd.heap_iso _ (Kd.heap_pair k23_heap (Kd.heap_pair Kd.heap_string (Kd.heap_pair k23_heap (Kd.heap_pair Kd.heap_string Kd.heap_bool))))
end Go.Proofs.Ytnkbgimihikhoaa.PVt
namespace Go.Proofs.Ytnkbgimihikhoaa.Gm
open Go.RowKit Go.Proofs.YtnkbgimihikhoaaW.PrintWords
set_option linter.unusedVariables false
set_option linter.unusedSimpArgs false
/-- A kind of map: its types, how a key lies, what an element is that is not there. -/
structure Mk (P : Program) (α : Type) [DecidableEq α] where
  M : TypeId
  T : TypeId
  E : TypeId
  enc : α → Value
  z : Value
  und : ∀ W, (underlying M).run P W = .ok (TypeDesc.map T E) W
  zero : ∀ W, (zeroValue E).run P W = .ok z W
  check : ∀ em k W, (Instr.checkKey em 10000 T (enc k)).run P W = .ok () W
  equal : ∀ x y W, (Op.equal T (enc x) (enc y)).run P W = .ok (decide (x = y)) W
  kd : TypeDesc
  undT : ∀ W, (underlying T).run P W = .ok kd W
  now : ∀ x y, Instr.sameNow kd (enc x) (enc y) = none
  bits : ∀ k, Instr.sameBits 10000 (enc k) (enc k) = true
section
variable {P : Program} {α : Type} [DecidableEq α]
def ent (d : Mk P α) (e : Nat × α × Value) : MapEntry := { key := d.enc e.2.1, val := e.2.2, born := e.1 }
def findG : List (Nat × α × Value) → α → Nat → Option (Nat × Value)
  | [], _, _ => none
  | e :: t, k, i => if k = e.2.1 then some (i, e.2.2) else findG t k (i + 1)
theorem ask_run (d : Mk P α) (w : World) (k : α) : ∀ (l : List (Nat × α × Value)) (i : Nat), (Instr.findAsking d.T (d.enc k) (l.map (ent d)) i).run P w = .ok (findG l k i) w
  | [], i => by simp [Instr.findAsking, findG, Sem.run_pure]
  | e :: t, i => by
    rw [List.map_cons]
    unfold Instr.findAsking findG
    rw [Sem.run_bind, show (ent d e).key = d.enc e.2.1 from rfl, d.equal, Result.andThen_ok]
    by_cases h : k = e.2.1
    · simp [Sem.run_pure, ent, h]
    · simpa [h] using ask_run d w k t (i + 1)
theorem find_run (d : Mk P α) (w : World) (k : α) (l : List (Nat × α × Value)) : (Instr.findKey d.T (d.enc k) (l.map (ent d))).run P w = .ok (findG l k 0) w := by
  unfold Instr.findKey
  cases l with
  | nil => simp only [Sem.run_bind, d.undT, Result.andThen_ok]; simp [Instr.findNow, findG, Sem.run_pure]
  | cons a t =>
    have h := ask_run d w k (a :: t) 0
    rw [List.map_cons] at h ⊢
    simp only [Sem.run_bind, d.undT, Result.andThen_ok, Instr.findNow]
    rw [show (ent d a).key = d.enc a.2.1 from rfl, d.now]
    exact h
theorem get_run {W : World} {b c : Nat} {es : Array MapEntry} (h : W.heap[b]? = some (.map es c)) : (getObj b).run P W = .ok (.map es c) W := by simp [getObj, Sem.run, h]
theorem set_run {W : World} {b c : Nat} {es : Array MapEntry} {o' : Obj} (h : W.heap[b]? = some (.map es c)) : (setObj b o').run P W = .ok () (W.putObj b o') := by
  simp [setObj, Sem.run, h, World.putObj]
theorem findG_shift : ∀ (l : List (Nat × α × Value)) (k : α) (i : Nat), findG l k i = (findG l k 0).map fun r => (r.1 + i, r.2)
  | [], k, i => rfl
  | e :: t, k, i => by
    unfold findG
    by_cases h : k = e.2.1
    · simp [h]
    · rw [if_neg h, if_neg h, findG_shift t k (i + 1), findG_shift t k (0 + 1)]
      cases findG t k 0 with
      | none => rfl
      | some r => simp; omega
/-- What a list of keys and values has for a key. -/
def kget : List (α × Value) → α → Option Value
  | [], _ => none
  | e :: t, k => if k = e.1 then some e.2 else kget t k
/-- .. with another value for a key. -/
def kput : List (α × Value) → α → Value → List (α × Value)
  | [], k, v => [(k, v)]
  | e :: t, k, v => if k = e.1 then (k, v) :: t else e :: kput t k v
theorem findG_look : ∀ (l : List (Nat × α × Value)) (k : α) (i : Nat), (findG l k i).map (·.2) = kget (l.map (·.2)) k
  | [], k, i => rfl
  | e :: t, k, i => by
    unfold findG
    rw [List.map_cons, kget]
    by_cases h : k = e.2.1
    · rw [if_pos h, if_pos h]; rfl
    · rw [if_neg h, if_neg h]; exact findG_look t k (i + 1)
/-- Block b is a map that has such keys and values. -/
def MapA (d : Mk P α) (W : World) (b : Nat) (f : List (α × Value)) : Prop :=
  ∃ (l : List (Nat × α × Value)) (c : Nat), W.heap[b]? = some (.map (l.map (ent d)).toArray c) ∧ (∀ e ∈ l, e.1 < c) ∧ (l.map (·.1)).Nodup ∧ l.map (·.2) = f
theorem MapA.lt {d : Mk P α} {W : World} {b : Nat} {f : List (α × Value)} (h : MapA d W b f) : b < W.heap.size := by
  obtain ⟨l, c, h1, _⟩ := h
  exact (Array.getElem?_eq_some_iff.1 h1).1
theorem MapA.obj {d : Mk P α} {W : World} {b : Nat} {f : List (α × Value)} (h : MapA d W b f) : ∃ o, W.heap[b]? = some o ∧ o.isCells = false := by
  obtain ⟨l, c, h1, _⟩ := h
  exact ⟨_, h1, rfl⟩
theorem MapA.step {d : Mk P α} {W W' : World} {b : Nat} {f : List (α × Value)} (h : MapA d W b f) (hb : W'.heap[b]? = W.heap[b]?) : MapA d W' b f := by
  obtain ⟨l, c, h1, h2⟩ := h
  exact ⟨l, c, hb.trans h1, h2⟩
theorem MapA.new (d : Mk P α) {W : World} {b : Nat} (h : W.heap[b]? = some (.map #[] 0)) : MapA d W b [] := ⟨[], 0, h, by simp, by simp, rfl⟩
theorem MapA.lookup {d : Mk P α} {W : World} {b : Nat} {f : List (α × Value)} (h : MapA d W b f) (k : α) :
    (Instr.lookup d.M (.map (some b)) (d.enc k) false).run P W = .ok ((kget f k).getD d.z) W := by
  obtain ⟨l, c, h1, _, _, rfl⟩ := h
  have e2 := get_run (P := P) h1
  have hf := find_run d W k l
  have hl := findG_look l k 0
  unfold Instr.lookup
  simp only [Sem.run_bind, d.und, Result.andThen_ok, e2, Sem.run_pure, d.check, hf]
  rw [← hl]
  cases findG l k 0 with
  | none => simp [Sem.run_bind, d.zero, Sem.run_pure, Result.andThen_ok]
  | some r => simp [Sem.run_bind, Sem.run_pure, Result.andThen_ok]
theorem MapA.lookup2 {d : Mk P α} {W : World} {b : Nat} {f : List (α × Value)} (h : MapA d W b f) (k : α) :
    (Instr.lookup d.M (.map (some b)) (d.enc k) true).run P W = .ok (.tuple #[(kget f k).getD d.z, .bool (kget f k).isSome]) W := by
  obtain ⟨l, c, h1, _, _, rfl⟩ := h
  have e2 := get_run (P := P) h1
  have hf := find_run d W k l
  have hl := findG_look l k 0
  unfold Instr.lookup
  simp only [Sem.run_bind, d.und, Result.andThen_ok, e2, Sem.run_pure, d.check, hf]
  rw [← hl]
  cases findG l k 0 with
  | none => simp [Sem.run_bind, d.zero, Sem.run_pure, Result.andThen_ok]
  | some r => simp [Sem.run_bind, Sem.run_pure, Result.andThen_ok]
theorem ins_old : ∀ (l : List (Nat × α × Value)) (k : α) (i : Nat) (u v : Value), findG l k 0 = some (i, u) → ∃ n, l[i]? = some (n, k, u) ∧ (l.modify i fun e => (e.1, k, v)).map (·.2) = kput (l.map (·.2)) k v
  | [], k, i, u, v, h => by cases h
  | e :: t, k, i, u, v, h => by
    unfold findG at h
    rw [List.map_cons, kput]
    by_cases hk : k = e.2.1
    · rw [if_pos hk] at h ⊢
      injection h with h
      injection h with h1 h2
      subst h1 h2
      exact ⟨e.1, by rw [hk]; rfl, by simp⟩
    · rw [if_neg hk, findG_shift] at h
      rw [if_neg hk]
      cases hf : findG t k 0 with
      | none => rw [hf] at h; cases h
      | some r =>
        rw [hf] at h
        injection h with h
        injection h with h1 h2
        obtain ⟨n, hn, hm⟩ := ins_old t k r.1 r.2 v (by rw [hf])
        subst h1 h2
        refine ⟨n, by rw [List.getElem?_cons_succ]; exact hn, ?_⟩
        simp only [Nat.zero_add, List.modify_succ_cons, List.map_cons]
        rw [hm]
theorem ins_new : ∀ (l : List (Nat × α × Value)) (k : α) (v : Value) (c : Nat), findG l k 0 = none → (l ++ [(c, k, v)]).map (·.2) = kput (l.map (·.2)) k v
  | [], k, v, c, _ => rfl
  | e :: t, k, v, c, h => by
    unfold findG at h
    by_cases hk : k = e.2.1
    · rw [if_pos hk] at h; cases h
    · rw [if_neg hk, findG_shift] at h
      rw [List.cons_append, List.map_cons, List.map_cons, kput, if_neg hk, ins_new t k v c (by cases hf : findG t k 0 with | none => rfl | some r => rw [hf] at h; cases h)]
theorem map_modify_at {β γ : Type} (f : β → γ) (g : β → β) (g' : γ → γ) : ∀ (l : List β) (i : Nat) (a : β), l[i]? = some a → g' (f a) = f (g a) → (l.map f).modify i g' = (l.modify i g).map f
  | [], i, a, h, _ => by cases h
  | x :: t, 0, a, h, he => by injection h with h; subst h; simp [he]
  | x :: t, i + 1, a, h, he => by
    rw [List.getElem?_cons_succ] at h
    simp [map_modify_at f g g' t i a h he]
theorem modify_last_ {β : Type} {f : β → β} {a : β} : ∀ (l : List β), (l ++ [a]).modify l.length f = l ++ [f a]
  | [] => rfl
  | b :: l => by simp only [List.cons_append, List.length_cons, List.modify_succ_cons, modify_last_ l]
omit [DecidableEq α] in
theorem born_modify (v : Value) (k : α) : ∀ (l : List (Nat × α × Value)) (i : Nat), (l.modify i fun e => (e.1, k, v)).map (·.1) = l.map (·.1)
  | [], i => by simp
  | a :: t, 0 => by simp
  | a :: t, i + 1 => by simp [born_modify v k t i]
omit [DecidableEq α] in
theorem mem_born {l m : List (Nat × α × Value)} {c : Nat} (hm : m.map (·.1) = l.map (·.1)) (h : ∀ e ∈ l, e.1 < c) : ∀ e ∈ m, e.1 < c := by
  intro e he
  have : e.1 ∈ l.map (·.1) := hm ▸ List.mem_map_of_mem he
  obtain ⟨x, hx, h2⟩ := List.mem_map.1 this
  rw [← h2]
  exact h x hx
theorem keyStays (d : Mk P α) (k : α) (W : World) : (Instr.keyThatStays (d.enc k) (d.enc k)).run P W = .ok (d.enc k) W := by
  unfold Instr.keyThatStays
  rw [d.bits]
  rfl
/-- A key gets a value. -/
theorem MapA.update {d : Mk P α} {W : World} {b : Nat} {f : List (α × Value)} (h : MapA d W b f) (k : α) (v : Value) :
    ∃ o', (Instr.mapUpdate d.M (.map (some b)) (d.enc k) v).run P W = .ok () (W.putObj b o') ∧ o'.isCells = false ∧ ∀ W', W'.heap[b]? = some o' → MapA d W' b (kput f k v) := by
  obtain ⟨l, c, h1, hc, hn, rfl⟩ := h
  have e2 := get_run (P := P) h1
  have hf := find_run d W k l
  have hs := fun o' => set_run (P := P) (o' := o') h1
  cases hq : findG l k 0 with
  | none =>
    rw [hq] at hf
    refine ⟨.map ((l ++ [(c, k, v)]).map (ent d)).toArray (c + 1), ?_, rfl, fun W' hW => ⟨_, _, hW, ?_, ?_, ins_new l k v c hq⟩⟩
    · unfold Instr.mapUpdate
      simp only [Sem.run_bind, d.und, Result.andThen_ok, e2, Sem.run_pure, d.check, hf, hs]
      simp [ent]
    · intro e he
      rcases List.mem_append.1 he with he | he
      · have := hc e he; omega
      · rcases List.mem_singleton.1 he with rfl; show c < c + 1; omega
    · rw [List.map_append, List.nodup_append]
      refine ⟨hn, by simp, ?_⟩
      intro a ha b' hb'
      obtain ⟨x, hx, rfl⟩ := List.mem_map.1 ha
      have e_ : b' = c := List.mem_singleton.1 hb'
      have := hc x hx
      rw [e_]
      show x.1 ≠ c
      omega
  | some r =>
    obtain ⟨i, u⟩ := r
    rw [hq] at hf
    obtain ⟨n, hi, hm⟩ := ins_old l k i u v hq
    have hi2 : ((l.map (ent d)).toArray[i]?) = some (ent d (n, k, u)) := by rw [List.getElem?_toArray, List.getElem?_map, hi]; rfl
    have hmod : (l.map (ent d)).toArray.modify i (fun e => { e with key := d.enc k, val := v }) = ((l.modify i fun e => (e.1, k, v)).map (ent d)).toArray := by
      rw [List.modify_toArray]
      exact congrArg List.toArray (map_modify_at (ent d) (fun e => (e.1, k, v)) _ l i _ hi rfl)
    refine ⟨.map ((l.modify i fun e => (e.1, k, v)).map (ent d)).toArray c, ?_, rfl, fun W' hW => ⟨_, _, hW, mem_born (born_modify v k l i) hc, by rw [born_modify]; exact hn, hm⟩⟩
    unfold Instr.mapUpdate
    simp only [Sem.run_bind, d.und, Result.andThen_ok, e2, Sem.run_pure, d.check, hf]
    rw [hi2]
    simp only [Option.map_some, Option.getD_some, show (ent d (n, k, u)).key = d.enc k from rfl, keyStays, Result.andThen_ok, hs]
    rw [hmod]
theorem kput_same : ∀ (f : List (α × Value)) (k : α) (u : Value), kget f k = some u → kput f k u = f
  | [], k, u, h => by cases h
  | e :: t, k, u, h => by
    rw [kget] at h
    rw [kput]
    by_cases hk : k = e.1
    · rw [if_pos hk] at h ⊢
      injection h with h
      rw [hk, ← h]
    · rw [if_neg hk] at h ⊢
      rw [kput_same t k u h]
/-- An entry is asked for, its value told; then it gets one. -/
theorem MapA.entry {d : Mk P α} {W : World} {b : Nat} {f : List (α × Value)} (h : MapA d W b f) (k : α) :
    ∃ (s : Int) (o1 : Obj), (∀ W0 : World, W0.heap[b]? = W.heap[b]? → (Instr.mapEntry d.M (.map (some b)) (d.enc k)).run P W0 = .ok (.tuple #[(kget f k).getD d.z, .int .i64 s]) (W0.putObj b o1)) ∧ o1.isCells = false ∧ (∀ W1 : World, W1.heap[b]? = some o1 → MapA d W1 b (kput f k ((kget f k).getD d.z))) ∧
      ∀ (v : Value) (W1 : World), W1.heap[b]? = some o1 → ∃ o2, (Instr.entryStore d.M (.map (some b)) (.int .i64 s) v).run P W1 = .ok () (W1.putObj b o2) ∧ o2.isCells = false ∧ ∀ W', W'.heap[b]? = some o2 → MapA d W' b (kput f k v) := by
  obtain ⟨l, c, h1, hc, hn, rfl⟩ := h
  have hl := findG_look l k 0
  -- the store, for whatever list has an entry of such a birth
  have store : ∀ (m : List (Nat × α × Value)) (c' i s : Nat) (u v : Value) (W1 : World), m[i]? = some (s, k, u) → (m.map (·.1)).Nodup → W1.heap[b]? = some (.map (m.map (ent d)).toArray c') →
      (Instr.entryStore d.M (.map (some b)) (.int .i64 (s : Int)) v).run P W1 = .ok () (W1.putObj b (.map ((m.modify i fun e => (e.1, k, v)).map (ent d)).toArray c')) := by
    intro m c' i s u v W1 hi hnd hW
    have e3 := get_run (P := P) hW
    have hs3 := fun o' => set_run (P := P) (o' := o') hW
    have ha : (asInt (.int .i64 (s : Int))).run P W1 = .ok (s : Int) W1 := by simp [asInt, asIntOf, Sem.run_bind, Sem.run_pure, Result.andThen]
    have hlt : i < m.length := (List.getElem?_eq_some_iff.1 hi).1
    have hfi : (m.map (ent d)).toArray.findIdx? (fun e => (e.born : Int) == (s : Int)) = some i := by
      rw [List.findIdx?_toArray, List.findIdx?_eq_some_iff_getElem]
      refine ⟨by rw [List.length_map]; exact hlt, ?_, ?_⟩
      · rw [List.getElem_map, (List.getElem?_eq_some_iff.1 hi).2]
        show ((s : Int) == (s : Int)) = true
        simp
      · intro j hj
        rw [List.getElem_map]
        have hne : (m[j]'(by omega)).1 ≠ s := by
          intro e
          have h1 : (m.map (·.1))[j]? = (m.map (·.1))[i]? := by
            rw [List.getElem?_map, List.getElem?_map, hi, List.getElem?_eq_getElem (by omega : j < m.length)]
            exact congrArg some e
          have h3 : j = i := (List.getElem?_inj (by rw [List.length_map]; omega) hnd).1 h1
          omega
        have hbn : (ent d (m[j]'(by omega))).born = (m[j]'(by omega)).1 := rfl
        simp only [hbn, beq_iff_eq]
        omega
    have hmod : (m.map (ent d)).toArray.modify i (fun e => { e with val := v }) = ((m.modify i fun e => (e.1, k, v)).map (ent d)).toArray := by
      rw [List.modify_toArray]
      exact congrArg List.toArray (map_modify_at (ent d) (fun e => (e.1, k, v)) _ m i _ hi rfl)
    unfold Instr.entryStore
    simp only [Sem.run_bind, Result.andThen_ok, e3, ha, hfi, hs3]
    rw [hmod]
  cases hq : findG l k 0 with
  | none =>
    rw [hq] at hl
    have hg0 : kget (l.map (·.2)) k = none := hl.symm
    refine ⟨(c : Int), .map ((l ++ [(c, k, d.z)]).map (ent d)).toArray (c + 1), ?_, rfl, fun W1 hW1 => ⟨_, _, hW1, fun e he => ?_, ?_, by rw [hg0]; exact ins_new l k d.z c hq⟩, fun v W1 hW => ⟨_, store (l ++ [(c, k, d.z)]) (c + 1) l.length c d.z v W1 (by simp) ?_ hW, rfl, fun W' hW' => ⟨_, _, hW', ?_, ?_, ?_⟩⟩⟩
    · intro W0 hW0
      have h10 := hW0.trans h1
      have e2 := get_run (P := P) h10
      have hf := find_run d W0 k l
      rw [hq] at hf
      have hs := fun o' => set_run (P := P) (o' := o') h10
      unfold Instr.mapEntry
      simp only [Sem.run_bind, d.und, Result.andThen_ok, e2, Sem.run_pure, d.check, hf, hs, d.zero]
      rw [← hl]
      simp [ent, goInt]
    · rcases List.mem_append.1 he with he | he
      · have := hc e he; omega
      · rcases List.mem_singleton.1 he with rfl; show c < c + 1; omega
    · rw [List.map_append, List.nodup_append]
      refine ⟨hn, by simp, ?_⟩
      intro a ha b' hb'
      obtain ⟨x, hx, rfl⟩ := List.mem_map.1 ha
      have e_ : b' = c := List.mem_singleton.1 hb'
      have := hc x hx
      rw [e_]
      show x.1 ≠ c
      omega
    · rw [List.map_append, List.nodup_append]
      refine ⟨hn, by simp, ?_⟩
      intro a ha b' hb'
      obtain ⟨x, hx, rfl⟩ := List.mem_map.1 ha
      have e_ : b' = c := List.mem_singleton.1 hb'
      have := hc x hx
      rw [e_]
      show x.1 ≠ c
      omega
    · refine mem_born (l := l ++ [(c, k, d.z)]) (born_modify v k _ _) ?_
      intro e he
      rcases List.mem_append.1 he with he | he
      · have := hc e he; omega
      · rcases List.mem_singleton.1 he with rfl; show c < c + 1; omega
    · rw [born_modify, List.map_append, List.nodup_append]
      refine ⟨hn, by simp, ?_⟩
      intro a ha b' hb'
      obtain ⟨x, hx, rfl⟩ := List.mem_map.1 ha
      have e_ : b' = c := List.mem_singleton.1 hb'
      have := hc x hx
      rw [e_]
      show x.1 ≠ c
      omega
    · have hm : (l ++ [(c, k, d.z)]).modify l.length (fun e => (e.1, k, v)) = l ++ [(c, k, v)] := by
        exact modify_last_ l
      rw [hm]
      exact ins_new l k v c hq
  | some r =>
    obtain ⟨i, u⟩ := r
    rw [hq] at hl
    obtain ⟨n, hi, _⟩ := ins_old l k i u u hq
    have hi2 : ((l.map (ent d)).toArray[i]?) = some (ent d (n, k, u)) := by rw [List.getElem?_toArray, List.getElem?_map, hi]; rfl
    have hmod : (l.map (ent d)).toArray.modify i (fun e => { e with key := d.enc k }) = (l.map (ent d)).toArray := by
      rw [List.modify_toArray]
      have := map_modify_at (ent d) (fun e => e) (fun e => { e with key := d.enc k }) l i _ hi rfl
      rw [this]
      have hid : ∀ (m : List (Nat × α × Value)) (j : Nat), m.modify j (fun e => e) = m := by
        intro m
        induction m with
        | nil => intro j; simp
        | cons a t ih => intro j; cases j with | zero => simp | succ j => simp [ih]
      rw [hid]
    have hg0 : kget (l.map (·.2)) k = some u := hl.symm
    refine ⟨(n : Int), .map (l.map (ent d)).toArray c, ?_, rfl, fun W1 hW1 => ⟨l, c, hW1, hc, hn, by rw [hg0]; exact (kput_same _ k u hg0).symm⟩, fun v W1 hW => ?_⟩
    · intro W0 hW0
      have h10 := hW0.trans h1
      have e2 := get_run (P := P) h10
      have hf := find_run d W0 k l
      rw [hq] at hf
      have hs := fun o' => set_run (P := P) (o' := o') h10
      unfold Instr.mapEntry
      simp only [Sem.run_bind, d.und, Result.andThen_ok, e2, Sem.run_pure, d.check, hf]
      rw [hi2]
      simp only [Option.map_some, Option.getD_some, show (ent d (n, k, u)).key = d.enc k from rfl, keyStays, Result.andThen_ok, hs]
      rw [hmod, ← hl]
      rfl
    · obtain ⟨n', _, hm⟩ := ins_old l k i u v hq
      exact ⟨_, store l c i n u v W1 hi hn hW, rfl, fun W' hW' => ⟨_, _, hW', mem_born (born_modify v k l i) hc, by rw [born_modify]; exact hn, hm⟩⟩
theorem look_ins (f : List (α × Value)) (k : α) (v : Value) (j : α) : kget (kput f k v) j = if j = k then some v else kget f j := by
  induction f with
  | nil => simp [kput, kget]
  | cons e t ih =>
    rw [kput]
    by_cases h : k = e.1
    · rw [if_pos h, kget, kget]
      by_cases hj : j = k
      · rw [if_pos hj, if_pos hj]
      · rw [if_neg hj, if_neg hj, if_neg (by rw [← h]; exact hj)]
    · rw [if_neg h, kget, kget]
      by_cases hj : j = e.1
      · rw [if_pos hj, if_neg (by rw [hj]; exact fun x => h x.symm), if_pos hj]
      · rw [if_neg hj, ih]
        by_cases h3 : j = k
        · rw [if_pos h3, if_pos h3]
        · rw [if_neg h3, if_neg h3, if_neg hj]
section
variable {ρ : Operand → Value} {o : Oper} {d : Mk P α} {W : World} {b : Nat} {f : List (α × Value)} {k : α} {m k' v' s' : Operand}
theorem exec_look (ho : o.op = .lookup d.M m k' false) (hm : ρ m = .map (some b)) (hk : ρ k' = d.enc k) (h : MapA d W b f) : (execOp ρ o).run P W = .ok (.value ((kget f k).getD d.z)) W := by
  have e : execOp ρ o = (do let v ← Instr.lookup d.M (ρ m) (ρ k') false; pure (.value v)) := by unfold execOp; rw [ho]
  rw [e, hm, hk, Sem.run_bind, h.lookup, Result.andThen_ok, Sem.run_pure]
theorem exec_look2 (ho : o.op = .lookup d.M m k' true) (hm : ρ m = .map (some b)) (hk : ρ k' = d.enc k) (h : MapA d W b f) : (execOp ρ o).run P W = .ok (.value (.tuple #[(kget f k).getD d.z, .bool (kget f k).isSome])) W := by
  have e : execOp ρ o = (do let v ← Instr.lookup d.M (ρ m) (ρ k') true; pure (.value v)) := by unfold execOp; rw [ho]
  rw [e, hm, hk, Sem.run_bind, h.lookup2, Result.andThen_ok, Sem.run_pure]
theorem exec_update {v : Value} {o' : Obj} (ho : o.op = .mapUpdate d.M m k' v') (hm : ρ m = .map (some b)) (hk : ρ k' = d.enc k) (hv : ρ v' = v) (h : (Instr.mapUpdate d.M (.map (some b)) (d.enc k) v).run P W = .ok () (W.putObj b o')) : (execOp ρ o).run P W = .ok .skip (W.putObj b o') := by
  have e : execOp ρ o = (do Instr.mapUpdate d.M (ρ m) (ρ k') (ρ v'); pure .skip) := by unfold execOp; rw [ho]
  rw [e, hm, hk, hv, Sem.run_bind, h, Result.andThen_ok, Sem.run_pure]
theorem exec_entry {v : Value} {W' : World} (ho : o.op = .mapEntry d.M m k') (hm : ρ m = .map (some b)) (hk : ρ k' = d.enc k) (h : (Instr.mapEntry d.M (.map (some b)) (d.enc k)).run P W = .ok v W') : (execOp ρ o).run P W = .ok (.value v) W' := by
  have e : execOp ρ o = (do let v ← Instr.mapEntry d.M (ρ m) (ρ k'); pure (.value v)) := by unfold execOp; rw [ho]
  rw [e, hm, hk, Sem.run_bind, h, Result.andThen_ok, Sem.run_pure]
theorem exec_store {s : Int} {v : Value} {W' : World} (ho : o.op = .entryStore d.M m s' v') (hm : ρ m = .map (some b)) (hs : ρ s' = .int .i64 s) (hv : ρ v' = v) (h : (Instr.entryStore d.M (.map (some b)) (.int .i64 s) v).run P W = .ok () W') : (execOp ρ o).run P W = .ok .skip W' := by
  have e : execOp ρ o = (do Instr.entryStore d.M (ρ m) (ρ s') (ρ v'); pure .skip) := by unfold execOp; rw [ho]
  rw [e, hm, hs, hv, Sem.run_bind, h, Result.andThen_ok, Sem.run_pure]
end
end
end Go.Proofs.Ytnkbgimihikhoaa.Gm
namespace Go.Proofs.Ytnkbgimihikhoaa.PVt
open Go.RowKit Go.Proofs.YtnkbgimihikhoaaW.PrintWords Go.Proofs.YtnkbgimihikhoaaW.PrintLast Go.Proofs.YtnkbgimihikhoaaW.PrintMore
attribute [local go_sem] max2_int min2_int max_two min_two max_three min_three max_four min_four
set_option linter.unusedVariables false
set_option linter.unusedSimpArgs false
theorem eqA23 (d : Nat) (w : World) (x0 y0 : Int) (x1 y1 : Int) :
  (Op.equalIn (d + 2) 23 (.agg #[.int .i64 x0, .int .i64 x1]) (.agg #[.int .i64 y0, .int .i64 y1])).run Try.prog w = .ok (x0 == y0 && (x1 == y1)) w := by
 refine eqA_of Try.underlying23 (by kernel_rfl) ?_
 refine eqf_cons (by rfl) (by go_simp; rfl) (by go_simp; rfl) (by go_simp) ?_
 exact eqf_last (by rfl) (by go_simp; rfl) (by go_simp; rfl) (by go_simp)
mutual
def change_Name.j0 : Nat → ByteArray → Bool → Option (Bool)
 | 0, _, _ => none
 | k + 1, x0, x22 => if x22 = true then (some false) else (change_Name.l0 k x0 (x0.size : Int) 0)
def change_Name.l0 : Nat → ByteArray → Int → Int → Option (Bool)
 | 0, _, _, _ => none
 | k + 1, x0, x24, x25 => if x25 < x24 then (if 0 ≤ x25 then (if x25 < (x0.size : Int) then (if (bt x0 x25) < 97 then (if (bt x0 x25) < 48 then (if (bt x0 x25) = 45 then (change_Name.l0 k x0 x24 (wrap64 (x25 + 1))) else (some false)) else (if (bt x0 x25) > 57 then (if (bt x0 x25) = 45 then (change_Name.l0 k x0 x24 (wrap64 (x25 + 1))) else (some false)) else (change_Name.l0 k x0 x24 (wrap64 (x25 + 1))))) else (if (bt x0 x25) > 122 then (if (bt x0 x25) < 48 then (if (bt x0 x25) = 45 then (change_Name.l0 k x0 x24 (wrap64 (x25 + 1))) else (some false)) else (if (bt x0 x25) > 57 then (if (bt x0 x25) = 45 then (change_Name.l0 k x0 x24 (wrap64 (x25 + 1))) else (some false)) else (change_Name.l0 k x0 x24 (wrap64 (x25 + 1))))) else (change_Name.l0 k x0 x24 (wrap64 (x25 + 1))))) else (none)) else (none)) else (some true)
end
def change_Name.f (k : Nat) (a0 : ByteArray) : Option (Bool) := if (a0.size : Int) = 0 then (change_Name.j0 k a0 true) else (if (a0.size : Int) > 32 then (change_Name.j0 k a0 true) else (if 0 < (a0.size : Int) then (if (bt a0 0) < 97 then (change_Name.j0 k a0 true) else (change_Name.j0 k a0 (decide ((bt a0 0) > 122)))) else (none)))
set_option maxHeartbeats 8000000 in
set_option maxRecDepth 100000 in
theorem change_Name.calls (k : Nat) (a0 : ByteArray) (r : Bool) (w : World) (h : change_Name.f k a0 = some r) :
  Calls Try.prog 67 #[.string a0] w fun e w' => e = .returned (.bool r) ∧ Drawn0 w w' := by
 have H : (if (a0.size : Int) = 0 then (change_Name.j0 k a0 true) else (if (a0.size : Int) > 32 then (change_Name.j0 k a0 true) else (if 0 < (a0.size : Int) then (if (bt a0 0) < 97 then (change_Name.j0 k a0 true) else (change_Name.j0 k a0 (decide ((bt a0 0) > 122)))) else (none)))) = some r := h
 clear h
 have HC2 := Aside0.mk H
 clear H
 go_enter Try.func67, Try.ntmps67
 go_upto_region 1 with (fail)
 go_cut [22] (fun v22 wc => ∃ (kq : Nat) (x22_1 : Bool), v22 = .bool x22_1 ∧ Aside0 (change_Name.j0 kq a0 x22_1 = some r) ∧ Aside0 (kq ≤ k) ∧ Drawn0 w wc)
 case first =>
  have H := HC2.out
  clear HC2
  by_cases c3 : (a0.size : Int) = 0
  ·rw [if_pos c3] at H
   have c3b0 : ((a0.size : Int) == 0) = true := beq_iff_eq.mpr c3
   have c3b1 : ((a0.size : Int) != 0) = false := bne_eq_false_iff_eq.mpr c3
   clear c3
   (first | rw [c3b0] | (simp only [i64_w, i32_w]; rw [c3b0]) | skip)
   have H' := Aside0.mk H
   clear H
   go_wp2
   go_meet
   case rel => exact ⟨_, (true), (by first | rfl | (simp; done) | (simp [*]; done)), H', ⟨by first | omega | exact Nat.le_refl _⟩, by repeat (first | exact Drawn0.refl _ | apply Drawn0.step)⟩
  ·rw [if_neg c3] at H
   have c3b0 : ((a0.size : Int) == 0) = false := beq_eq_false_iff_ne.mpr c3
   have c3b1 : ((a0.size : Int) != 0) = true := bne_iff_ne.mpr c3
   (first | rw [c3b0] | (simp only [i64_w, i32_w]; rw [c3b0]) | skip)
   by_cases c4 : (a0.size : Int) > 32
   ·rw [if_pos c4] at H
    have c4b0 : decide (32 < (a0.size : Int)) = true := decide_eq_true c4
    have c4b1 : decide (32 < a0.size) = true := decide_eq_true (by omega)
    clear c4
    have H' := Aside0.mk H
    clear H
    go_wp2
    go_meet
    case rel => exact ⟨_, (true), (by first | rfl | (simp; done) | (simp [*]; done)), H', ⟨by first | omega | exact Nat.le_refl _⟩, by repeat (first | exact Drawn0.refl _ | apply Drawn0.step)⟩
   ·rw [if_neg c4] at H
    have c4b0 : decide (32 < (a0.size : Int)) = false := decide_eq_false c4
    have c4b1 : decide (32 < a0.size) = false := decide_eq_false (by omega)
    clear c4
    by_cases c5 : 0 < (a0.size : Int)
    ·rw [if_pos c5] at H
     have c5b0 : decide (0 < (a0.size : Int)) = true := decide_eq_true c5
     have c5b1 : decide (0 < a0.size) = true := decide_eq_true (by omega)
     clear c5
     by_cases c7 : (bt a0 0) < 97
     ·rw [if_pos c7] at H
      have c7b0 : decide ((bt a0 0) < 97) = true := decide_eq_true c7
      clear c7
      have H' := Aside0.mk H
      clear H
      have p6 : 0 ≤ (0 : Int) := (by omega)
      have q6 : 0 < a0.size := (by have : (0 : Int) < (a0.size : Int) := of_decide_eq_true asmS; omega)
      have hx6 : ∀ h : 0 < a0.size, ((a0[0]'h).toNat : Int) = bt a0 0 := bt_at a0 0
      clear p6
      have qi6 : (0 < (a0.size : Int)) = True := eq_true (of_decide_eq_true asmS)
      replace q6 := eq_true q6
      go_wp2
      go_meet
      case rel => exact ⟨_, (true), (by first | rfl | (simp; done) | (simp [*]; done)), H', ⟨by first | omega | exact Nat.le_refl _⟩, by repeat (first | exact Drawn0.refl _ | apply Drawn0.step)⟩
     ·rw [if_neg c7] at H
      have c7b0 : decide ((bt a0 0) < 97) = false := decide_eq_false c7
      clear c7
      have H' := Aside0.mk H
      clear H
      have p6 : 0 ≤ (0 : Int) := (by omega)
      have q6 : 0 < a0.size := (by have : (0 : Int) < (a0.size : Int) := of_decide_eq_true asmS; omega)
      have hx6 : ∀ h : 0 < a0.size, ((a0[0]'h).toNat : Int) = bt a0 0 := bt_at a0 0
      clear p6
      have qi6 : (0 < (a0.size : Int)) = True := eq_true (of_decide_eq_true asmS)
      replace q6 := eq_true q6
      have p8 : 0 ≤ (0 : Int) := (by omega)
      have q8 : 0 < a0.size := (by have : (0 : Int) < (a0.size : Int) := of_decide_eq_true asmS; omega)
      have hx8 : ∀ h : 0 < a0.size, ((a0[0]'h).toNat : Int) = bt a0 0 := bt_at a0 0
      clear p8
      have qi8 : (0 < (a0.size : Int)) = True := eq_true (of_decide_eq_true asmS)
      replace q8 := eq_true q8
      go_wp2
      go_meet
      case rel => exact ⟨_, (decide ((bt a0 0) > 122)), (by first | rfl | (simp; done) | (simp [*]; done)), H', ⟨by first | omega | exact Nat.le_refl _⟩, by repeat (first | exact Drawn0.refl _ | apply Drawn0.step)⟩
    ·rw [if_neg c5] at H
     exact absurd H (by simp)
 case rest =>
  clear HC2
  (try clear p2); (try clear c3); (try clear c3b0); (try clear c3b1); (try clear c4); (try clear c4b0); (try clear c4b1); (try clear c5); (try clear c5b0); (try clear c5b1); (try clear c6); (try clear p6); (try clear p6); (try clear q6); (try clear q6); (try clear hx6); (try clear qi6); (try clear c7); (try clear c7b0); (try clear p8); (try clear p8); (try clear q8); (try clear q8); (try clear hx8); (try clear qi8)
  obtain ⟨kq, x22_1, rfl, HA, HJ1, ⟨mc1, rfl⟩⟩ := hcut
  cases kq with
  | zero => exact absurd HA.out (by simp [change_Name.j0])
  | succ kj1 =>
   have H := HA.out
   clear HA
   simp only [change_Name.j0] at H
   by_cases c9 : x22_1 = true
   ·subst c9
    have H1 : (some false) = some r := by rw [if_pos rfl] at H; exact H
    clear H
    have H := H1
    clear H1
    obtain rfl := Option.some.inj H
    go_wp2
    go_ret
    exact ⟨by first | rfl | (simp; done) | (simp [*]; done), by repeat (first | exact Drawn0.refl _ | apply Drawn0.step)⟩
   ·replace c9 := Bool.eq_false_iff.mpr c9
    subst c9
    have H1 : (change_Name.l0 kj1 a0 (a0.size : Int) 0) = some r := by rw [if_neg (show ¬ (false = true) by decide)] at H; exact H
    clear H
    have H := H1
    clear H1
    have H' := Aside0.mk H
    clear H
    go_wp2
    go_loopg [25] kj1 (fun kq v25 w' => ∃ (x25_2 : Int), v25 = .int .i64 x25_2 ∧ Aside0 (change_Name.l0 kq a0 (a0.size : Int) x25_2 = some r) ∧ Aside0 (kq ≤ kj1) ∧ Drawn0 w w')
    case atStart => exact ⟨(0), (by first | rfl | (simp; done) | (simp [*]; done)), H', ⟨Nat.le_refl _⟩, by repeat (first | exact Drawn0.refl _ | apply Drawn0.step)⟩
    case round =>
     clear H'
     (try clear c1); (try clear p2); (try clear p2); (try clear c3); (try clear c3b0); (try clear c3b1); (try clear c4); (try clear c4b0); (try clear c4b1); (try clear c5); (try clear c5b0); (try clear c5b1); (try clear c6); (try clear p6); (try clear p6); (try clear q6); (try clear q6); (try clear hx6); (try clear qi6); (try clear c7); (try clear c7b0); (try clear p8); (try clear p8); (try clear q8); (try clear q8); (try clear hx8); (try clear qi8); (try clear c9)
     obtain ⟨x25_2, rfl, HA, HK2, ⟨m2, rfl⟩⟩ := hrel
     cases gk with
     | zero => exact absurd HA.out (by simp [change_Name.l0])
     | succ k2 =>
      have H := HA.out
      clear HA
      simp only [change_Name.l0] at H
      by_cases c10 : x25_2 < (a0.size : Int)
      ·rw [if_pos c10] at H
       have c10b0 : decide (x25_2 < (a0.size : Int)) = true := decide_eq_true c10
       clear c10
       by_cases c11 : 0 ≤ x25_2
       ·rw [if_pos c11] at H
        have c11b0 : decide (0 ≤ x25_2) = true := decide_eq_true c11
        clear c11
        by_cases c12 : x25_2 < (a0.size : Int)
        ·rw [if_pos c12] at H
         have c12b0 : decide (x25_2 < (a0.size : Int)) = true := decide_eq_true c12
         clear c12
         by_cases c14 : (bt a0 x25_2) < 97
         ·rw [if_pos c14] at H
          have c14b0 : decide ((bt a0 x25_2) < 97) = true := decide_eq_true c14
          clear c14
          by_cases c15 : (bt a0 x25_2) < 48
          ·rw [if_pos c15] at H
           have c15b0 : decide ((bt a0 x25_2) < 48) = true := decide_eq_true c15
           clear c15
           by_cases c16 : (bt a0 x25_2) = 45
           ·rw [if_pos c16] at H
            have c16b0 : ((bt a0 x25_2) == 45) = true := beq_iff_eq.mpr c16
            have c16b1 : ((bt a0 x25_2) != 45) = false := bne_eq_false_iff_eq.mpr c16
            clear c16
            have H' := Aside0.mk H
            clear H
            have p13 : 0 ≤ (x25_2 : Int) := of_decide_eq_true asmS
            have q13 : x25_2 < (a0.size : Int) := of_decide_eq_true asmS
            have hx13 := bt_at a0 x25_2
            replace p13 := eq_true p13
            replace q13 := eq_true q13
            go_wp2
            go_roundg k2
            case measure => have := HJ1.out; have := HK2.out; omega
            case rel => exact ⟨(wrap64 (x25_2 + 1)), (by first | rfl | (simp; done) | (simp [*]; done)), H', ⟨by have := HJ1.out; have := HK2.out; omega⟩, by repeat (first | exact Drawn0.refl _ | apply Drawn0.step)⟩
           ·rw [if_neg c16] at H
            have c16b0 : ((bt a0 x25_2) == 45) = false := beq_eq_false_iff_ne.mpr c16
            have c16b1 : ((bt a0 x25_2) != 45) = true := bne_iff_ne.mpr c16
            obtain rfl := Option.some.inj H
            have p13 : 0 ≤ (x25_2 : Int) := of_decide_eq_true asmS
            have q13 : x25_2 < (a0.size : Int) := of_decide_eq_true asmS
            have hx13 := bt_at a0 x25_2
            replace p13 := eq_true p13
            replace q13 := eq_true q13
            go_wp2
            go_ret
            exact ⟨by first | rfl | (simp; done) | (simp [*]; done), by repeat (first | exact Drawn0.refl _ | apply Drawn0.step)⟩
          ·rw [if_neg c15] at H
           have c15b0 : decide ((bt a0 x25_2) < 48) = false := decide_eq_false c15
           clear c15
           by_cases c17 : (bt a0 x25_2) > 57
           ·rw [if_pos c17] at H
            have c17b0 : decide (57 < (bt a0 x25_2)) = true := decide_eq_true c17
            clear c17
            by_cases c18 : (bt a0 x25_2) = 45
            ·rw [if_pos c18] at H
             have c18b0 : ((bt a0 x25_2) == 45) = true := beq_iff_eq.mpr c18
             have c18b1 : ((bt a0 x25_2) != 45) = false := bne_eq_false_iff_eq.mpr c18
             clear c18
             have H' := Aside0.mk H
             clear H
             have p13 : 0 ≤ (x25_2 : Int) := of_decide_eq_true asmS
             have q13 : x25_2 < (a0.size : Int) := of_decide_eq_true asmS
             have hx13 := bt_at a0 x25_2
             replace p13 := eq_true p13
             replace q13 := eq_true q13
             go_wp2
             go_roundg k2
             case measure => have := HJ1.out; have := HK2.out; omega
             case rel => exact ⟨(wrap64 (x25_2 + 1)), (by first | rfl | (simp; done) | (simp [*]; done)), H', ⟨by have := HJ1.out; have := HK2.out; omega⟩, by repeat (first | exact Drawn0.refl _ | apply Drawn0.step)⟩
            ·rw [if_neg c18] at H
             have c18b0 : ((bt a0 x25_2) == 45) = false := beq_eq_false_iff_ne.mpr c18
             have c18b1 : ((bt a0 x25_2) != 45) = true := bne_iff_ne.mpr c18
             obtain rfl := Option.some.inj H
             have p13 : 0 ≤ (x25_2 : Int) := of_decide_eq_true asmS
             have q13 : x25_2 < (a0.size : Int) := of_decide_eq_true asmS
             have hx13 := bt_at a0 x25_2
             replace p13 := eq_true p13
             replace q13 := eq_true q13
             go_wp2
             go_ret
             exact ⟨by first | rfl | (simp; done) | (simp [*]; done), by repeat (first | exact Drawn0.refl _ | apply Drawn0.step)⟩
           ·rw [if_neg c17] at H
            have c17b0 : decide (57 < (bt a0 x25_2)) = false := decide_eq_false c17
            clear c17
            have H' := Aside0.mk H
            clear H
            have p13 : 0 ≤ (x25_2 : Int) := of_decide_eq_true asmS
            have q13 : x25_2 < (a0.size : Int) := of_decide_eq_true asmS
            have hx13 := bt_at a0 x25_2
            replace p13 := eq_true p13
            replace q13 := eq_true q13
            go_wp2
            go_roundg k2
            case measure => have := HJ1.out; have := HK2.out; omega
            case rel => exact ⟨(wrap64 (x25_2 + 1)), (by first | rfl | (simp; done) | (simp [*]; done)), H', ⟨by have := HJ1.out; have := HK2.out; omega⟩, by repeat (first | exact Drawn0.refl _ | apply Drawn0.step)⟩
         ·rw [if_neg c14] at H
          have c14b0 : decide ((bt a0 x25_2) < 97) = false := decide_eq_false c14
          clear c14
          by_cases c19 : (bt a0 x25_2) > 122
          ·rw [if_pos c19] at H
           have c19b0 : decide (122 < (bt a0 x25_2)) = true := decide_eq_true c19
           clear c19
           by_cases c20 : (bt a0 x25_2) < 48
           ·rw [if_pos c20] at H
            have c20b0 : decide ((bt a0 x25_2) < 48) = true := decide_eq_true c20
            clear c20
            by_cases c21 : (bt a0 x25_2) = 45
            ·rw [if_pos c21] at H
             have c21b0 : ((bt a0 x25_2) == 45) = true := beq_iff_eq.mpr c21
             have c21b1 : ((bt a0 x25_2) != 45) = false := bne_eq_false_iff_eq.mpr c21
             clear c21
             have H' := Aside0.mk H
             clear H
             have p13 : 0 ≤ (x25_2 : Int) := of_decide_eq_true asmS
             have q13 : x25_2 < (a0.size : Int) := of_decide_eq_true asmS
             have hx13 := bt_at a0 x25_2
             replace p13 := eq_true p13
             replace q13 := eq_true q13
             go_wp2
             go_roundg k2
             case measure => have := HJ1.out; have := HK2.out; omega
             case rel => exact ⟨(wrap64 (x25_2 + 1)), (by first | rfl | (simp; done) | (simp [*]; done)), H', ⟨by have := HJ1.out; have := HK2.out; omega⟩, by repeat (first | exact Drawn0.refl _ | apply Drawn0.step)⟩
            ·rw [if_neg c21] at H
             have c21b0 : ((bt a0 x25_2) == 45) = false := beq_eq_false_iff_ne.mpr c21
             have c21b1 : ((bt a0 x25_2) != 45) = true := bne_iff_ne.mpr c21
             obtain rfl := Option.some.inj H
             have p13 : 0 ≤ (x25_2 : Int) := of_decide_eq_true asmS
             have q13 : x25_2 < (a0.size : Int) := of_decide_eq_true asmS
             have hx13 := bt_at a0 x25_2
             replace p13 := eq_true p13
             replace q13 := eq_true q13
             go_wp2
             go_ret
             exact ⟨by first | rfl | (simp; done) | (simp [*]; done), by repeat (first | exact Drawn0.refl _ | apply Drawn0.step)⟩
           ·rw [if_neg c20] at H
            have c20b0 : decide ((bt a0 x25_2) < 48) = false := decide_eq_false c20
            clear c20
            by_cases c22 : (bt a0 x25_2) > 57
            ·rw [if_pos c22] at H
             have c22b0 : decide (57 < (bt a0 x25_2)) = true := decide_eq_true c22
             clear c22
             by_cases c23 : (bt a0 x25_2) = 45
             ·rw [if_pos c23] at H
              have c23b0 : ((bt a0 x25_2) == 45) = true := beq_iff_eq.mpr c23
              have c23b1 : ((bt a0 x25_2) != 45) = false := bne_eq_false_iff_eq.mpr c23
              clear c23
              have H' := Aside0.mk H
              clear H
              have p13 : 0 ≤ (x25_2 : Int) := of_decide_eq_true asmS
              have q13 : x25_2 < (a0.size : Int) := of_decide_eq_true asmS
              have hx13 := bt_at a0 x25_2
              replace p13 := eq_true p13
              replace q13 := eq_true q13
              go_wp2
              go_roundg k2
              case measure => have := HJ1.out; have := HK2.out; omega
              case rel => exact ⟨(wrap64 (x25_2 + 1)), (by first | rfl | (simp; done) | (simp [*]; done)), H', ⟨by have := HJ1.out; have := HK2.out; omega⟩, by repeat (first | exact Drawn0.refl _ | apply Drawn0.step)⟩
             ·rw [if_neg c23] at H
              have c23b0 : ((bt a0 x25_2) == 45) = false := beq_eq_false_iff_ne.mpr c23
              have c23b1 : ((bt a0 x25_2) != 45) = true := bne_iff_ne.mpr c23
              obtain rfl := Option.some.inj H
              have p13 : 0 ≤ (x25_2 : Int) := of_decide_eq_true asmS
              have q13 : x25_2 < (a0.size : Int) := of_decide_eq_true asmS
              have hx13 := bt_at a0 x25_2
              replace p13 := eq_true p13
              replace q13 := eq_true q13
              go_wp2
              go_ret
              exact ⟨by first | rfl | (simp; done) | (simp [*]; done), by repeat (first | exact Drawn0.refl _ | apply Drawn0.step)⟩
            ·rw [if_neg c22] at H
             have c22b0 : decide (57 < (bt a0 x25_2)) = false := decide_eq_false c22
             clear c22
             have H' := Aside0.mk H
             clear H
             have p13 : 0 ≤ (x25_2 : Int) := of_decide_eq_true asmS
             have q13 : x25_2 < (a0.size : Int) := of_decide_eq_true asmS
             have hx13 := bt_at a0 x25_2
             replace p13 := eq_true p13
             replace q13 := eq_true q13
             go_wp2
             go_roundg k2
             case measure => have := HJ1.out; have := HK2.out; omega
             case rel => exact ⟨(wrap64 (x25_2 + 1)), (by first | rfl | (simp; done) | (simp [*]; done)), H', ⟨by have := HJ1.out; have := HK2.out; omega⟩, by repeat (first | exact Drawn0.refl _ | apply Drawn0.step)⟩
          ·rw [if_neg c19] at H
           have c19b0 : decide (122 < (bt a0 x25_2)) = false := decide_eq_false c19
           clear c19
           have H' := Aside0.mk H
           clear H
           have p13 : 0 ≤ (x25_2 : Int) := of_decide_eq_true asmS
           have q13 : x25_2 < (a0.size : Int) := of_decide_eq_true asmS
           have hx13 := bt_at a0 x25_2
           replace p13 := eq_true p13
           replace q13 := eq_true q13
           go_wp2
           go_roundg k2
           case measure => have := HJ1.out; have := HK2.out; omega
           case rel => exact ⟨(wrap64 (x25_2 + 1)), (by first | rfl | (simp; done) | (simp [*]; done)), H', ⟨by have := HJ1.out; have := HK2.out; omega⟩, by repeat (first | exact Drawn0.refl _ | apply Drawn0.step)⟩
        ·rw [if_neg c12] at H
         exact absurd H (by simp)
       ·rw [if_neg c11] at H
        exact absurd H (by simp)
      ·rw [if_neg c10] at H
       have c10b0 : decide (x25_2 < (a0.size : Int)) = false := decide_eq_false c10
       clear c10
       obtain rfl := Option.some.inj H
       go_wp2
       go_ret
       exact ⟨by first | rfl | (simp; done) | (simp [*]; done), by repeat (first | exact Drawn0.refl _ | apply Drawn0.step)⟩
def ident_replica.f (a0 : Int) : Option (Bool) := if a0 ≥ 0 then (some (decide (a0 < 64))) else (some false)
set_option maxHeartbeats 8000000 in
set_option maxRecDepth 100000 in
theorem ident_replica.calls (a0 : Int) (r : Bool) (w : World) (h : ident_replica.f a0 = some r) :
  Calls Try.prog 66 #[.int .i64 a0] w fun e w' => e = .returned (.bool r) ∧ Drawn0 w w' := by
 have H : (if a0 ≥ 0 then (some (decide (a0 < 64))) else (some false)) = some r := h
 clear h
 by_cases c2 : a0 ≥ 0
 ·rw [if_pos c2] at H
  have c2b0 : decide (0 ≤ a0) = true := decide_eq_true c2
  clear c2
  obtain rfl := Option.some.inj H
  go_enter Try.func66, Try.ntmps66
  go_wp2
  go_ret
  exact ⟨by first | rfl | (simp; done) | (simp [*]; done), by repeat (first | exact Drawn0.refl _ | apply Drawn0.step)⟩
 ·rw [if_neg c2] at H
  have c2b0 : decide (0 ≤ a0) = false := decide_eq_false c2
  clear c2
  obtain rfl := Option.some.inj H
  go_enter Try.func66, Try.ntmps66
  go_wp2
  go_ret
  exact ⟨by first | rfl | (simp; done) | (simp [*]; done), by repeat (first | exact Drawn0.refl _ | apply Drawn0.step)⟩
def ident_Right.f (a0_0 : Int) (a0_1 : Int) : Option (Bool) := if a0_0 ≥ 1 then (if a0_0 ≤ 1099511627776 then ((ident_replica.f a0_1).bind fun t125 => (some t125)) else (some false)) else (some false)
set_option maxHeartbeats 8000000 in
set_option maxRecDepth 100000 in
theorem ident_Right.calls (a0_0 : Int) (a0_1 : Int) (r : Bool) (w : World) (h : ident_Right.f a0_0 a0_1 = some r) :
  Calls Try.prog 43 #[.agg #[.int .i64 a0_0, .int .i64 a0_1]] w fun e w' => e = .returned (.bool r) ∧ Below w.heap.size w w' := by
 have hu23 := Try.underlying23
 have HB := Aside0.mk (Below.refl w.heap.size w)
 have H : (if a0_0 ≥ 1 then (if a0_0 ≤ 1099511627776 then ((ident_replica.f a0_1).bind fun t125 => (some t125)) else (some false)) else (some false)) = some r := h
 clear h
 by_cases c2 : a0_0 ≥ 1
 ·rw [if_pos c2] at H
  have c2b0 : decide (1 ≤ a0_0) = true := decide_eq_true c2
  clear c2
  by_cases c3 : a0_0 ≤ 1099511627776
  ·rw [if_pos c3] at H
   have c3b0 : decide (a0_0 ≤ 1099511627776) = true := decide_eq_true c3
   clear c3
   replace H := Option.bind_eq_some_iff.mp H
   obtain ⟨t125, A40, H⟩ := H
   replace H : (some t125) = some r := H
   have A4 := Aside0.mk A40
   clear A40
   obtain rfl := Option.some.inj H
   go_enter Try.func43, Try.ntmps43
   go_wp2_with (first | ((with_reducible refine gate_dst (N := 1) rfl ?_); refine boxE (N := 1) (cs := #[.int .i64 a0_0, .int .i64 a0_1]) (t := 23) ?_; intro gb124 hg w5 hbox hb; have BK124 := Aside0.mk (hbox); have GW124 := Aside0.mk ((by rw [hg]; exact (below_size (bS HB)) : w.heap.size ≤ gb124)); have GE124 := Aside0.mk ((by rw [hg]; exact (below_size (bS HB)) : w.heap.size ≤ gb124)); replace HB := Aside0.mk (below_step (bS HB) hb); clear hb hbox hg; have hcz6_0 : w5.cell? ⟨gb124, 0, none⟩ = some (.int .i64 a0_0) := (blk_cell BK124.out 0).trans rfl; have hcz6_1 : w5.cell? ⟨gb124, 1, none⟩ = some (.int .i64 a0_1) := (blk_cell BK124.out 1).trans rfl; have hfz6_0 := blk_frozen BK124.out 0; have hfz6_1 := blk_frozen BK124.out 1) | (go_at_call 66; (try simp only [← List.length_take, ← List.length_drop]); (with_reducible refine (ident_replica.calls a0_1 t125 _ A4.out).mono ?_); rintro e w' ⟨rfl, ⟨nd, rfl⟩⟩))
   go_ret
   exact ⟨by first | rfl | (simp [errW_none, errW_some] <;> rfl) | (simp [*, errW_none, errW_some] <;> rfl), bS1 HB GE124⟩
  ·rw [if_neg c3] at H
   have c3b0 : decide (a0_0 ≤ 1099511627776) = false := decide_eq_false c3
   clear c3
   obtain rfl := Option.some.inj H
   go_enter Try.func43, Try.ntmps43
   go_wp2_with (first | ((with_reducible refine gate_dst (N := 1) rfl ?_); refine boxE (N := 1) (cs := #[.int .i64 a0_0, .int .i64 a0_1]) (t := 23) ?_; intro gb124 hg w7 hbox hb; have BK124 := Aside0.mk (hbox); have GW124 := Aside0.mk ((by rw [hg]; exact (below_size (bS HB)) : w.heap.size ≤ gb124)); have GE124 := Aside0.mk ((by rw [hg]; exact (below_size (bS HB)) : w.heap.size ≤ gb124)); replace HB := Aside0.mk (below_step (bS HB) hb); clear hb hbox hg; have hcz8_0 : w7.cell? ⟨gb124, 0, none⟩ = some (.int .i64 a0_0) := (blk_cell BK124.out 0).trans rfl; have hcz8_1 : w7.cell? ⟨gb124, 1, none⟩ = some (.int .i64 a0_1) := (blk_cell BK124.out 1).trans rfl; have hfz8_0 := blk_frozen BK124.out 0; have hfz8_1 := blk_frozen BK124.out 1))
   go_ret
   exact ⟨by first | rfl | (simp [errW_none, errW_some] <;> rfl) | (simp [*, errW_none, errW_some] <;> rfl), bS1 HB GE124⟩
 ·rw [if_neg c2] at H
  have c2b0 : decide (1 ≤ a0_0) = false := decide_eq_false c2
  clear c2
  obtain rfl := Option.some.inj H
  go_enter Try.func43, Try.ntmps43
  go_wp2_with (first | ((with_reducible refine gate_dst (N := 1) rfl ?_); refine boxE (N := 1) (cs := #[.int .i64 a0_0, .int .i64 a0_1]) (t := 23) ?_; intro gb124 hg w9 hbox hb; have BK124 := Aside0.mk (hbox); have GW124 := Aside0.mk ((by rw [hg]; exact (below_size (bS HB)) : w.heap.size ≤ gb124)); have GE124 := Aside0.mk ((by rw [hg]; exact (below_size (bS HB)) : w.heap.size ≤ gb124)); replace HB := Aside0.mk (below_step (bS HB) hb); clear hb hbox hg; have hcz10_0 : w9.cell? ⟨gb124, 0, none⟩ = some (.int .i64 a0_0) := (blk_cell BK124.out 0).trans rfl; have hcz10_1 : w9.cell? ⟨gb124, 1, none⟩ = some (.int .i64 a0_1) := (blk_cell BK124.out 1).trans rfl; have hfz10_0 := blk_frozen BK124.out 0; have hfz10_1 := blk_frozen BK124.out 1))
  go_ret
  exact ⟨by first | rfl | (simp [errW_none, errW_some] <;> rfl) | (simp [*, errW_none, errW_some] <;> rfl), bS1 HB GE124⟩
end Go.Proofs.Ytnkbgimihikhoaa.PVt
namespace Go.Proofs.Ytnkbgimihikhoaa.PVt
open Go.RowKit Go.Proofs.YtnkbgimihikhoaaW.PrintWords Go.Proofs.YtnkbgimihikhoaaW.PrintLast Go.Proofs.YtnkbgimihikhoaaW.PrintMore
attribute [local go_sem] max2_int min2_int max_two min_two max_three min_three max_four min_four
set_option linter.unusedVariables false
set_option linter.unusedSimpArgs false
attribute [local go_sem high] eqA23
def ident_Node.f (a0_0 : Int) (a0_1 : Int) : Option (Bool) := (ident_Right.f a0_0 a0_1).bind fun t127 => (if t127 = true then (some true) else (if (a0_0 == 0 && (a0_1 == 0)) = true then (some true) else (some (a0_0 == 0 && (a0_1 == 1)))))
set_option maxHeartbeats 8000000 in
set_option maxRecDepth 100000 in
theorem ident_Node.calls (a0_0 : Int) (a0_1 : Int) (r : Bool) (w : World) (h : ident_Node.f a0_0 a0_1 = some r) :
  Calls Try.prog 42 #[.agg #[.int .i64 a0_0, .int .i64 a0_1]] w fun e w' => e = .returned (.bool r) ∧ Below w.heap.size w w' := by
 have hu23 := Try.underlying23
 have HB := Aside0.mk (Below.refl w.heap.size w)
 have H : ((ident_Right.f a0_0 a0_1).bind fun t127 => (if t127 = true then (some true) else (if (a0_0 == 0 && (a0_1 == 0)) = true then (some true) else (some (a0_0 == 0 && (a0_1 == 1)))))) = some r := h
 clear h
 replace H := Option.bind_eq_some_iff.mp H
 obtain ⟨t127, A20, H⟩ := H
 replace H : (if t127 = true then (some true) else (if (a0_0 == 0 && (a0_1 == 0)) = true then (some true) else (some (a0_0 == 0 && (a0_1 == 1))))) = some r := H
 have A2 := Aside0.mk A20
 clear A20
 by_cases c3 : t127 = true
 ·subst c3
  have H1 : (some true) = some r := by rw [if_pos rfl] at H; exact H
  clear H
  have H := H1
  clear H1
  obtain rfl := Option.some.inj H
  go_enter Try.func42, Try.ntmps42
  go_wp2_with (first | ((with_reducible refine gate_dst (N := 1) rfl ?_); refine boxE (N := 1) (cs := #[.int .i64 a0_0, .int .i64 a0_1]) (t := 23) ?_; intro gb126 hg w4 hbox hb; have BK126 := Aside0.mk (hbox); have GW126 := Aside0.mk ((by rw [hg]; exact (below_size (bS HB)) : w.heap.size ≤ gb126)); have GE126 := Aside0.mk ((by rw [hg]; exact (below_size (bS HB)) : w.heap.size ≤ gb126)); replace HB := Aside0.mk (below_step (bS HB) hb); clear hb hbox hg; have hcz5_0 : w4.cell? ⟨gb126, 0, none⟩ = some (.int .i64 a0_0) := (blk_cell BK126.out 0).trans rfl; have hcz5_1 : w4.cell? ⟨gb126, 1, none⟩ = some (.int .i64 a0_1) := (blk_cell BK126.out 1).trans rfl; have hfz5_0 := blk_frozen BK126.out 0; have hfz5_1 := blk_frozen BK126.out 1) | ((with_reducible refine gate_callee (f := 43) rfl ?_); refine goesL_ (some 4) rfl rfl Try.func43 (by kernel_rfl) rfl #[.agg #[.int .i64 a0_0, .int .i64 a0_1]] rfl argS ?_; (with_reducible refine (ident_Right.calls a0_0 a0_1 true _ A2.out).mono ?_); rintro e w6 ⟨rfl, hb⟩; refine ⟨_, rfl, ?_⟩; replace BK126 := Aside0.mk (blk_below (blkS BK126) hb); replace HB := Aside0.mk (below_step (bS1 HB GE126) hb); (try clear hb)))
  go_ret
  exact ⟨by first | rfl | (simp [errW_none, errW_some] <;> rfl) | (simp [*, errW_none, errW_some] <;> rfl), bS1 HB GE126⟩
 ·replace c3 := Bool.eq_false_iff.mpr c3
  subst c3
  have H1 : (if (a0_0 == 0 && (a0_1 == 0)) = true then (some true) else (some (a0_0 == 0 && (a0_1 == 1)))) = some r := by rw [if_neg (show ¬ (false = true) by decide)] at H; exact H
  clear H
  have H := H1
  clear H1
  by_cases c7 : (a0_0 == 0 && (a0_1 == 0)) = true
  ·rw [if_pos c7] at H
   have c7b0 : (a0_0 == 0 && (a0_1 == 0)) = true := c7
   (try (have c7b1 : decide (a0_0 = 0 && (a0_1 == 0)) = true := by simpa using c7))
   (try (have c7b2 : (a0_0 == 0 && (a0_1 == 0)) = true := by simpa using c7))
   clear c7
   obtain rfl := Option.some.inj H
   go_enter Try.func42, Try.ntmps42
   go_wp2_with (first | ((with_reducible refine gate_dst (N := 1) rfl ?_); refine boxE (N := 1) (cs := #[.int .i64 a0_0, .int .i64 a0_1]) (t := 23) ?_; intro gb126 hg w8 hbox hb; have BK126 := Aside0.mk (hbox); have GW126 := Aside0.mk ((by rw [hg]; exact (below_size (bS HB)) : w.heap.size ≤ gb126)); have GE126 := Aside0.mk ((by rw [hg]; exact (below_size (bS HB)) : w.heap.size ≤ gb126)); replace HB := Aside0.mk (below_step (bS HB) hb); clear hb hbox hg; have hcz9_0 : w8.cell? ⟨gb126, 0, none⟩ = some (.int .i64 a0_0) := (blk_cell BK126.out 0).trans rfl; have hcz9_1 : w8.cell? ⟨gb126, 1, none⟩ = some (.int .i64 a0_1) := (blk_cell BK126.out 1).trans rfl; have hfz9_0 := blk_frozen BK126.out 0; have hfz9_1 := blk_frozen BK126.out 1) | ((with_reducible refine gate_callee (f := 43) rfl ?_); refine goesL_ (some 4) rfl rfl Try.func43 (by kernel_rfl) rfl #[.agg #[.int .i64 a0_0, .int .i64 a0_1]] rfl argS ?_; (with_reducible refine (ident_Right.calls a0_0 a0_1 false _ A2.out).mono ?_); rintro e w10 ⟨rfl, hb⟩; refine ⟨_, rfl, ?_⟩; replace BK126 := Aside0.mk (blk_below (blkS BK126) hb); replace HB := Aside0.mk (below_step (bS1 HB GE126) hb); (try clear hb); have hcz11_0 : w10.cell? ⟨gb126, 0, none⟩ = some (.int .i64 a0_0) := (blk_cell BK126.out 0).trans rfl; have hcz11_1 : w10.cell? ⟨gb126, 1, none⟩ = some (.int .i64 a0_1) := (blk_cell BK126.out 1).trans rfl; have hfz11_0 := blk_frozen BK126.out 0; have hfz11_1 := blk_frozen BK126.out 1))
   go_ret
   exact ⟨by first | rfl | (simp [errW_none, errW_some] <;> rfl) | (simp [*, errW_none, errW_some] <;> rfl), bS1 HB GE126⟩
  ·rw [if_neg c7] at H
   have c7b0 : (a0_0 == 0 && (a0_1 == 0)) = false := by simpa using c7
   (try (have c7b1 : decide (a0_0 = 0 && (a0_1 == 0)) = false := by simpa using c7))
   (try (have c7b2 : (a0_0 == 0 && (a0_1 == 0)) = false := by simpa using c7))
   (try (have c7b3 : ¬ (a0_0 = 0 && (a0_1 == 0)) := by simpa using c7))
   clear c7
   obtain rfl := Option.some.inj H
   go_enter Try.func42, Try.ntmps42
   go_wp2_with (first | ((with_reducible refine gate_dst (N := 1) rfl ?_); refine boxE (N := 1) (cs := #[.int .i64 a0_0, .int .i64 a0_1]) (t := 23) ?_; intro gb126 hg w12 hbox hb; have BK126 := Aside0.mk (hbox); have GW126 := Aside0.mk ((by rw [hg]; exact (below_size (bS HB)) : w.heap.size ≤ gb126)); have GE126 := Aside0.mk ((by rw [hg]; exact (below_size (bS HB)) : w.heap.size ≤ gb126)); replace HB := Aside0.mk (below_step (bS HB) hb); clear hb hbox hg; have hcz13_0 : w12.cell? ⟨gb126, 0, none⟩ = some (.int .i64 a0_0) := (blk_cell BK126.out 0).trans rfl; have hcz13_1 : w12.cell? ⟨gb126, 1, none⟩ = some (.int .i64 a0_1) := (blk_cell BK126.out 1).trans rfl; have hfz13_0 := blk_frozen BK126.out 0; have hfz13_1 := blk_frozen BK126.out 1) | ((with_reducible refine gate_callee (f := 43) rfl ?_); refine goesL_ (some 4) rfl rfl Try.func43 (by kernel_rfl) rfl #[.agg #[.int .i64 a0_0, .int .i64 a0_1]] rfl argS ?_; (with_reducible refine (ident_Right.calls a0_0 a0_1 false _ A2.out).mono ?_); rintro e w14 ⟨rfl, hb⟩; refine ⟨_, rfl, ?_⟩; replace BK126 := Aside0.mk (blk_below (blkS BK126) hb); replace HB := Aside0.mk (below_step (bS1 HB GE126) hb); (try clear hb); have hcz15_0 : w14.cell? ⟨gb126, 0, none⟩ = some (.int .i64 a0_0) := (blk_cell BK126.out 0).trans rfl; have hcz15_1 : w14.cell? ⟨gb126, 1, none⟩ = some (.int .i64 a0_1) := (blk_cell BK126.out 1).trans rfl; have hfz15_0 := blk_frozen BK126.out 0; have hfz15_1 := blk_frozen BK126.out 1))
   go_ret
   exact ⟨by first | rfl | (simp [errW_none, errW_some] <;> rfl) | (simp [*, errW_none, errW_some] <;> rfl), bS1 HB GE126⟩
end Go.Proofs.Ytnkbgimihikhoaa.PVt
namespace Go.Proofs.Ytnkbgimihikhoaa.PVt
open Go.RowKit Go.Proofs.YtnkbgimihikhoaaW.PrintWords Go.Proofs.YtnkbgimihikhoaaW.PrintLast Go.Proofs.YtnkbgimihikhoaaW.PrintMore
attribute [local go_sem] max2_int min2_int max_two min_two max_three min_three max_four min_four
set_option linter.unusedVariables false
set_option linter.unusedSimpArgs false
theorem eqA99 (d : Nat) (w : World) (x0 y0 : ByteArray) (x1 y1 : ByteArray) :
  (Op.equalIn (d + 2) 99 (.agg #[.string x0, .string x1]) (.agg #[.string y0, .string y1])).run Try.prog w = .ok (x0.toList == y0.toList && (x1.toList == y1.toList)) w := by
 refine eqA_of Try.underlying99 (by kernel_rfl) ?_
 refine eqf_cons (by rfl) (by go_simp; rfl) (by go_simp; rfl) (by go_simp) ?_
 exact eqf_last (by rfl) (by go_simp; rfl) (by go_simp; rfl) (by go_simp)
end Go.Proofs.Ytnkbgimihikhoaa.PVt
namespace Go.Proofs.Ytnkbgimihikhoaa.PVt
open Go.RowKit Go.Proofs.YtnkbgimihikhoaaW.PrintWords Go.Proofs.YtnkbgimihikhoaaW.PrintLast Go.Proofs.YtnkbgimihikhoaaW.PrintMore
attribute [local go_sem] max2_int min2_int max_two min_two max_three min_three max_four min_four
set_option linter.unusedVariables false
set_option linter.unusedSimpArgs false
attribute [local go_sem high] eqA99
def topiaryref15_SameAttrs.l0 : Nat → List (S99) → List (S99) → Int → Option (Bool)
 | 0, _, _, _ => none
 | k + 1, x0, x1, x5 => if x5 < (x0.length : Int) then (if 0 ≤ x5 then (if x5 < (x1.length : Int) then (if (!((((rd_T99 x0 x5).f0).toList) == (((rd_T99 x1 x5).f0).toList)) || (!((((rd_T99 x0 x5).f1).toList) == (((rd_T99 x1 x5).f1).toList)))) = true then (some false) else (topiaryref15_SameAttrs.l0 k x0 x1 (wrap64 (x5 + 1)))) else (none)) else (none)) else (some true)
def topiaryref15_SameAttrs.f (k : Nat) (l0 : List (S99)) (l1 : List (S99)) : Option (Bool) := if (l0.length : Int) = (l1.length : Int) then (topiaryref15_SameAttrs.l0 k l0 l1 0) else (some false)
set_option maxHeartbeats 8000000 in
set_option maxRecDepth 100000 in
theorem topiaryref15_SameAttrs.calls (k : Nat) (A0 : Option Addr) (c0 : Nat) (l0 : List (S99)) (A1 : Option Addr) (c1 : Nat) (l1 : List (S99)) (r : Bool) (w : World) (hr0 : Kd.C k99 w A0 l0.length l0) (hc0 : l0.length ≤ c0) (hr1 : Kd.C k99 w A1 l1.length l1) (hc1 : l1.length ≤ c1) (h : topiaryref15_SameAttrs.f k l0 l1 = some r) :
  Calls Try.prog 48 #[.slice A0 l0.length c0, .slice A1 l1.length c1] w fun e w' => e = .returned (.bool r) ∧ Drawn0 w w' := by
 have hu99 := Try.underlying99
 have HR0 := Aside0.mk hr0
 have HC0 := Aside0.mk hc0
 clear hr0 hc0
 have HR1 := Aside0.mk hr1
 have HC1 := Aside0.mk hc1
 clear hr1 hc1
 have H : (if (l0.length : Int) = (l1.length : Int) then (topiaryref15_SameAttrs.l0 k l0 l1 0) else (some false)) = some r := h
 clear h
 by_cases c3 : (l0.length : Int) = (l1.length : Int)
 ·rw [if_pos c3] at H
  have c3b0 : ((l0.length : Int) == (l1.length : Int)) = true := beq_iff_eq.mpr c3
  have c3b1 : ((l0.length : Int) != (l1.length : Int)) = false := bne_eq_false_iff_eq.mpr c3
  have c3b2 : (l0.length == l1.length) = true := by first | simpa using c3 | (simp at c3 ⊢; omega)
  clear c3
  have H' := Aside0.mk H
  clear H
  go_enter Try.func48, Try.ntmps48
  go_wp2
  repeat (go_quiet (fail); try go_wp2)
  go_loopg [5] k (fun kq v5 w' => ∃ (x5_1 : Int), v5 = .int .i64 x5_1 ∧ Aside0 (topiaryref15_SameAttrs.l0 kq l0 l1 x5_1 = some r) ∧ Aside0 (kq ≤ k) ∧ Drawn0 w w')
  case atStart => exact ⟨(0), (by first | rfl | (simp; done) | (simp [*]; done)), H', ⟨Nat.le_refl _⟩, by repeat (first | exact Drawn0.refl _ | apply Drawn0.step)⟩
  case round =>
   clear H'
   (try clear c1); (try clear p2); (try clear c3); (try clear c3b0); (try clear c3b1); (try clear c3b2)
   obtain ⟨x5_1, rfl, HA, HK1, ⟨m1, rfl⟩⟩ := hrel
   cases gk with
   | zero => exact absurd HA.out (by simp [topiaryref15_SameAttrs.l0])
   | succ k1 =>
    have H := HA.out
    clear HA
    simp only [topiaryref15_SameAttrs.l0] at H
    by_cases c4 : x5_1 < (l0.length : Int)
    ·rw [if_pos c4] at H
     have c4b0 : decide (x5_1 < (l0.length : Int)) = true := decide_eq_true c4
     clear c4
     by_cases c5 : 0 ≤ x5_1
     ·rw [if_pos c5] at H
      have c5b0 : decide (0 ≤ x5_1) = true := decide_eq_true c5
      clear c5
      by_cases c6 : x5_1 < (l1.length : Int)
      ·rw [if_pos c6] at H
       have c6b0 : decide (x5_1 < (l1.length : Int)) = true := decide_eq_true c6
       clear c6
       by_cases c7 : (!((((rd_T99 l0 x5_1).f0).toList) == (((rd_T99 l1 x5_1).f0).toList)) || (!((((rd_T99 l0 x5_1).f1).toList) == (((rd_T99 l1 x5_1).f1).toList)))) = true
       ·rw [if_pos c7] at H
        have c7b0 : (!((((rd_T99 l0 x5_1).f0).toList) == (((rd_T99 l1 x5_1).f0).toList)) || (!((((rd_T99 l0 x5_1).f1).toList) == (((rd_T99 l1 x5_1).f1).toList)))) = true := c7
        clear c7
        obtain rfl := Option.some.inj H
        have p153 : 0 ≤ (x5_1 : Int) := of_decide_eq_true asmS
        have q153 : x5_1 < (l0.length : Int) := of_decide_eq_true asmS
        obtain ⟨ad153, e153, hx153_0, hx153_1⟩ := at_T99 HR0.out x5_1 p153 q153
        cases e153
        replace p153 := eq_true p153
        replace q153 := eq_true q153
        have p154 : 0 ≤ (x5_1 : Int) := of_decide_eq_true asmS
        have q154 : x5_1 < (l1.length : Int) := of_decide_eq_true asmS
        obtain ⟨ad154, e154, hx154_0, hx154_1⟩ := at_T99 HR1.out x5_1 p154 q154
        cases e154
        replace p154 := eq_true p154
        replace q154 := eq_true q154
        go_wp2
        repeat (go_quiet (fail); try go_wp2)
        go_ret
        exact ⟨by first | rfl | (simp; done) | (simp [*]; done), by repeat (first | exact Drawn0.refl _ | apply Drawn0.step)⟩
       ·rw [if_neg c7] at H
        have c7b0 : (!((((rd_T99 l0 x5_1).f0).toList) == (((rd_T99 l1 x5_1).f0).toList)) || (!((((rd_T99 l0 x5_1).f1).toList) == (((rd_T99 l1 x5_1).f1).toList)))) = false := by simpa using c7
        clear c7
        have H' := Aside0.mk H
        clear H
        have p153 : 0 ≤ (x5_1 : Int) := of_decide_eq_true asmS
        have q153 : x5_1 < (l0.length : Int) := of_decide_eq_true asmS
        obtain ⟨ad153, e153, hx153_0, hx153_1⟩ := at_T99 HR0.out x5_1 p153 q153
        cases e153
        replace p153 := eq_true p153
        replace q153 := eq_true q153
        have p154 : 0 ≤ (x5_1 : Int) := of_decide_eq_true asmS
        have q154 : x5_1 < (l1.length : Int) := of_decide_eq_true asmS
        obtain ⟨ad154, e154, hx154_0, hx154_1⟩ := at_T99 HR1.out x5_1 p154 q154
        cases e154
        replace p154 := eq_true p154
        replace q154 := eq_true q154
        go_wp2
        repeat (go_quiet (fail); try go_wp2)
        go_roundg k1
        case measure => have := HK1.out; omega
        case rel => exact ⟨(wrap64 (x5_1 + 1)), (by first | rfl | (simp; done) | (simp [*]; done)), H', ⟨by have := HK1.out; omega⟩, by repeat (first | exact Drawn0.refl _ | apply Drawn0.step)⟩
      ·rw [if_neg c6] at H
       exact absurd H (by simp)
     ·rw [if_neg c5] at H
      exact absurd H (by simp)
    ·rw [if_neg c4] at H
     have c4b0 : decide (x5_1 < (l0.length : Int)) = false := decide_eq_false c4
     clear c4
     obtain rfl := Option.some.inj H
     go_wp2
     repeat (go_quiet (fail); try go_wp2)
     go_ret
     exact ⟨by first | rfl | (simp; done) | (simp [*]; done), by repeat (first | exact Drawn0.refl _ | apply Drawn0.step)⟩
 ·rw [if_neg c3] at H
  have c3b0 : ((l0.length : Int) == (l1.length : Int)) = false := beq_eq_false_iff_ne.mpr c3
  have c3b1 : ((l0.length : Int) != (l1.length : Int)) = true := bne_iff_ne.mpr c3
  have c3b2 : (l0.length == l1.length) = false := by first | simpa using c3 | (simp at c3 ⊢; omega)
  obtain rfl := Option.some.inj H
  go_enter Try.func48, Try.ntmps48
  go_wp2
  repeat (go_quiet (fail); try go_wp2)
  go_ret
  exact ⟨by first | rfl | (simp; done) | (simp [*]; done), by repeat (first | exact Drawn0.refl _ | apply Drawn0.step)⟩
end Go.Proofs.Ytnkbgimihikhoaa.PVt
namespace Go.Proofs.Ytnkbgimihikhoaa.PVt
open Go.RowKit Go.Proofs.YtnkbgimihikhoaaW.PrintWords Go.Proofs.YtnkbgimihikhoaaW.PrintLast Go.Proofs.YtnkbgimihikhoaaW.PrintMore
attribute [local go_sem] max2_int min2_int max_two min_two max_three min_three max_four min_four
set_option linter.unusedVariables false
set_option linter.unusedSimpArgs false
attribute [local go_sem high] eqA23
mutual
def topiaryref15_Same.j0 : Nat → Bool → Int → Int → ByteArray → ByteArray → List (S99) → List (S27) → Int → Int → ByteArray → ByteArray → List (S99) → List (S27) → Option (Bool)
 | 0, _, _, _, _, _, _, _, _, _, _, _, _, _ => none
 | k + 1, x41, x156000, x156001, x156002, x156003, x156004, x156005, x157000, x157001, x157002, x157003, x157004, x157005 => if x41 = true then (some false) else (topiaryref15_Same.l0 k 0 x156000 x156001 x156002 x156003 x156004 x156005 x157000 x157001 x157002 x157003 x157004 x157005)
def topiaryref15_Same.l0 : Nat → Int → Int → Int → ByteArray → ByteArray → List (S99) → List (S27) → Int → Int → ByteArray → ByteArray → List (S99) → List (S27) → Option (Bool)
 | 0, _, _, _, _, _, _, _, _, _, _, _, _, _ => none
 | k + 1, x5, x156000, x156001, x156002, x156003, x156004, x156005, x157000, x157001, x157002, x157003, x157004, x157005 => if x5 < (x156005.length : Int) then (if 0 ≤ x5 then (if x5 < (x157005.length : Int) then ((topiaryref15_Same.f k ((rd_T27 x156005 x5).f0.f0) ((rd_T27 x156005 x5).f0.f1) ((rd_T27 x156005 x5).f1) ((rd_T27 x156005 x5).f2) ((rd_T27 x156005 x5).f3) ((rd_T27 x156005 x5).f4) ((rd_T27 x157005 x5).f0.f0) ((rd_T27 x157005 x5).f0.f1) ((rd_T27 x157005 x5).f1) ((rd_T27 x157005 x5).f2) ((rd_T27 x157005 x5).f3) ((rd_T27 x157005 x5).f4)).bind fun t160 => (if t160 = true then (topiaryref15_Same.l0 k (wrap64 (x5 + 1)) x156000 x156001 x156002 x156003 x156004 x156005 x157000 x157001 x157002 x157003 x157004 x157005) else (some false))) else (none)) else (none)) else (some true)
def topiaryref15_Same.f : Nat → Int → Int → ByteArray → ByteArray → List (S99) → List (S27) → Int → Int → ByteArray → ByteArray → List (S99) → List (S27) → Option (Bool)
 | 0, _, _, _, _, _, _, _, _, _, _, _, _ => none
 | k + 1, a0_0, a0_1, a0_2, a0_3, l0_4, l0_5, a1_0, a1_1, a1_2, a1_3, l1_4, l1_5 => if (!(a0_0 == a1_0) || (!(a0_1 == a1_1))) = true then (topiaryref15_Same.j0 k true a0_0 a0_1 a0_2 a0_3 l0_4 l0_5 a1_0 a1_1 a1_2 a1_3 l1_4 l1_5) else (if a0_2.toList = a1_2.toList then (if a0_3.toList = a1_3.toList then ((topiaryref15_SameAttrs.f k l0_4 l1_4).bind fun t157 => (if t157 = true then (topiaryref15_Same.j0 k ((l0_5.length : Int) != (l1_5.length : Int)) a0_0 a0_1 a0_2 a0_3 l0_4 l0_5 a1_0 a1_1 a1_2 a1_3 l1_4 l1_5) else (topiaryref15_Same.j0 k true a0_0 a0_1 a0_2 a0_3 l0_4 l0_5 a1_0 a1_1 a1_2 a1_3 l1_4 l1_5))) else (topiaryref15_Same.j0 k true a0_0 a0_1 a0_2 a0_3 l0_4 l0_5 a1_0 a1_1 a1_2 a1_3 l1_4 l1_5)) else (topiaryref15_Same.j0 k true a0_0 a0_1 a0_2 a0_3 l0_4 l0_5 a1_0 a1_1 a1_2 a1_3 l1_4 l1_5))
end
def topiaryref15_Same.T6 : Bool × List (List Nat × List Nat) := (true, [([], []), ([0], [0]), ([], []), ([1, 2], [1, 2]), ([3], [3]), ([], []), ([5], [5]), ([], []), ([6, 7], [6, 7]), ([8], [8]), ([4, 9], [4, 9]), ([10], [10])])
def topiaryref15_Same.B6 : List Nat := [0, 1, 0, 7, 15, 0, 32, 0, 224, 480, 1023, 2047]
theorem topiaryref15_Same.tab6 : rtab .any (opsOf Try.f14 6) = topiaryref15_Same.T6 := by kernel_rfl
theorem topiaryref15_Same.bits6 : waitsOk topiaryref15_Same.T6.2 topiaryref15_Same.B6 = true := by kernel_rfl
set_option maxHeartbeats 8000000 in
set_option maxRecDepth 100000 in
theorem topiaryref15_Same.calls (k : Nat) : ∀ (a0_0 : Int) (a0_1 : Int) (a0_2 : ByteArray) (a0_3 : ByteArray) (A0_4 : Option Addr) (c0_4 : Nat) (l0_4 : List (S99)) (A0_5 : Option Addr) (c0_5 : Nat) (l0_5 : List (S27)) (a1_0 : Int) (a1_1 : Int) (a1_2 : ByteArray) (a1_3 : ByteArray) (A1_4 : Option Addr) (c1_4 : Nat) (l1_4 : List (S99)) (A1_5 : Option Addr) (c1_5 : Nat) (l1_5 : List (S27)) (r : Bool) (w : World) (hr0_4 : Kd.C k99 w A0_4 l0_4.length l0_4) (hc0_4 : l0_4.length ≤ c0_4) (hr0_5 : Kd.C k27 w A0_5 l0_5.length l0_5) (hc0_5 : l0_5.length ≤ c0_5) (hr1_4 : Kd.C k99 w A1_4 l1_4.length l1_4) (hc1_4 : l1_4.length ≤ c1_4) (hr1_5 : Kd.C k27 w A1_5 l1_5.length l1_5) (hc1_5 : l1_5.length ≤ c1_5) (h : topiaryref15_Same.f k a0_0 a0_1 a0_2 a0_3 l0_4 l0_5 a1_0 a1_1 a1_2 a1_3 l1_4 l1_5 = some r),
  Calls Try.prog 14 #[.agg #[.int .i64 a0_0, .int .i64 a0_1, .string a0_2, .string a0_3, .slice A0_4 l0_4.length c0_4, .slice A0_5 l0_5.length c0_5], .agg #[.int .i64 a1_0, .int .i64 a1_1, .string a1_2, .string a1_3, .slice A1_4 l1_4.length c1_4, .slice A1_5 l1_5.length c1_5]] w fun e w' => e = .returned (.bool r) ∧ Below w.heap.size w w' := by
 induction k using Nat.strongRecOn with
 | _ k ih =>
 intro a0_0 a0_1 a0_2 a0_3 A0_4 c0_4 l0_4 A0_5 c0_5 l0_5 a1_0 a1_1 a1_2 a1_3 A1_4 c1_4 l1_4 A1_5 c1_5 l1_5 r w hr0_4 hc0_4 hr0_5 hc0_5 hr1_4 hc1_4 hr1_5 hc1_5 h
 cases k with
 | zero => exact absurd h (by simp [topiaryref15_Same.f])
 | succ k =>
 simp only [topiaryref15_Same.f] at h
 have hu27 := Try.underlying27
 have hu23 := Try.underlying23
 have HR0_4 := Aside0.mk hr0_4
 have HC0_4 := Aside0.mk hc0_4
 clear hr0_4 hc0_4
 have HR0_5 := Aside0.mk hr0_5
 have HC0_5 := Aside0.mk hc0_5
 clear hr0_5 hc0_5
 have HR1_4 := Aside0.mk hr1_4
 have HC1_4 := Aside0.mk hc1_4
 clear hr1_4 hc1_4
 have HR1_5 := Aside0.mk hr1_5
 have HC1_5 := Aside0.mk hc1_5
 clear hr1_5 hc1_5
 have HB := Aside0.mk (Below.refl w.heap.size w)
 have H : (if (!(a0_0 == a1_0) || (!(a0_1 == a1_1))) = true then (topiaryref15_Same.j0 k true a0_0 a0_1 a0_2 a0_3 l0_4 l0_5 a1_0 a1_1 a1_2 a1_3 l1_4 l1_5) else (if a0_2.toList = a1_2.toList then (if a0_3.toList = a1_3.toList then ((topiaryref15_SameAttrs.f k l0_4 l1_4).bind fun t157 => (if t157 = true then (topiaryref15_Same.j0 k ((l0_5.length : Int) != (l1_5.length : Int)) a0_0 a0_1 a0_2 a0_3 l0_4 l0_5 a1_0 a1_1 a1_2 a1_3 l1_4 l1_5) else (topiaryref15_Same.j0 k true a0_0 a0_1 a0_2 a0_3 l0_4 l0_5 a1_0 a1_1 a1_2 a1_3 l1_4 l1_5))) else (topiaryref15_Same.j0 k true a0_0 a0_1 a0_2 a0_3 l0_4 l0_5 a1_0 a1_1 a1_2 a1_3 l1_4 l1_5)) else (topiaryref15_Same.j0 k true a0_0 a0_1 a0_2 a0_3 l0_4 l0_5 a1_0 a1_1 a1_2 a1_3 l1_4 l1_5))) = some r := h
 clear h
 have HC3 := Aside0.mk H
 clear H
 go_enter Try.func14, Try.ntmps14
 go_upto_region 1 with (first | ((with_reducible refine gate_dst (N := 2) rfl ?_); (try (refine gate_guard (by rfl) ?_; dsimp only)); refine boxE (N := 2) (cs := #[.int .i64 a0_0, .int .i64 a0_1, .string a0_2, .string a0_3, .slice A0_4 l0_4.length c0_4, .slice A0_5 l0_5.length c0_5]) (t := 27) ?_; intro gb155 hg w4 hbox hb; have BK155 := Aside0.mk (hbox); have GW155 := Aside0.mk ((by rw [hg]; exact (below_size (bS HB)) : w.heap.size ≤ gb155)); have GE155 := Aside0.mk ((by rw [hg]; exact (below_size (bS HB)) : w.heap.size ≤ gb155)); replace HB := Aside0.mk (below_step (bS HB) hb); clear hb hbox hg) | ((with_reducible refine gate_dst (N := 3) rfl ?_); (try (refine gate_guard (by rfl) ?_; dsimp only)); refine boxE (N := 3) (cs := #[.int .i64 a1_0, .int .i64 a1_1, .string a1_2, .string a1_3, .slice A1_4 l1_4.length c1_4, .slice A1_5 l1_5.length c1_5]) (t := 27) ?_; intro gb156 hg w5 hbox hb; have BK156 := Aside0.mk (hbox); have GW156 := Aside0.mk ((by rw [hg]; exact (below_size (bS1 HB GE155)) : w.heap.size ≤ gb156)); have GE156 := Aside0.mk ((by rw [hg]; exact (below_size (bS1 HB GE155)) : w.heap.size ≤ gb156)); have NB155_156 := nLt BK155 hg; have NB156_155 := nGt BK155 hg; replace BK155 := bB BK155 hb; replace HB := Aside0.mk (below_step (bS1 HB GE155) hb); clear hb hbox hg))
 (try simp only [Act.put, List.setIfInBounds_toArray, List.set_cons_zero, List.set_cons_succ])
 go_cut [41] (fun v41 wc => ∃ (kq : Nat) (x41_2 : Bool), v41 = .bool x41_2 ∧ Aside0 (topiaryref15_Same.j0 kq x41_2 a0_0 a0_1 a0_2 a0_3 l0_4 l0_5 a1_0 a1_1 a1_2 a1_3 l1_4 l1_5 = some r) ∧ Aside0 (kq ≤ k) ∧ Aside0 (wc.heap[gb155]? = some (.cells #[.int .i64 a0_0, .int .i64 a0_1, .string a0_2, .string a0_3, (.slice A0_4 l0_4.length c0_4), (.slice A0_5 l0_5.length c0_5)] 27 (0, 0))) ∧ Aside0 (wc.heap[gb156]? = some (.cells #[.int .i64 a1_0, .int .i64 a1_1, .string a1_2, .string a1_3, (.slice A1_4 l1_4.length c1_4), (.slice A1_5 l1_5.length c1_5)] 27 (0, 0))) ∧ Aside0 (Below w.heap.size w wc))
 case first =>
  have H := HC3.out
  clear HC3
  by_cases c6 : (!(a0_0 == a1_0) || (!(a0_1 == a1_1))) = true
  ·rw [if_pos c6] at H
   have c6b0 : (!(a0_0 == a1_0) || (!(a0_1 == a1_1))) = true := c6
   clear c6
   (first | rw [c6b0] | (simp only [i64_w, i32_w]; rw [c6b0]) | skip)
   have H' := Aside0.mk H
   clear H
   have hnb7 := NB155_156.out
   have hnc7 := NB156_155.out
   obtain ⟨hcz8_0, hcz8_1, hcz8_2, hcz8_3, hcz8_4, hcz8_5, hfz8_0, hfz8_1, hfz8_2, hfz8_3, hfz8_4, hfz8_5⟩ := b6e BK155
   obtain ⟨hcz9_0, hcz9_1, hcz9_2, hcz9_3, hcz9_4, hcz9_5, hfz9_0, hfz9_1, hfz9_2, hfz9_3, hfz9_4, hfz9_5⟩ := b6e BK156
   go_wp2
   go_meet
   case rel => exact ⟨_, (true), (by first | rfl | (simp; done) | (simp [*]; done)), H', ⟨by first | omega | exact Nat.le_refl _⟩, ⟨by (with_reducible repeat (first | refine blk_drewN ?_ _ | refine blk_drew ?_ | refine blk_alloc ?_ _)); exact BK155.out⟩, ⟨by (with_reducible repeat (first | refine blk_drewN ?_ _ | refine blk_drew ?_ | refine blk_alloc ?_ _)); exact BK156.out⟩, ⟨bS2 HB GE155 GE156⟩⟩
  ·rw [if_neg c6] at H
   have c6b0 : (!(a0_0 == a1_0) || (!(a0_1 == a1_1))) = false := by simpa using c6
   clear c6
   (first | rw [c6b0] | (simp only [i64_w, i32_w]; rw [c6b0]) | skip)
   by_cases c10 : a0_2.toList = a1_2.toList
   ·rw [if_pos c10] at H
    have c10b0 : (a0_2.toList == a1_2.toList) = true := beq_iff_eq.mpr c10
    have c10b1 : (a0_2.toList != a1_2.toList) = false := bne_eq_false_iff_eq.mpr c10
    clear c10
    by_cases c11 : a0_3.toList = a1_3.toList
    ·rw [if_pos c11] at H
     have c11b0 : (a0_3.toList == a1_3.toList) = true := beq_iff_eq.mpr c11
     have c11b1 : (a0_3.toList != a1_3.toList) = false := bne_eq_false_iff_eq.mpr c11
     clear c11
     replace H := Option.bind_eq_some_iff.mp H
     obtain ⟨t157, A120, H⟩ := H
     replace H : (if t157 = true then (topiaryref15_Same.j0 k ((l0_5.length : Int) != (l1_5.length : Int)) a0_0 a0_1 a0_2 a0_3 l0_4 l0_5 a1_0 a1_1 a1_2 a1_3 l1_4 l1_5) else (topiaryref15_Same.j0 k true a0_0 a0_1 a0_2 a0_3 l0_4 l0_5 a1_0 a1_1 a1_2 a1_3 l1_4 l1_5)) = some r := H
     have A12 := Aside0.mk A120
     clear A120
     by_cases c13 : t157 = true
     ·subst c13
      have H1 : (topiaryref15_Same.j0 k ((l0_5.length : Int) != (l1_5.length : Int)) a0_0 a0_1 a0_2 a0_3 l0_4 l0_5 a1_0 a1_1 a1_2 a1_3 l1_4 l1_5) = some r := by rw [if_pos rfl] at H; exact H
      clear H
      have H := H1
      clear H1
      have H' := Aside0.mk H
      clear H
      have hnb14 := NB155_156.out
      have hnc14 := NB156_155.out
      obtain ⟨hcz15_0, hcz15_1, hcz15_2, hcz15_3, hcz15_4, hcz15_5, hfz15_0, hfz15_1, hfz15_2, hfz15_3, hfz15_4, hfz15_5⟩ := b6e BK155
      obtain ⟨hcz16_0, hcz16_1, hcz16_2, hcz16_3, hcz16_4, hcz16_5, hfz16_0, hfz16_1, hfz16_2, hfz16_3, hfz16_4, hfz16_5⟩ := b6e BK156
      go_wp2_with (first | (go_at_call 48; (try simp only [← List.length_take, ← List.length_drop]); (with_reducible refine (topiaryref15_SameAttrs.calls k _ _ l0_4 _ _ l1_4 true _ ?side1 ?side2 ?side3 ?side4 A12.out).mono ?_); (case side1 => exact CS (Kd.C_below HR0_4.out HB.out)); (case side2 => exact HC0_4.out); (case side3 => exact CS (Kd.C_below HR1_4.out HB.out)); (case side4 => exact HC1_4.out); rintro e w' ⟨rfl, ⟨nd, rfl⟩⟩))
      go_meet
      case rel => exact ⟨_, (((l0_5.length : Int) != (l1_5.length : Int))), (by first | rfl | (simp; done) | (simp [*]; done)), H', ⟨by first | omega | exact Nat.le_refl _⟩, ⟨by (with_reducible repeat (first | refine blk_drewN ?_ _ | refine blk_drew ?_ | refine blk_alloc ?_ _)); exact BK155.out⟩, ⟨by (with_reducible repeat (first | refine blk_drewN ?_ _ | refine blk_drew ?_ | refine blk_alloc ?_ _)); exact BK156.out⟩, ⟨bS2 HB GE155 GE156⟩⟩
     ·replace c13 := Bool.eq_false_iff.mpr c13
      subst c13
      have H1 : (topiaryref15_Same.j0 k true a0_0 a0_1 a0_2 a0_3 l0_4 l0_5 a1_0 a1_1 a1_2 a1_3 l1_4 l1_5) = some r := by rw [if_neg (show ¬ (false = true) by decide)] at H; exact H
      clear H
      have H := H1
      clear H1
      have H' := Aside0.mk H
      clear H
      have hnb17 := NB155_156.out
      have hnc17 := NB156_155.out
      obtain ⟨hcz18_0, hcz18_1, hcz18_2, hcz18_3, hcz18_4, hcz18_5, hfz18_0, hfz18_1, hfz18_2, hfz18_3, hfz18_4, hfz18_5⟩ := b6e BK155
      obtain ⟨hcz19_0, hcz19_1, hcz19_2, hcz19_3, hcz19_4, hcz19_5, hfz19_0, hfz19_1, hfz19_2, hfz19_3, hfz19_4, hfz19_5⟩ := b6e BK156
      go_wp2_with (first | (go_at_call 48; (try simp only [← List.length_take, ← List.length_drop]); (with_reducible refine (topiaryref15_SameAttrs.calls k _ _ l0_4 _ _ l1_4 false _ ?side1 ?side2 ?side3 ?side4 A12.out).mono ?_); (case side1 => exact CS (Kd.C_below HR0_4.out HB.out)); (case side2 => exact HC0_4.out); (case side3 => exact CS (Kd.C_below HR1_4.out HB.out)); (case side4 => exact HC1_4.out); rintro e w' ⟨rfl, ⟨nd, rfl⟩⟩))
      go_meet
      case rel => exact ⟨_, (true), (by first | rfl | (simp; done) | (simp [*]; done)), H', ⟨by first | omega | exact Nat.le_refl _⟩, ⟨by (with_reducible repeat (first | refine blk_drewN ?_ _ | refine blk_drew ?_ | refine blk_alloc ?_ _)); exact BK155.out⟩, ⟨by (with_reducible repeat (first | refine blk_drewN ?_ _ | refine blk_drew ?_ | refine blk_alloc ?_ _)); exact BK156.out⟩, ⟨bS2 HB GE155 GE156⟩⟩
    ·rw [if_neg c11] at H
     have c11b0 : (a0_3.toList == a1_3.toList) = false := beq_eq_false_iff_ne.mpr c11
     have c11b1 : (a0_3.toList != a1_3.toList) = true := bne_iff_ne.mpr c11
     have H' := Aside0.mk H
     clear H
     have hnb20 := NB155_156.out
     have hnc20 := NB156_155.out
     obtain ⟨hcz21_0, hcz21_1, hcz21_2, hcz21_3, hcz21_4, hcz21_5, hfz21_0, hfz21_1, hfz21_2, hfz21_3, hfz21_4, hfz21_5⟩ := b6e BK155
     obtain ⟨hcz22_0, hcz22_1, hcz22_2, hcz22_3, hcz22_4, hcz22_5, hfz22_0, hfz22_1, hfz22_2, hfz22_3, hfz22_4, hfz22_5⟩ := b6e BK156
     go_wp2
     go_meet
     case rel => exact ⟨_, (true), (by first | rfl | (simp; done) | (simp [*]; done)), H', ⟨by first | omega | exact Nat.le_refl _⟩, ⟨by (with_reducible repeat (first | refine blk_drewN ?_ _ | refine blk_drew ?_ | refine blk_alloc ?_ _)); exact BK155.out⟩, ⟨by (with_reducible repeat (first | refine blk_drewN ?_ _ | refine blk_drew ?_ | refine blk_alloc ?_ _)); exact BK156.out⟩, ⟨bS2 HB GE155 GE156⟩⟩
   ·rw [if_neg c10] at H
    have c10b0 : (a0_2.toList == a1_2.toList) = false := beq_eq_false_iff_ne.mpr c10
    have c10b1 : (a0_2.toList != a1_2.toList) = true := bne_iff_ne.mpr c10
    have H' := Aside0.mk H
    clear H
    have hnb23 := NB155_156.out
    have hnc23 := NB156_155.out
    obtain ⟨hcz24_0, hcz24_1, hcz24_2, hcz24_3, hcz24_4, hcz24_5, hfz24_0, hfz24_1, hfz24_2, hfz24_3, hfz24_4, hfz24_5⟩ := b6e BK155
    obtain ⟨hcz25_0, hcz25_1, hcz25_2, hcz25_3, hcz25_4, hcz25_5, hfz25_0, hfz25_1, hfz25_2, hfz25_3, hfz25_4, hfz25_5⟩ := b6e BK156
    go_wp2
    go_meet
    case rel => exact ⟨_, (true), (by first | rfl | (simp; done) | (simp [*]; done)), H', ⟨by first | omega | exact Nat.le_refl _⟩, ⟨by (with_reducible repeat (first | refine blk_drewN ?_ _ | refine blk_drew ?_ | refine blk_alloc ?_ _)); exact BK155.out⟩, ⟨by (with_reducible repeat (first | refine blk_drewN ?_ _ | refine blk_drew ?_ | refine blk_alloc ?_ _)); exact BK156.out⟩, ⟨bS2 HB GE155 GE156⟩⟩
 case rest =>
  clear HC3
  (try clear c1); (try clear c2); (try clear p2); (try clear c6); (try clear c6b0); (try clear c7); (try clear c10); (try clear c10b0); (try clear c10b1); (try clear c11); (try clear c11b0); (try clear c11b1); (try clear c13); (try clear c14); (try clear c17); (try clear c20); (try clear c23); (try clear hcz15_0 hcz15_1 hcz15_2 hcz15_3 hcz15_4 hcz15_5); (try clear hcz16_0 hcz16_1 hcz16_2 hcz16_3 hcz16_4 hcz16_5); (try clear hcz18_0 hcz18_1 hcz18_2 hcz18_3 hcz18_4 hcz18_5); (try clear hcz19_0 hcz19_1 hcz19_2 hcz19_3 hcz19_4 hcz19_5); (try clear hcz21_0 hcz21_1 hcz21_2 hcz21_3 hcz21_4 hcz21_5); (try clear hcz22_0 hcz22_1 hcz22_2 hcz22_3 hcz22_4 hcz22_5); (try clear hcz24_0 hcz24_1 hcz24_2 hcz24_3 hcz24_4 hcz24_5); (try clear hcz25_0 hcz25_1 hcz25_2 hcz25_3 hcz25_4 hcz25_5); (try clear hcz8_0 hcz8_1 hcz8_2 hcz8_3 hcz8_4 hcz8_5); (try clear hcz9_0 hcz9_1 hcz9_2 hcz9_3 hcz9_4 hcz9_5); (try clear hfz15_0 hfz15_1 hfz15_2 hfz15_3 hfz15_4 hfz15_5); (try clear hfz16_0 hfz16_1 hfz16_2 hfz16_3 hfz16_4 hfz16_5); (try clear hfz18_0 hfz18_1 hfz18_2 hfz18_3 hfz18_4 hfz18_5); (try clear hfz19_0 hfz19_1 hfz19_2 hfz19_3 hfz19_4 hfz19_5); (try clear hfz21_0 hfz21_1 hfz21_2 hfz21_3 hfz21_4 hfz21_5); (try clear hfz22_0 hfz22_1 hfz22_2 hfz22_3 hfz22_4 hfz22_5); (try clear hfz24_0 hfz24_1 hfz24_2 hfz24_3 hfz24_4 hfz24_5); (try clear hfz25_0 hfz25_1 hfz25_2 hfz25_3 hfz25_4 hfz25_5); (try clear hfz8_0 hfz8_1 hfz8_2 hfz8_3 hfz8_4 hfz8_5); (try clear hfz9_0 hfz9_1 hfz9_2 hfz9_3 hfz9_4 hfz9_5)
  obtain ⟨kq, x41_2, rfl, HA, HJ2, BK155, BK156, HB⟩ := hcut
  cases kq with
  | zero => exact absurd HA.out (by simp [topiaryref15_Same.j0])
  | succ kj2 =>
   have H := HA.out
   clear HA
   simp only [topiaryref15_Same.j0] at H
   by_cases c26 : x41_2 = true
   ·subst c26
    have H1 : (some false) = some r := by rw [if_pos rfl] at H; exact H
    clear H
    have H := H1
    clear H1
    obtain rfl := Option.some.inj H
    go_wp2
    go_ret
    exact ⟨by first | rfl | (simp [errW_none, errW_some] <;> rfl) | (simp [*, errW_none, errW_some] <;> rfl), bS2 HB GE155 GE156⟩
   ·replace c26 := Bool.eq_false_iff.mpr c26
    subst c26
    have H1 : (topiaryref15_Same.l0 kj2 0 a0_0 a0_1 a0_2 a0_3 l0_4 l0_5 a1_0 a1_1 a1_2 a1_3 l1_4 l1_5) = some r := by rw [if_neg (show ¬ (false = true) by decide)] at H; exact H
    clear H
    have H := H1
    clear H1
    have H' := Aside0.mk H
    clear H
    go_wp2
    go_loopg [5] kj2 (fun kq v5 w' => ∃ (x5_2 : Int), v5 = .int .i64 x5_2 ∧ Aside0 (topiaryref15_Same.l0 kq x5_2 a0_0 a0_1 a0_2 a0_3 l0_4 l0_5 a1_0 a1_1 a1_2 a1_3 l1_4 l1_5 = some r) ∧ Aside0 (kq ≤ kj2) ∧ Aside0 (w'.heap[gb155]? = some (.cells #[.int .i64 a0_0, .int .i64 a0_1, .string a0_2, .string a0_3, (.slice A0_4 l0_4.length c0_4), (.slice A0_5 l0_5.length c0_5)] 27 (0, 0))) ∧ Aside0 (w'.heap[gb156]? = some (.cells #[.int .i64 a1_0, .int .i64 a1_1, .string a1_2, .string a1_3, (.slice A1_4 l1_4.length c1_4), (.slice A1_5 l1_5.length c1_5)] 27 (0, 0))) ∧ Aside0 (Below w.heap.size w w'))
    case atStart => exact ⟨(0), (by first | rfl | (simp; done) | (simp [*]; done)), H', ⟨Nat.le_refl _⟩, ⟨by (with_reducible repeat (first | refine blk_drewN ?_ _ | refine blk_drew ?_ | refine blk_alloc ?_ _)); exact BK155.out⟩, ⟨by (with_reducible repeat (first | refine blk_drewN ?_ _ | refine blk_drew ?_ | refine blk_alloc ?_ _)); exact BK156.out⟩, ⟨bS2 HB GE155 GE156⟩⟩
    case round =>
     clear H'
     (try clear c1); (try clear c2); (try clear p2); (try clear p2); (try clear c6); (try clear c6b0); (try clear c7); (try clear c10); (try clear c10b0); (try clear c10b1); (try clear c11); (try clear c11b0); (try clear c11b1); (try clear c13); (try clear c14); (try clear c17); (try clear c20); (try clear c23); (try clear c26); (try clear hcz15_0 hcz15_1 hcz15_2 hcz15_3 hcz15_4 hcz15_5); (try clear hcz16_0 hcz16_1 hcz16_2 hcz16_3 hcz16_4 hcz16_5); (try clear hcz18_0 hcz18_1 hcz18_2 hcz18_3 hcz18_4 hcz18_5); (try clear hcz19_0 hcz19_1 hcz19_2 hcz19_3 hcz19_4 hcz19_5); (try clear hcz21_0 hcz21_1 hcz21_2 hcz21_3 hcz21_4 hcz21_5); (try clear hcz22_0 hcz22_1 hcz22_2 hcz22_3 hcz22_4 hcz22_5); (try clear hcz24_0 hcz24_1 hcz24_2 hcz24_3 hcz24_4 hcz24_5); (try clear hcz25_0 hcz25_1 hcz25_2 hcz25_3 hcz25_4 hcz25_5); (try clear hcz8_0 hcz8_1 hcz8_2 hcz8_3 hcz8_4 hcz8_5); (try clear hcz9_0 hcz9_1 hcz9_2 hcz9_3 hcz9_4 hcz9_5); (try clear hfz15_0 hfz15_1 hfz15_2 hfz15_3 hfz15_4 hfz15_5); (try clear hfz16_0 hfz16_1 hfz16_2 hfz16_3 hfz16_4 hfz16_5); (try clear hfz18_0 hfz18_1 hfz18_2 hfz18_3 hfz18_4 hfz18_5); (try clear hfz19_0 hfz19_1 hfz19_2 hfz19_3 hfz19_4 hfz19_5); (try clear hfz21_0 hfz21_1 hfz21_2 hfz21_3 hfz21_4 hfz21_5); (try clear hfz22_0 hfz22_1 hfz22_2 hfz22_3 hfz22_4 hfz22_5); (try clear hfz24_0 hfz24_1 hfz24_2 hfz24_3 hfz24_4 hfz24_5); (try clear hfz25_0 hfz25_1 hfz25_2 hfz25_3 hfz25_4 hfz25_5); (try clear hfz8_0 hfz8_1 hfz8_2 hfz8_3 hfz8_4 hfz8_5); (try clear hfz9_0 hfz9_1 hfz9_2 hfz9_3 hfz9_4 hfz9_5)
     obtain ⟨x5_2, rfl, HA, HK2, BK155, BK156, HB⟩ := hrel
     cases gk with
     | zero => exact absurd HA.out (by simp [topiaryref15_Same.l0])
     | succ k2 =>
      have H := HA.out
      clear HA
      simp only [topiaryref15_Same.l0] at H
      by_cases c27 : x5_2 < (l0_5.length : Int)
      ·rw [if_pos c27] at H
       have c27b0 : decide (x5_2 < (l0_5.length : Int)) = true := decide_eq_true c27
       clear c27
       by_cases c28 : 0 ≤ x5_2
       ·rw [if_pos c28] at H
        have c28b0 : decide (0 ≤ x5_2) = true := decide_eq_true c28
        clear c28
        by_cases c29 : x5_2 < (l1_5.length : Int)
        ·rw [if_pos c29] at H
         have c29b0 : decide (x5_2 < (l1_5.length : Int)) = true := decide_eq_true c29
         clear c29
         replace H := Option.bind_eq_some_iff.mp H
         obtain ⟨t160, A300, H⟩ := H
         replace H : (if t160 = true then (topiaryref15_Same.l0 k2 (wrap64 (x5_2 + 1)) a0_0 a0_1 a0_2 a0_3 l0_4 l0_5 a1_0 a1_1 a1_2 a1_3 l1_4 l1_5) else (some false)) = some r := H
         have A30 := Aside0.mk A300
         clear A300
         by_cases c31 : t160 = true
         ·subst c31
          have H1 : (topiaryref15_Same.l0 k2 (wrap64 (x5_2 + 1)) a0_0 a0_1 a0_2 a0_3 l0_4 l0_5 a1_0 a1_1 a1_2 a1_3 l1_4 l1_5) = some r := by rw [if_pos rfl] at H; exact H
          clear H
          have H := H1
          clear H1
          have H' := Aside0.mk H
          clear H
          have hnb32 := NB155_156.out
          have hnc32 := NB156_155.out
          obtain ⟨hcz33_0, hcz33_1, hcz33_2, hcz33_3, hcz33_4, hcz33_5, hfz33_0, hfz33_1, hfz33_2, hfz33_3, hfz33_4, hfz33_5⟩ := b6e BK155
          try go_wp2
          replace BK155 := Aside0.mk (blk_drew BK155.out)
          replace BK156 := Aside0.mk (blk_drew BK156.out)
          replace HB := Aside0.mk (below_drew1 HB.out)
          have p158 : 0 ≤ (x5_2 : Int) := of_decide_eq_true asmS
          have q158 : x5_2 < (l0_5.length : Int) := of_decide_eq_true asmS
          obtain ⟨ad158, A158_4, c158_4, A158_5, c158_5, e158, hx158_0, hx158_1, hx158_2, hx158_3, hx158_4, hx158_5, hl158_4, hi158_4, hl158_5, hi158_5⟩ := at_T27 HR0_5.out x5_2 p158 q158
          have hw158_5 := hx158_5
          have hw158_4 := hx158_4
          have hw158_3 := hx158_3
          have hw158_2 := hx158_2
          have hw158_1 := hx158_1
          have hw158_0 := hx158_0
          cases e158
          replace hx158_0 := (HB.out.cell (World.block_lt_of_cell? w _ hx158_0)).trans hx158_0
          replace hx158_1 := (HB.out.cell (World.block_lt_of_cell? w _ hx158_1)).trans hx158_1
          replace hx158_2 := (HB.out.cell (World.block_lt_of_cell? w _ hx158_2)).trans hx158_2
          replace hx158_3 := (HB.out.cell (World.block_lt_of_cell? w _ hx158_3)).trans hx158_3
          replace hx158_4 := (HB.out.cell (World.block_lt_of_cell? w _ hx158_4)).trans hx158_4
          replace hx158_5 := (HB.out.cell (World.block_lt_of_cell? w _ hx158_5)).trans hx158_5
          have HR158_4 := Aside0.mk hi158_4
          have HC158_4 := Aside0.mk hl158_4
          clear hi158_4 hl158_4
          have HR158_5 := Aside0.mk hi158_5
          have HC158_5 := Aside0.mk hl158_5
          clear hi158_5 hl158_5
          replace p158 := eq_true p158
          replace q158 := eq_true q158
          have p159 : 0 ≤ (x5_2 : Int) := of_decide_eq_true asmS
          have q159 : x5_2 < (l1_5.length : Int) := of_decide_eq_true asmS
          obtain ⟨ad159, A159_4, c159_4, A159_5, c159_5, e159, hx159_0, hx159_1, hx159_2, hx159_3, hx159_4, hx159_5, hl159_4, hi159_4, hl159_5, hi159_5⟩ := at_T27 HR1_5.out x5_2 p159 q159
          have hw159_5 := hx159_5
          have hw159_4 := hx159_4
          have hw159_3 := hx159_3
          have hw159_2 := hx159_2
          have hw159_1 := hx159_1
          have hw159_0 := hx159_0
          cases e159
          replace hx159_0 := (HB.out.cell (World.block_lt_of_cell? w _ hx159_0)).trans hx159_0
          replace hx159_1 := (HB.out.cell (World.block_lt_of_cell? w _ hx159_1)).trans hx159_1
          replace hx159_2 := (HB.out.cell (World.block_lt_of_cell? w _ hx159_2)).trans hx159_2
          replace hx159_3 := (HB.out.cell (World.block_lt_of_cell? w _ hx159_3)).trans hx159_3
          replace hx159_4 := (HB.out.cell (World.block_lt_of_cell? w _ hx159_4)).trans hx159_4
          replace hx159_5 := (HB.out.cell (World.block_lt_of_cell? w _ hx159_5)).trans hx159_5
          have HR159_4 := Aside0.mk hi159_4
          have HC159_4 := Aside0.mk hl159_4
          clear hi159_4 hl159_4
          have HR159_5 := Aside0.mk hi159_5
          have HC159_5 := Aside0.mk hl159_5
          clear hi159_5 hl159_5
          replace p159 := eq_true p159
          replace q159 := eq_true q159
          refine startS (n := 12) (S := fun w' => w'.cell? ⟨gb155, 0, none⟩ = some (.int .i64 a0_0) ∧ w'.cell? ⟨gb155, 1, none⟩ = some (.int .i64 a0_1) ∧ w'.cell? ⟨gb155, 2, none⟩ = some (.string a0_2) ∧ w'.cell? ⟨gb155, 3, none⟩ = some (.string a0_3) ∧ w'.cell? ⟨gb155, 4, none⟩ = some (.slice A0_4 l0_4.length c0_4) ∧ w'.cell? ⟨gb155, 5, none⟩ = some (.slice (some ad158) l0_5.length c0_5) ∧ w'.cell? ⟨gb156, 0, none⟩ = some (.int .i64 a1_0) ∧ w'.cell? ⟨gb156, 1, none⟩ = some (.int .i64 a1_1) ∧ w'.cell? ⟨gb156, 2, none⟩ = some (.string a1_2) ∧ w'.cell? ⟨gb156, 3, none⟩ = some (.string a1_3) ∧ w'.cell? ⟨gb156, 4, none⟩ = some (.slice A1_4 l1_4.length c1_4) ∧ w'.cell? ⟨gb156, 5, none⟩ = some (.slice (some ad159) l1_5.length c1_5) ∧ w'.cell? (ad158.add ((x5_2).toNat * 6)) = some (.int .i64 ((rd_T27 l0_5 x5_2).f0.f0)) ∧ w'.cell? ⟨(ad158.add ((x5_2).toNat * 6)).block, (ad158.add ((x5_2).toNat * 6)).off + 1, none⟩ = some (.int .i64 ((rd_T27 l0_5 x5_2).f0.f1)) ∧ w'.cell? ⟨(ad158.add ((x5_2).toNat * 6)).block, (ad158.add ((x5_2).toNat * 6)).off + 2, none⟩ = some (.string ((rd_T27 l0_5 x5_2).f1)) ∧ w'.cell? ⟨(ad158.add ((x5_2).toNat * 6)).block, (ad158.add ((x5_2).toNat * 6)).off + 3, none⟩ = some (.string ((rd_T27 l0_5 x5_2).f2)) ∧ w'.cell? ⟨(ad158.add ((x5_2).toNat * 6)).block, (ad158.add ((x5_2).toNat * 6)).off + 4, none⟩ = some (.slice A158_4 ((rd_T27 l0_5 x5_2).f3).length c158_4) ∧ w'.cell? ⟨(ad158.add ((x5_2).toNat * 6)).block, (ad158.add ((x5_2).toNat * 6)).off + 5, none⟩ = some (.slice A158_5 ((rd_T27 l0_5 x5_2).f4).length c158_5) ∧ w'.cell? (ad159.add ((x5_2).toNat * 6)) = some (.int .i64 ((rd_T27 l1_5 x5_2).f0.f0)) ∧ w'.cell? ⟨(ad159.add ((x5_2).toNat * 6)).block, (ad159.add ((x5_2).toNat * 6)).off + 1, none⟩ = some (.int .i64 ((rd_T27 l1_5 x5_2).f0.f1)) ∧ w'.cell? ⟨(ad159.add ((x5_2).toNat * 6)).block, (ad159.add ((x5_2).toNat * 6)).off + 2, none⟩ = some (.string ((rd_T27 l1_5 x5_2).f1)) ∧ w'.cell? ⟨(ad159.add ((x5_2).toNat * 6)).block, (ad159.add ((x5_2).toNat * 6)).off + 3, none⟩ = some (.string ((rd_T27 l1_5 x5_2).f2)) ∧ w'.cell? ⟨(ad159.add ((x5_2).toNat * 6)).block, (ad159.add ((x5_2).toNat * 6)).off + 4, none⟩ = some (.slice A159_4 ((rd_T27 l1_5 x5_2).f3).length c159_4) ∧ w'.cell? ⟨(ad159.add ((x5_2).toNat * 6)).block, (ad159.add ((x5_2).toNat * 6)).off + 5, none⟩ = some (.slice A159_5 ((rd_T27 l1_5 x5_2).f4).length c159_5)) (ds := []) ⟨(blk_cell BK155.out 0).trans rfl, (blk_cell BK155.out 1).trans rfl, (blk_cell BK155.out 2).trans rfl, (blk_cell BK155.out 3).trans rfl, (blk_cell BK155.out 4).trans rfl, (blk_cell BK155.out 5).trans rfl, (blk_cell BK156.out 0).trans rfl, (blk_cell BK156.out 1).trans rfl, (blk_cell BK156.out 2).trans rfl, (blk_cell BK156.out 3).trans rfl, (blk_cell BK156.out 4).trans rfl, (blk_cell BK156.out 5).trans rfl, cS HB hw158_0, cS HB hw158_1, cS HB hw158_2, cS HB hw158_3, cS HB hw158_4, cS HB hw158_5, cS HB hw159_0, cS HB hw159_1, cS HB hw159_2, cS HB hw159_3, cS HB hw159_4, cS HB hw159_5⟩ (fun hHeld => ?_); refine with_tabW topiaryref15_Same.tab6 topiaryref15_Same.bits6 (fun HT_ HW_ => ?_)
          generalize wr.drew = w34 at BK155 BK156 HB HR158_4 HR158_5 HR159_4 HR159_5 hx158_0 hx158_1 hx158_2 hx158_3 hx158_4 hx158_5 hx159_0 hx159_1 hx159_2 hx159_3 hx159_4 hx159_5 hHeld ⊢
          refine pureT (i := 0) (N := some 49) HT_ ?_
          refine pureT (i := 2) (N := some 51) HT_ ?_
          refine pureT (i := 5) (N := some 54) HT_ ?_
          refine pureT (i := 7) (N := some 56) HT_ ?_
          refine takeS (i := 1) (N := some 50) (v := ?_) HT_ HW_ hHeld ?_ ?_
          rotate_left
          ·rintro w' ⟨s0, s1, s2, s3, s4, s5, s6, s7, s8, s9, s10, s11, s12, s13, s14, s15, s16, s17, s18, s19, s20, s21, s22, s23⟩
           go_simp
           with_reducible rfl
          refine normS (N := some 50) ?_
          refine pureT (i := 3) (N := some 52) HT_ ?_
          refine takeS (i := 4) (N := some 53) (v := ?_) HT_ HW_ hHeld ?_ ?_
          rotate_left
          ·rintro w' ⟨s0, s1, s2, s3, s4, s5, s6, s7, s8, s9, s10, s11, s12, s13, s14, s15, s16, s17, s18, s19, s20, s21, s22, s23⟩
           go_simp
           with_reducible rfl
          refine normS (N := some 53) ?_
          refine takeS (i := 6) (N := some 55) (v := ?_) HT_ HW_ hHeld ?_ ?_
          rotate_left
          ·rintro w' ⟨s0, s1, s2, s3, s4, s5, s6, s7, s8, s9, s10, s11, s12, s13, s14, s15, s16, s17, s18, s19, s20, s21, s22, s23⟩
           go_simp
           with_reducible rfl
          refine normS (N := some 55) ?_
          refine pureT (i := 8) (N := some 57) HT_ ?_
          refine takeS (i := 9) (N := some 58) (v := ?_) HT_ HW_ hHeld ?_ ?_
          rotate_left
          ·rintro w' ⟨s0, s1, s2, s3, s4, s5, s6, s7, s8, s9, s10, s11, s12, s13, s14, s15, s16, s17, s18, s19, s20, s21, s22, s23⟩
           go_simp
           with_reducible rfl
          refine normS (N := some 58) ?_
          refine oneS (i := 10) (N := some 59) HT_ (fun K hK => ?_)
          refine goes_ Try.func14 (by kernel_rfl) rfl #[.agg #[.int .i64 ((rd_T27 l0_5 x5_2).f0.f0), .int .i64 ((rd_T27 l0_5 x5_2).f0.f1), .string ((rd_T27 l0_5 x5_2).f1), .string ((rd_T27 l0_5 x5_2).f2), .slice A158_4 ((rd_T27 l0_5 x5_2).f3).length c158_4, .slice A158_5 ((rd_T27 l0_5 x5_2).f4).length c158_5], .agg #[.int .i64 ((rd_T27 l1_5 x5_2).f0.f0), .int .i64 ((rd_T27 l1_5 x5_2).f0.f1), .string ((rd_T27 l1_5 x5_2).f1), .string ((rd_T27 l1_5 x5_2).f2), .slice A159_4 ((rd_T27 l1_5 x5_2).f3).length c159_4, .slice A159_5 ((rd_T27 l1_5 x5_2).f4).length c159_5]] (by rfl) rfl rfl argS ?_
          with_reducible refine (ih k2 (by have := HJ2.out; have := HK2.out; omega) ((rd_T27 l0_5 x5_2).f0.f0) ((rd_T27 l0_5 x5_2).f0.f1) ((rd_T27 l0_5 x5_2).f1) ((rd_T27 l0_5 x5_2).f2) _ _ ((rd_T27 l0_5 x5_2).f3) _ _ ((rd_T27 l0_5 x5_2).f4) ((rd_T27 l1_5 x5_2).f0.f0) ((rd_T27 l1_5 x5_2).f0.f1) ((rd_T27 l1_5 x5_2).f1) ((rd_T27 l1_5 x5_2).f2) _ _ ((rd_T27 l1_5 x5_2).f3) _ _ ((rd_T27 l1_5 x5_2).f4) true _ ?side1 ?side2 ?side3 ?side4 ?side5 ?side6 ?side7 ?side8 A30.out).mono ?_
          (case side1 => exact CS (Kd.C_below HR158_4.out HB.out))
          (case side2 => exact HC158_4.out)
          (case side3 => exact CS (Kd.C_below HR158_5.out HB.out))
          (case side4 => exact HC158_5.out)
          (case side5 => exact CS (Kd.C_below HR159_4.out HB.out))
          (case side6 => exact HC159_4.out)
          (case side7 => exact CS (Kd.C_below HR159_5.out HB.out))
          (case side8 => exact HC159_5.out)
          rintro e w35 ⟨rfl, hb⟩
          refine ⟨_, rfl, ?_⟩
          replace BK155 := bB BK155 hb
          replace BK156 := bB BK156 hb
          replace HB := Aside0.mk (below_step (bS2 HB GE155 GE156) hb)
          (try clear hb)
          refine hK.out _ _ ⟨(blk_cell BK155.out 0).trans rfl, (blk_cell BK155.out 1).trans rfl, (blk_cell BK155.out 2).trans rfl, (blk_cell BK155.out 3).trans rfl, (blk_cell BK155.out 4).trans rfl, (blk_cell BK155.out 5).trans rfl, (blk_cell BK156.out 0).trans rfl, (blk_cell BK156.out 1).trans rfl, (blk_cell BK156.out 2).trans rfl, (blk_cell BK156.out 3).trans rfl, (blk_cell BK156.out 4).trans rfl, (blk_cell BK156.out 5).trans rfl, cS HB hw158_0, cS HB hw158_1, cS HB hw158_2, cS HB hw158_3, cS HB hw158_4, cS HB hw158_5, cS HB hw159_0, cS HB hw159_1, cS HB hw159_2, cS HB hw159_3, cS HB hw159_4, cS HB hw159_5⟩ (fun hHeld => ?_)
          clear hK K
          refine normS (N := (some 59)) ?_
          refine pureT (i := 11) (N := some 60) HT_ ?_
          refine done_ (done_of HT_.out (by kernel_rfl)) ?_
          try go_wp2
          go_roundg k2
          case measure => have := HJ2.out; have := HK2.out; omega
          case rel => exact ⟨(wrap64 (x5_2 + 1)), (by first | rfl | (simp; done) | (simp [*]; done)), H', ⟨by have := HJ2.out; have := HK2.out; omega⟩, ⟨by (with_reducible repeat (first | refine blk_drewN ?_ _ | refine blk_drew ?_ | refine blk_alloc ?_ _)); exact BK155.out⟩, ⟨by (with_reducible repeat (first | refine blk_drewN ?_ _ | refine blk_drew ?_ | refine blk_alloc ?_ _)); exact BK156.out⟩, ⟨bS2 HB GE155 GE156⟩⟩
         ·replace c31 := Bool.eq_false_iff.mpr c31
          subst c31
          have H1 : (some false) = some r := by rw [if_neg (show ¬ (false = true) by decide)] at H; exact H
          clear H
          have H := H1
          clear H1
          obtain rfl := Option.some.inj H
          have hnb36 := NB155_156.out
          have hnc36 := NB156_155.out
          obtain ⟨hcz37_0, hcz37_1, hcz37_2, hcz37_3, hcz37_4, hcz37_5, hfz37_0, hfz37_1, hfz37_2, hfz37_3, hfz37_4, hfz37_5⟩ := b6e BK155
          try go_wp2
          replace BK155 := Aside0.mk (blk_drew BK155.out)
          replace BK156 := Aside0.mk (blk_drew BK156.out)
          replace HB := Aside0.mk (below_drew1 HB.out)
          have p158 : 0 ≤ (x5_2 : Int) := of_decide_eq_true asmS
          have q158 : x5_2 < (l0_5.length : Int) := of_decide_eq_true asmS
          obtain ⟨ad158, A158_4, c158_4, A158_5, c158_5, e158, hx158_0, hx158_1, hx158_2, hx158_3, hx158_4, hx158_5, hl158_4, hi158_4, hl158_5, hi158_5⟩ := at_T27 HR0_5.out x5_2 p158 q158
          have hw158_5 := hx158_5
          have hw158_4 := hx158_4
          have hw158_3 := hx158_3
          have hw158_2 := hx158_2
          have hw158_1 := hx158_1
          have hw158_0 := hx158_0
          cases e158
          replace hx158_0 := (HB.out.cell (World.block_lt_of_cell? w _ hx158_0)).trans hx158_0
          replace hx158_1 := (HB.out.cell (World.block_lt_of_cell? w _ hx158_1)).trans hx158_1
          replace hx158_2 := (HB.out.cell (World.block_lt_of_cell? w _ hx158_2)).trans hx158_2
          replace hx158_3 := (HB.out.cell (World.block_lt_of_cell? w _ hx158_3)).trans hx158_3
          replace hx158_4 := (HB.out.cell (World.block_lt_of_cell? w _ hx158_4)).trans hx158_4
          replace hx158_5 := (HB.out.cell (World.block_lt_of_cell? w _ hx158_5)).trans hx158_5
          have HR158_4 := Aside0.mk hi158_4
          have HC158_4 := Aside0.mk hl158_4
          clear hi158_4 hl158_4
          have HR158_5 := Aside0.mk hi158_5
          have HC158_5 := Aside0.mk hl158_5
          clear hi158_5 hl158_5
          replace p158 := eq_true p158
          replace q158 := eq_true q158
          have p159 : 0 ≤ (x5_2 : Int) := of_decide_eq_true asmS
          have q159 : x5_2 < (l1_5.length : Int) := of_decide_eq_true asmS
          obtain ⟨ad159, A159_4, c159_4, A159_5, c159_5, e159, hx159_0, hx159_1, hx159_2, hx159_3, hx159_4, hx159_5, hl159_4, hi159_4, hl159_5, hi159_5⟩ := at_T27 HR1_5.out x5_2 p159 q159
          have hw159_5 := hx159_5
          have hw159_4 := hx159_4
          have hw159_3 := hx159_3
          have hw159_2 := hx159_2
          have hw159_1 := hx159_1
          have hw159_0 := hx159_0
          cases e159
          replace hx159_0 := (HB.out.cell (World.block_lt_of_cell? w _ hx159_0)).trans hx159_0
          replace hx159_1 := (HB.out.cell (World.block_lt_of_cell? w _ hx159_1)).trans hx159_1
          replace hx159_2 := (HB.out.cell (World.block_lt_of_cell? w _ hx159_2)).trans hx159_2
          replace hx159_3 := (HB.out.cell (World.block_lt_of_cell? w _ hx159_3)).trans hx159_3
          replace hx159_4 := (HB.out.cell (World.block_lt_of_cell? w _ hx159_4)).trans hx159_4
          replace hx159_5 := (HB.out.cell (World.block_lt_of_cell? w _ hx159_5)).trans hx159_5
          have HR159_4 := Aside0.mk hi159_4
          have HC159_4 := Aside0.mk hl159_4
          clear hi159_4 hl159_4
          have HR159_5 := Aside0.mk hi159_5
          have HC159_5 := Aside0.mk hl159_5
          clear hi159_5 hl159_5
          replace p159 := eq_true p159
          replace q159 := eq_true q159
          refine startS (n := 12) (S := fun w' => w'.cell? ⟨gb155, 0, none⟩ = some (.int .i64 a0_0) ∧ w'.cell? ⟨gb155, 1, none⟩ = some (.int .i64 a0_1) ∧ w'.cell? ⟨gb155, 2, none⟩ = some (.string a0_2) ∧ w'.cell? ⟨gb155, 3, none⟩ = some (.string a0_3) ∧ w'.cell? ⟨gb155, 4, none⟩ = some (.slice A0_4 l0_4.length c0_4) ∧ w'.cell? ⟨gb155, 5, none⟩ = some (.slice (some ad158) l0_5.length c0_5) ∧ w'.cell? ⟨gb156, 0, none⟩ = some (.int .i64 a1_0) ∧ w'.cell? ⟨gb156, 1, none⟩ = some (.int .i64 a1_1) ∧ w'.cell? ⟨gb156, 2, none⟩ = some (.string a1_2) ∧ w'.cell? ⟨gb156, 3, none⟩ = some (.string a1_3) ∧ w'.cell? ⟨gb156, 4, none⟩ = some (.slice A1_4 l1_4.length c1_4) ∧ w'.cell? ⟨gb156, 5, none⟩ = some (.slice (some ad159) l1_5.length c1_5) ∧ w'.cell? (ad158.add ((x5_2).toNat * 6)) = some (.int .i64 ((rd_T27 l0_5 x5_2).f0.f0)) ∧ w'.cell? ⟨(ad158.add ((x5_2).toNat * 6)).block, (ad158.add ((x5_2).toNat * 6)).off + 1, none⟩ = some (.int .i64 ((rd_T27 l0_5 x5_2).f0.f1)) ∧ w'.cell? ⟨(ad158.add ((x5_2).toNat * 6)).block, (ad158.add ((x5_2).toNat * 6)).off + 2, none⟩ = some (.string ((rd_T27 l0_5 x5_2).f1)) ∧ w'.cell? ⟨(ad158.add ((x5_2).toNat * 6)).block, (ad158.add ((x5_2).toNat * 6)).off + 3, none⟩ = some (.string ((rd_T27 l0_5 x5_2).f2)) ∧ w'.cell? ⟨(ad158.add ((x5_2).toNat * 6)).block, (ad158.add ((x5_2).toNat * 6)).off + 4, none⟩ = some (.slice A158_4 ((rd_T27 l0_5 x5_2).f3).length c158_4) ∧ w'.cell? ⟨(ad158.add ((x5_2).toNat * 6)).block, (ad158.add ((x5_2).toNat * 6)).off + 5, none⟩ = some (.slice A158_5 ((rd_T27 l0_5 x5_2).f4).length c158_5) ∧ w'.cell? (ad159.add ((x5_2).toNat * 6)) = some (.int .i64 ((rd_T27 l1_5 x5_2).f0.f0)) ∧ w'.cell? ⟨(ad159.add ((x5_2).toNat * 6)).block, (ad159.add ((x5_2).toNat * 6)).off + 1, none⟩ = some (.int .i64 ((rd_T27 l1_5 x5_2).f0.f1)) ∧ w'.cell? ⟨(ad159.add ((x5_2).toNat * 6)).block, (ad159.add ((x5_2).toNat * 6)).off + 2, none⟩ = some (.string ((rd_T27 l1_5 x5_2).f1)) ∧ w'.cell? ⟨(ad159.add ((x5_2).toNat * 6)).block, (ad159.add ((x5_2).toNat * 6)).off + 3, none⟩ = some (.string ((rd_T27 l1_5 x5_2).f2)) ∧ w'.cell? ⟨(ad159.add ((x5_2).toNat * 6)).block, (ad159.add ((x5_2).toNat * 6)).off + 4, none⟩ = some (.slice A159_4 ((rd_T27 l1_5 x5_2).f3).length c159_4) ∧ w'.cell? ⟨(ad159.add ((x5_2).toNat * 6)).block, (ad159.add ((x5_2).toNat * 6)).off + 5, none⟩ = some (.slice A159_5 ((rd_T27 l1_5 x5_2).f4).length c159_5)) (ds := []) ⟨(blk_cell BK155.out 0).trans rfl, (blk_cell BK155.out 1).trans rfl, (blk_cell BK155.out 2).trans rfl, (blk_cell BK155.out 3).trans rfl, (blk_cell BK155.out 4).trans rfl, (blk_cell BK155.out 5).trans rfl, (blk_cell BK156.out 0).trans rfl, (blk_cell BK156.out 1).trans rfl, (blk_cell BK156.out 2).trans rfl, (blk_cell BK156.out 3).trans rfl, (blk_cell BK156.out 4).trans rfl, (blk_cell BK156.out 5).trans rfl, cS HB hw158_0, cS HB hw158_1, cS HB hw158_2, cS HB hw158_3, cS HB hw158_4, cS HB hw158_5, cS HB hw159_0, cS HB hw159_1, cS HB hw159_2, cS HB hw159_3, cS HB hw159_4, cS HB hw159_5⟩ (fun hHeld => ?_); refine with_tabW topiaryref15_Same.tab6 topiaryref15_Same.bits6 (fun HT_ HW_ => ?_)
          generalize wr.drew = w38 at BK155 BK156 HB HR158_4 HR158_5 HR159_4 HR159_5 hx158_0 hx158_1 hx158_2 hx158_3 hx158_4 hx158_5 hx159_0 hx159_1 hx159_2 hx159_3 hx159_4 hx159_5 hHeld ⊢
          refine pureT (i := 0) (N := some 49) HT_ ?_
          refine pureT (i := 2) (N := some 51) HT_ ?_
          refine pureT (i := 5) (N := some 54) HT_ ?_
          refine pureT (i := 7) (N := some 56) HT_ ?_
          refine takeS (i := 1) (N := some 50) (v := ?_) HT_ HW_ hHeld ?_ ?_
          rotate_left
          ·rintro w' ⟨s0, s1, s2, s3, s4, s5, s6, s7, s8, s9, s10, s11, s12, s13, s14, s15, s16, s17, s18, s19, s20, s21, s22, s23⟩
           go_simp
           with_reducible rfl
          refine normS (N := some 50) ?_
          refine pureT (i := 3) (N := some 52) HT_ ?_
          refine takeS (i := 4) (N := some 53) (v := ?_) HT_ HW_ hHeld ?_ ?_
          rotate_left
          ·rintro w' ⟨s0, s1, s2, s3, s4, s5, s6, s7, s8, s9, s10, s11, s12, s13, s14, s15, s16, s17, s18, s19, s20, s21, s22, s23⟩
           go_simp
           with_reducible rfl
          refine normS (N := some 53) ?_
          refine takeS (i := 6) (N := some 55) (v := ?_) HT_ HW_ hHeld ?_ ?_
          rotate_left
          ·rintro w' ⟨s0, s1, s2, s3, s4, s5, s6, s7, s8, s9, s10, s11, s12, s13, s14, s15, s16, s17, s18, s19, s20, s21, s22, s23⟩
           go_simp
           with_reducible rfl
          refine normS (N := some 55) ?_
          refine pureT (i := 8) (N := some 57) HT_ ?_
          refine takeS (i := 9) (N := some 58) (v := ?_) HT_ HW_ hHeld ?_ ?_
          rotate_left
          ·rintro w' ⟨s0, s1, s2, s3, s4, s5, s6, s7, s8, s9, s10, s11, s12, s13, s14, s15, s16, s17, s18, s19, s20, s21, s22, s23⟩
           go_simp
           with_reducible rfl
          refine normS (N := some 58) ?_
          refine oneS (i := 10) (N := some 59) HT_ (fun K hK => ?_)
          refine goes_ Try.func14 (by kernel_rfl) rfl #[.agg #[.int .i64 ((rd_T27 l0_5 x5_2).f0.f0), .int .i64 ((rd_T27 l0_5 x5_2).f0.f1), .string ((rd_T27 l0_5 x5_2).f1), .string ((rd_T27 l0_5 x5_2).f2), .slice A158_4 ((rd_T27 l0_5 x5_2).f3).length c158_4, .slice A158_5 ((rd_T27 l0_5 x5_2).f4).length c158_5], .agg #[.int .i64 ((rd_T27 l1_5 x5_2).f0.f0), .int .i64 ((rd_T27 l1_5 x5_2).f0.f1), .string ((rd_T27 l1_5 x5_2).f1), .string ((rd_T27 l1_5 x5_2).f2), .slice A159_4 ((rd_T27 l1_5 x5_2).f3).length c159_4, .slice A159_5 ((rd_T27 l1_5 x5_2).f4).length c159_5]] (by rfl) rfl rfl argS ?_
          with_reducible refine (ih k2 (by have := HJ2.out; have := HK2.out; omega) ((rd_T27 l0_5 x5_2).f0.f0) ((rd_T27 l0_5 x5_2).f0.f1) ((rd_T27 l0_5 x5_2).f1) ((rd_T27 l0_5 x5_2).f2) _ _ ((rd_T27 l0_5 x5_2).f3) _ _ ((rd_T27 l0_5 x5_2).f4) ((rd_T27 l1_5 x5_2).f0.f0) ((rd_T27 l1_5 x5_2).f0.f1) ((rd_T27 l1_5 x5_2).f1) ((rd_T27 l1_5 x5_2).f2) _ _ ((rd_T27 l1_5 x5_2).f3) _ _ ((rd_T27 l1_5 x5_2).f4) false _ ?side1 ?side2 ?side3 ?side4 ?side5 ?side6 ?side7 ?side8 A30.out).mono ?_
          (case side1 => exact CS (Kd.C_below HR158_4.out HB.out))
          (case side2 => exact HC158_4.out)
          (case side3 => exact CS (Kd.C_below HR158_5.out HB.out))
          (case side4 => exact HC158_5.out)
          (case side5 => exact CS (Kd.C_below HR159_4.out HB.out))
          (case side6 => exact HC159_4.out)
          (case side7 => exact CS (Kd.C_below HR159_5.out HB.out))
          (case side8 => exact HC159_5.out)
          rintro e w39 ⟨rfl, hb⟩
          refine ⟨_, rfl, ?_⟩
          replace BK155 := bB BK155 hb
          replace BK156 := bB BK156 hb
          replace HB := Aside0.mk (below_step (bS2 HB GE155 GE156) hb)
          (try clear hb)
          refine hK.out _ _ ⟨(blk_cell BK155.out 0).trans rfl, (blk_cell BK155.out 1).trans rfl, (blk_cell BK155.out 2).trans rfl, (blk_cell BK155.out 3).trans rfl, (blk_cell BK155.out 4).trans rfl, (blk_cell BK155.out 5).trans rfl, (blk_cell BK156.out 0).trans rfl, (blk_cell BK156.out 1).trans rfl, (blk_cell BK156.out 2).trans rfl, (blk_cell BK156.out 3).trans rfl, (blk_cell BK156.out 4).trans rfl, (blk_cell BK156.out 5).trans rfl, cS HB hw158_0, cS HB hw158_1, cS HB hw158_2, cS HB hw158_3, cS HB hw158_4, cS HB hw158_5, cS HB hw159_0, cS HB hw159_1, cS HB hw159_2, cS HB hw159_3, cS HB hw159_4, cS HB hw159_5⟩ (fun hHeld => ?_)
          clear hK K
          refine normS (N := (some 59)) ?_
          refine pureT (i := 11) (N := some 60) HT_ ?_
          refine done_ (done_of HT_.out (by kernel_rfl)) ?_
          try go_wp2
          go_ret
          exact ⟨by first | rfl | (simp [errW_none, errW_some] <;> rfl) | (simp [*, errW_none, errW_some] <;> rfl), bS2 HB GE155 GE156⟩
        ·rw [if_neg c29] at H
         exact absurd H (by simp)
       ·rw [if_neg c28] at H
        exact absurd H (by simp)
      ·rw [if_neg c27] at H
       have c27b0 : decide (x5_2 < (l0_5.length : Int)) = false := decide_eq_false c27
       clear c27
       obtain rfl := Option.some.inj H
       have hnb40 := NB155_156.out
       have hnc40 := NB156_155.out
       obtain ⟨hcz41_0, hcz41_1, hcz41_2, hcz41_3, hcz41_4, hcz41_5, hfz41_0, hfz41_1, hfz41_2, hfz41_3, hfz41_4, hfz41_5⟩ := b6e BK155
       go_wp2
       go_ret
       exact ⟨by first | rfl | (simp [errW_none, errW_some] <;> rfl) | (simp [*, errW_none, errW_some] <;> rfl), bS2 HB GE155 GE156⟩
end Go.Proofs.Ytnkbgimihikhoaa.PVt
namespace Go.Proofs.Ytnkbgimihikhoaa.Rdt
open Go.RowKit Go.Proofs.YtnkbgimihikhoaaW.PrintWords
theorem cells_get {w : World} {a : Addr} : ∀ {n : Nat} {cs : List Value}, w.cells? 0 a n = some cs → cs.length = n ∧ ∀ i u, cs[i]? = some u → w.cell? (a.add i) = some u := by
  intro n cs h
  obtain ⟨_, h1, h2⟩ := World.cells?_some h
  refine ⟨h1, fun i u hu => ?_⟩
  have hi := (List.getElem?_eq_some_iff.1 hu).1
  rw [h2 i (by omega)]
  exact hu
theorem all_get {H : Type} {e : TypeId} : ∀ {l : List (DataW H)} {i : Nat} {d : DataW H}, l[i]? = some d → ∀ n ∈ d.weights Try.prog e, n ∈ DataW.weightsAll Try.prog e l
  | [], _, _, h, _, _ => by cases h
  | d :: l, 0, _, h, n, hn => by
    obtain rfl := Option.some.inj h
    rw [DataW.weightsAll]
    exact List.mem_append_left _ hn
  | d :: l, i + 1, _, h, n, hn => by
    rw [DataW.weightsAll]
    exact List.mem_append_right _ (all_get (l := l) (i := i) h n hn)
/-- Cells of type t that can be read as data are a value of kind d; where its rows are no longer than the reach, it is as ok says. -/
def Reads (N : Nat) {α : Type} (t : TypeId) (d : Kd α) (ok : α → Prop) : Prop :=
  ∀ {H : Type} (enc : TypeId × Value → H) (w : World) (spare : Nat → Bool) (held : Bool) (fuel : Nat) (cs : List Value) (x : DataW H × List MemPlace), fuel ≤ N →
    DataW.trod enc Try.prog w 0 spare held fuel t cs = some x → ∃ a : α, d.K w a cs ∧ ((∀ n ∈ x.1.weights Try.prog t, n ≤ reachBytes) → ok a)
theorem int {N : Nat} {t : TypeId} {k : IntKind} (ht : Try.prog.underlying t = some (.int k)) : Reads N t (Kd.int k) (fun n => (Lit.int k n).wf = true) := by
  intro H enc w spare held fuel cs x hN h
  obtain ⟨n, rfl, rfl, hw⟩ := DataW.trod_int ht h
  exact ⟨n, rfl, fun _ => hw⟩
theorem bool {N : Nat} {t : TypeId} (ht : Try.prog.underlying t = some .bool) : Reads N t Kd.bool (fun _ => True) := by
  intro H enc w spare held fuel cs x hN h
  obtain ⟨n, rfl, rfl⟩ := DataW.trod_bool ht h
  exact ⟨n, rfl, fun _ => trivial⟩
theorem string {N : Nat} {t : TypeId} (ht : Try.prog.underlying t = some .string) : Reads N t Kd.string (fun s => s.size ≤ reachBytes) := by
  intro H enc w spare held fuel cs x hN h
  obtain ⟨s, rfl, rfl, hw⟩ := DataW.trod_string ht h
  refine ⟨s, rfl, fun hx => ?_⟩
  have := hx s.data.toList.length (by simp [DataW.weights])
  rw [Array.length_toList] at this
  exact this
theorem slice {N : Nat} {α : Type} {t e : TypeId} {d : Kd α} {ok : α → Prop} (ht : Try.prog.underlying t = some (.slice e)) (hc : Try.prog.cellsOf e = d.sz) (R : Reads N e d ok) :
    Reads (N + 1) t (Kd.slice e d) (fun xs => xs.length * Try.prog.bytesOf e ≤ reachBytes ∧ ∀ x ∈ xs, ok x) := by
  intro H enc w spare held fuel cs x hN h
  rcases DataW.trod_slice ht h with ⟨rfl, rfl⟩ | ⟨a, len, cap, elems, rest, n, hfn, rfl, rfl, _, hlc, hm, hel, hg, _, _⟩
  · exact ⟨[], ⟨none, 0, rfl, Nat.le_refl _, rfl, by simp, fun h => by simp at h⟩, fun _ => ⟨by simp, fun x hx => by cases hx⟩⟩
  · have step : ∀ i, i < len → ∃ (v : α) (c : List Value) (y : DataW H × List MemPlace), elems[i]? = some y ∧ c.length = d.sz ∧ d.K w v c ∧ (∀ j u, c[j]? = some u → w.cell? (a.add (i * d.sz + j)) = some u) ∧ ((∀ n ∈ y.1.weights Try.prog e, n ≤ reachBytes) → ok v) := by
      intro i hi
      have h1 := hg i hi
      obtain ⟨y, hy⟩ : ∃ y, elems[i]? = some y := ⟨_, List.getElem?_eq_getElem (by omega)⟩
      rw [hy] at h1
      obtain ⟨c, hc1, hc2⟩ := Option.bind_eq_some_iff.1 h1
      obtain ⟨v, hv1, hv2⟩ := R enc w spare held n c y (by omega) hc2
      obtain ⟨g1, g2⟩ := cells_get hc1
      rw [hc] at g1 g2
      exact ⟨v, c, y, hy, g1, hv1, fun j u hu => by
        have := g2 j u hu
        rwa [Go.Addr.add_add] at this, hv2⟩
    have build : ∀ m, m ≤ len → ∃ xs : List α, xs.length = m ∧ (∀ (i : Nat) v, xs[i]? = some v → ∃ (c : List Value) (y : DataW H × List MemPlace), elems[i]? = some y ∧ c.length = d.sz ∧ d.K w v c ∧ (∀ j u, c[j]? = some u → w.cell? (a.add (i * d.sz + j)) = some u) ∧ ((∀ n ∈ y.1.weights Try.prog e, n ≤ reachBytes) → ok v)) := by
      intro m
      induction m with
      | zero => intro _; exact ⟨[], rfl, fun i v hv => by simp at hv⟩
      | succ m ih =>
        intro hm
        obtain ⟨xs, hx1, hx2⟩ := ih (by omega)
        obtain ⟨v, c, y, hv⟩ := step m (by omega)
        refine ⟨xs ++ [v], by simp [hx1], fun i u hu => ?_⟩
        rcases Nat.lt_or_ge i xs.length with hi | hi
        · rw [List.getElem?_append_left hi] at hu
          exact hx2 i u hu
        · have : i = m := by
            have := (List.getElem?_eq_some_iff.1 hu).1
            rw [List.length_append, List.length_singleton] at this
            omega
          subst this
          have : v = u := by rw [← hx1] at hu; simpa using hu
          subst this
          exact ⟨c, y, hv⟩
    obtain ⟨xs, hx1, hx2⟩ := build len (Nat.le_refl _)
    refine ⟨xs, ⟨some a, cap, by rw [hx1], by omega, ⟨rfl, by unfold maxLen at hm; omega, fun _ => ⟨a, rfl, fun i v hv => ?_⟩⟩⟩, fun hx => ⟨?_, ?_⟩⟩
    · obtain ⟨c, y, _, h2, h3, h4, _⟩ := hx2 i v hv
      exact ⟨c, h2, h3, h4⟩
    · rw [DataW.weights, ht] at hx
      have := hx _ (List.mem_cons_self ..)
      refine Nat.le_trans (Nat.mul_le_mul_right _ ?_) this
      rw [List.length_map, hx1]
      omega
    · intro v hv
      obtain ⟨i, hi⟩ := List.mem_iff_getElem?.1 hv
      obtain ⟨_, y, h1, _, _, _, h6⟩ := hx2 i v hi
      refine h6 (fun n hn => hx n ?_)
      rw [DataW.weights, ht]
      exact List.mem_cons_of_mem _ (List.mem_append_left _ (all_get (i := i) (by rw [List.getElem?_map, h1]; rfl) n hn))
/-- Fields one behind the other, from cell o on. -/
def ReadsAt (N : Nat) {α : Type} (o : Nat) (fs : List Field) (d : Kd α) (ok : α → Prop) : Prop :=
  ∀ {H : Type} (enc : TypeId × Value → H) (w : World) (spare : Nat → Bool) (held : Bool) (n : Nat) (cs : List Value) (xs : List (DataW H × List MemPlace)), n ≤ N → xs.length = fs.length →
    (∀ (i : Nat) (f : Field), fs[i]? = some f → DataW.trod enc Try.prog w 0 spare held n f.type ((cs.drop f.offset).take (Try.prog.cellsOf f.type)) = xs[i]?) →
    ∃ a : α, d.K w a ((cs.drop o).take d.sz) ∧ ((∀ n ∈ DataW.weightsEach Try.prog (fs.map (·.type)) (xs.map (·.1)), n ≤ reachBytes) → ok a)
theorem last {N : Nat} {α : Type} {f : Field} {d : Kd α} {ok : α → Prop} (hc : Try.prog.cellsOf f.type = d.sz) (R : Reads N f.type d ok) : ReadsAt N f.offset [f] d ok := by
  intro H enc w spare held n cs xs hN hl hx
  match xs, hl with
  | [y], _ =>
    have h := hx 0 f rfl
    rw [hc] at h
    obtain ⟨a, h1, h2⟩ := R enc w spare held n _ y hN h
    refine ⟨a, h1, fun hw => h2 (fun m hm => hw m ?_)⟩
    simp only [List.map_cons, List.map_nil, DataW.weightsEach]
    exact List.mem_append_left _ hm
theorem more {N : Nat} {α β : Type} {f : Field} {fs : List Field} {d : Kd α} {e : Kd β} {ok : α → Prop} {ok2 : β → Prop} (hc : Try.prog.cellsOf f.type = d.sz) (R : Reads N f.type d ok) (R2 : ReadsAt N (f.offset + d.sz) fs e ok2) :
    ReadsAt N f.offset (f :: fs) (Kd.pair d e) (fun x => ok x.1 ∧ ok2 x.2) := by
  intro H enc w spare held n cs xs hN hl hx
  match xs, hl with
  | y :: ys, hl =>
    have h := hx 0 f rfl
    rw [hc] at h
    obtain ⟨a, h1, h2⟩ := R enc w spare held n _ y hN h
    obtain ⟨b, g1, g2⟩ := R2 enc w spare held n cs ys hN (by simpa using hl) (fun i f' hf => hx (i + 1) f' hf)
    refine ⟨(a, b), ⟨_, _, ?_, h1, g1⟩, fun hw => ⟨h2 (fun m hm => hw m ?_), g2 (fun m hm => hw m ?_)⟩⟩
    · show (cs.drop f.offset).take (d.sz + e.sz) = _
      rw [List.take_add, List.drop_drop]
    · simp only [List.map_cons, DataW.weightsEach]
      exact List.mem_append_left _ hm
    · simp only [List.map_cons, DataW.weightsEach]
      exact List.mem_append_right _ hm
theorem struct {N : Nat} {α : Type} {t : TypeId} {fs : Array Field} {d : Kd α} {ok : α → Prop} (ht : Try.prog.underlying t = some (.struct fs)) (hc : Try.prog.cellsOf t = d.sz) (R : ReadsAt N 0 fs.toList d ok) : Reads (N + 1) t d ok := by
  intro H enc w spare held fuel cs x hN h
  obtain ⟨xs, n, hfn, rfl, hl, hlen, hx⟩ := DataW.trod_struct ht h
  obtain ⟨a, h1, h2⟩ := R enc w spare held n cs xs (by omega) (by rw [hlen, Array.length_toList]) (fun i f hf => hx i f (by rwa [Array.getElem?_toList] at hf))
  rw [List.drop_zero, List.take_of_length_le (by rw [hl, hc]; exact Nat.le_refl _)] at h1
  refine ⟨a, h1, fun hw => h2 (fun m hm => hw m ?_)⟩
  rw [DataW.weights, ht]
  exact hm
theorem iso {N : Nat} {α β : Type} {t : TypeId} {d : Kd α} {ok : α → Prop} (R : Reads N t d ok) (f : β → α) (g : α → β) (hfg : ∀ a, f (g a) = a) : Reads N t (Kd.iso d f) (fun b => ok (f b)) := by
  intro H enc w spare held fuel cs x hN h
  obtain ⟨a, h1, h2⟩ := R enc w spare held fuel cs x hN h
  refine ⟨g a, ?_, fun hw => ?_⟩
  · show d.K w (f (g a)) cs
    rw [hfg]; exact h1
  · show ok (f (g a))
    rw [hfg]; exact h2 hw
/-- A parameter. -/
theorem Reads.param {α : Type} {t : TypeId} {d : Kd α} {ok : α → Prop} (R : ∀ N, Reads N t d ok) {H : Type} {enc : TypeId × Value → H} {w : World} {spare : Nat → Bool} {held : Bool} {v : Value} {x : DataW H} {ps : List MemPlace}
    (h : DataW.Trod enc Try.prog w 0 spare held t v x ps) : ∃ a : α, d.K w a v.cells.toList ∧ ((∀ n ∈ x.weights Try.prog t, n ≤ reachBytes) → ok a) := by
  obtain ⟨fuel, hf⟩ := h
  exact R fuel enc w spare held fuel _ _ (Nat.le_refl _) hf
end Go.Proofs.Ytnkbgimihikhoaa.Rdt
namespace Go.Proofs.Ytnkbgimihikhoaa.PVt
open Go.RowKit Go.Proofs.YtnkbgimihikhoaaW.PrintWords Go.Proofs.YtnkbgimihikhoaaW.PrintLast Go.Proofs.YtnkbgimihikhoaaW.PrintMore
attribute [local go_sem] max2_int min2_int max_two min_two max_three min_three max_four min_four
set_option linter.unusedVariables false
set_option linter.unusedSimpArgs false
attribute [local go_sem high] eqA23
def topiaryref01_Has.l0 : Nat → List (S23) → Int → Int → Int → Option (Bool)
 | 0, _, _, _, _ => none
 | k + 1, x0, x5, x160000, x160001 => if x5 < (x0.length : Int) then (if 0 ≤ x5 then (if (((rd_T23 x0 x5).f0) == x160000 && (((rd_T23 x0 x5).f1) == x160001)) = true then (some true) else (topiaryref01_Has.l0 k x0 (wrap64 (x5 + 1)) x160000 x160001)) else (none)) else (some false)
def topiaryref01_Has.f (k : Nat) (l0 : List (S23)) (a1_0 : Int) (a1_1 : Int) : Option (Bool) := topiaryref01_Has.l0 k l0 0 a1_0 a1_1
set_option maxHeartbeats 8000000 in
set_option maxRecDepth 100000 in
theorem topiaryref01_Has.calls (k : Nat) (A0 : Option Addr) (c0 : Nat) (l0 : List (S23)) (a1_0 : Int) (a1_1 : Int) (r : Bool) (w : World) (hr0 : Kd.C k23 w A0 l0.length l0) (hc0 : l0.length ≤ c0) (h : topiaryref01_Has.f k l0 a1_0 a1_1 = some r) :
  Calls Try.prog 24 #[.slice A0 l0.length c0, .agg #[.int .i64 a1_0, .int .i64 a1_1]] w fun e w' => e = .returned (.bool r) ∧ Below w.heap.size w w' := by
 have hu23 := Try.underlying23
 have HR0 := Aside0.mk hr0
 have HC0 := Aside0.mk hc0
 clear hr0 hc0
 have HB := Aside0.mk (Below.refl w.heap.size w)
 have H : (topiaryref01_Has.l0 k l0 0 a1_0 a1_1) = some r := h
 clear h
 have H' := Aside0.mk H
 clear H
 go_enter Try.func24, Try.ntmps24
 go_wp2_with (first | ((with_reducible refine gate_dst (N := 3) rfl ?_); refine boxE (N := 3) (cs := #[.int .i64 a1_0, .int .i64 a1_1]) (t := 23) ?_; intro gb159 hg w3 hbox hb; have BK159 := Aside0.mk (hbox); have GW159 := Aside0.mk ((by rw [hg]; exact (below_size (bS HB)) : w.heap.size ≤ gb159)); have GE159 := Aside0.mk ((by rw [hg]; exact (below_size (bS HB)) : w.heap.size ≤ gb159)); replace HB := Aside0.mk (below_step (bS HB) hb); clear hb hbox hg))
 repeat (go_quiet (first | ((with_reducible refine gate_dst (N := 3) rfl ?_); refine boxE (N := 3) (cs := #[.int .i64 a1_0, .int .i64 a1_1]) (t := 23) ?_; intro gb159 hg w3 hbox hb; have BK159 := Aside0.mk (hbox); have GW159 := Aside0.mk ((by rw [hg]; exact (below_size (bS HB)) : w.heap.size ≤ gb159)); have GE159 := Aside0.mk ((by rw [hg]; exact (below_size (bS HB)) : w.heap.size ≤ gb159)); replace HB := Aside0.mk (below_step (bS HB) hb); clear hb hbox hg)); try go_wp2_with (first | ((with_reducible refine gate_dst (N := 3) rfl ?_); refine boxE (N := 3) (cs := #[.int .i64 a1_0, .int .i64 a1_1]) (t := 23) ?_; intro gb159 hg w3 hbox hb; have BK159 := Aside0.mk (hbox); have GW159 := Aside0.mk ((by rw [hg]; exact (below_size (bS HB)) : w.heap.size ≤ gb159)); have GE159 := Aside0.mk ((by rw [hg]; exact (below_size (bS HB)) : w.heap.size ≤ gb159)); replace HB := Aside0.mk (below_step (bS HB) hb); clear hb hbox hg)))
 go_loopg [5] k (fun kq v5 w' => ∃ (x5_1 : Int), v5 = .int .i64 x5_1 ∧ Aside0 (topiaryref01_Has.l0 kq l0 x5_1 a1_0 a1_1 = some r) ∧ Aside0 (kq ≤ k) ∧ Aside0 (w'.heap[gb159]? = some (.cells #[.int .i64 a1_0, .int .i64 a1_1] 23 (0, 0))) ∧ Aside0 (Below w.heap.size w w'))
 case atStart => exact ⟨(0), (by first | rfl | (simp; done) | (simp [*]; done)), H', ⟨Nat.le_refl _⟩, ⟨by (with_reducible repeat (first | refine blk_drewN ?_ _ | refine blk_drew ?_ | refine blk_alloc ?_ _)); exact BK159.out⟩, ⟨bS1 HB GE159⟩⟩
 case round =>
  clear H'
  (try clear c2); (try clear p2)
  obtain ⟨x5_1, rfl, HA, HK1, BK159, HB⟩ := hrel
  cases gk with
  | zero => exact absurd HA.out (by simp [topiaryref01_Has.l0])
  | succ k1 =>
   have H := HA.out
   clear HA
   simp only [topiaryref01_Has.l0] at H
   by_cases c4 : x5_1 < (l0.length : Int)
   ·rw [if_pos c4] at H
    have c4b0 : decide (x5_1 < (l0.length : Int)) = true := decide_eq_true c4
    clear c4
    by_cases c5 : 0 ≤ x5_1
    ·rw [if_pos c5] at H
     have c5b0 : decide (0 ≤ x5_1) = true := decide_eq_true c5
     clear c5
     by_cases c6 : (((rd_T23 l0 x5_1).f0) == a1_0 && (((rd_T23 l0 x5_1).f1) == a1_1)) = true
     ·rw [if_pos c6] at H
      have c6b0 : (((rd_T23 l0 x5_1).f0) == a1_0 && (((rd_T23 l0 x5_1).f1) == a1_1)) = true := c6
      (try (have c6b1 : decide (((rd_T23 l0 x5_1).f0) = a1_0 && (((rd_T23 l0 x5_1).f1) == a1_1)) = true := by simpa using c6))
      (try (have c6b2 : (((rd_T23 l0 x5_1).f0) == a1_0 && (((rd_T23 l0 x5_1).f1) == a1_1)) = true := by simpa using c6))
      clear c6
      obtain rfl := Option.some.inj H
      have p160 : 0 ≤ (x5_1 : Int) := of_decide_eq_true asmS
      have q160 : x5_1 < (l0.length : Int) := of_decide_eq_true asmS
      obtain ⟨ad160, e160, hx160_0, hx160_1⟩ := at_T23 HR0.out x5_1 p160 q160
      cases e160
      replace hx160_0 := (HB.out.cell (World.block_lt_of_cell? w _ hx160_0)).trans hx160_0
      replace hx160_1 := (HB.out.cell (World.block_lt_of_cell? w _ hx160_1)).trans hx160_1
      replace p160 := eq_true p160
      replace q160 := eq_true q160
      obtain ⟨hcz7_0, hcz7_1, hfz7_0, hfz7_1⟩ := b2e BK159
      go_wp2
      repeat (go_quiet (fail); try go_wp2)
      go_ret
      exact ⟨by first | rfl | (simp [errW_none, errW_some] <;> rfl) | (simp [*, errW_none, errW_some] <;> rfl), bS1 HB GE159⟩
     ·rw [if_neg c6] at H
      have c6b0 : (((rd_T23 l0 x5_1).f0) == a1_0 && (((rd_T23 l0 x5_1).f1) == a1_1)) = false := by simpa using c6
      (try (have c6b1 : decide (((rd_T23 l0 x5_1).f0) = a1_0 && (((rd_T23 l0 x5_1).f1) == a1_1)) = false := by simpa using c6))
      (try (have c6b2 : (((rd_T23 l0 x5_1).f0) == a1_0 && (((rd_T23 l0 x5_1).f1) == a1_1)) = false := by simpa using c6))
      (try (have c6b3 : ¬ (((rd_T23 l0 x5_1).f0) = a1_0 && (((rd_T23 l0 x5_1).f1) == a1_1)) := by simpa using c6))
      clear c6
      have H' := Aside0.mk H
      clear H
      have p160 : 0 ≤ (x5_1 : Int) := of_decide_eq_true asmS
      have q160 : x5_1 < (l0.length : Int) := of_decide_eq_true asmS
      obtain ⟨ad160, e160, hx160_0, hx160_1⟩ := at_T23 HR0.out x5_1 p160 q160
      cases e160
      replace hx160_0 := (HB.out.cell (World.block_lt_of_cell? w _ hx160_0)).trans hx160_0
      replace hx160_1 := (HB.out.cell (World.block_lt_of_cell? w _ hx160_1)).trans hx160_1
      replace p160 := eq_true p160
      replace q160 := eq_true q160
      obtain ⟨hcz8_0, hcz8_1, hfz8_0, hfz8_1⟩ := b2e BK159
      go_wp2
      repeat (go_quiet (fail); try go_wp2)
      go_roundg k1
      case measure => have := HK1.out; omega
      case rel => exact ⟨(wrap64 (x5_1 + 1)), (by first | rfl | (simp; done) | (simp [*]; done)), H', ⟨by have := HK1.out; omega⟩, ⟨by (with_reducible repeat (first | refine blk_drewN ?_ _ | refine blk_drew ?_ | refine blk_alloc ?_ _)); exact BK159.out⟩, ⟨bS1 HB GE159⟩⟩
    ·rw [if_neg c5] at H
     exact absurd H (by simp)
   ·rw [if_neg c4] at H
    have c4b0 : decide (x5_1 < (l0.length : Int)) = false := decide_eq_false c4
    clear c4
    obtain rfl := Option.some.inj H
    go_wp2
    repeat (go_quiet (fail); try go_wp2)
    go_ret
    exact ⟨by first | rfl | (simp [errW_none, errW_some] <;> rfl) | (simp [*, errW_none, errW_some] <;> rfl), bS1 HB GE159⟩
def topiaryref14_Tag.l0 : Nat → Int → List (S52) → List (S97) → List (S74) → List (S111) → Int → Int → Option (ByteArray × Bool)
 | 0, _, _, _, _, _, _, _ => none
 | k + 1, x6, x162000, x162001, x162002, x162003, x163000, x163001 => if x6 < (x162000.length : Int) then (if 0 ≤ x6 then (if (((rd_T52 x162000 x6).f0.f0) == x163000 && (((rd_T52 x162000 x6).f0.f1) == x163001)) = true then (some ((rd_T52 x162000 x6).f1, true)) else (topiaryref14_Tag.l0 k (wrap64 (x6 + 1)) x162000 x162001 x162002 x162003 x163000 x163001)) else (none)) else (some ((⟨#[]⟩ : ByteArray), false))
def topiaryref14_Tag.f (k : Nat) (l0_0 : List (S52)) (l0_1 : List (S97)) (l0_2 : List (S74)) (l0_3 : List (S111)) (a1_0 : Int) (a1_1 : Int) : Option (ByteArray × Bool) := topiaryref14_Tag.l0 k 0 l0_0 l0_1 l0_2 l0_3 a1_0 a1_1
set_option maxHeartbeats 8000000 in
set_option maxRecDepth 100000 in
theorem topiaryref14_Tag.calls (k : Nat) (A0_0 : Option Addr) (c0_0 : Nat) (l0_0 : List (S52)) (A0_1 : Option Addr) (c0_1 : Nat) (l0_1 : List (S97)) (A0_2 : Option Addr) (c0_2 : Nat) (l0_2 : List (S74)) (A0_3 : Option Addr) (c0_3 : Nat) (l0_3 : List (S111)) (a1_0 : Int) (a1_1 : Int) (r1 : ByteArray) (r2 : Bool) (w : World) (hr0_0 : Kd.C k52 w A0_0 l0_0.length l0_0) (hc0_0 : l0_0.length ≤ c0_0) (hr0_1 : Kd.C k97 w A0_1 l0_1.length l0_1) (hc0_1 : l0_1.length ≤ c0_1) (hr0_2 : Kd.C k74 w A0_2 l0_2.length l0_2) (hc0_2 : l0_2.length ≤ c0_2) (hr0_3 : Kd.C k111 w A0_3 l0_3.length l0_3) (hc0_3 : l0_3.length ≤ c0_3) (h : topiaryref14_Tag.f k l0_0 l0_1 l0_2 l0_3 a1_0 a1_1 = some (r1, r2)) :
  Calls Try.prog 56 #[.agg #[.slice A0_0 l0_0.length c0_0, .slice A0_1 l0_1.length c0_1, .slice A0_2 l0_2.length c0_2, .slice A0_3 l0_3.length c0_3], .agg #[.int .i64 a1_0, .int .i64 a1_1]] w fun e w' => e = .returned (.tuple #[.string r1, .bool r2]) ∧ Below w.heap.size w w' := by
 have hu39 := Try.underlying39
 have hu23 := Try.underlying23
 have HR0_0 := Aside0.mk hr0_0
 have HC0_0 := Aside0.mk hc0_0
 clear hr0_0 hc0_0
 have HR0_1 := Aside0.mk hr0_1
 have HC0_1 := Aside0.mk hc0_1
 clear hr0_1 hc0_1
 have HR0_2 := Aside0.mk hr0_2
 have HC0_2 := Aside0.mk hc0_2
 clear hr0_2 hc0_2
 have HR0_3 := Aside0.mk hr0_3
 have HC0_3 := Aside0.mk hc0_3
 clear hr0_3 hc0_3
 have HB := Aside0.mk (Below.refl w.heap.size w)
 have H : (topiaryref14_Tag.l0 k 0 l0_0 l0_1 l0_2 l0_3 a1_0 a1_1) = some (r1, r2) := h
 clear h
 have H' := Aside0.mk H
 clear H
 go_enter Try.func56, Try.ntmps56
 go_wp2_with (first | ((with_reducible refine gate_dst (N := 2) rfl ?_); refine boxE (N := 2) (cs := #[.slice A0_0 l0_0.length c0_0, .slice A0_1 l0_1.length c0_1, .slice A0_2 l0_2.length c0_2, .slice A0_3 l0_3.length c0_3]) (t := 39) ?_; intro gb161 hg w3 hbox hb; have BK161 := Aside0.mk (hbox); have GW161 := Aside0.mk ((by rw [hg]; exact (below_size (bS HB)) : w.heap.size ≤ gb161)); have GE161 := Aside0.mk ((by rw [hg]; exact (below_size (bS HB)) : w.heap.size ≤ gb161)); replace HB := Aside0.mk (below_step (bS HB) hb); clear hb hbox hg) | ((with_reducible refine gate_dst (N := 3) rfl ?_); refine boxE (N := 3) (cs := #[.int .i64 a1_0, .int .i64 a1_1]) (t := 23) ?_; intro gb162 hg w4 hbox hb; have BK162 := Aside0.mk (hbox); have GW162 := Aside0.mk ((by rw [hg]; exact (below_size (bS1 HB GE161)) : w.heap.size ≤ gb162)); have GE162 := Aside0.mk ((by rw [hg]; exact (below_size (bS1 HB GE161)) : w.heap.size ≤ gb162)); have NB161_162 := nLt BK161 hg; have NB162_161 := nGt BK161 hg; replace BK161 := bB BK161 hb; replace HB := Aside0.mk (below_step (bS1 HB GE161) hb); clear hb hbox hg))
 repeat (go_quiet (first | ((with_reducible refine gate_dst (N := 2) rfl ?_); refine boxE (N := 2) (cs := #[.slice A0_0 l0_0.length c0_0, .slice A0_1 l0_1.length c0_1, .slice A0_2 l0_2.length c0_2, .slice A0_3 l0_3.length c0_3]) (t := 39) ?_; intro gb161 hg w3 hbox hb; have BK161 := Aside0.mk (hbox); have GW161 := Aside0.mk ((by rw [hg]; exact (below_size (bS HB)) : w.heap.size ≤ gb161)); have GE161 := Aside0.mk ((by rw [hg]; exact (below_size (bS HB)) : w.heap.size ≤ gb161)); replace HB := Aside0.mk (below_step (bS HB) hb); clear hb hbox hg) | ((with_reducible refine gate_dst (N := 3) rfl ?_); refine boxE (N := 3) (cs := #[.int .i64 a1_0, .int .i64 a1_1]) (t := 23) ?_; intro gb162 hg w4 hbox hb; have BK162 := Aside0.mk (hbox); have GW162 := Aside0.mk ((by rw [hg]; exact (below_size (bS1 HB GE161)) : w.heap.size ≤ gb162)); have GE162 := Aside0.mk ((by rw [hg]; exact (below_size (bS1 HB GE161)) : w.heap.size ≤ gb162)); have NB161_162 := nLt BK161 hg; have NB162_161 := nGt BK161 hg; replace BK161 := bB BK161 hb; replace HB := Aside0.mk (below_step (bS1 HB GE161) hb); clear hb hbox hg)); try go_wp2_with (first | ((with_reducible refine gate_dst (N := 2) rfl ?_); refine boxE (N := 2) (cs := #[.slice A0_0 l0_0.length c0_0, .slice A0_1 l0_1.length c0_1, .slice A0_2 l0_2.length c0_2, .slice A0_3 l0_3.length c0_3]) (t := 39) ?_; intro gb161 hg w3 hbox hb; have BK161 := Aside0.mk (hbox); have GW161 := Aside0.mk ((by rw [hg]; exact (below_size (bS HB)) : w.heap.size ≤ gb161)); have GE161 := Aside0.mk ((by rw [hg]; exact (below_size (bS HB)) : w.heap.size ≤ gb161)); replace HB := Aside0.mk (below_step (bS HB) hb); clear hb hbox hg) | ((with_reducible refine gate_dst (N := 3) rfl ?_); refine boxE (N := 3) (cs := #[.int .i64 a1_0, .int .i64 a1_1]) (t := 23) ?_; intro gb162 hg w4 hbox hb; have BK162 := Aside0.mk (hbox); have GW162 := Aside0.mk ((by rw [hg]; exact (below_size (bS1 HB GE161)) : w.heap.size ≤ gb162)); have GE162 := Aside0.mk ((by rw [hg]; exact (below_size (bS1 HB GE161)) : w.heap.size ≤ gb162)); have NB161_162 := nLt BK161 hg; have NB162_161 := nGt BK161 hg; replace BK161 := bB BK161 hb; replace HB := Aside0.mk (below_step (bS1 HB GE161) hb); clear hb hbox hg)))
 go_loopg [6] k (fun kq v6 w' => ∃ (x6_1 : Int), v6 = .int .i64 x6_1 ∧ Aside0 (topiaryref14_Tag.l0 kq x6_1 l0_0 l0_1 l0_2 l0_3 a1_0 a1_1 = some (r1, r2)) ∧ Aside0 (kq ≤ k) ∧ Aside0 (w'.heap[gb161]? = some (.cells #[(.slice A0_0 l0_0.length c0_0), (.slice A0_1 l0_1.length c0_1), (.slice A0_2 l0_2.length c0_2), (.slice A0_3 l0_3.length c0_3)] 39 (0, 0))) ∧ Aside0 (w'.heap[gb162]? = some (.cells #[.int .i64 a1_0, .int .i64 a1_1] 23 (0, 0))) ∧ Aside0 (Below w.heap.size w w'))
 case atStart => exact ⟨(0), (by first | rfl | (simp; done) | (simp [*]; done)), H', ⟨Nat.le_refl _⟩, ⟨by (with_reducible repeat (first | refine blk_drewN ?_ _ | refine blk_drew ?_ | refine blk_alloc ?_ _)); exact BK161.out⟩, ⟨by (with_reducible repeat (first | refine blk_drewN ?_ _ | refine blk_drew ?_ | refine blk_alloc ?_ _)); exact BK162.out⟩, ⟨bS2 HB GE161 GE162⟩⟩
 case round =>
  clear H'
  (try clear p2)
  obtain ⟨x6_1, rfl, HA, HK1, BK161, BK162, HB⟩ := hrel
  cases gk with
  | zero => exact absurd HA.out (by simp [topiaryref14_Tag.l0])
  | succ k1 =>
   have H := HA.out
   clear HA
   simp only [topiaryref14_Tag.l0] at H
   by_cases c5 : x6_1 < (l0_0.length : Int)
   ·rw [if_pos c5] at H
    have c5b0 : decide (x6_1 < (l0_0.length : Int)) = true := decide_eq_true c5
    clear c5
    by_cases c6 : 0 ≤ x6_1
    ·rw [if_pos c6] at H
     have c6b0 : decide (0 ≤ x6_1) = true := decide_eq_true c6
     clear c6
     by_cases c7 : (((rd_T52 l0_0 x6_1).f0.f0) == a1_0 && (((rd_T52 l0_0 x6_1).f0.f1) == a1_1)) = true
     ·rw [if_pos c7] at H
      have c7b0 : (((rd_T52 l0_0 x6_1).f0.f0) == a1_0 && (((rd_T52 l0_0 x6_1).f0.f1) == a1_1)) = true := c7
      (try (have c7b1 : decide (((rd_T52 l0_0 x6_1).f0.f0) = a1_0 && (((rd_T52 l0_0 x6_1).f0.f1) == a1_1)) = true := by simpa using c7))
      (try (have c7b2 : (((rd_T52 l0_0 x6_1).f0.f0) == a1_0 && (((rd_T52 l0_0 x6_1).f0.f1) == a1_1)) = true := by simpa using c7))
      clear c7
      simp only [Option.some.injEq, Prod.mk.injEq] at H
      obtain ⟨rfl, rfl⟩ := H
      have hnb8 := NB161_162.out
      have hnc8 := NB162_161.out
      obtain ⟨hcz9_0, hcz9_1, hcz9_2, hcz9_3, hfz9_0, hfz9_1, hfz9_2, hfz9_3⟩ := b4e BK161
      have p163 : 0 ≤ (x6_1 : Int) := of_decide_eq_true asmS
      have q163 : x6_1 < (l0_0.length : Int) := of_decide_eq_true asmS
      obtain ⟨ad163, e163, hx163_0, hx163_1, hx163_2⟩ := at_T52 HR0_0.out x6_1 p163 q163
      cases e163
      replace hx163_0 := (HB.out.cell (World.block_lt_of_cell? w _ hx163_0)).trans hx163_0
      replace hx163_1 := (HB.out.cell (World.block_lt_of_cell? w _ hx163_1)).trans hx163_1
      replace hx163_2 := (HB.out.cell (World.block_lt_of_cell? w _ hx163_2)).trans hx163_2
      replace p163 := eq_true p163
      replace q163 := eq_true q163
      obtain ⟨hcz10_0, hcz10_1, hfz10_0, hfz10_1⟩ := b2e BK162
      have p164 : 0 ≤ (x6_1 : Int) := of_decide_eq_true asmS
      have q164 : x6_1 < (l0_0.length : Int) := of_decide_eq_true asmS
      obtain ⟨ad164, e164, hx164_0, hx164_1, hx164_2⟩ := at_T52 HR0_0.out x6_1 p164 q164
      obtain rfl : ad163 = ad164 := (by injection e164)
      replace hx164_0 := (HB.out.cell (World.block_lt_of_cell? w _ hx164_0)).trans hx164_0
      replace hx164_1 := (HB.out.cell (World.block_lt_of_cell? w _ hx164_1)).trans hx164_1
      replace hx164_2 := (HB.out.cell (World.block_lt_of_cell? w _ hx164_2)).trans hx164_2
      replace p164 := eq_true p164
      replace q164 := eq_true q164
      go_wp2
      repeat (go_quiet (fail); try go_wp2)
      go_ret2
      exact ⟨by first | rfl | (simp [errW_none, errW_some] <;> rfl) | (simp [*, errW_none, errW_some] <;> rfl), bS2 HB GE161 GE162⟩
     ·rw [if_neg c7] at H
      have c7b0 : (((rd_T52 l0_0 x6_1).f0.f0) == a1_0 && (((rd_T52 l0_0 x6_1).f0.f1) == a1_1)) = false := by simpa using c7
      (try (have c7b1 : decide (((rd_T52 l0_0 x6_1).f0.f0) = a1_0 && (((rd_T52 l0_0 x6_1).f0.f1) == a1_1)) = false := by simpa using c7))
      (try (have c7b2 : (((rd_T52 l0_0 x6_1).f0.f0) == a1_0 && (((rd_T52 l0_0 x6_1).f0.f1) == a1_1)) = false := by simpa using c7))
      (try (have c7b3 : ¬ (((rd_T52 l0_0 x6_1).f0.f0) = a1_0 && (((rd_T52 l0_0 x6_1).f0.f1) == a1_1)) := by simpa using c7))
      clear c7
      have H' := Aside0.mk H
      clear H
      have hnb11 := NB161_162.out
      have hnc11 := NB162_161.out
      obtain ⟨hcz12_0, hcz12_1, hcz12_2, hcz12_3, hfz12_0, hfz12_1, hfz12_2, hfz12_3⟩ := b4e BK161
      have p163 : 0 ≤ (x6_1 : Int) := of_decide_eq_true asmS
      have q163 : x6_1 < (l0_0.length : Int) := of_decide_eq_true asmS
      obtain ⟨ad163, e163, hx163_0, hx163_1, hx163_2⟩ := at_T52 HR0_0.out x6_1 p163 q163
      cases e163
      replace hx163_0 := (HB.out.cell (World.block_lt_of_cell? w _ hx163_0)).trans hx163_0
      replace hx163_1 := (HB.out.cell (World.block_lt_of_cell? w _ hx163_1)).trans hx163_1
      replace hx163_2 := (HB.out.cell (World.block_lt_of_cell? w _ hx163_2)).trans hx163_2
      replace p163 := eq_true p163
      replace q163 := eq_true q163
      obtain ⟨hcz13_0, hcz13_1, hfz13_0, hfz13_1⟩ := b2e BK162
      go_wp2
      repeat (go_quiet (fail); try go_wp2)
      go_roundg k1
      case measure => have := HK1.out; omega
      case rel => exact ⟨(wrap64 (x6_1 + 1)), (by first | rfl | (simp; done) | (simp [*]; done)), H', ⟨by have := HK1.out; omega⟩, ⟨by (with_reducible repeat (first | refine blk_drewN ?_ _ | refine blk_drew ?_ | refine blk_alloc ?_ _)); exact BK161.out⟩, ⟨by (with_reducible repeat (first | refine blk_drewN ?_ _ | refine blk_drew ?_ | refine blk_alloc ?_ _)); exact BK162.out⟩, ⟨bS2 HB GE161 GE162⟩⟩
    ·rw [if_neg c6] at H
     exact absurd H (by simp)
   ·rw [if_neg c5] at H
    have c5b0 : decide (x6_1 < (l0_0.length : Int)) = false := decide_eq_false c5
    clear c5
    simp only [Option.some.injEq, Prod.mk.injEq] at H
    obtain ⟨rfl, rfl⟩ := H
    have hnb14 := NB161_162.out
    have hnc14 := NB162_161.out
    obtain ⟨hcz15_0, hcz15_1, hcz15_2, hcz15_3, hfz15_0, hfz15_1, hfz15_2, hfz15_3⟩ := b4e BK161
    go_wp2
    repeat (go_quiet (fail); try go_wp2)
    go_ret2
    exact ⟨by first | rfl | (simp [errW_none, errW_some] <;> rfl) | (simp [*, errW_none, errW_some] <;> rfl), bS2 HB GE161 GE162⟩
def topiaryref13_Get.l0 : Nat → List (S111) → ByteArray → Int → Int → Int → Option (Int × Int × ByteArray × Int × Int × ByteArray × Bool × Bool)
 | 0, _, _, _, _, _ => none
 | k + 1, x0, x2, x8, x166000, x166001 => if x8 < (x0.length : Int) then (if 0 ≤ x8 then (if (((rd_T111 x0 x8).f0.f0) == x166000 && (((rd_T111 x0 x8).f0.f1) == x166001)) = true then (if ((rd_T111 x0 x8).f1).toList = x2.toList then (some ((rd_T111 x0 x8).f0.f0, (rd_T111 x0 x8).f0.f1, (rd_T111 x0 x8).f1, (rd_T111 x0 x8).f2.f0, (rd_T111 x0 x8).f2.f1, (rd_T111 x0 x8).f3, (rd_T111 x0 x8).f4, true)) else (topiaryref13_Get.l0 k x0 x2 (wrap64 (x8 + 1)) x166000 x166001)) else (topiaryref13_Get.l0 k x0 x2 (wrap64 (x8 + 1)) x166000 x166001)) else (none)) else (some (0, 0, (⟨#[]⟩ : ByteArray), 0, 0, (⟨#[]⟩ : ByteArray), false, false))
def topiaryref13_Get.f (k : Nat) (l0 : List (S111)) (a1_0 : Int) (a1_1 : Int) (a2 : ByteArray) : Option (Int × Int × ByteArray × Int × Int × ByteArray × Bool × Bool) := topiaryref13_Get.l0 k l0 a2 0 a1_0 a1_1
set_option maxHeartbeats 8000000 in
set_option maxRecDepth 100000 in
theorem topiaryref13_Get.calls (k : Nat) (A0 : Option Addr) (c0 : Nat) (l0 : List (S111)) (a1_0 : Int) (a1_1 : Int) (a2 : ByteArray) (r1 : Int) (r2 : Int) (r3 : ByteArray) (r4 : Int) (r5 : Int) (r6 : ByteArray) (r7 : Bool) (r8 : Bool) (w : World) (hr0 : Kd.C k111 w A0 l0.length l0) (hc0 : l0.length ≤ c0) (h : topiaryref13_Get.f k l0 a1_0 a1_1 a2 = some (r1, r2, r3, r4, r5, r6, r7, r8)) :
  Calls Try.prog 85 #[.slice A0 l0.length c0, .agg #[.int .i64 a1_0, .int .i64 a1_1], .string a2] w fun e w' => e = .returned (.tuple #[.agg #[.int .i64 r1, .int .i64 r2, .string r3, .int .i64 r4, .int .i64 r5, .string r6, .bool r7], .bool r8]) ∧ Below w.heap.size w w' := by
 have hu23 := Try.underlying23
 have hu111 := Try.underlying111
 have HR0 := Aside0.mk hr0
 have HC0 := Aside0.mk hc0
 clear hr0 hc0
 have HB := Aside0.mk (Below.refl w.heap.size w)
 have H : (topiaryref13_Get.l0 k l0 a2 0 a1_0 a1_1) = some (r1, r2, r3, r4, r5, r6, r7, r8) := h
 clear h
 have H' := Aside0.mk H
 clear H
 go_enter Try.func85, Try.ntmps85
 go_wp2_with (first | ((with_reducible refine gate_dst (N := 4) rfl ?_); refine boxE (N := 4) (cs := #[.int .i64 a1_0, .int .i64 a1_1]) (t := 23) ?_; intro gb165 hg w4 hbox hb; have BK165 := Aside0.mk (hbox); have GW165 := Aside0.mk ((by rw [hg]; exact (below_size (bS HB)) : w.heap.size ≤ gb165)); have GE165 := Aside0.mk ((by rw [hg]; exact (below_size (bS HB)) : w.heap.size ≤ gb165)); replace HB := Aside0.mk (below_step (bS HB) hb); clear hb hbox hg) | ((with_reducible refine gate_dst (N := 6) rfl ?_); refine boxE (N := 6) (cs := #[.int .i64 0, .int .i64 0, .string (⟨#[]⟩ : ByteArray), .int .i64 0, .int .i64 0, .string (⟨#[]⟩ : ByteArray), .bool false]) (t := 111) ?_; intro gb166 hg w5 hbox hb; have BK166 := Aside0.mk (hbox); have GW166 := Aside0.mk ((by rw [hg]; exact (below_size (bS1 HB GE165)) : w.heap.size ≤ gb166)); have GE166 := Aside0.mk ((by rw [hg]; exact (below_size (bS1 HB GE165)) : w.heap.size ≤ gb166)); have NB165_166 := nLt BK165 hg; have NB166_165 := nGt BK165 hg; replace BK165 := bB BK165 hb; replace HB := Aside0.mk (below_step (bS1 HB GE165) hb); clear hb hbox hg))
 repeat (go_quiet (first | ((with_reducible refine gate_dst (N := 4) rfl ?_); refine boxE (N := 4) (cs := #[.int .i64 a1_0, .int .i64 a1_1]) (t := 23) ?_; intro gb165 hg w4 hbox hb; have BK165 := Aside0.mk (hbox); have GW165 := Aside0.mk ((by rw [hg]; exact (below_size (bS HB)) : w.heap.size ≤ gb165)); have GE165 := Aside0.mk ((by rw [hg]; exact (below_size (bS HB)) : w.heap.size ≤ gb165)); replace HB := Aside0.mk (below_step (bS HB) hb); clear hb hbox hg) | ((with_reducible refine gate_dst (N := 6) rfl ?_); refine boxE (N := 6) (cs := #[.int .i64 0, .int .i64 0, .string (⟨#[]⟩ : ByteArray), .int .i64 0, .int .i64 0, .string (⟨#[]⟩ : ByteArray), .bool false]) (t := 111) ?_; intro gb166 hg w5 hbox hb; have BK166 := Aside0.mk (hbox); have GW166 := Aside0.mk ((by rw [hg]; exact (below_size (bS1 HB GE165)) : w.heap.size ≤ gb166)); have GE166 := Aside0.mk ((by rw [hg]; exact (below_size (bS1 HB GE165)) : w.heap.size ≤ gb166)); have NB165_166 := nLt BK165 hg; have NB166_165 := nGt BK165 hg; replace BK165 := bB BK165 hb; replace HB := Aside0.mk (below_step (bS1 HB GE165) hb); clear hb hbox hg)); try go_wp2_with (first | ((with_reducible refine gate_dst (N := 4) rfl ?_); refine boxE (N := 4) (cs := #[.int .i64 a1_0, .int .i64 a1_1]) (t := 23) ?_; intro gb165 hg w4 hbox hb; have BK165 := Aside0.mk (hbox); have GW165 := Aside0.mk ((by rw [hg]; exact (below_size (bS HB)) : w.heap.size ≤ gb165)); have GE165 := Aside0.mk ((by rw [hg]; exact (below_size (bS HB)) : w.heap.size ≤ gb165)); replace HB := Aside0.mk (below_step (bS HB) hb); clear hb hbox hg) | ((with_reducible refine gate_dst (N := 6) rfl ?_); refine boxE (N := 6) (cs := #[.int .i64 0, .int .i64 0, .string (⟨#[]⟩ : ByteArray), .int .i64 0, .int .i64 0, .string (⟨#[]⟩ : ByteArray), .bool false]) (t := 111) ?_; intro gb166 hg w5 hbox hb; have BK166 := Aside0.mk (hbox); have GW166 := Aside0.mk ((by rw [hg]; exact (below_size (bS1 HB GE165)) : w.heap.size ≤ gb166)); have GE166 := Aside0.mk ((by rw [hg]; exact (below_size (bS1 HB GE165)) : w.heap.size ≤ gb166)); have NB165_166 := nLt BK165 hg; have NB166_165 := nGt BK165 hg; replace BK165 := bB BK165 hb; replace HB := Aside0.mk (below_step (bS1 HB GE165) hb); clear hb hbox hg)))
 go_loopg [8] k (fun kq v8 w' => ∃ (x8_1 : Int) (x167000_1 : Int) (x167001_1 : Int) (x167002_1 : ByteArray) (x167003_1 : Int) (x167004_1 : Int) (x167005_1 : ByteArray) (x167006_1 : Bool), v8 = .int .i64 x8_1 ∧ Aside0 (topiaryref13_Get.l0 kq l0 a2 x8_1 a1_0 a1_1 = some (r1, r2, r3, r4, r5, r6, r7, r8)) ∧ Aside0 (kq ≤ k) ∧ Aside0 (w'.heap[gb165]? = some (.cells #[.int .i64 a1_0, .int .i64 a1_1] 23 (0, 0))) ∧ Aside0 (w'.heap[gb166]? = some (.cells #[.int .i64 x167000_1, .int .i64 x167001_1, .string x167002_1, .int .i64 x167003_1, .int .i64 x167004_1, .string x167005_1, .bool x167006_1] 111 (0, 0))) ∧ Aside0 (Below w.heap.size w w'))
 case atStart => exact ⟨(0), (0), (0), ((⟨#[]⟩ : ByteArray)), (0), (0), ((⟨#[]⟩ : ByteArray)), (false), (by first | rfl | (simp; done) | (simp [*]; done)), H', ⟨Nat.le_refl _⟩, ⟨by (with_reducible repeat (first | refine blk_drewN ?_ _ | refine blk_drew ?_ | refine blk_alloc ?_ _)); exact BK165.out⟩, ⟨by (with_reducible repeat (first | refine blk_drewN ?_ _ | refine blk_drew ?_ | refine blk_alloc ?_ _)); exact BK166.out⟩, ⟨bS2 HB GE165 GE166⟩⟩
 case round =>
  clear H'
  (try clear p2)
  obtain ⟨x8_1, x167000_1, x167001_1, x167002_1, x167003_1, x167004_1, x167005_1, x167006_1, rfl, HA, HK1, BK165, BK166, HB⟩ := hrel
  cases gk with
  | zero => exact absurd HA.out (by simp [topiaryref13_Get.l0])
  | succ k1 =>
   have H := HA.out
   clear HA
   simp only [topiaryref13_Get.l0] at H
   by_cases c6 : x8_1 < (l0.length : Int)
   ·rw [if_pos c6] at H
    have c6b0 : decide (x8_1 < (l0.length : Int)) = true := decide_eq_true c6
    clear c6
    by_cases c7 : 0 ≤ x8_1
    ·rw [if_pos c7] at H
     have c7b0 : decide (0 ≤ x8_1) = true := decide_eq_true c7
     clear c7
     by_cases c8 : (((rd_T111 l0 x8_1).f0.f0) == a1_0 && (((rd_T111 l0 x8_1).f0.f1) == a1_1)) = true
     ·rw [if_pos c8] at H
      have c8b0 : (((rd_T111 l0 x8_1).f0.f0) == a1_0 && (((rd_T111 l0 x8_1).f0.f1) == a1_1)) = true := c8
      (try (have c8b1 : decide (((rd_T111 l0 x8_1).f0.f0) = a1_0 && (((rd_T111 l0 x8_1).f0.f1) == a1_1)) = true := by simpa using c8))
      (try (have c8b2 : (((rd_T111 l0 x8_1).f0.f0) == a1_0 && (((rd_T111 l0 x8_1).f0.f1) == a1_1)) = true := by simpa using c8))
      clear c8
      by_cases c9 : ((rd_T111 l0 x8_1).f1).toList = a2.toList
      ·rw [if_pos c9] at H
       have c9b0 : (((rd_T111 l0 x8_1).f1).toList == a2.toList) = true := beq_iff_eq.mpr c9
       have c9b1 : (((rd_T111 l0 x8_1).f1).toList != a2.toList) = false := bne_eq_false_iff_eq.mpr c9
       clear c9
       simp only [Option.some.injEq, Prod.mk.injEq] at H
       obtain ⟨rfl, rfl, rfl, rfl, rfl, rfl, rfl, rfl⟩ := H
       have p167 : 0 ≤ (x8_1 : Int) := of_decide_eq_true asmS
       have q167 : x8_1 < (l0.length : Int) := of_decide_eq_true asmS
       obtain ⟨ad167, e167, hx167_0, hx167_1, hx167_2, hx167_3, hx167_4, hx167_5, hx167_6⟩ := at_T111 HR0.out x8_1 p167 q167
       cases e167
       replace hx167_0 := (HB.out.cell (World.block_lt_of_cell? w _ hx167_0)).trans hx167_0
       replace hx167_1 := (HB.out.cell (World.block_lt_of_cell? w _ hx167_1)).trans hx167_1
       replace hx167_2 := (HB.out.cell (World.block_lt_of_cell? w _ hx167_2)).trans hx167_2
       replace hx167_3 := (HB.out.cell (World.block_lt_of_cell? w _ hx167_3)).trans hx167_3
       replace hx167_4 := (HB.out.cell (World.block_lt_of_cell? w _ hx167_4)).trans hx167_4
       replace hx167_5 := (HB.out.cell (World.block_lt_of_cell? w _ hx167_5)).trans hx167_5
       replace hx167_6 := (HB.out.cell (World.block_lt_of_cell? w _ hx167_6)).trans hx167_6
       replace p167 := eq_true p167
       replace q167 := eq_true q167
       have hnb10 := NB165_166.out
       have hnc10 := NB166_165.out
       obtain ⟨hcz11_0, hcz11_1, hfz11_0, hfz11_1⟩ := b2e BK165
       have p168 : 0 ≤ (x8_1 : Int) := of_decide_eq_true asmS
       have q168 : x8_1 < (l0.length : Int) := of_decide_eq_true asmS
       obtain ⟨ad168, e168, hx168_0, hx168_1, hx168_2, hx168_3, hx168_4, hx168_5, hx168_6⟩ := at_T111 HR0.out x8_1 p168 q168
       obtain rfl : ad167 = ad168 := (by injection e168)
       replace hx168_0 := (HB.out.cell (World.block_lt_of_cell? w _ hx168_0)).trans hx168_0
       replace hx168_1 := (HB.out.cell (World.block_lt_of_cell? w _ hx168_1)).trans hx168_1
       replace hx168_2 := (HB.out.cell (World.block_lt_of_cell? w _ hx168_2)).trans hx168_2
       replace hx168_3 := (HB.out.cell (World.block_lt_of_cell? w _ hx168_3)).trans hx168_3
       replace hx168_4 := (HB.out.cell (World.block_lt_of_cell? w _ hx168_4)).trans hx168_4
       replace hx168_5 := (HB.out.cell (World.block_lt_of_cell? w _ hx168_5)).trans hx168_5
       replace hx168_6 := (HB.out.cell (World.block_lt_of_cell? w _ hx168_6)).trans hx168_6
       replace p168 := eq_true p168
       replace q168 := eq_true q168
       have p169 : 0 ≤ (x8_1 : Int) := of_decide_eq_true asmS
       have q169 : x8_1 < (l0.length : Int) := of_decide_eq_true asmS
       obtain ⟨ad169, e169, hx169_0, hx169_1, hx169_2, hx169_3, hx169_4, hx169_5, hx169_6⟩ := at_T111 HR0.out x8_1 p169 q169
       obtain rfl : ad167 = ad169 := (by injection e169)
       replace hx169_0 := (HB.out.cell (World.block_lt_of_cell? w _ hx169_0)).trans hx169_0
       replace hx169_1 := (HB.out.cell (World.block_lt_of_cell? w _ hx169_1)).trans hx169_1
       replace hx169_2 := (HB.out.cell (World.block_lt_of_cell? w _ hx169_2)).trans hx169_2
       replace hx169_3 := (HB.out.cell (World.block_lt_of_cell? w _ hx169_3)).trans hx169_3
       replace hx169_4 := (HB.out.cell (World.block_lt_of_cell? w _ hx169_4)).trans hx169_4
       replace hx169_5 := (HB.out.cell (World.block_lt_of_cell? w _ hx169_5)).trans hx169_5
       replace hx169_6 := (HB.out.cell (World.block_lt_of_cell? w _ hx169_6)).trans hx169_6
       replace p169 := eq_true p169
       replace q169 := eq_true q169
       have hcz12_0 : wr.cell? ⟨gb166, 0, none⟩ = some (.int .i64 x167000_1) := (blk_cell BK166.out 0).trans rfl
       have hcz12_1 : wr.cell? ⟨gb166, 1, none⟩ = some (.int .i64 x167001_1) := (blk_cell BK166.out 1).trans rfl
       have hcz12_2 : wr.cell? ⟨gb166, 2, none⟩ = some (.string x167002_1) := (blk_cell BK166.out 2).trans rfl
       have hcz12_3 : wr.cell? ⟨gb166, 3, none⟩ = some (.int .i64 x167003_1) := (blk_cell BK166.out 3).trans rfl
       have hcz12_4 : wr.cell? ⟨gb166, 4, none⟩ = some (.int .i64 x167004_1) := (blk_cell BK166.out 4).trans rfl
       have hcz12_5 : wr.cell? ⟨gb166, 5, none⟩ = some (.string x167005_1) := (blk_cell BK166.out 5).trans rfl
       have hcz12_6 : wr.cell? ⟨gb166, 6, none⟩ = some (.bool x167006_1) := (blk_cell BK166.out 6).trans rfl
       have hfz12_0 := blk_frozen BK166.out 0
       have hfz12_1 := blk_frozen BK166.out 1
       have hfz12_2 := blk_frozen BK166.out 2
       have hfz12_3 := blk_frozen BK166.out 3
       have hfz12_4 := blk_frozen BK166.out 4
       have hfz12_5 := blk_frozen BK166.out 5
       have hfz12_6 := blk_frozen BK166.out 6
       go_wp2
       repeat (go_quiet (fail); try go_wp2)
       refine bodyPost_ret (results_ct rfl _ _ gb166 111 #[.int .i64 ((rd_T111 l0 x8_1).f0.f0), .int .i64 ((rd_T111 l0 x8_1).f0.f1), .string ((rd_T111 l0 x8_1).f1), .int .i64 ((rd_T111 l0 x8_1).f2.f0), .int .i64 ((rd_T111 l0 x8_1).f2.f1), .string ((rd_T111 l0 x8_1).f3), .bool ((rd_T111 l0 x8_1).f4)] (0, 0) _ rfl (by (with_reducible repeat (first | refine blk_drewN ?_ _ | refine blk_drew ?_ | refine blk_alloc ?_ _)); refine blk_put (cs := #[.int .i64 ((rd_T111 l0 x8_1).f0.f0), .int .i64 ((rd_T111 l0 x8_1).f0.f1), .string ((rd_T111 l0 x8_1).f1), .int .i64 ((rd_T111 l0 x8_1).f2.f0), .int .i64 ((rd_T111 l0 x8_1).f2.f1), .string ((rd_T111 l0 x8_1).f3), .bool x167006_1]) ?_ 6 _ rfl; (with_reducible repeat (first | refine blk_drewN ?_ _ | refine blk_drew ?_ | refine blk_alloc ?_ _)); refine blk_put (cs := #[.int .i64 ((rd_T111 l0 x8_1).f0.f0), .int .i64 ((rd_T111 l0 x8_1).f0.f1), .string ((rd_T111 l0 x8_1).f1), .int .i64 ((rd_T111 l0 x8_1).f2.f0), .int .i64 ((rd_T111 l0 x8_1).f2.f1), .string x167005_1, .bool x167006_1]) ?_ 5 _ rfl; (with_reducible repeat (first | refine blk_drewN ?_ _ | refine blk_drew ?_ | refine blk_alloc ?_ _)); refine blk_put (cs := #[.int .i64 ((rd_T111 l0 x8_1).f0.f0), .int .i64 ((rd_T111 l0 x8_1).f0.f1), .string ((rd_T111 l0 x8_1).f1), .int .i64 ((rd_T111 l0 x8_1).f2.f0), .int .i64 x167004_1, .string x167005_1, .bool x167006_1]) ?_ 4 _ rfl; (with_reducible repeat (first | refine blk_drewN ?_ _ | refine blk_drew ?_ | refine blk_alloc ?_ _)); refine blk_put (cs := #[.int .i64 ((rd_T111 l0 x8_1).f0.f0), .int .i64 ((rd_T111 l0 x8_1).f0.f1), .string ((rd_T111 l0 x8_1).f1), .int .i64 x167003_1, .int .i64 x167004_1, .string x167005_1, .bool x167006_1]) ?_ 3 _ rfl; (with_reducible repeat (first | refine blk_drewN ?_ _ | refine blk_drew ?_ | refine blk_alloc ?_ _)); refine blk_put (cs := #[.int .i64 ((rd_T111 l0 x8_1).f0.f0), .int .i64 ((rd_T111 l0 x8_1).f0.f1), .string x167002_1, .int .i64 x167003_1, .int .i64 x167004_1, .string x167005_1, .bool x167006_1]) ?_ 2 _ rfl; (with_reducible repeat (first | refine blk_drewN ?_ _ | refine blk_drew ?_ | refine blk_alloc ?_ _)); refine blk_put (cs := #[.int .i64 ((rd_T111 l0 x8_1).f0.f0), .int .i64 x167001_1, .string x167002_1, .int .i64 x167003_1, .int .i64 x167004_1, .string x167005_1, .bool x167006_1]) ?_ 1 _ rfl; (with_reducible repeat (first | refine blk_drewN ?_ _ | refine blk_drew ?_ | refine blk_alloc ?_ _)); refine blk_put (cs := #[.int .i64 x167000_1, .int .i64 x167001_1, .string x167002_1, .int .i64 x167003_1, .int .i64 x167004_1, .string x167005_1, .bool x167006_1]) ?_ 0 _ rfl; (with_reducible repeat (first | refine blk_drewN ?_ _ | refine blk_drew ?_ | refine blk_alloc ?_ _)); exact BK166.out) Try.underlying111 rfl (by kernel_rfl)) rfl ?_
       exact ⟨by first | rfl | (simp [errW_none, errW_some] <;> rfl) | (simp [*, errW_none, errW_some] <;> rfl), bS2 HB GE165 GE166⟩
      ·rw [if_neg c9] at H
       have c9b0 : (((rd_T111 l0 x8_1).f1).toList == a2.toList) = false := beq_eq_false_iff_ne.mpr c9
       have c9b1 : (((rd_T111 l0 x8_1).f1).toList != a2.toList) = true := bne_iff_ne.mpr c9
       have H' := Aside0.mk H
       clear H
       have p167 : 0 ≤ (x8_1 : Int) := of_decide_eq_true asmS
       have q167 : x8_1 < (l0.length : Int) := of_decide_eq_true asmS
       obtain ⟨ad167, e167, hx167_0, hx167_1, hx167_2, hx167_3, hx167_4, hx167_5, hx167_6⟩ := at_T111 HR0.out x8_1 p167 q167
       cases e167
       replace hx167_0 := (HB.out.cell (World.block_lt_of_cell? w _ hx167_0)).trans hx167_0
       replace hx167_1 := (HB.out.cell (World.block_lt_of_cell? w _ hx167_1)).trans hx167_1
       replace hx167_2 := (HB.out.cell (World.block_lt_of_cell? w _ hx167_2)).trans hx167_2
       replace hx167_3 := (HB.out.cell (World.block_lt_of_cell? w _ hx167_3)).trans hx167_3
       replace hx167_4 := (HB.out.cell (World.block_lt_of_cell? w _ hx167_4)).trans hx167_4
       replace hx167_5 := (HB.out.cell (World.block_lt_of_cell? w _ hx167_5)).trans hx167_5
       replace hx167_6 := (HB.out.cell (World.block_lt_of_cell? w _ hx167_6)).trans hx167_6
       replace p167 := eq_true p167
       replace q167 := eq_true q167
       have hnb13 := NB165_166.out
       have hnc13 := NB166_165.out
       obtain ⟨hcz14_0, hcz14_1, hfz14_0, hfz14_1⟩ := b2e BK165
       have p168 : 0 ≤ (x8_1 : Int) := of_decide_eq_true asmS
       have q168 : x8_1 < (l0.length : Int) := of_decide_eq_true asmS
       obtain ⟨ad168, e168, hx168_0, hx168_1, hx168_2, hx168_3, hx168_4, hx168_5, hx168_6⟩ := at_T111 HR0.out x8_1 p168 q168
       obtain rfl : ad167 = ad168 := (by injection e168)
       replace hx168_0 := (HB.out.cell (World.block_lt_of_cell? w _ hx168_0)).trans hx168_0
       replace hx168_1 := (HB.out.cell (World.block_lt_of_cell? w _ hx168_1)).trans hx168_1
       replace hx168_2 := (HB.out.cell (World.block_lt_of_cell? w _ hx168_2)).trans hx168_2
       replace hx168_3 := (HB.out.cell (World.block_lt_of_cell? w _ hx168_3)).trans hx168_3
       replace hx168_4 := (HB.out.cell (World.block_lt_of_cell? w _ hx168_4)).trans hx168_4
       replace hx168_5 := (HB.out.cell (World.block_lt_of_cell? w _ hx168_5)).trans hx168_5
       replace hx168_6 := (HB.out.cell (World.block_lt_of_cell? w _ hx168_6)).trans hx168_6
       replace p168 := eq_true p168
       replace q168 := eq_true q168
       go_wp2
       repeat (go_quiet (fail); try go_wp2)
       go_roundg k1
       case measure => have := HK1.out; omega
       case rel => exact ⟨(wrap64 (x8_1 + 1)), (x167000_1), (x167001_1), (x167002_1), (x167003_1), (x167004_1), (x167005_1), (x167006_1), (by first | rfl | (simp; done) | (simp [*]; done)), H', ⟨by have := HK1.out; omega⟩, ⟨by (with_reducible repeat (first | refine blk_drewN ?_ _ | refine blk_drew ?_ | refine blk_alloc ?_ _)); exact BK165.out⟩, ⟨by (with_reducible repeat (first | refine blk_drewN ?_ _ | refine blk_drew ?_ | refine blk_alloc ?_ _)); exact BK166.out⟩, ⟨bS2 HB GE165 GE166⟩⟩
     ·rw [if_neg c8] at H
      have c8b0 : (((rd_T111 l0 x8_1).f0.f0) == a1_0 && (((rd_T111 l0 x8_1).f0.f1) == a1_1)) = false := by simpa using c8
      (try (have c8b1 : decide (((rd_T111 l0 x8_1).f0.f0) = a1_0 && (((rd_T111 l0 x8_1).f0.f1) == a1_1)) = false := by simpa using c8))
      (try (have c8b2 : (((rd_T111 l0 x8_1).f0.f0) == a1_0 && (((rd_T111 l0 x8_1).f0.f1) == a1_1)) = false := by simpa using c8))
      (try (have c8b3 : ¬ (((rd_T111 l0 x8_1).f0.f0) = a1_0 && (((rd_T111 l0 x8_1).f0.f1) == a1_1)) := by simpa using c8))
      clear c8
      have H' := Aside0.mk H
      clear H
      have p167 : 0 ≤ (x8_1 : Int) := of_decide_eq_true asmS
      have q167 : x8_1 < (l0.length : Int) := of_decide_eq_true asmS
      obtain ⟨ad167, e167, hx167_0, hx167_1, hx167_2, hx167_3, hx167_4, hx167_5, hx167_6⟩ := at_T111 HR0.out x8_1 p167 q167
      cases e167
      replace hx167_0 := (HB.out.cell (World.block_lt_of_cell? w _ hx167_0)).trans hx167_0
      replace hx167_1 := (HB.out.cell (World.block_lt_of_cell? w _ hx167_1)).trans hx167_1
      replace hx167_2 := (HB.out.cell (World.block_lt_of_cell? w _ hx167_2)).trans hx167_2
      replace hx167_3 := (HB.out.cell (World.block_lt_of_cell? w _ hx167_3)).trans hx167_3
      replace hx167_4 := (HB.out.cell (World.block_lt_of_cell? w _ hx167_4)).trans hx167_4
      replace hx167_5 := (HB.out.cell (World.block_lt_of_cell? w _ hx167_5)).trans hx167_5
      replace hx167_6 := (HB.out.cell (World.block_lt_of_cell? w _ hx167_6)).trans hx167_6
      replace p167 := eq_true p167
      replace q167 := eq_true q167
      have hnb15 := NB165_166.out
      have hnc15 := NB166_165.out
      obtain ⟨hcz16_0, hcz16_1, hfz16_0, hfz16_1⟩ := b2e BK165
      go_wp2
      repeat (go_quiet (fail); try go_wp2)
      go_roundg k1
      case measure => have := HK1.out; omega
      case rel => exact ⟨(wrap64 (x8_1 + 1)), (x167000_1), (x167001_1), (x167002_1), (x167003_1), (x167004_1), (x167005_1), (x167006_1), (by first | rfl | (simp; done) | (simp [*]; done)), H', ⟨by have := HK1.out; omega⟩, ⟨by (with_reducible repeat (first | refine blk_drewN ?_ _ | refine blk_drew ?_ | refine blk_alloc ?_ _)); exact BK165.out⟩, ⟨by (with_reducible repeat (first | refine blk_drewN ?_ _ | refine blk_drew ?_ | refine blk_alloc ?_ _)); exact BK166.out⟩, ⟨bS2 HB GE165 GE166⟩⟩
    ·rw [if_neg c7] at H
     exact absurd H (by simp)
   ·rw [if_neg c6] at H
    have c6b0 : decide (x8_1 < (l0.length : Int)) = false := decide_eq_false c6
    clear c6
    simp only [Option.some.injEq, Prod.mk.injEq] at H
    obtain ⟨rfl, rfl, rfl, rfl, rfl, rfl, rfl, rfl⟩ := H
    have hnb17 := NB166_165.out
    have hnc17 := NB165_166.out
    have hcz18_0 : wr.cell? ⟨gb166, 0, none⟩ = some (.int .i64 x167000_1) := (blk_cell BK166.out 0).trans rfl
    have hcz18_1 : wr.cell? ⟨gb166, 1, none⟩ = some (.int .i64 x167001_1) := (blk_cell BK166.out 1).trans rfl
    have hcz18_2 : wr.cell? ⟨gb166, 2, none⟩ = some (.string x167002_1) := (blk_cell BK166.out 2).trans rfl
    have hcz18_3 : wr.cell? ⟨gb166, 3, none⟩ = some (.int .i64 x167003_1) := (blk_cell BK166.out 3).trans rfl
    have hcz18_4 : wr.cell? ⟨gb166, 4, none⟩ = some (.int .i64 x167004_1) := (blk_cell BK166.out 4).trans rfl
    have hcz18_5 : wr.cell? ⟨gb166, 5, none⟩ = some (.string x167005_1) := (blk_cell BK166.out 5).trans rfl
    have hcz18_6 : wr.cell? ⟨gb166, 6, none⟩ = some (.bool x167006_1) := (blk_cell BK166.out 6).trans rfl
    have hfz18_0 := blk_frozen BK166.out 0
    have hfz18_1 := blk_frozen BK166.out 1
    have hfz18_2 := blk_frozen BK166.out 2
    have hfz18_3 := blk_frozen BK166.out 3
    have hfz18_4 := blk_frozen BK166.out 4
    have hfz18_5 := blk_frozen BK166.out 5
    have hfz18_6 := blk_frozen BK166.out 6
    go_wp2
    repeat (go_quiet (fail); try go_wp2)
    refine bodyPost_ret (results_ct rfl _ _ gb166 111 #[.int .i64 0, .int .i64 0, .string (⟨#[]⟩ : ByteArray), .int .i64 0, .int .i64 0, .string (⟨#[]⟩ : ByteArray), .bool false] (0, 0) _ rfl (by (with_reducible repeat (first | refine blk_drewN ?_ _ | refine blk_drew ?_ | refine blk_alloc ?_ _)); refine blk_put (cs := #[.int .i64 0, .int .i64 0, .string (⟨#[]⟩ : ByteArray), .int .i64 0, .int .i64 0, .string (⟨#[]⟩ : ByteArray), .bool x167006_1]) ?_ 6 _ rfl; (with_reducible repeat (first | refine blk_drewN ?_ _ | refine blk_drew ?_ | refine blk_alloc ?_ _)); refine blk_put (cs := #[.int .i64 0, .int .i64 0, .string (⟨#[]⟩ : ByteArray), .int .i64 0, .int .i64 0, .string x167005_1, .bool x167006_1]) ?_ 5 _ rfl; (with_reducible repeat (first | refine blk_drewN ?_ _ | refine blk_drew ?_ | refine blk_alloc ?_ _)); refine blk_put (cs := #[.int .i64 0, .int .i64 0, .string (⟨#[]⟩ : ByteArray), .int .i64 0, .int .i64 x167004_1, .string x167005_1, .bool x167006_1]) ?_ 4 _ rfl; (with_reducible repeat (first | refine blk_drewN ?_ _ | refine blk_drew ?_ | refine blk_alloc ?_ _)); refine blk_put (cs := #[.int .i64 0, .int .i64 0, .string (⟨#[]⟩ : ByteArray), .int .i64 x167003_1, .int .i64 x167004_1, .string x167005_1, .bool x167006_1]) ?_ 3 _ rfl; (with_reducible repeat (first | refine blk_drewN ?_ _ | refine blk_drew ?_ | refine blk_alloc ?_ _)); refine blk_put (cs := #[.int .i64 0, .int .i64 0, .string x167002_1, .int .i64 x167003_1, .int .i64 x167004_1, .string x167005_1, .bool x167006_1]) ?_ 2 _ rfl; (with_reducible repeat (first | refine blk_drewN ?_ _ | refine blk_drew ?_ | refine blk_alloc ?_ _)); refine blk_put (cs := #[.int .i64 0, .int .i64 x167001_1, .string x167002_1, .int .i64 x167003_1, .int .i64 x167004_1, .string x167005_1, .bool x167006_1]) ?_ 1 _ rfl; (with_reducible repeat (first | refine blk_drewN ?_ _ | refine blk_drew ?_ | refine blk_alloc ?_ _)); refine blk_put (cs := #[.int .i64 x167000_1, .int .i64 x167001_1, .string x167002_1, .int .i64 x167003_1, .int .i64 x167004_1, .string x167005_1, .bool x167006_1]) ?_ 0 _ rfl; (with_reducible repeat (first | refine blk_drewN ?_ _ | refine blk_drew ?_ | refine blk_alloc ?_ _)); exact BK166.out) Try.underlying111 rfl (by kernel_rfl)) rfl ?_
    exact ⟨by first | rfl | (simp [errW_none, errW_some] <;> rfl) | (simp [*, errW_none, errW_some] <;> rfl), bS2 HB GE165 GE166⟩
end Go.Proofs.Ytnkbgimihikhoaa.PVt
namespace Go.Proofs.Ytnkbgimihikhoaa.PVt
open Go.RowKit Go.Proofs.YtnkbgimihikhoaaW.PrintWords Go.Proofs.YtnkbgimihikhoaaW.PrintLast Go.Proofs.YtnkbgimihikhoaaW.PrintMore
attribute [local go_sem] max2_int min2_int max_two min_two max_three min_three max_four min_four
set_option linter.unusedVariables false
set_option linter.unusedSimpArgs false
def topiaryref15_text.f (k : Nat) (l0_0 : List (S52)) (l0_1 : List (S97)) (l0_2 : List (S74)) (l0_3 : List (S111)) (a1_0 : Int) (a1_1 : Int) : Option (ByteArray) := (topiaryref13_Get.f k l0_3 a1_0 a1_1 (⟨#[]⟩ : ByteArray)).bind fun bt172 => (if bt172.2.2.2.2.2.2.1 = true then (some (⟨#[]⟩ : ByteArray)) else (some bt172.2.2.2.2.2.1))
set_option maxHeartbeats 8000000 in
set_option maxRecDepth 100000 in
theorem topiaryref15_text.calls (k : Nat) (A0_0 : Option Addr) (c0_0 : Nat) (l0_0 : List (S52)) (A0_1 : Option Addr) (c0_1 : Nat) (l0_1 : List (S97)) (A0_2 : Option Addr) (c0_2 : Nat) (l0_2 : List (S74)) (A0_3 : Option Addr) (c0_3 : Nat) (l0_3 : List (S111)) (a1_0 : Int) (a1_1 : Int) (r : ByteArray) (w : World) (hr0_0 : Kd.C k52 w A0_0 l0_0.length l0_0) (hc0_0 : l0_0.length ≤ c0_0) (hr0_1 : Kd.C k97 w A0_1 l0_1.length l0_1) (hc0_1 : l0_1.length ≤ c0_1) (hr0_2 : Kd.C k74 w A0_2 l0_2.length l0_2) (hc0_2 : l0_2.length ≤ c0_2) (hr0_3 : Kd.C k111 w A0_3 l0_3.length l0_3) (hc0_3 : l0_3.length ≤ c0_3) (h : topiaryref15_text.f k l0_0 l0_1 l0_2 l0_3 a1_0 a1_1 = some r) :
  Calls Try.prog 71 #[.agg #[.slice A0_0 l0_0.length c0_0, .slice A0_1 l0_1.length c0_1, .slice A0_2 l0_2.length c0_2, .slice A0_3 l0_3.length c0_3], .agg #[.int .i64 a1_0, .int .i64 a1_1]] w fun e w' => e = .returned (.string r) ∧ Below w.heap.size w w' := by
 have hu39 := Try.underlying39
 have hu23 := Try.underlying23
 have hu111 := Try.underlying111
 have HR0_0 := Aside0.mk hr0_0
 have HC0_0 := Aside0.mk hc0_0
 clear hr0_0 hc0_0
 have HR0_1 := Aside0.mk hr0_1
 have HC0_1 := Aside0.mk hc0_1
 clear hr0_1 hc0_1
 have HR0_2 := Aside0.mk hr0_2
 have HC0_2 := Aside0.mk hc0_2
 clear hr0_2 hc0_2
 have HR0_3 := Aside0.mk hr0_3
 have HC0_3 := Aside0.mk hc0_3
 clear hr0_3 hc0_3
 have HB := Aside0.mk (Below.refl w.heap.size w)
 have H : ((topiaryref13_Get.f k l0_3 a1_0 a1_1 (⟨#[]⟩ : ByteArray)).bind fun bt172 => (if bt172.2.2.2.2.2.2.1 = true then (some (⟨#[]⟩ : ByteArray)) else (some bt172.2.2.2.2.2.1))) = some r := h
 clear h
 replace H := Option.bind_eq_some_iff.mp H
 obtain ⟨⟨t172, t173, t174, t175, t176, t177, t178, t179⟩, A30, H⟩ := H
 replace H : (if t178 = true then (some (⟨#[]⟩ : ByteArray)) else (some t177)) = some r := H
 have A3 := Aside0.mk A30
 clear A30
 by_cases c4 : t178 = true
 ·subst c4
  have H1 : (some (⟨#[]⟩ : ByteArray)) = some r := by rw [if_pos rfl] at H; exact H
  clear H
  have H := H1
  clear H1
  obtain rfl := Option.some.inj H
  go_enter Try.func71, Try.ntmps71
  go_wp2_with (first | ((with_reducible refine gate_dst (N := 2) rfl ?_); refine boxE (N := 2) (cs := #[.slice A0_0 l0_0.length c0_0, .slice A0_1 l0_1.length c0_1, .slice A0_2 l0_2.length c0_2, .slice A0_3 l0_3.length c0_3]) (t := 39) ?_; intro gb170 hg w5 hbox hb; have BK170 := Aside0.mk (hbox); have GW170 := Aside0.mk ((by rw [hg]; exact (below_size (bS HB)) : w.heap.size ≤ gb170)); have GE170 := Aside0.mk ((by rw [hg]; exact (below_size (bS HB)) : w.heap.size ≤ gb170)); replace HB := Aside0.mk (below_step (bS HB) hb); clear hb hbox hg) | ((with_reducible refine gate_dst (N := 3) rfl ?_); refine boxE (N := 3) (cs := #[.int .i64 a1_0, .int .i64 a1_1]) (t := 23) ?_; intro gb171 hg w6 hbox hb; have BK171 := Aside0.mk (hbox); have GW171 := Aside0.mk ((by rw [hg]; exact (below_size (bS1 HB GE170)) : w.heap.size ≤ gb171)); have GE171 := Aside0.mk ((by rw [hg]; exact (below_size (bS1 HB GE170)) : w.heap.size ≤ gb171)); have NB170_171 := nLt BK170 hg; have NB171_170 := nGt BK170 hg; replace BK170 := bB BK170 hb; replace HB := Aside0.mk (below_step (bS1 HB GE170) hb); clear hb hbox hg; have hnb7 := NB170_171.out; have hnc7 := NB171_170.out; obtain ⟨hcz8_0, hcz8_1, hcz8_2, hcz8_3, hfz8_0, hfz8_1, hfz8_2, hfz8_3⟩ := b4e BK170; have hcz9_0 : w6.cell? ⟨gb171, 0, none⟩ = some (.int .i64 a1_0) := (blk_cell BK171.out 0).trans rfl; have hcz9_1 : w6.cell? ⟨gb171, 1, none⟩ = some (.int .i64 a1_1) := (blk_cell BK171.out 1).trans rfl; have hfz9_0 := blk_frozen BK171.out 0; have hfz9_1 := blk_frozen BK171.out 1) | ((with_reducible refine gate_callee (f := 85) rfl ?_); refine goesL_ (some 11) rfl rfl Try.func85 (by kernel_rfl) rfl #[.slice A0_3 l0_3.length c0_3, .agg #[.int .i64 a1_0, .int .i64 a1_1], .string (⟨#[]⟩ : ByteArray)] rfl argS ?_; (with_reducible refine (topiaryref13_Get.calls k _ _ l0_3 a1_0 a1_1 (⟨#[]⟩ : ByteArray) t172 t173 t174 t175 t176 t177 true t179 _ ?side1 ?side2 A3.out).mono ?_); (case side1 => exact CS (Kd.C_below HR0_3.out HB.out)); (case side2 => exact HC0_3.out); rintro e w10 ⟨rfl, hb⟩; refine ⟨_, rfl, ?_⟩; replace BK170 := bB BK170 hb; replace BK171 := bB BK171 hb; replace HB := Aside0.mk (below_step (bS2 HB GE170 GE171) hb); (try clear hb)) | ((with_reducible refine gate_dst (N := 5) rfl ?_); refine boxE (N := 5) (cs := #[.int .i64 0, .int .i64 0, .string (⟨#[]⟩ : ByteArray), .int .i64 0, .int .i64 0, .string (⟨#[]⟩ : ByteArray), .bool false]) (t := 111) ?_; intro gb180 hg w11 hbox hb; have BK180 := Aside0.mk (hbox); have GW180 := Aside0.mk ((by rw [hg]; exact (below_size (bS2 HB GE170 GE171)) : w.heap.size ≤ gb180)); have GE180 := Aside0.mk ((by rw [hg]; exact (below_size (bS2 HB GE170 GE171)) : w.heap.size ≤ gb180)); have NB170_180 := nLt BK170 hg; have NB180_170 := nGt BK170 hg; have NB171_180 := nLt BK171 hg; have NB180_171 := nGt BK171 hg; replace BK170 := bB BK170 hb; replace BK171 := bB BK171 hb; replace HB := Aside0.mk (below_step (bS2 HB GE170 GE171) hb); clear hb hbox hg; have hnb12 := NB180_170.out; have hnc12 := NB170_180.out; have hnb13 := NB180_171.out; have hnc13 := NB171_180.out; have hcz14_0 : w11.cell? ⟨gb180, 0, none⟩ = some (.int .i64 0) := (blk_cell BK180.out 0).trans rfl; have hcz14_1 : w11.cell? ⟨gb180, 1, none⟩ = some (.int .i64 0) := (blk_cell BK180.out 1).trans rfl; have hcz14_2 : w11.cell? ⟨gb180, 2, none⟩ = some (.string (⟨#[]⟩ : ByteArray)) := (blk_cell BK180.out 2).trans rfl; have hcz14_3 : w11.cell? ⟨gb180, 3, none⟩ = some (.int .i64 0) := (blk_cell BK180.out 3).trans rfl; have hcz14_4 : w11.cell? ⟨gb180, 4, none⟩ = some (.int .i64 0) := (blk_cell BK180.out 4).trans rfl; have hcz14_5 : w11.cell? ⟨gb180, 5, none⟩ = some (.string (⟨#[]⟩ : ByteArray)) := (blk_cell BK180.out 5).trans rfl; have hcz14_6 : w11.cell? ⟨gb180, 6, none⟩ = some (.bool false) := (blk_cell BK180.out 6).trans rfl; have hfz14_0 := blk_frozen BK180.out 0; have hfz14_1 := blk_frozen BK180.out 1; have hfz14_2 := blk_frozen BK180.out 2; have hfz14_3 := blk_frozen BK180.out 3; have hfz14_4 := blk_frozen BK180.out 4; have hfz14_5 := blk_frozen BK180.out 5; have hfz14_6 := blk_frozen BK180.out 6))
  go_ret
  exact ⟨by first | rfl | (simp [errW_none, errW_some] <;> rfl) | (simp [*, errW_none, errW_some] <;> rfl), bS3 HB GE170 GE171 GE180⟩
 ·replace c4 := Bool.eq_false_iff.mpr c4
  subst c4
  have H1 : (some t177) = some r := by rw [if_neg (show ¬ (false = true) by decide)] at H; exact H
  clear H
  have H := H1
  clear H1
  obtain rfl := Option.some.inj H
  go_enter Try.func71, Try.ntmps71
  go_wp2_with (first | ((with_reducible refine gate_dst (N := 2) rfl ?_); refine boxE (N := 2) (cs := #[.slice A0_0 l0_0.length c0_0, .slice A0_1 l0_1.length c0_1, .slice A0_2 l0_2.length c0_2, .slice A0_3 l0_3.length c0_3]) (t := 39) ?_; intro gb170 hg w15 hbox hb; have BK170 := Aside0.mk (hbox); have GW170 := Aside0.mk ((by rw [hg]; exact (below_size (bS HB)) : w.heap.size ≤ gb170)); have GE170 := Aside0.mk ((by rw [hg]; exact (below_size (bS HB)) : w.heap.size ≤ gb170)); replace HB := Aside0.mk (below_step (bS HB) hb); clear hb hbox hg) | ((with_reducible refine gate_dst (N := 3) rfl ?_); refine boxE (N := 3) (cs := #[.int .i64 a1_0, .int .i64 a1_1]) (t := 23) ?_; intro gb171 hg w16 hbox hb; have BK171 := Aside0.mk (hbox); have GW171 := Aside0.mk ((by rw [hg]; exact (below_size (bS1 HB GE170)) : w.heap.size ≤ gb171)); have GE171 := Aside0.mk ((by rw [hg]; exact (below_size (bS1 HB GE170)) : w.heap.size ≤ gb171)); have NB170_171 := nLt BK170 hg; have NB171_170 := nGt BK170 hg; replace BK170 := bB BK170 hb; replace HB := Aside0.mk (below_step (bS1 HB GE170) hb); clear hb hbox hg; have hnb17 := NB170_171.out; have hnc17 := NB171_170.out; obtain ⟨hcz18_0, hcz18_1, hcz18_2, hcz18_3, hfz18_0, hfz18_1, hfz18_2, hfz18_3⟩ := b4e BK170; have hcz19_0 : w16.cell? ⟨gb171, 0, none⟩ = some (.int .i64 a1_0) := (blk_cell BK171.out 0).trans rfl; have hcz19_1 : w16.cell? ⟨gb171, 1, none⟩ = some (.int .i64 a1_1) := (blk_cell BK171.out 1).trans rfl; have hfz19_0 := blk_frozen BK171.out 0; have hfz19_1 := blk_frozen BK171.out 1) | ((with_reducible refine gate_callee (f := 85) rfl ?_); refine goesL_ (some 11) rfl rfl Try.func85 (by kernel_rfl) rfl #[.slice A0_3 l0_3.length c0_3, .agg #[.int .i64 a1_0, .int .i64 a1_1], .string (⟨#[]⟩ : ByteArray)] rfl argS ?_; (with_reducible refine (topiaryref13_Get.calls k _ _ l0_3 a1_0 a1_1 (⟨#[]⟩ : ByteArray) t172 t173 t174 t175 t176 t177 false t179 _ ?side1 ?side2 A3.out).mono ?_); (case side1 => exact CS (Kd.C_below HR0_3.out HB.out)); (case side2 => exact HC0_3.out); rintro e w20 ⟨rfl, hb⟩; refine ⟨_, rfl, ?_⟩; replace BK170 := bB BK170 hb; replace BK171 := bB BK171 hb; replace HB := Aside0.mk (below_step (bS2 HB GE170 GE171) hb); (try clear hb)) | ((with_reducible refine gate_dst (N := 5) rfl ?_); refine boxE (N := 5) (cs := #[.int .i64 0, .int .i64 0, .string (⟨#[]⟩ : ByteArray), .int .i64 0, .int .i64 0, .string (⟨#[]⟩ : ByteArray), .bool false]) (t := 111) ?_; intro gb180 hg w21 hbox hb; have BK180 := Aside0.mk (hbox); have GW180 := Aside0.mk ((by rw [hg]; exact (below_size (bS2 HB GE170 GE171)) : w.heap.size ≤ gb180)); have GE180 := Aside0.mk ((by rw [hg]; exact (below_size (bS2 HB GE170 GE171)) : w.heap.size ≤ gb180)); have NB170_180 := nLt BK170 hg; have NB180_170 := nGt BK170 hg; have NB171_180 := nLt BK171 hg; have NB180_171 := nGt BK171 hg; replace BK170 := bB BK170 hb; replace BK171 := bB BK171 hb; replace HB := Aside0.mk (below_step (bS2 HB GE170 GE171) hb); clear hb hbox hg; have hnb22 := NB180_170.out; have hnc22 := NB170_180.out; have hnb23 := NB180_171.out; have hnc23 := NB171_180.out; have hcz24_0 : w21.cell? ⟨gb180, 0, none⟩ = some (.int .i64 0) := (blk_cell BK180.out 0).trans rfl; have hcz24_1 : w21.cell? ⟨gb180, 1, none⟩ = some (.int .i64 0) := (blk_cell BK180.out 1).trans rfl; have hcz24_2 : w21.cell? ⟨gb180, 2, none⟩ = some (.string (⟨#[]⟩ : ByteArray)) := (blk_cell BK180.out 2).trans rfl; have hcz24_3 : w21.cell? ⟨gb180, 3, none⟩ = some (.int .i64 0) := (blk_cell BK180.out 3).trans rfl; have hcz24_4 : w21.cell? ⟨gb180, 4, none⟩ = some (.int .i64 0) := (blk_cell BK180.out 4).trans rfl; have hcz24_5 : w21.cell? ⟨gb180, 5, none⟩ = some (.string (⟨#[]⟩ : ByteArray)) := (blk_cell BK180.out 5).trans rfl; have hcz24_6 : w21.cell? ⟨gb180, 6, none⟩ = some (.bool false) := (blk_cell BK180.out 6).trans rfl; have hfz24_0 := blk_frozen BK180.out 0; have hfz24_1 := blk_frozen BK180.out 1; have hfz24_2 := blk_frozen BK180.out 2; have hfz24_3 := blk_frozen BK180.out 3; have hfz24_4 := blk_frozen BK180.out 4; have hfz24_5 := blk_frozen BK180.out 5; have hfz24_6 := blk_frozen BK180.out 6))
  go_ret
  exact ⟨by first | rfl | (simp [errW_none, errW_some] <;> rfl) | (simp [*, errW_none, errW_some] <;> rfl), bS3 HB GE170 GE171 GE180⟩
end Go.Proofs.Ytnkbgimihikhoaa.PVt
