/- Small words of our own: the conversion of bytes to their own type. -/
import Derived.Test.YtnifikpldibbdaaPSealx0
import Derived.Lib.SlBytesConst
namespace Go.Proofs.Ytnifikpldibbdaa.PSeal
open Go.RowKit Go.Proofs.YtnifikpldibbdaaW.PrintWords Go.Proofs.YtnifikpldibbdaaW.PrintLast Go.Proofs.YtnifikpldibbdaaW.PrintMore
set_option linter.unusedVariables false
theorem my_modify_cell (w : World) (g : Nat) (b : Addr) (f : Obj → Obj) (h1 : ∀ c e fr, ∃ fr', f (.cells c e fr) = .cells c e fr') (h2 : ∀ o, (∀ c e fr, o ≠ .cells c e fr) → f o = o) :
    ({ w with heap := w.heap.modify g f } : World).cell? b = w.cell? b := by
  unfold World.cell?
  dsimp only
  rw [Array.getElem?_modify]
  by_cases h : g = b.block
  · rw [if_pos h]
    cases w.heap[b.block]? with
    | none => rfl
    | some o =>
      cases o with
      | cells c e fr =>
        obtain ⟨fr', hf⟩ := h1 c e fr
        rw [Option.map_some, hf]
      | _ => rw [Option.map_some, h2 _ (by intros; simp)]
  · rw [if_neg h]
theorem my_freeze_cell (w : World) (a b : Addr) (n : Nat) : (w.freeze a n).cell? b = w.cell? b := by
  unfold World.freeze
  split
  · rfl
  · exact my_modify_cell w a.block b _ (fun c e fr => ⟨_, rfl⟩) (fun o ho => by cases o <;> first | rfl | exact absurd rfl (ho _ _ _))
theorem my_freeze_below {w0 w : World} {B : Nat} (h : Below B w0 w) {a : Addr} (n : Nat) (ha : B ≤ a.block) : Below B w0 (w.freeze a n) := by
  unfold World.freeze
  split
  · exact h
  · refine ⟨h.os, h.tape, h.output, by simpa using h.size, fun k hk => ?_⟩
    show (w.heap.modify a.block _)[k]? = _
    rw [Array.getElem?_modify, if_neg (by omega)]
    exact h.block k hk
theorem my_freeze_size (w : World) (a : Addr) (n : Nat) : (w.freeze a n).heap.size = w.heap.size := by
  unfold World.freeze
  split <;> simp
theorem my_int_C_cells {k : IntKind} {w w1 : World} {A : Option Addr} {n : Nat} {xs : List Int} (h : (Kd.int k).C w A n xs) (hc : ∀ a, w1.cell? a = w.cell? a) : (Kd.int k).C w1 A n xs :=
  ⟨h.1, h.2.1, fun hn => by
    obtain ⟨ad, e, g⟩ := h.2.2 hn
    refine ⟨ad, e, fun j p hj => ?_⟩
    obtain ⟨c, h1, h2, h3⟩ := g j p hj
    exact ⟨c, h1, h2, fun i u hu => by rw [hc]; exact h3 i u hu⟩⟩
theorem my_add (b o n : Nat) : (⟨b, o, none⟩ : Addr).add n = ⟨b, o + n, none⟩ := by
  unfold Addr.add
  split
  · simp_all
  · rfl
theorem my_cell_new (w : World) (c : Array Value) (e : Nat) (fr : Nat × Nat) (n : Nat) : (w.alloc (.cells c e fr)).cell? ⟨w.heap.size, n, none⟩ = c[n]? := by
  have hb : (w.alloc (.cells c e fr)).heap[w.heap.size]? = some (.cells c e fr) := by
    show (w.heap.push _)[w.heap.size]? = _
    simp
  unfold World.cell?
  dsimp only
  rw [hb]
  rfl
/-- A row of whole numbers just laid reads as they do. -/
theorem my_C_lit (w : World) (k : IntKind) (xs : List Int) (e : Nat) (fr : Nat × Nat) (hm : xs.length ≤ 9223372036854775807) :
    (Kd.int k).C (w.alloc (.cells (xs.map (Value.int k)).toArray e fr)) (some ⟨w.heap.size, 0, none⟩) xs.length xs := by
  refine ⟨rfl, hm, fun _ => ⟨_, rfl, fun j p hj => ⟨[.int k p], rfl, rfl, fun i u hu => ?_⟩⟩⟩
  cases i with
  | succ i => simp at hu
  | zero =>
    have hu' : Value.int k p = u := by simpa using hu
    subst hu'
    rw [my_add, my_cell_new]
    show (xs.map (Value.int k)).toArray[0 + (j * 1 + 0)]? = _
    simp [hj]
theorem my_C_alloc {k : IntKind} {w : World} {A : Option Addr} {n : Nat} {xs : List Int} (h : (Kd.int k).C w A n xs) (o : Obj) : (Kd.int k).C (w.alloc o) A n xs := by
  refine ⟨h.1, h.2.1, fun hn => ?_⟩
  obtain ⟨ad, e, g⟩ := h.2.2 hn
  refine ⟨ad, e, fun j p hj => ?_⟩
  obtain ⟨c, h1, h2, h3⟩ := g j p hj
  exact ⟨c, h1, h2, fun i u hu => Lib.cell?_alloc_marked o (h3 i u hu)⟩
/-- A row of two rows of bytes just laid. -/
theorem my_C_two (w : World) (k : IntKind) (A B : Option Addr) (ca cb e e' : Nat) (xs ys : List Int) (ha : xs.length ≤ ca) (hb : ys.length ≤ cb) (hx : (Kd.int k).C w A xs.length xs) (hy : (Kd.int k).C w B ys.length ys) :
    (Kd.slice e' (Kd.int k)).C (w.alloc (.cells #[.slice A xs.length ca, .slice B ys.length cb] e)) (some ⟨w.heap.size, 0, none⟩) 2 [xs, ys] := by
  refine ⟨rfl, by decide, fun _ => ⟨_, rfl, fun j p hj => ?_⟩⟩
  match j, hj with
  | 0, hj =>
    have : xs = p := by simpa using hj
    subst this
    refine ⟨[.slice A xs.length ca], rfl, ⟨A, ca, rfl, ha, my_C_alloc hx _⟩, fun i u hu => ?_⟩
    cases i with
    | succ i => simp at hu
    | zero =>
      have hu' : Value.slice A xs.length ca = u := by simpa using hu
      subst hu'
      rw [my_add, my_cell_new]
      rfl
  | 1, hj =>
    have : ys = p := by simpa using hj
    subst this
    refine ⟨[.slice B ys.length cb], rfl, ⟨B, cb, rfl, hb, my_C_alloc hy _⟩, fun i u hu => ?_⟩
    cases i with
    | succ i => simp at hu
    | zero =>
      have hu' : Value.slice B ys.length cb = u := by simpa using hu
      subst hu'
      rw [my_add, my_cell_new]
      rfl
  | j + 2, hj => simp at hj
/-- A row of one row just laid. -/
theorem my_C_one (w : World) (k : IntKind) (A : Option Addr) (ca e e' : Nat) (xs : List Int) (ha : xs.length ≤ ca) (hx : (Kd.int k).C w A xs.length xs) :
    (Kd.slice e' (Kd.int k)).C (w.alloc (.cells #[.slice A xs.length ca] e)) (some ⟨w.heap.size, 0, none⟩) 1 [xs] := by
  refine ⟨rfl, by decide, fun _ => ⟨_, rfl, fun j p hj => ?_⟩⟩
  match j, hj with
  | 0, hj =>
    have : xs = p := by simpa using hj
    subst this
    refine ⟨[.slice A xs.length ca], rfl, ⟨A, ca, rfl, ha, my_C_alloc hx _⟩, fun i u hu => ?_⟩
    cases i with
    | succ i => simp at hu
    | zero =>
      have hu' : Value.slice A xs.length ca = u := by simpa using hu
      subst hu'
      rw [my_add, my_cell_new]
      rfl
  | j + 1, hj => simp at hj
theorem my_C_one_at (w : World) (k : IntKind) (A : Option Addr) (n ca e e' : Nat) (xs : List Int) (hn : xs.length = n) (ha : xs.length ≤ ca) (hx : (Kd.int k).C w A xs.length xs) :
    (Kd.slice e' (Kd.int k)).C (w.alloc (.cells #[.slice A n ca] e)) (some ⟨w.heap.size, 0, none⟩) 1 [xs] := by
  subst hn
  exact my_C_one w k A ca e e' xs ha hx
section
variable {P : Program} {ops : Array Oper} {o : Oper} {a : Act} {Q : Exit → Act → World → Prop} {rest : List Oper}
/-- '[]byte(..)' of a row of bytes of the call's own: the row reads as it did; no cell has turned. -/
theorem my_conv {w0 W : World} {base T e : Nat} {ok : Nat → Prop} {v : Value} {xs : List Int} (src : Operand) (hg : o.guard = none) (ho : o.op = .convert T T src) (hs : a.eval src = v)
    (hT : P.underlying T = some (.slice e)) (he : P.underlying e = some (.int .u8)) (HO : (Kd.int .u8).R e W base ok v xs) (hne : xs ≠ []) (HB : Below base w0 W)
    (h : ∀ w1, (∀ b, w1.cell? b = W.cell? b) → w1.heap.size = W.heap.size → Below base w0 w1 → wpList P ops Q rest (a.put o.dst v) w1) : wpList P ops Q (o :: rest) a W := by
  obtain ⟨_, inner, hown, hr⟩ := HO
  rcases hown.2 with ⟨_, h0⟩ | ⟨g, cap, cur, rfl, hg', hh, _⟩
  · exact absurd (List.eq_nil_of_length_eq_zero h0) hne
  · have hsh : W.shape? g = some (e, cur.size) := by unfold World.shape?; rw [hh]
    refine Kd.event_run hg (w1 := W.freeze ⟨g, cur.size, none⟩ 1) (v := .slice (some ⟨g, 0, none⟩) xs.length cap) ?_ (h _ (fun b => my_freeze_cell _ _ _ _) (my_freeze_size _ _ _) (my_freeze_below HB _ hg'))
    unfold execOp
    simp [ho, hs, convert, run_underlying hT, run_underlying he, markStringish, hsh]
end
end Go.Proofs.Ytnifikpldibbdaa.PSeal
