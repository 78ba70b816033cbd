/- What the statement's row needs of this session's texts, joined by program: part 4. -/
import Derived.RangeFuncNested
import Derived.RangeFuncBound
import Derived.RangeFuncCalls
import Derived.RangeFuncLeaves
import Derived.RangeFuncBox
import Derived.Test.YtnkbgimihikhoaaWTab
import Derived.OrdersIn
import Derived.ControlIn
import Derived.Deep.QuietTactic
import Derived.BigQuiet
import Derived.Test.YtnkbgimihikhoaaRows
import Derived.Test.YtnkbgimihikhoaaWWords
import Derived.ChangeArms
import Derived.Below
import Derived.DataElems
import Derived.Test.YtnkbgimihikhoaaQAs2
namespace Go.Proofs.Ytnkbgimihikhoaa.PVt
open Go.RowKit Go.Shelf Go.Proofs.YtnkbgimihikhoaaW.PrintWords Go.Proofs.YtnkbgimihikhoaaW.PrintLast Go.Proofs.YtnkbgimihikhoaaW.PrintMore
attribute [local go_sem] Oper.semAt_some
set_option linter.unusedVariables false
set_option linter.unusedSimpArgs false
/-- A node that is handed to a round: how many are above it, what it is, its cells. -/
structure Nf (w0 : World) (n0 : Nat) where
  d : Nat
  x : S27
  cs : List Value
  ok : TK w0 n0 x cs
  hd : d ≤ 1099511627776
  hf : fitT x
def plf {w0 : World} {n0 : Nat} (p : Nf w0 n0) : Nat × S27 := (p.d, p.x)
def encF {w0 : World} {n0 : Nat} (p : Nf w0 n0) : Array Value := #[.int .i64 (p.d : Int), .agg p.cs.toArray]
set_option maxHeartbeats 8000000 in
set_option maxRecDepth 100000 in
theorem walkf_in (l n0 N B : Nat) (T : Nat → Prop) (w0 : World) (J Jx : List (Nf w0 n0) → World → Prop) (hJ : AbidesFrom B J)
    (hY : ∀ pre x W, J pre W → pre.length < N → YieldAt Fence.wide 1 Try.prog l (encF x) W fun e W' => (e = .returned (.bool true) ∧ J (pre ++ [x]) W' ∧ Kw n0 T W W') ∨ (e = .returned (.bool false) ∧ Jx (pre ++ [x]) W')) :
    ∀ (q : Nat) (d : Nat) (x : S27) (cs : List Value) (pre : List (Nf w0 n0)) (W : World), szT x ≤ q → d + szT x ≤ 1099511627776 → TK w0 n0 x cs → fitT x → (∀ i, i < n0 → W.heap[i]? = w0.heap[i]?) → n0 ≤ W.heap.size → (∀ i, T i → i < W.heap.size) → J pre W → pre.length + szT x ≤ N →
      CallsIn Fence.wide 1 Try.prog 59 #[.agg cs.toArray, .int .i64 (d : Int), .func (.yield l) #[] #[]] W fun e W' =>
        (e = .returned (.bool true) ∧ (∃ ys, ys.map plf = flatD d x ∧ J (pre ++ ys) W') ∧ Kw n0 T W W') ∨ (e = .returned (.bool false) ∧ ∃ ys, ys.map plf <+: flatD d x ∧ Jx (pre ++ ys) W') := by
  intro q
  induction q with
  | zero =>
    intro d x cs pre W hq
    have := szT_pos x
    omega
  | succ q ih =>
    intro d x cs pre W hq hd hT hft hb hn hTl hJ0 hN
    have hsz := szT_eq x
    obtain ⟨A4, c4, A5, c5, hcs, l4, g4, l5, g5⟩ := hT.open
    subst hcs
    have HFT := Aside0.mk hft
    have HB := Aside0.mk hb
    have HTL := Aside0.mk hTl
    have hlen := szTs_len x.f4
    obtain ⟨fn, tmps, assign, body, hy, hR⟩ := hY pre ⟨d, x, _, hT, by omega, hft⟩ (W.alloc (.cells #[.int .i64 x.f0.f0, .int .i64 x.f0.f1, .string x.f1, .string x.f2, .slice A4 x.f3.length c4, .slice A5 x.f4.length c5] 27)) (hJ _ _ _ none hJ0 (World.grownBy_alloc _ _ none) (fun r e => by cases e)) (by omega)
    dsimp only [encF] at hy
    have HF := Aside0.mk g5
    have HFF : Aside0 (flatD d x = (d, x) :: flatDs (d + 1) x.f4) := ⟨flatD_eq d x⟩
    have HT := Aside0.mk hT
    obtain ⟨nd, hnd⟩ : ∃ nd : Nf w0 n0, nd = ⟨d, x, _, hT, by omega, hft⟩ := ⟨_, rfl⟩
    have HND : Aside0 (plf nd = (d, x)) := ⟨by rw [hnd]; rfl⟩
    rw [← hnd] at hR
    clear hnd hT hft hb hTl g4 g5 hJ0
    refine callsIn_of_wp Try.func59 rfl trivial ?_ rfl
    simp only [Try.ntmps59, List.size_toArray, List.length_cons, List.length_nil, Nat.reduceAdd, Nat.reduceSub, Array.replicate_succ, Array.replicate_zero, List.push_toArray, List.append_toArray, List.nil_append, List.cons_append]
    gi_wp2
    refine (round_any rfl hR).mono ?_
    rintro e W1 (⟨rfl, hJ1, hk1⟩ | ⟨rfl, hx1⟩)
    · have HJ1 := Aside0.mk hJ1
      have HK1 : Aside0 (Kw n0 T W W1) := ⟨(Kw.below (below_alloc (Below.refl _ _) _) hn).trans hk1⟩
      have HBX : Aside0 (W1.heap[W.heap.size]? = some (.cells #[.int .i64 x.f0.f0, .int .i64 x.f0.f1, .string x.f1, .string x.f2, .slice A4 x.f3.length c4, .slice A5 x.f4.length c5] 27 (0, 0))) := ⟨hk1.cells _ _ _ (fun h => Nat.lt_irrefl _ (HTL.out _ h)) (Mem.alloc_new _ _)⟩
      have b5 : W1.cell? ⟨W.heap.size, 5, none⟩ = some (.slice A5 x.f4.length c5) := Mem.cell_of HBX.out 5
      clear hJ1 hk1
      gi_wp2
      gi_loopw [17] (fun i wr => ∃ k : Nat, i = .int .i64 (k : Int) ∧ Aside0 (k ≤ x.f4.length) ∧ Aside0 (∃ ys, ys.map plf = flatDs (d + 1) (x.f4.take k) ∧ J (pre ++ nd :: ys) wr) ∧ Aside0 (Kw n0 T W wr))
        (fun i _ => x.f4.length - (intOf i).toNat)
      case atStart => exact ⟨0, rfl, ⟨Nat.zero_le _⟩, ⟨[], by simp [flatDs], HJ1.out⟩, HK1⟩
      case round =>
        obtain ⟨k, rfl, HKL, HJS, HKW⟩ := hrel
        by_cases hlt : k < x.f4.length
        · obtain ⟨ad, B4, e4, B5, e5, rfl, hcl, hTk⟩ := kid_at (Kd.F_step HF.out (fun i hi _ => (HKW.out.low i hi).trans (HB.out i hi))) k hlt
          have hTk0 : TK w0 n0 _ _ := hTk.low (fun i hi => ((HKW.out.low i hi).trans (HB.out i hi)).symm)
          have HFK : Aside0 (fitT (x.f4.getD k z27)) := ⟨fitTs_get ((fitT_eq x).1 HFT.out).2.2.2.2 hlt⟩
          have HS := Aside0.mk (flatDs_snoc (d + 1) x.f4 hlt)
          have HZ : Aside0 (szTs (x.f4.take (k + 1)) = szTs (x.f4.take k) + szT (x.f4.getD k z27) ∧ szTs (x.f4.take (k + 1)) ≤ szTs x.f4) := ⟨szTs_snoc x.f4 hlt, szTs_take _ _⟩
          obtain ⟨y, hy'⟩ : ∃ y, x.f4.getD k z27 = y := ⟨_, rfl⟩
          rw [hy'] at hcl hTk hTk0 HS HZ HFK
          obtain ⟨p, hp⟩ : ∃ p, ad.add (k * 6) = p := ⟨_, rfl⟩
          rw [hp] at hcl
          obtain ⟨c0, c1, c2, c3, c4', c5'⟩ := hcl
          obtain ⟨ys, hys, hJs⟩ := HJS.out
          have HYS := Aside0.mk hys
          have hyl : ys.length = szTs (x.f4.take k) := by have := congrArg List.length hys; rw [List.length_map, flatDs_length] at this; exact this
          have IH := Aside0.mk (ih (d + 1) y _ (pre ++ nd :: ys) (wr.alloc (.cells #[.int .i64 y.f0.f0, .int .i64 y.f0.f1, .string y.f1, .string y.f2, .slice B4 y.f3.length e4, .slice B5 y.f4.length e5] 27))
            (by have := HZ.out; omega) (by have := HZ.out; omega) hTk0 HFK.out (fun i hi => by
              have h1 : i < wr.heap.size := Nat.lt_of_lt_of_le (Nat.lt_of_lt_of_le hi hn) HKW.out.size
              exact ((below_alloc (Below.refl wr.heap.size wr) _).block i h1).trans ((HKW.out.low i hi).trans (HB.out i hi))) (Nat.le_trans (Nat.le_trans hn HKW.out.size) (by rw [Mem.alloc_size]; omega)) (fun i hi => by have := HTL.out i hi; have := HKW.out.size; rw [Mem.alloc_size]; omega)
            (hJ _ _ _ none hJs (World.grownBy_alloc _ _ none) (fun r e => by cases e)) (by rw [List.length_append, List.length_cons, hyl]; have := HZ.out; omega))
          have hw_ := wrap_next hd
          have hw2 := wrap_kid hlt hlen hsz hd
          clear hTk hTk0 hy' hys hJs hyl
          have hkn : (k : Int).toNat = k := Int.toNat_natCast k
          have hkp : (0 : Int) ≤ (k : Int) := Int.natCast_nonneg k
          clear hd hN hq hsz hlen
          gi_wp2_with (fail)
          refine ⟨trivial, ?_⟩
          refine (callsIn_wide.2 ((callsIn_wide (n := 1)).1 IH.out)).mono ?_
          rintro e W3 (⟨rfl, ⟨zs, hzs, hJ3⟩, hk3⟩ | ⟨rfl, zs, hzs, hx3⟩)
          · have HZS := Aside0.mk hzs
            have HJ3 : Aside0 (J (pre ++ nd :: (ys ++ zs)) W3) := ⟨by rw [List.append_assoc] at hJ3; exact hJ3⟩
            have HK3 : Aside0 (Kw n0 T W W3) := ⟨HKW.out.trans ((Kw.below (below_alloc (Below.refl _ _) _) (Nat.le_trans hn HKW.out.size)).trans hk3)⟩
            clear hzs hJ3 hk3 IH
            gi_wp2_with (fail)
            go_roundw
            case rel => exact ⟨k + 1, congrArg (Value.int .i64) hw2, ⟨hlt⟩, ⟨ys ++ zs, by rw [List.map_append, HYS.out, HZS.out, HS.out], HJ3.out⟩, HK3⟩
            case measure => exact dec_lt hlt hw2
          · have HZS := Aside0.mk hzs
            have HX3 : Aside0 (Jx (pre ++ nd :: (ys ++ zs)) W3) := ⟨by rw [List.append_assoc] at hx3; exact hx3⟩
            clear hzs hx3 IH
            gi_wp2_with (fail)
            refine bodyPost_ret (results_tmp rfl _ _ _) rfl ?_
            refine .inr ⟨rfl, nd :: (ys ++ zs), ?_, HX3.out⟩
            rw [HFF.out, List.map_cons, HND.out, List.map_append, HYS.out]
            have h1 : flatDs (d + 1) (x.f4.take k) ++ zs.map plf <+: flatDs (d + 1) (x.f4.take (k + 1)) := by rw [HS.out]; exact (List.prefix_append_right_inj _).2 HZS.out
            exact (List.prefix_cons_inj _).2 (h1.trans (flatDs_prefix _ _ _))
        · obtain rfl : k = x.f4.length := by have := HKL.out; omega
          gi_wp2
          refine bodyPost_ret (results_tmp rfl _ _ _) rfl ?_
          obtain ⟨ys, hys, hJs⟩ := HJS.out
          rw [List.take_length] at hys
          exact .inl ⟨rfl, ⟨nd :: ys, by rw [HFF.out, List.map_cons, HND.out, hys], hJs⟩, HKW.out⟩
    · gi_wp2
      refine bodyPost_ret (results_tmp rfl _ _ _) rfl ?_
      exact .inr ⟨rfl, [nd], by rw [HFF.out, List.map_cons, HND.out]; exact ⟨_, rfl⟩, hx1⟩
set_option maxHeartbeats 8000000 in
set_option maxRecDepth 100000 in
theorem nodesf_stops {w w0 : World} {n0 bx : Nat} {T : Nat → Prop} {x : S27} {A4 : Option Addr} {c4 : Nat} {A5 : Option Addr} {c5 : Nat} (hd : szT x ≤ 1099511627776) (hfx : fitT x)
    (hT : TK w0 n0 x [.int .i64 x.f0.f0, .int .i64 x.f0.f1, .string x.f1, .string x.f2, .slice A4 x.f3.length c4, .slice A5 x.f4.length c5]) (hb : ∀ i, i < n0 → w.heap[i]? = w0.heap[i]?) (hn : n0 ≤ w.heap.size) (hTl : ∀ i, T i → i < w.heap.size)
    (hbx : w.heap[bx]? = some (.cells #[.int .i64 x.f0.f0, .int .i64 x.f0.f1, .string x.f1, .string x.f2, .slice A4 x.f3.length c4, .slice A5 x.f4.length c5] 27 (0, 0))) :
    SeqStopsK Fence.wide 2 Try.prog 65 #[.pointer (some ⟨bx, 0, none⟩)] (encF (w0 := w0) (n0 := n0)) (Kw n0 T) (fun ys => ys.map plf = flatD 0 x) (fun ys => ys.map plf <+: flatD 0 x) (szT x) w := fun l J Jx W hW hJ hJx hY h0 => by
  have hbl := (Array.getElem?_eq_some_iff.1 hbx).1
  have hbW := (hW.block bx hbl).trans hbx
  have HW := Aside0.mk (walkf_in l n0 (szT x) W.heap.size T w0 J Jx hJ hY (szT x) 0 x _ [] W (Nat.le_refl _) (by rw [Nat.zero_add]; exact hd) hT hfx (fun i hi => (hW.block i (Nat.lt_of_lt_of_le hi hn)).trans (hb i hi)) (Nat.le_trans hn hW.size) (fun i hi => Nat.lt_of_lt_of_le (hTl i hi) hW.size) h0 (by simp))
  have a0 := Mem.cell_of hbW 0
  have a1 := Mem.cell_of hbW 1
  have a2 := Mem.cell_of hbW 2
  have a3 := Mem.cell_of hbW 3
  have a4 := Mem.cell_of hbW 4
  have a5 := Mem.cell_of hbW 5
  clear hbl hbW hbx hd hT hb hn hTl hY h0
  refine callsIn_of_wp Try.func65 rfl trivial ?_ rfl
  simp only [Try.ntmps65, List.append_toArray, List.size_toArray, List.length_cons, List.length_nil, Nat.reduceAdd, Nat.reduceSub, Array.replicate_succ, Array.replicate_zero, List.push_toArray, List.append_toArray, List.nil_append, List.cons_append]
  gi_wp2_with (fail)
  refine ⟨trivial, ?_⟩
  refine (callsIn_wide.2 ((callsIn_wide (n := 1)).1 HW.out)).mono ?_
  rintro e W3 (⟨rfl, ⟨zs, hzs, hJ3⟩, hk3⟩ | ⟨rfl, zs, hzs, hx3⟩)
  · have HZ := Aside0.mk hzs
    clear hzs
    gi_wp2_with (fail)
    go_end0
    exact ⟨⟨_, rfl⟩, .inl ⟨zs, HZ.out, hJ3⟩⟩
  · have HZ := Aside0.mk hzs
    clear hzs
    gi_wp2_with (fail)
    go_end0
    exact ⟨⟨_, rfl⟩, .inr ⟨zs, HZ.out, hx3⟩⟩
end Go.Proofs.Ytnkbgimihikhoaa.PVt
namespace Go.Proofs.Ytnkbgimihikhoaa.PVt
open Go.RowKit Go.Shelf Go.Proofs.YtnkbgimihikhoaaW.PrintWords Go.Proofs.YtnkbgimihikhoaaW.PrintLast Go.Proofs.YtnkbgimihikhoaaW.PrintMore
attribute [local go_sem] Oper.semAt_some
attribute [local go_sem high] eqA23
set_option linter.unusedVariables false
set_option linter.unusedSimpArgs false
def findD (l : List (Nat × S27)) (key : S23) : S27 × Bool := findL (l.map (·.2)) key
theorem findL_miss : ∀ (a b : List S27) (key : S23), (findL a key).2 = false → findL (a ++ b) key = findL b key
  | [], b, key, _ => rfl
  | y :: a, b, key, h => by
    rw [findL] at h
    rw [List.cons_append, findL]
    split at h
    · cases h
    · rename_i hn
      rw [if_neg hn]
      exact findL_miss a b key h
theorem findL_hit : ∀ (a b : List S27) (key : S23), (findL a key).2 = true → findL (a ++ b) key = findL a key
  | [], b, key, h => by cases h
  | y :: a, b, key, h => by
    rw [findL] at h
    rw [List.cons_append, findL, findL]
    split
    · rfl
    · rename_i hn
      rw [if_neg hn] at h
      exact findL_hit a b key h
theorem findL_none : ∀ (l : List S27) (key : S23), (findL l key).2 = false → findL l key = (z27, false)
  | [], _, _ => rfl
  | y :: l, key, h => by
    rw [findL] at h ⊢
    split
    · rename_i h1; rw [if_pos h1] at h; cases h
    · rename_i h1; rw [if_neg h1] at h; exact findL_none l key h
theorem findD_snoc (l : List (Nat × S27)) (p : Nat × S27) (key : S23) (h : (findD l key).2 = false) : findD (l ++ [p]) key = if sameK p.2.f0 key = true then (p.2, true) else (z27, false) := by
  unfold findD at h ⊢
  rw [List.map_append, findL_miss _ _ _ h]
  rfl
theorem findD_prefix {a l : List (Nat × S27)} (h : a <+: l) {key : S23} (hf : (findD a key).2 = true) : findD l key = findD a key := by
  obtain ⟨b, rfl⟩ := h
  unfold findD at hf ⊢
  rw [List.map_append, findL_hit _ _ _ hf]
theorem findD_flat (x : S27) (key : S23) : findD (flatD 0 x) key = findL (flatL x) key := by unfold findD; rw [flatL_map]
theorem results_row_bool {P : Program} {fn : Func} {p p' : Tmp} {ty ty' : TypeId} (h : fn.results = #[.cell p ty, .cell p' ty']) (tmps : Array Value) (w : World) (g g' : Nat) (t : TypeId) (cs : Array Value) (fr : Nat × Nat) (d : TypeDesc) (b : Bool)
    (hp : tmps.getD p undef = .pointer (some ⟨g, 0, none⟩)) (hg : w.heap[g]? = some (.cells cs t fr))
    (hu : P.underlying ty = some d) (hd : (match d with | .struct _ | .array _ _ => true | _ => false) = true) (hi : (P.info? ty).map (·.size) = some cs.size)
    (hp' : tmps.getD p' undef = .pointer (some ⟨g', 0, none⟩)) (hc' : w.cell? ⟨g', 0, none⟩ = some (.bool b)) (hu' : P.underlying ty' = some .bool) :
    (results fn tmps).run P w = .ok (.tuple #[.agg cs, .bool b]) w := by
  have h1 : tmps[p]?.getD undef = .pointer (some ⟨g, 0, none⟩) := by simpa using hp
  have h2 : tmps[p']?.getD undef = .pointer (some ⟨g', 0, none⟩) := by simpa using hp'
  have h3 : (loadVar ty' ⟨g', 0, none⟩).run P w = .ok (.bool b) w := by simp [loadVar, isAgg, underlying, hu', hc', load, Sem.run]
  simp [results, h, h1, h2, asAddr, run_loadVar_row w g t ty cs fr d hg hu hd hi, h3]
theorem M_of_own_grown {α : Type} {d : Kd α} {B base : Nat} {ok : Nat → Prop} {X Y : World} {x : α} {cs : List Value} {row : Option Nat} (h : d.M X base ok x cs) (hg : X.grownBy Y row) (hr : ∀ r, row = some r → B ≤ r ∧ ∃ o : Obj, X.heap[r]? = some o ∧ o.isCells = false) : d.M Y base ok x cs :=
  d.M_mono (fun _ hk => hk.1) (Kd.M_grown (d.M_bound h) hg (fun k hk e' => by obtain ⟨_, _, _, q, _, cells, hc⟩ := hk; obtain ⟨_, o, ho, hn⟩ := hr k e'.symm; rw [hc] at ho; cases ho; cases hn))
theorem M_low {α : Type} {d : Kd α} {base base' : Nat} {ok : Nat → Prop} {X Y : World} {x : α} {cs : List Value} (h : d.M X base ok x cs) (hk : ∀ k, base ≤ k → k < X.heap.size → Y.heap[k]? = X.heap[k]?) (hb : base' ≤ base) : d.M Y base' ok x cs :=
  d.M_lower hb (d.M_mono (fun _ hk => hk.1) (d.M_move (fun k hk' => hk k hk'.2.1 hk'.2.2.1) (d.M_bound h)))
theorem zero_M (w : World) (base : Nat) : k27.M w base (fun _ => True) z27 (cs27 z27 none 0 none 0).toList := k27_mkM _ _ _ z27 (Kd.R_nil _ _ _ _ _) (Kd.R_nil _ _ _ _ _)
/-- What has been found lies in the results' boxes. -/
def FoundX (b : Nat) (u : Nat) (key : S23) (l : List (Nat × S27)) (W : World) : Prop :=
  ∃ y B4 e4 B5 e5, findD l key = (y, true) ∧ W.heap[b + 1 + 1]? = some (.cells (cs27 y B4 e4 B5 e5) 27 (0, 0)) ∧ W.heap[b + 1 + 1 + 1]? = some (.cells #[.bool true] 4 (0, 0)) ∧ k27.M W u (fun _ => True) y (cs27 y B4 e4 B5 e5).toList
theorem FoundX_own {w0 : World} {n0 b u : Nat} (key : S23) : OwnFrom u (fun (pre : List (Nf w0 n0)) W => FoundX b u key (pre.map plf) W) := fun s X Y row hs hg hr => by
  obtain ⟨y, B4, e4, B5, e5, h1, h2, h3, h4⟩ := hs
  exact ⟨y, B4, e4, B5, e5, h1, (Own.from (cells_own (b + 1 + 1) 27 (fun (_ : Unit) => cs27 y B4 e4 B5 e5)) u) () X Y row h2 hg hr, (Own.from (cells_own (b + 1 + 1 + 1) 4 (fun (_ : Unit) => #[.bool true])) u) () X Y row h3 hg hr, M_of_own_grown h4 hg hr⟩
def putRow (w : World) (g : Nat) (x : S27) (A4 : Option Addr) (c4 : Nat) (A5 : Option Addr) (c5 : Nat) : World := (((((w.setCell ⟨g, 0, none⟩ (.int .i64 x.f0.f0)).setCell ⟨g, 1, none⟩ (.int .i64 x.f0.f1)).setCell ⟨g, 2, none⟩ (.string x.f1)).setCell ⟨g, 3, none⟩ (.string x.f2)).setCell ⟨g, 4, none⟩ (.slice A4 x.f3.length c4)).setCell ⟨g, 5, none⟩ (.slice A5 x.f4.length c5)
theorem putRow_other {w : World} {g : Nat} {x : S27} {A4 : Option Addr} {c4 : Nat} {A5 : Option Addr} {c5 : Nat} (k : Nat) (hk : k ≠ g) : (putRow w g x A4 c4 A5 c5).heap[k]? = w.heap[k]? :=
  (Mem.set_other _ _ _ _ hk).trans ((Mem.set_other _ _ _ _ hk).trans ((Mem.set_other _ _ _ _ hk).trans ((Mem.set_other _ _ _ _ hk).trans ((Mem.set_other _ _ _ _ hk).trans (Mem.set_other _ _ _ _ hk)))))
theorem putRow_row {w : World} {g : Nat} {x : S27} {A4 : Option Addr} {c4 : Nat} {A5 : Option Addr} {c5 : Nat} {v0 v1 v2 v3 v4 v5 : Value} (h : w.heap[g]? = some (.cells #[v0, v1, v2, v3, v4, v5] 27 (0, 0))) : (putRow w g x A4 c4 A5 c5).heap[g]? = some (.cells (cs27 x A4 c4 A5 c5) 27 (0, 0)) :=
  setB (setB (setB (setB (setB (setB h 0 (.int .i64 x.f0.f0)) 1 (.int .i64 x.f0.f1)) 2 (.string x.f1)) 3 (.string x.f2)) 4 (.slice A4 x.f3.length c4)) 5 (.slice A5 x.f4.length c5)
theorem putRow_below {b : Nat} {w : World} {g : Nat} {x : S27} {A4 : Option Addr} {c4 : Nat} {A5 : Option Addr} {c5 : Nat} (hg : b ≤ g) : Below b w (putRow w g x A4 c4 A5 c5) := (((((low_set hg _).trans (low_set hg _)).trans (low_set hg _)).trans (low_set hg _)).trans (low_set hg _)).trans (low_set hg _)
theorem putRow_keeps (w : World) (g : Nat) (x : S27) (A4 : Option Addr) (c4 : Nat) (A5 : Option Addr) (c5 : Nat) : KeepsOthers w (putRow w g x A4 c4 A5 c5) := (((((KeepsOthers.setCell _ _ _).trans (KeepsOthers.setCell _ _ _)).trans (KeepsOthers.setCell _ _ _)).trans (KeepsOthers.setCell _ _ _)).trans (KeepsOthers.setCell _ _ _)).trans (KeepsOthers.setCell _ _ _)
theorem putRow_kept {T : Nat → Prop} {U w : World} {g : Nat} {x : S27} {A4 : Option Addr} {c4 : Nat} {A5 : Option Addr} {c5 : Nat} (h : KeptT T U w) (hg : T g) : KeptT T U (putRow w g x A4 c4 A5 c5) := (((((h.set _ hg).set _ hg).set _ hg).set _ hg).set _ hg).set _ hg
set_option maxHeartbeats 8000000 in
set_option maxRecDepth 100000 in
theorem find_calls (w : World) (x : S27) (key : S23) (A4 : Option Addr) (c4 : Nat) (A5 : Option Addr) (c5 : Nat) (hd : szT x ≤ 1099511627776) (hfx : fitT x) (hT : TK w w.heap.size x (cs27 x A4 c4 A5 c5).toList) :
    Calls Try.prog 37 #[.agg #[.int .i64 x.f0.f0, .int .i64 x.f0.f1, .string x.f1, .string x.f2, .slice A4 x.f3.length c4, .slice A5 x.f4.length c5], .agg #[.int .i64 key.f0, .int .i64 key.f1]] w fun e w' => ∃ B4 e4 B5 e5, e = .returned (.tuple #[.agg (cs27 (findL (flatL x) key).1 B4 e4 B5 e5), .bool (findL (flatL x) key).2]) ∧ k27.M w' w.heap.size (fun _ => True) (findL (flatL x) key).1 (cs27 (findL (flatL x) key).1 B4 e4 B5 e5).toList ∧ Below w.heap.size w w' := by
  have HT := Aside0.mk hT
  have HFX := Aside0.mk hfx
  clear hT hfx
  refine (callsIn_wide (n := 3)).1 ?_
  refine callsIn_of_wp_marks Try.func37 rfl trivial ?_ rfl
  simp only [Try.ntmps37, List.size_toArray, List.length_cons, List.length_nil, Nat.reduceAdd, Nat.reduceSub, Array.replicate_succ, Array.replicate_zero, List.push_toArray, List.append_toArray, List.nil_append, List.cons_append]
  gi_wp2_with (fail)
  refine ⟨trivial, ?_⟩
  refine (callsIn_wide.2 (nodes_calls _ _ _ _ _ _ _)).mono ?_
  rintro e w1 ⟨rfl, rfl⟩
  gi_wp2_with (fail)
  have hBU : Below w.heap.size w (((((w.alloc (.cells #[.int .i64 x.f0.f0, .int .i64 x.f0.f1, .string x.f1, .string x.f2, .slice A4 x.f3.length c4, .slice A5 x.f4.length c5] 27)).alloc (.cells #[.int .i64 key.f0, .int .i64 key.f1] 23)).alloc (.cells #[.int .i64 0, .int .i64 0, .string ⟨#[]⟩, .string ⟨#[]⟩, .slice none 0 0, .slice none 0 0] 27)).alloc (.cells #[.bool false] 4)).alloc (.cells #[.int .i64 x.f0.f0, .int .i64 x.f0.f1, .string x.f1, .string x.f2, .slice A4 x.f3.length c4, .slice A5 x.f4.length c5] 27)) := below_alloc (below_alloc (below_alloc (below_alloc (below_alloc (Below.refl _ _) _) _) _) _) _
  have hBK : (((((w.alloc (.cells #[.int .i64 x.f0.f0, .int .i64 x.f0.f1, .string x.f1, .string x.f2, .slice A4 x.f3.length c4, .slice A5 x.f4.length c5] 27)).alloc (.cells #[.int .i64 key.f0, .int .i64 key.f1] 23)).alloc (.cells #[.int .i64 0, .int .i64 0, .string ⟨#[]⟩, .string ⟨#[]⟩, .slice none 0 0, .slice none 0 0] 27)).alloc (.cells #[.bool false] 4)).alloc (.cells #[.int .i64 x.f0.f0, .int .i64 x.f0.f1, .string x.f1, .string x.f2, .slice A4 x.f3.length c4, .slice A5 x.f4.length c5] 27)).heap[w.heap.size + 1]? = some (.cells #[.int .i64 key.f0, .int .i64 key.f1] 23 (0, 0)) := Mem.alloc_old (Mem.alloc_old (Mem.alloc_old (Mem.alloc_new_at _ _ _ (by rw [Mem.alloc_size])) _) _) _
  have hBZ : (((((w.alloc (.cells #[.int .i64 x.f0.f0, .int .i64 x.f0.f1, .string x.f1, .string x.f2, .slice A4 x.f3.length c4, .slice A5 x.f4.length c5] 27)).alloc (.cells #[.int .i64 key.f0, .int .i64 key.f1] 23)).alloc (.cells #[.int .i64 0, .int .i64 0, .string ⟨#[]⟩, .string ⟨#[]⟩, .slice none 0 0, .slice none 0 0] 27)).alloc (.cells #[.bool false] 4)).alloc (.cells #[.int .i64 x.f0.f0, .int .i64 x.f0.f1, .string x.f1, .string x.f2, .slice A4 x.f3.length c4, .slice A5 x.f4.length c5] 27)).heap[w.heap.size + 1 + 1]? = some (.cells #[.int .i64 0, .int .i64 0, .string ⟨#[]⟩, .string ⟨#[]⟩, .slice none 0 0, .slice none 0 0] 27 (0, 0)) := Mem.alloc_old (Mem.alloc_old (Mem.alloc_new_at _ _ _ (by rw [Mem.alloc_size, Mem.alloc_size])) _) _
  have hBB : (((((w.alloc (.cells #[.int .i64 x.f0.f0, .int .i64 x.f0.f1, .string x.f1, .string x.f2, .slice A4 x.f3.length c4, .slice A5 x.f4.length c5] 27)).alloc (.cells #[.int .i64 key.f0, .int .i64 key.f1] 23)).alloc (.cells #[.int .i64 0, .int .i64 0, .string ⟨#[]⟩, .string ⟨#[]⟩, .slice none 0 0, .slice none 0 0] 27)).alloc (.cells #[.bool false] 4)).alloc (.cells #[.int .i64 x.f0.f0, .int .i64 x.f0.f1, .string x.f1, .string x.f2, .slice A4 x.f3.length c4, .slice A5 x.f4.length c5] 27)).heap[w.heap.size + 1 + 1 + 1]? = some (.cells #[.bool false] 4 (0, 0)) := Mem.alloc_old (Mem.alloc_new_at _ _ _ (by rw [Mem.alloc_size, Mem.alloc_size, Mem.alloc_size])) _
  have hBX : (((((w.alloc (.cells #[.int .i64 x.f0.f0, .int .i64 x.f0.f1, .string x.f1, .string x.f2, .slice A4 x.f3.length c4, .slice A5 x.f4.length c5] 27)).alloc (.cells #[.int .i64 key.f0, .int .i64 key.f1] 23)).alloc (.cells #[.int .i64 0, .int .i64 0, .string ⟨#[]⟩, .string ⟨#[]⟩, .slice none 0 0, .slice none 0 0] 27)).alloc (.cells #[.bool false] 4)).alloc (.cells #[.int .i64 x.f0.f0, .int .i64 x.f0.f1, .string x.f1, .string x.f2, .slice A4 x.f3.length c4, .slice A5 x.f4.length c5] 27)).heap[w.heap.size + 1 + 1 + 1 + 1]? = some (.cells #[.int .i64 x.f0.f0, .int .i64 x.f0.f1, .string x.f1, .string x.f2, .slice A4 x.f3.length c4, .slice A5 x.f4.length c5] 27 (0, 0)) := Mem.alloc_new_at _ _ _ (by rw [Mem.alloc_size, Mem.alloc_size, Mem.alloc_size, Mem.alloc_size])
  have hUS : (((((w.alloc (.cells #[.int .i64 x.f0.f0, .int .i64 x.f0.f1, .string x.f1, .string x.f2, .slice A4 x.f3.length c4, .slice A5 x.f4.length c5] 27)).alloc (.cells #[.int .i64 key.f0, .int .i64 key.f1] 23)).alloc (.cells #[.int .i64 0, .int .i64 0, .string ⟨#[]⟩, .string ⟨#[]⟩, .slice none 0 0, .slice none 0 0] 27)).alloc (.cells #[.bool false] 4)).alloc (.cells #[.int .i64 x.f0.f0, .int .i64 x.f0.f1, .string x.f1, .string x.f2, .slice A4 x.f3.length c4, .slice A5 x.f4.length c5] 27)).heap.size = w.heap.size + 5 := by rw [Mem.alloc_size, Mem.alloc_size, Mem.alloc_size, Mem.alloc_size, Mem.alloc_size]
  generalize (((((w.alloc (.cells #[.int .i64 x.f0.f0, .int .i64 x.f0.f1, .string x.f1, .string x.f2, .slice A4 x.f3.length c4, .slice A5 x.f4.length c5] 27)).alloc (.cells #[.int .i64 key.f0, .int .i64 key.f1] 23)).alloc (.cells #[.int .i64 0, .int .i64 0, .string ⟨#[]⟩, .string ⟨#[]⟩, .slice none 0 0, .slice none 0 0] 27)).alloc (.cells #[.bool false] 4)).alloc (.cells #[.int .i64 x.f0.f0, .int .i64 x.f0.f1, .string x.f1, .string x.f2, .slice A4 x.f3.length c4, .slice A5 x.f4.length c5] 27)) = U at *
  have HUS := Aside0.mk hUS
  clear hUS
  refine wpIn_rangeFunc_ownH (F := Fence.wide) (n := 3) rfl (by decide) (gf := 65) (lb := #[.pointer (some ⟨w.heap.size + 1 + 1 + 1 + 1, 0, none⟩)]) rfl trivial (enters_of Try.func65 (by kernel_rfl) rfl)
    (nodesf_stops (T := fun _ => False) hd HFX.out HT.out (fun i hi => hBU.block i hi) hBU.size (fun _ h => h.elim) hBX) Kw.trans (fun W l o o' hl h1 h2 _ => Kw.put W l o o' (Nat.le_trans hBU.size hl) h1 h2) (Below.refl _ _) (fun _ => rfl)
    (fun pre W => (findD (pre.map plf) key).2 = false ∧ LK (fun _ => False) w.heap.size w U W)
    (fun c pre W => (c = .ret ∧ FoundX w.heap.size U.heap.size key (pre.map plf) W) ∧ LK (fun i => i = w.heap.size + 1 + 1 ∨ i = w.heap.size + 1 + 1 + 1) w.heap.size w U W)
    (OwnFrom.and (ownFrom_pure _ _) (LK_own (Nat.le_refl _) hBU.size))
    (fun c => OwnFrom.and (OwnFrom.and (ownFrom_pure _ _) (FoundX_own key)) (LK_own (Nat.le_refl _) hBU.size))
    ⟨rfl, KeptT.refl _ _, hBU⟩
    (fun y a' Wr => ∃ Bx, U.heap.size ≤ Bx ∧ Wr.heap[Bx]? = some (.cells y.cs.toArray 27 (0, 0)) ∧ a' = { tmps := #[.agg #[.int .i64 x.f0.f0, .int .i64 x.f0.f1, .string x.f1, .string x.f2, .slice A4 x.f3.length c4, .slice A5 x.f4.length c5], .agg #[.int .i64 key.f0, .int .i64 key.f1], .pointer (some ⟨w.heap.size, 0, none⟩), .pointer (some ⟨w.heap.size + 1, 0, none⟩), .pointer (some ⟨w.heap.size + 1 + 1, 0, none⟩), .pointer (some ⟨w.heap.size + 1 + 1 + 1, 0, none⟩), undef, .pointer (some ⟨Bx, 0, none⟩), .agg #[.int .i64 x.f0.f0, .int .i64 x.f0.f1, .string x.f1, .string x.f2, .slice A4 x.f3.length c4, .slice A5 x.f4.length c5], .func (.func 65) #[] #[.pointer (some ⟨w.heap.size + 1 + 1 + 1 + 1, 0, none⟩)], .int .i64 (y.d : Int), .agg y.cs.toArray, undef, undef, undef, undef, undef, undef, undef], defers := [] })
    (fun y a' _ X Y row hs hg hr => by obtain ⟨Bx, h1, h2, h3⟩ := hs; exact ⟨Bx, h1, cells_own Bx 27 (fun (_ : Unit) => y.cs.toArray) () X Y row h2 hg (fun r e => (hr r e).2), h3⟩)
    ?assign ?body ?done ?stop
  case assign =>
    rintro l pre ⟨yd, y, ycs, yok, yhd, yhf⟩ W K hI hK
    obtain ⟨B4, e4, B5, e5, rfl, _⟩ := yok.open
    dsimp only [encF]
    gi_wp2
    have hbl : Below W.heap.size W (W.alloc (.cells #[.int .i64 y.f0.f0, .int .i64 y.f0.f1, .string y.f1, .string y.f2, .slice B4 y.f3.length e4, .slice B5 y.f4.length e5] 27)) := below_alloc (Below.refl _ _) _
    obtain ⟨hf, hL⟩ := hI
    exact hK _ _ ((KeepsOthers.alloc _ _).from _) (Kw.below hbl hL.2.size) ⟨hf, hL.on hbl hBU.size⟩ ⟨W.heap.size, hL.1.size, Mem.alloc_new _ _, rfl⟩
  case body =>
    rintro l pre ⟨yd, y, ycs, yok, yhd, yhf⟩ a' W hl ⟨r, hr⟩ ⟨hf, hK⟩ ⟨Bx, hBx, bX, rfl⟩ hlt
    obtain ⟨B4, e4, B5, e5, rfl, _⟩ := yok.open
    have HYK := Aside0.mk (yok.low (fun i hi => (hK.2.block i hi)))
    have HMAP : Aside0 ((pre ++ [(⟨yd, y, _, yok, yhd, yhf⟩ : Nf w w.heap.size)]).map plf = pre.map plf ++ [(yd, y)]) := ⟨by rw [List.map_append]; rfl⟩
    have HFS := Aside0.mk (findD_snoc (pre.map plf) (yd, y) key hf)
    have HBKW := Aside0.mk (hK.1.cells hBK (fun h => h))
    have HBZW := Aside0.mk (hK.1.cells hBZ (fun h => h))
    have HBBW := Aside0.mk (hK.1.cells hBB (fun h => h))
    have HK := Aside0.mk hK
    have HX := Aside0.mk bX
    have HBX := Aside0.mk hBx
    have x0 := Mem.cell_of bX 0
    have x1 := Mem.cell_of bX 1
    have k0 := Mem.cell_of HBKW.out 0
    have k1 := Mem.cell_of HBKW.out 1
    clear hr hf hK bX hlt
    by_cases hq : sameK y.f0 key = true
    · have g1 : (y.f0.f0 == key.f0 && (y.f0.f1 == key.f1)) = true := hq
      have HQ := Aside0.mk hq
      clear hq
      have x2 := Mem.cell_of HX.out 2
      have x3 := Mem.cell_of HX.out 3
      have x4 := Mem.cell_of HX.out 4
      have x5 := Mem.cell_of HX.out 5
      gi_wp2_with (fail)
      refine ⟨trivial, ?_⟩
      refine (CallsIn.inRound l (callsIn_wide.2 (vcopy_calls W y B4 e4 B5 e5 (RK.of (Kd.FK_now HYK.out)) yhf))).mono ?_
      rintro e w3 ⟨C4, g4, C5, g5, rfl, hM3, hb3⟩
      have HM3 := Aside0.mk hM3
      have HB3 := Aside0.mk hb3
      have HZ3 : Aside0 (w3.heap[w.heap.size + 1 + 1]? = some (.cells #[.int .i64 0, .int .i64 0, .string ⟨#[]⟩, .string ⟨#[]⟩, .slice none 0 0, .slice none 0 0] 27 (0, 0))) := ⟨(hb3.block _ (blk_lt' HBZW.out)).trans HBZW.out⟩
      have HBB3 : Aside0 (w3.heap[w.heap.size + 1 + 1 + 1]? = some (.cells #[.bool false] 4 (0, 0))) := ⟨(hb3.block _ (blk_lt' HBBW.out)).trans HBBW.out⟩
      clear hM3 hb3 x0 x1 x2 x3 x4 x5 k0 k1
      dsimp only
      have z0 := Mem.cell_of HZ3.out 0
      have z1 := Mem.cell_of HZ3.out 1
      have z2 := Mem.cell_of HZ3.out 2
      have z3 := Mem.cell_of HZ3.out 3
      have z4 := Mem.cell_of HZ3.out 4
      have z5 := Mem.cell_of HZ3.out 5
      have y0 := Mem.free_of HZ3.out 0
      have y1 := Mem.free_of HZ3.out 1
      have y2 := Mem.free_of HZ3.out 2
      have y3 := Mem.free_of HZ3.out 3
      have y4 := Mem.free_of HZ3.out 4
      have y5 := Mem.free_of HZ3.out 5
      have b0 := Mem.cell_of HBB3.out 0
      have b1 := Mem.free_of HBB3.out 0
      gi_wp2_with (fail)
      have HP : Aside0 (KeepsOthers w3 (putRow w3 (w.heap.size + 1 + 1) y C4 g4 C5 g5)) := ⟨putRow_keeps _ _ _ _ _ _ _⟩
      have hlow : w.heap.size ≤ W.heap.size := HK.out.2.size
      have hws : w.heap.size + 5 ≤ W.heap.size := by have := HK.out.1.size; have := HUS.out; omega
      have hne2 : w.heap.size + 1 + 1 ≠ w.heap.size + 1 + 1 + 1 := by omega
      refine ⟨(((below_others HB3.out).trans HP.out).trans (KeepsOthers.setCell _ _ _)).from _, ⟨rfl, y, C4, g4, C5, g5, ?_, ?_, ?_, ?_⟩, ?_⟩
      · rw [HMAP.out, HFS.out, if_pos HQ.out]
      · exact (Mem.set_other _ _ _ _ (by exact hne2)).trans (putRow_row HZ3.out)
      · exact Mem.set_heap ((putRow_other _ (Ne.symm hne2)).trans HBB3.out) 0 _
      · refine M_low HM3.out (fun k hk _ => ?_) HK.out.1.size
        exact (Mem.set_other _ _ _ _ (by show k ≠ w.heap.size + 1 + 1 + 1; omega)).trans (putRow_other k (by omega))
      · have h1 : KeptT (fun i => i = w.heap.size + 1 + 1 ∨ i = w.heap.size + 1 + 1 + 1) U w3 := ⟨(HK.out.1.on HB3.out).size, fun i hi hn => (HK.out.1.on HB3.out).block i hi (fun h => h)⟩
        exact ⟨(putRow_kept h1 (.inl rfl)).set _ (.inr rfl), ((HK.out.2.trans (HB3.out.mono hlow)).trans (putRow_below (by omega))).trans (low_set (by omega) _)⟩
    · have g1 : (y.f0.f0 == key.f0 && (y.f0.f1 == key.f1)) = false := Bool.eq_false_iff.2 hq
      have HQ := Aside0.mk hq
      clear hq
      gi_wp2_with (fail)
      refine ⟨(KeepsOthers.refl _).from _, Kw.refl _ _ _, ?_, HK.out⟩
      rw [HMAP.out, HFS.out, if_neg HQ.out]
  case done =>
    rintro D ys W hD hys ⟨hf, hK⟩ hKD
    have HG : Aside0 (findL (flatL x) key = (z27, false)) := ⟨by rw [← findD_flat, ← hys]; exact findL_none _ _ hf⟩
    have HBZW := Aside0.mk (hK.1.cells hBZ (fun h => h))
    have HBBW := Aside0.mk (hK.1.cells hBB (fun h => h))
    have HK := Aside0.mk hK
    have HKD := Aside0.mk hKD
    clear hf hys hK hKD
    have z0 := Mem.cell_of HBZW.out 0
    have z1 := Mem.cell_of HBZW.out 1
    have z2 := Mem.cell_of HBZW.out 2
    have z3 := Mem.cell_of HBZW.out 3
    have z4 := Mem.cell_of HBZW.out 4
    have z5 := Mem.cell_of HBZW.out 5
    have y0 := Mem.free_of HBZW.out 0
    have y1 := Mem.free_of HBZW.out 1
    have y2 := Mem.free_of HBZW.out 2
    have y3 := Mem.free_of HBZW.out 3
    have y4 := Mem.free_of HBZW.out 4
    have y5 := Mem.free_of HBZW.out 5
    have b0 := Mem.cell_of HBBW.out 0
    have b1 := Mem.free_of HBBW.out 0
    gi_wp2_with (fail)
    have hus := HUS.out
    have he1 : ((putRow W (w.heap.size + 1 + 1) z27 none 0 none 0).setCell ⟨w.heap.size + 1 + 1 + 1, 0, none⟩ (.bool false)).heap[D]? = _ := (Mem.set_other _ _ _ _ (by show D ≠ w.heap.size + 1 + 1 + 1; omega)).trans ((putRow_other D (by omega)).trans HKD.out)
    have he2 : ((putRow W (w.heap.size + 1 + 1) z27 none 0 none 0).setCell ⟨w.heap.size + 1 + 1 + 1, 0, none⟩ (.bool false)).heap[w.heap.size + 1 + 1]? = _ := (Mem.set_other _ _ _ _ (by show w.heap.size + 1 + 1 ≠ w.heap.size + 1 + 1 + 1; omega)).trans (putRow_row HBZW.out)
    have he3 := Mem.set_heap ((putRow_other (w := W) (g := w.heap.size + 1 + 1) (x := z27) (A4 := none) (c4 := 0) (A5 := none) (c5 := 0) (w.heap.size + 1 + 1 + 1) (by omega)).trans HBBW.out) 0 (.bool false)
    have he4 : (((putRow W (w.heap.size + 1 + 1) z27 none 0 none 0).setCell ⟨w.heap.size + 1 + 1 + 1, 0, none⟩ (.bool false)).putObj D (.deferred none)).heap[w.heap.size + 1 + 1]? = _ := (World.putObj_heap_other (by omega)).trans he2
    have he5 : (((putRow W (w.heap.size + 1 + 1) z27 none 0 none 0).setCell ⟨w.heap.size + 1 + 1 + 1, 0, none⟩ (.bool false)).putObj D (.deferred none)).heap[w.heap.size + 1 + 1 + 1]? = some (.cells #[.bool false] 4 (0, 0)) := (World.putObj_heap_other (by omega)).trans he3
    refine ⟨by simp, .inl ⟨_, _, rfl, run_takeDeferred he1, ?_⟩⟩
    refine ⟨_, results_row_bool rfl _ _ (w.heap.size + 1 + 1) (w.heap.size + 1 + 1 + 1) 27 _ (0, 0) _ false rfl he4 Try.underlying27 rfl (by kernel_rfl) rfl (Mem.cell_of he5 0) Try.underlying4, ?_⟩
    rw [HG.out]
    have hb1 : Below w.heap.size w ((putRow W (w.heap.size + 1 + 1) z27 none 0 none 0).setCell ⟨w.heap.size + 1 + 1 + 1, 0, none⟩ (.bool false)) := (HK.out.2.trans (putRow_below (w := W) (g := w.heap.size + 1 + 1) (x := z27) (A4 := none) (c4 := 0) (A5 := none) (c5 := 0) (by omega))).trans (low_set (by omega) _)
    refine ⟨none, 0, none, 0, rfl, zero_M _ _, Below.trans hb1 ?_⟩
    exact belowK_b (w := U) hBU.size _ D _ _ hD he1 rfl rfl
  case stop =>
    rintro D c pre W hD hsp ⟨⟨rfl, y, B4, e4, B5, e5, h1, h2, h3, h4⟩, hK⟩ hKD
    have HG : Aside0 (findL (flatL x) key = (y, true)) := ⟨by rw [← findD_flat, findD_prefix hsp (by rw [h1]), h1]⟩
    refine wpIn_wide.2 ?_
    go_wp2_with (fail)
    have hus := HUS.out
    have he4 : (W.putObj D (.deferred none)).heap[w.heap.size + 1 + 1]? = _ := (World.putObj_heap_other (by omega)).trans h2
    have he5 : (W.putObj D (.deferred none)).heap[w.heap.size + 1 + 1 + 1]? = some (.cells #[.bool true] 4 (0, 0)) := (World.putObj_heap_other (by omega)).trans h3
    refine ⟨by simp, .inl ⟨_, _, rfl, run_takeDeferred hKD, ?_⟩⟩
    refine ⟨_, results_row_bool rfl _ _ (w.heap.size + 1 + 1) (w.heap.size + 1 + 1 + 1) 27 _ (0, 0) _ true rfl he4 Try.underlying27 rfl (by kernel_rfl) rfl (Mem.cell_of he5 0) Try.underlying4, ?_⟩
    rw [HG.out]
    refine ⟨B4, e4, B5, e5, rfl, ?_, hK.2.trans (belowK_b (w := U) hBU.size W D _ _ hD hKD rfl rfl)⟩
    refine k27.M_lower hBU.size (k27.M_mono (fun _ hk => hk.1) (k27.M_move (fun k hk => World.putObj_heap_other ?_) (k27.M_bound h4)))
    rintro rfl
    obtain ⟨_, _, _, q, _, cells, hc⟩ := hk
    rw [hKD] at hc
    cases hc
end Go.Proofs.Ytnkbgimihikhoaa.PVt
namespace Go.Proofs.Ytnkbgimihikhoaa.PVt
open Go.RowKit Go.Proofs.YtnkbgimihikhoaaW.PrintWords Go.Proofs.YtnkbgimihikhoaaW.PrintLast Go.Proofs.YtnkbgimihikhoaaW.PrintMore
attribute [local go_sem] max2_int min2_int max_two min_two
set_option linter.unusedVariables false
set_option linter.unusedSimpArgs false
abbrev kint : Kd Int := Kd.int .i64
def deepI (l : List (Nat × S27)) : List Int := l.map fun p => (p.1 : Int)
theorem deepI_append (l m : List (Nat × S27)) : deepI (l ++ m) = deepI l ++ deepI m := List.map_append
theorem deepI_len (d : Nat) (x : S27) : (deepI (flatD d x)).length = szT x := by unfold deepI; rw [List.length_map, flatD_length]
theorem deepI_eq (d : Nat) (x : S27) : deepI (flatD d x) = (d : Int) :: deepI (flatDs (d + 1) x.f4) := by rw [flatD_eq]; rfl
theorem deeps_len (ys : List Int) (d : Nat) (l : List S27) : (ys ++ (d : Int) :: deepI (flatDs (d + 1) l)).length = ys.length + 1 + szTs l := by
  rw [List.length_append, List.length_cons]; unfold deepI; rw [List.length_map, flatDs_length]; omega
theorem kid_room {m k : Nat} {x : S27} (h : m + szT x ≤ 1099511627776) (hk : k < x.f4.length) : m + 1 + szTs (x.f4.take k) + szT (x.f4.getD k z27) ≤ 1099511627776 := by
  have h1 := szTs_snoc x.f4 hk
  have h2 := szTs_take x.f4 (k + 1)
  have h3 := szT_eq x
  omega
theorem kid_deep {d k : Nat} {x : S27} (h : d + szT x ≤ 1099511627776) (hk : k < x.f4.length) : d + 1 + szT (x.f4.getD k z27) ≤ 1099511627776 := by
  have h1 := szT_kid x.f4 hk
  have h3 := szT_eq x
  omega
set_option maxHeartbeats 4000000 in
set_option maxRecDepth 100000 in
theorem deeps_calls (n0 base : Nat) (hn : n0 ≤ base) : ∀ (q : Nat) (w : World) (x : S27) (A4 : Option Addr) (c4 : Nat) (A5 : Option Addr) (c5 : Nat) (d : Nat) (v : Value) (ys : List Int), szT x ≤ q → TK w n0 x (cs27 x A4 c4 A5 c5).toList → Kd.R kint 3 w base (fun _ => True) v ys → base ≤ w.heap.size → ys.length + szT x ≤ 1099511627776 → d + szT x ≤ 1099511627776 →
    Calls Try.prog 62 #[.agg (cs27 x A4 c4 A5 c5), .int .i64 (d : Int), v] w fun e w' => ∃ v', e = .returned v' ∧ Kd.R kint 3 w' base (fun _ => True) v' (ys ++ deepI (flatD d x)) ∧ Below base w w' ∧ w.grownBy w' v.ownBlock ∧ Moved w.heap.size v v'
  | 0, w, x, _, _, _, _, _, _, _, h, _, _, _, _, _ => by have := szT_pos x; omega
  | q + 1, w, x, A4, c4, A5, c5, d, v, ys, hq, hx, hv, hb, hr, hd => by
    have IH := Aside0.mk (deeps_calls n0 base hn q)
    have HX := Aside0.mk hx
    have HV := Aside0.mk hv
    have HBS := Aside0.mk hb
    have HR := Aside0.mk hr
    have HD := Aside0.mk hd
    have HQ := Aside0.mk hq
    have HN := Aside0.mk hn
    have HWD := Aside0.mk (wrap_next hd)
    have HS1 := Aside0.mk (szT_pos x)
    clear hq hx hv hb hr hn hd
    go_enter Try.func62, Try.ntmps62
    go_wp2_with (first | ((with_reducible refine gate_builtin (b := .append) (xs := #[.tmp 8, .tmp 10]) rfl ?_); at_builtin; go_loud (refine Kd.R_append kint (w0 := w) base rfl (.tmp 8) (.tmp 10) 60 3 (.int .i64 0) 8 rfl Try.underlying60 info3 rfl (by decide) (by omega) v ys (d : Int) [.int .i64 (d : Int)] (fun _ => True) (fun _ => False) rfl (by rw [Mem.alloc_size]; rfl) ?aP (fun _ hk => hk.elim) (fun _ _ => trivial) ?aO ?aB ?aS ?aL ?_); (case aP => exact rfl); (case aO => exact Kd.R_below HV.out (below_alloc (Below.refl _ _) _)); (case aB => exact (Below.refl base w).alloc HBS.out _); (case aS => have := HBS.out; rw [Mem.alloc_size]; omega); (case aL => have := HR.out; have := HS1.out; omega); intro v1 w1 hv1 hb1 hg1 hm1; have HV1 := Aside0.mk hv1; have HB1 := Aside0.mk hb1; have HG1 := Aside0.mk hg1; have HM1 := Aside0.mk hm1; clear hv1 hb1 hg1 hm1))
    have HSU : Aside0 ((w.alloc (.cells (cs27 x A4 c4 A5 c5) 27)).heap.size = w.heap.size + 1) := ⟨Mem.alloc_size _ _⟩
    have HB0 : Aside0 ((w.alloc (.cells (cs27 x A4 c4 A5 c5) 27)).heap[w.heap.size]? = some (.cells (cs27 x A4 c4 A5 c5) 27 (0, 0))) := ⟨Mem.alloc_new _ _⟩
    have HWU : Aside0 (∀ w', (w.alloc (.cells (cs27 x A4 c4 A5 c5) 27)).grownBy w' v.ownBlock → w.grownBy w' v.ownBlock) := ⟨fun _ h => grown_alloc h⟩
    generalize w.alloc (.cells (cs27 x A4 c4 A5 c5) 27) = U at *
    have HNE : Aside0 (some w.heap.size ≠ v.ownBlock) := ⟨fun e => by obtain ⟨_, ho⟩ := Kd.R_own HV.out; have := own_lt ho _ e.symm; omega⟩
    obtain ⟨_, _, hl5, hF5⟩ := HX.out.rows
    have hmax : x.f4.length ≤ 9223372036854775807 := (Kd.F_now hF5).2.1
    have HMX := Aside0.mk hmax
    have HF5 := Aside0.mk hF5
    clear hl5 hF5 hmax
    go_loopw [2, 7] (fun v' i wr => ∃ k : Nat, i = .int .i64 (k : Int) ∧ Aside0 (k ≤ x.f4.length) ∧ Aside0 (Kd.R kint 3 wr base (fun _ => True) v' (ys ++ (d : Int) :: deepI (flatDs (d + 1) (x.f4.take k)))) ∧ Aside0 (Below base w wr) ∧ Aside0 (U.grownBy wr v.ownBlock) ∧ Aside0 (Moved U.heap.size v v')) (fun _ i _ => x.f4.length - (intOf i).toNat)
    case atStart => exact ⟨0, rfl, ⟨Nat.zero_le _⟩, HV1, HB1, HG1, HM1⟩
    case round =>
      clear HV1 HB1 HG1 HM1
      obtain ⟨k, rfl, HK, HVR, HBR, HGR, HMR⟩ := hrel
      have HBX : Aside0 (wr.heap[w.heap.size]? = some (.cells (cs27 x A4 c4 A5 c5) 27 (0, 0))) := ⟨(HGR.out.block _ (by have := HSU.out; omega) HNE.out).trans HB0.out⟩
      have b5 := Mem.cell_of HBX.out 5
      by_cases hlt : k < x.f4.length
      · have HW := Aside0.mk (wrap_in hlt HMX.out)
        have HFR : Kd.F k27 wr (fun k => k < n0) A5 x.f4.length x.f4 := Kd.F_step HF5.out (fun i hi _ => HBR.out.block i (Nat.lt_of_lt_of_le hi HN.out))
        obtain ⟨ad, B4, d4, B5, d5, rfl, hc, hk⟩ := kid_at HFR k hlt
        have HKD := Aside0.mk hk
        have HRK : Aside0 ((ys ++ (d : Int) :: deepI (flatDs (d + 1) (x.f4.take k))).length + szT (x.f4.getD k z27) ≤ 1099511627776) := ⟨by rw [deeps_len]; exact kid_room HR.out hlt⟩
        have HDK := Aside0.mk (kid_deep HD.out hlt)
        have HQK : Aside0 (szT (x.f4.getD k z27) ≤ q) := ⟨by have := szT_kid x.f4 hlt; have := szT_eq x; have := HQ.out; omega⟩
        have HSN : Aside0 ((ys ++ (d : Int) :: deepI (flatDs (d + 1) (x.f4.take k))) ++ deepI (flatD (d + 1) (x.f4.getD k z27)) = ys ++ (d : Int) :: deepI (flatDs (d + 1) (x.f4.take (k + 1)))) := ⟨by rw [flatDs_snoc _ x.f4 hlt, deepI_append, List.append_assoc, List.cons_append]⟩
        have HLT := Aside0.mk hlt
        obtain ⟨x0, x1, x2, x3, x4, x5⟩ := hc
        have e6 : ((k : Int) < (x.f4.length : Int)) = True := eq_true (Int.ofNat_lt.2 hlt)
        have e7 : (k < x.f4.length) = True := eq_true hlt
        have hkn : (k : Int).toNat = k := Int.toNat_natCast k
        have hkp : (0 : Int) ≤ (k : Int) := Int.natCast_nonneg k
        have hwd := HWD.out
        generalize x.f4.getD k z27 = y at *
        obtain ⟨p, hp⟩ : ∃ p, ad.add (k * 6) = p := ⟨_, rfl⟩
        rw [hp] at x0 x1 x2 x3 x4 x5
        clear hk HFR hlt
        go_wp2_with (fail)
        refine (IH.out wr y B4 d4 B5 d5 (d + 1) _ _ HQK.out HKD.out HVR.out (Nat.le_trans HBS.out HBR.out.size) HRK.out HDK.out).mono ?_
        rintro e w3 ⟨v3, rfl, hv3, hb3, hg3, hm3⟩
        rw [HSN.out] at hv3
        dsimp only
        have HV3 := Aside0.mk hv3
        have HB3 := Aside0.mk (HBR.out.trans hb3)
        have HG3 := Aside0.mk (grown_moved HGR.out HMR.out hg3)
        have HM3 := Aside0.mk (HMR.out.trans hm3 HGR.out.size)
        clear hv3 hb3 hg3 hm3 b5 x0 x1 x2 x3 x4 x5 hwd
        go_wp2_with (fail)
        exact ⟨⟨k + 1, by rw [HW.out], ⟨by have := HLT.out; omega⟩, HV3, HB3, HG3, HM3⟩, dec_kid HLT.out HW.out⟩
      · have e6 : ((k : Int) < (x.f4.length : Int)) = False := eq_false (by omega)
        have e7 : (k < x.f4.length) = False := eq_false hlt
        have HTA : Aside0 (x.f4.take k = x.f4) := ⟨List.take_of_length_le (by omega)⟩
        clear hlt
        go_wp2_with (fail)
        go_ret
        rw [HTA.out] at HVR
        exact ⟨_, rfl, by rw [deepI_eq]; exact HVR.out, HBR.out, HWU.out _ HGR.out, HMR.out.low (by have := HSU.out; omega)⟩
theorem empty_I (W : World) (base b : Nat) (hb : b = W.heap.size) (h : base ≤ W.heap.size) : Kd.R kint 3 (W.alloc (.cells #[] 3)) base (fun _ => True) (.slice (some ⟨b, 0, none⟩) 0 0) [] := by
  subst hb
  exact ⟨fun _ _ => trivial, [], World.ownsRow_made W #[] 0 h (Nat.zero_le _) rfl, Reps.none _ _⟩
set_option maxHeartbeats 4000000 in
set_option maxRecDepth 100000 in
theorem deepsall_calls (n0 : Nat) (w : World) (x : S27) (A4 : Option Addr) (c4 : Nat) (A5 : Option Addr) (c5 : Nat) (hx : TK w n0 x (cs27 x A4 c4 A5 c5).toList) (hn : n0 ≤ w.heap.size) (hr : szT x ≤ 1099511627776) :
    Calls Try.prog 30 #[.agg (cs27 x A4 c4 A5 c5)] w fun e w' => ∃ v, e = .returned v ∧ Kd.R kint 3 w' w.heap.size (fun _ => True) v (deepI (flatD 0 x)) ∧ Below w.heap.size w w' := by
  have HX := Aside0.mk hx
  have HN := Aside0.mk hn
  have HR := Aside0.mk hr
  clear hx hn hr
  go_enter Try.func30, Try.ntmps30
  go_wp2_with (fail)
  have HB := Aside0.mk (below_alloc (below_alloc (Below.refl w.heap.size w) (.cells (cs27 x A4 c4 A5 c5) 27)) (.cells #[] 3))
  refine (deeps_calls n0 w.heap.size HN.out (szT x) _ x _ _ _ _ 0 _ [] (Nat.le_refl _) (HX.out.low (fun i hi => HB.out.block i (Nat.lt_of_lt_of_le hi HN.out))) (empty_I _ _ _ (by rw [Mem.alloc_size]) (by rw [Mem.alloc_size]; omega)) HB.out.size (by have := HR.out; simpa using this) (by have := HR.out; omega)).mono ?_
  rintro e w3 ⟨v3, rfl, hv3, hb3, _, _⟩
  dsimp only
  have HV3 := Aside0.mk hv3
  have HB3 := Aside0.mk (HB.out.trans hb3)
  clear hv3 hb3 HB
  go_wp2_with (fail)
  go_ret
  exact ⟨_, rfl, HV3.out, HB3.out⟩
/-- A number of a list. -/
theorem int_at {w : World} {A : Option Addr} {n : Nat} {xs : List Int} (h : Kd.C kint w A n xs) (k : Nat) (hk : k < n) : ∃ ad, A = some ad ∧ w.cell? (ad.add k) = some (.int .i64 (xs.getD k 0)) := by
  obtain ⟨ad, c, e, _, hK, hc0⟩ := Kd.C_get h 0 (k : Int) (Int.natCast_nonneg _) (Int.ofNat_lt.2 hk)
  rw [Int.toNat_natCast] at hK hc0
  have hcs : c = [.int .i64 (xs.getD k 0)] := hK
  subst hcs
  have := hc0 0 _ rfl
  rw [Nat.add_zero, show kint.sz = 1 from rfl, Nat.mul_one] at this
  exact ⟨ad, e, this⟩
def maxI (l : List Int) : Int := l.foldl (fun m p => mx m (p + 1)) 0
theorem maxI_snoc (l : List Int) (p : Int) : maxI (l ++ [p]) = mx (maxI l) (p + 1) := by simp [maxI]
theorem maxI_deep (l : List (Nat × S27)) : maxI (deepI l) = (maxD l : Int) := by
  have h : ∀ (l : List (Nat × S27)) (m : Nat), (deepI l).foldl (fun m p => mx m (p + 1)) (m : Int) = ((l.foldl (fun m p => max m (p.1 + 1)) m : Nat) : Int) := by
    intro l
    induction l with
    | nil => intro m; rfl
    | cons p l ih =>
      intro m
      show (deepI l).foldl _ (mx (m : Int) ((p.1 : Int) + 1)) = _
      rw [show mx (m : Int) ((p.1 : Int) + 1) = ((max m (p.1 + 1) : Nat) : Int) from by unfold mx; split <;> omega]
      exact ih _
  exact h l 0
theorem take_snocI (l : List Int) {k : Nat} (h : k < l.length) : l.take (k + 1) = l.take k ++ [l.getD k 0] := by
  rw [List.take_add_one, List.getD_eq_getElem?_getD, List.getElem?_eq_getElem h]; rfl
theorem deepI_get (l : List (Nat × S27)) {k : Nat} (h : k < l.length) : (deepI l).getD k 0 = ((l.getD k (0, z27)).1 : Int) := by
  unfold deepI
  rw [List.getD_eq_getElem?_getD, List.getD_eq_getElem?_getD, List.getElem?_map, List.getElem?_eq_getElem h]; rfl
theorem wrap_deep {d : Nat} (h : d + 1 ≤ 1099511627776) : wrap64 ((d : Int) + 1) = (d : Int) + 1 := by unfold wrap64; omega
mutual
theorem flatD_hi : ∀ (d : Nat) (x : S27), ∀ p ∈ flatD d x, p.1 + 1 ≤ d + szT x
  | d, ⟨k, t, u, a, l⟩, p, hp => by
    rw [flatD] at hp
    rw [szT]
    rcases List.mem_cons.1 hp with rfl | hp
    · simp only []; omega
    · have := flatDs_hi (d + 1) l p hp; omega
theorem flatDs_hi : ∀ (d : Nat) (l : List S27), ∀ p ∈ flatDs d l, p.1 + 1 ≤ d + szTs l
  | _, [], p, hp => by rw [flatDs] at hp; cases hp
  | d, x :: l, p, hp => by
    rw [flatDs] at hp
    rw [szTs]
    rcases List.mem_append.1 hp with hp | hp
    · have := flatD_hi d x p hp; omega
    · have := flatDs_hi d l p hp; omega
end
set_option maxHeartbeats 4000000 in
set_option maxRecDepth 100000 in
theorem rdepth_calls (n0 : Nat) (w : World) (x : S27) (A4 : Option Addr) (c4 : Nat) (A5 : Option Addr) (c5 : Nat) (hx : TK w n0 x (cs27 x A4 c4 A5 c5).toList) (hn : n0 ≤ w.heap.size) (hr : szT x ≤ 1099511627776) :
    Calls Try.prog 34 #[.agg (cs27 x A4 c4 A5 c5)] w fun e w' => e = .returned (.int .i64 ((maxD (flatD 0 x) : Nat) : Int)) ∧ Below w.heap.size w w' := by
  have hB := below_alloc (Below.refl w.heap.size w) (.cells (cs27 x A4 c4 A5 c5) 27)
  have HB := Aside0.mk hB
  have HX := Aside0.mk (hx.low (fun i hi => hB.block i (Nat.lt_of_lt_of_le hi hn)))
  have HN : Aside0 (n0 ≤ (w.alloc (.cells (cs27 x A4 c4 A5 c5) 27)).heap.size) := ⟨by rw [Mem.alloc_size]; omega⟩
  have HR := Aside0.mk hr
  have HDP : Aside0 (∀ p ∈ flatD 0 x, p.1 + 1 ≤ 1099511627776) := ⟨fun p hp => by have := flatD_hi 0 x p hp; omega⟩
  clear hx hn hr hB
  go_enter Try.func34, Try.ntmps34
  go_wp2_with (fail)
  refine (deepsall_calls n0 _ x _ _ _ _ HX.out HN.out HR.out).mono ?_
  rintro e w2 ⟨v, rfl, hv, hb2⟩
  obtain ⟨A, c, rfl, hlc, hC⟩ := Kd.R_reads hv
  have HC := Aside0.mk hC
  have HB2 := Aside0.mk (HB.out.trans (hb2.mono HB.out.size))
  dsimp only
  clear hv hb2 HB HX HN hC
  obtain ⟨M, hM⟩ : ∃ M, flatD 0 x = M := ⟨_, rfl⟩
  rw [hM] at HC HDP hlc
  have HMF := Aside0.mk hM
  have HMX : Aside0 ((deepI M).length ≤ 1099511627776) := ⟨by rw [← hM, deepI_len]; exact HR.out⟩
  have HLM : Aside0 ((deepI M).length = M.length) := ⟨by unfold deepI; rw [List.length_map]⟩
  obtain ⟨L, hL⟩ : ∃ L, deepI M = L := ⟨_, rfl⟩
  have HME : Aside0 ((maxD (flatD 0 x) : Int) = maxI L) := ⟨by rw [← hL, maxI_deep, HMF.out]⟩
  have HG : Aside0 (∀ k, k < L.length → ∃ d : Nat, L.getD k 0 = (d : Int) ∧ d + 1 ≤ 1099511627776) := ⟨fun k hk => by
    rw [← hL] at hk ⊢
    rw [HLM.out] at hk
    refine ⟨_, deepI_get M hk, HDP.out _ ?_⟩
    rw [List.getD_eq_getElem?_getD, List.getElem?_eq_getElem hk]
    exact List.getElem_mem hk⟩
  rw [hL] at HC HMX HLM hlc
  simp only [hM, hL]
  clear hL hM HDP hlc
  go_wp2_with (fail)
  go_loopw [4, 5] (fun v4 i wr => ∃ k : Nat, i = .int .i64 (k : Int) ∧ Aside0 (k ≤ L.length) ∧ v4 = .int .i64 (maxI (L.take k)) ∧ Aside0 (Below w2.heap.size w2 wr)) (fun _ i _ => L.length - (intOf i).toNat)
  case atStart => exact ⟨0, rfl, ⟨Nat.zero_le _⟩, rfl, ⟨Below.refl _ _⟩⟩
  case round =>
    obtain ⟨k, rfl, HK, rfl, HBW⟩ := hrel
    by_cases hlt : k < L.length
    case neg =>
      have e6 : ((k : Int) < (L.length : Int)) = False := eq_false (by omega)
      have e7 : (k < L.length) = False := eq_false hlt
      have HT : Aside0 (L.take k = L) := ⟨List.take_of_length_le (by omega)⟩
      rw [HT.out]
      clear hlt
      go_wp2_with (fail)
      go_ret
      exact ⟨by rw [HME.out]; rfl, HB2.out.trans (HBW.out.mono HB2.out.size)⟩
    have HW := Aside0.mk (wrap_in (k := k) (n := L.length) hlt (by have := HMX.out; omega))
    obtain ⟨ad, rfl, hc⟩ := int_at (Kd.C_below HC.out HBW.out) k hlt
    obtain ⟨d, hd, hd2⟩ := HG.out k hlt
    have HS : Aside0 (maxI (L.take (k + 1)) = mx (maxI (L.take k)) ((d : Int) + 1)) := ⟨by rw [take_snocI L hlt, maxI_snoc, hd]⟩
    have HLT := Aside0.mk hlt
    rw [hd] at hc
    have hwd := wrap_deep hd2
    have e6 : ((k : Int) < (L.length : Int)) = True := eq_true (Int.ofNat_lt.2 hlt)
    have e7 : (k < L.length) = True := eq_true hlt
    have hkn : (k : Int).toNat = k := Int.toNat_natCast k
    have hkp : (0 : Int) ≤ (k : Int) := Int.natCast_nonneg k
    clear hlt hd hd2
    generalize maxI (L.take k) = m at *
    go_wp2_with (fail)
    exact ⟨⟨k + 1, by rw [HW.out], ⟨HLT.out⟩, by rw [HS.out]; rfl, HBW⟩, dec_kid HLT.out HW.out⟩
end Go.Proofs.Ytnkbgimihikhoaa.PVt
namespace Go.Proofs.Ytnkbgimihikhoaa.PVt
open Go.RowKit Go.Proofs.YtnkbgimihikhoaaW.PrintWords Go.Proofs.YtnkbgimihikhoaaW.PrintLast Go.Proofs.YtnkbgimihikhoaaW.PrintMore
attribute [local go_sem high] eqA23
set_option linter.unusedVariables false
set_option linter.unusedSimpArgs false
/-- Going back: the last node one higher. -/
def backP : List (Nat × S27) → Nat → S23 × Bool
  | [], _ => (z23, false)
  | p :: r, d => if p.1 + 1 = d then (p.2.f0, true) else backP r d
def parR : List (Nat × S27) → List (Nat × S27) → S23 → S23 × Bool
  | _, [], _ => (z23, false)
  | r, p :: l, key => if sameK p.2.f0 key = true then backP r p.1 else parR (p :: r) l key
theorem take_rev (M : List (Nat × S27)) {k : Nat} (h : k < M.length) : (M.take (k + 1)).reverse = M.getD k (0, z27) :: (M.take k).reverse := by
  rw [List.take_add_one, List.getD_eq_getElem?_getD, List.getElem?_eq_getElem h]; simp
theorem drop_one (M : List (Nat × S27)) {k : Nat} (h : k < M.length) : M.drop k = M.getD k (0, z27) :: M.drop (k + 1) := by
  rw [List.drop_eq_getElem_cons h, List.getD_eq_getElem?_getD, List.getElem?_eq_getElem h]; rfl
theorem parR_step (M : List (Nat × S27)) (key : S23) {k : Nat} (h : k < M.length) (hn : sameK (M.getD k (0, z27)).2.f0 key = false) : parR (M.take (k + 1)).reverse (M.drop (k + 1)) key = parR (M.take k).reverse (M.drop k) key := by
  rw [drop_one M h, parR, if_neg (by rw [hn]; simp), take_rev M h]
theorem parR_hit (M : List (Nat × S27)) (key : S23) {k : Nat} (h : k < M.length) (hn : sameK (M.getD k (0, z27)).2.f0 key = true) : parR (M.take k).reverse (M.drop k) key = backP (M.take k).reverse (M.getD k (0, z27)).1 := by
  rw [drop_one M h, parR, if_pos hn]
theorem flatL_get (x : S27) {k : Nat} (h : k < (flatD 0 x).length) : (flatL x).getD k z27 = ((flatD 0 x).getD k (0, z27)).2 := by
  rw [← flatL_map 0 x, List.getD_eq_getElem?_getD, List.getD_eq_getElem?_getD, List.getElem?_map, List.getElem?_eq_getElem h]; rfl
theorem meas_dn {r : Nat} {v : Int} (h : v = (r : Int) - 1) : (intOf (Value.int .i64 v) + 1).toNat < (intOf (Value.int .i64 (r : Int)) + 1).toNat := by
  subst h
  show ((r : Int) - 1 + 1).toNat < ((r : Int) + 1).toNat
  omega
theorem wrap_dn {k : Nat} (h : k ≤ 1099511627776) : wrap64 ((k : Int) - 1) = (k : Int) - 1 := by unfold wrap64; omega
theorem wrap_sub1 {d : Nat} (h : d + 1 ≤ 1099511627776) : IntKind.i64.wrap ((d : Int) - 1) = (d : Int) - 1 := by rw [i64_w]; exact wrap_dn (k := d) (by omega)
set_option maxHeartbeats 8000000 in
set_option maxRecDepth 100000 in
theorem rparent_calls (n0 : Nat) (w : World) (x : S27) (key : S23) (A4 : Option Addr) (c4 : Nat) (A5 : Option Addr) (c5 : Nat) (hx : TK w n0 x (cs27 x A4 c4 A5 c5).toList) (hn : n0 ≤ w.heap.size) (hr : szT x ≤ 1099511627776) :
    Calls Try.prog 40 #[.agg (cs27 x A4 c4 A5 c5), .agg #[.int .i64 key.f0, .int .i64 key.f1]] w fun e w' => e = .returned (.tuple #[.agg #[.int .i64 (parR [] (flatD 0 x) key).1.f0, .int .i64 (parR [] (flatD 0 x) key).1.f1], .bool (parR [] (flatD 0 x) key).2]) ∧ Below w.heap.size w w' := by
  have HB := Aside0.mk (below_alloc (below_alloc (below_alloc (Below.refl w.heap.size w) (.cells (cs27 x A4 c4 A5 c5) 27)) (.cells #[.int .i64 key.f0, .int .i64 key.f1] 23)) (.cells #[.int .i64 0, .int .i64 0] 23))
  have HX := Aside0.mk hx
  have HN := Aside0.mk hn
  have HR : Aside0 (Room 0 (szT x)) := ⟨by unfold Room; omega⟩
  have HRS := Aside0.mk hr
  have HDP : Aside0 (∀ p ∈ flatD 0 x, p.1 + 1 ≤ 1099511627776) := ⟨fun p hp => by have := flatD_hi 0 x p hp; omega⟩
  clear hx hn hr
  go_enter Try.func40, Try.ntmps40
  go_wp2_with (fail)
  have HXB : Aside0 ((((w.alloc (.cells (cs27 x A4 c4 A5 c5) 27)).alloc (.cells #[.int .i64 key.f0, .int .i64 key.f1] 23)).alloc (.cells #[.int .i64 0, .int .i64 0] 23)).heap[w.heap.size]? = some (.cells (cs27 x A4 c4 A5 c5) 27 (0, 0))) := ⟨Mem.alloc_old (Mem.alloc_old (Mem.alloc_new _ _) _) _⟩
  have HKB : Aside0 ((((w.alloc (.cells (cs27 x A4 c4 A5 c5) 27)).alloc (.cells #[.int .i64 key.f0, .int .i64 key.f1] 23)).alloc (.cells #[.int .i64 0, .int .i64 0] 23)).heap[w.heap.size + 1]? = some (.cells #[.int .i64 key.f0, .int .i64 key.f1] 23 (0, 0))) := ⟨Mem.alloc_old (Mem.alloc_new_at _ _ _ (by rw [Mem.alloc_size])) _⟩
  have HZB : Aside0 ((((w.alloc (.cells (cs27 x A4 c4 A5 c5) 27)).alloc (.cells #[.int .i64 key.f0, .int .i64 key.f1] 23)).alloc (.cells #[.int .i64 0, .int .i64 0] 23)).heap[w.heap.size + 2]? = some (.cells #[.int .i64 0, .int .i64 0] 23 (0, 0))) := ⟨Mem.alloc_new_at _ _ _ (by rw [Mem.alloc_size, Mem.alloc_size])⟩
  generalize (((w.alloc (.cells (cs27 x A4 c4 A5 c5) 27)).alloc (.cells #[.int .i64 key.f0, .int .i64 key.f1] 23)).alloc (.cells #[.int .i64 0, .int .i64 0] 23)) = U at *
  refine (flatten_calls n0 U x _ _ _ _ (HX.out.low (fun i hi => HB.out.block i (Nat.lt_of_lt_of_le hi HN.out))) (Nat.le_trans HN.out HB.out.size) HR.out).mono ?_
  rintro e w2 ⟨v, rfl, hv, hb2⟩
  obtain ⟨A, c, rfl⟩ := Kd.N_slice hv
  have HC := Aside0.mk (Kd.N_reads' hv).2.2
  have HB2 := Aside0.mk (HB.out.trans (hb2.mono HB.out.size))
  have HX2 := Aside0.mk ((hb2.block _ (blk_lt HXB.out)).trans HXB.out)
  have HK2 := Aside0.mk ((hb2.block _ (blk_lt HKB.out)).trans HKB.out)
  have HZ2 := Aside0.mk ((hb2.block _ (blk_lt HZB.out)).trans HZB.out)
  have HXT := Aside0.mk (HX.out.low (fun i hi => HB2.out.block i (Nat.lt_of_lt_of_le hi HN.out)))
  dsimp only
  clear hv hb2 HB HX HXB HKB HZB
  have a0 := Mem.cell_of HX2.out 0
  have a1 := Mem.cell_of HX2.out 1
  have a2 := Mem.cell_of HX2.out 2
  have a3 := Mem.cell_of HX2.out 3
  have a4 := Mem.cell_of HX2.out 4
  have a5 := Mem.cell_of HX2.out 5
  go_wp2_with (fail)
  refine (deepsall_calls n0 w2 x _ _ _ _ HXT.out (Nat.le_trans HN.out HB2.out.size) HRS.out).mono ?_
  rintro e w3 ⟨v, rfl, hv, hb3⟩
  obtain ⟨D, dc, rfl, hdl, hD⟩ := Kd.R_reads hv
  have HD := Aside0.mk hD
  have HC3 := Aside0.mk (Kd.C_below HC.out hb3)
  have HB3 := Aside0.mk (HB2.out.trans (hb3.mono HB2.out.size))
  have HK3 := Aside0.mk ((hb3.block _ (blk_lt HK2.out)).trans HK2.out)
  have HZ3 := Aside0.mk ((hb3.block _ (blk_lt HZ2.out)).trans HZ2.out)
  dsimp only
  clear a0 a1 a2 a3 a4 a5 hv hb3 hD hdl HC HX2 HK2 HZ2
  obtain ⟨M, hM⟩ : ∃ M, flatD 0 x = M := ⟨_, rfl⟩
  obtain ⟨L, hL⟩ : ∃ L, flatL x = L := ⟨_, rfl⟩
  obtain ⟨I, hI⟩ : ∃ I, deepI M = I := ⟨_, rfl⟩
  have HMM := Aside0.mk hM
  have HLG : Aside0 (∀ k, k < M.length → L.getD k z27 = (M.getD k (0, z27)).2) := ⟨fun k hk => by rw [← hL, ← hM]; exact flatL_get x (by rw [hM]; exact hk)⟩
  have HIG : Aside0 (∀ k, k < M.length → I.getD k 0 = ((M.getD k (0, z27)).1 : Int)) := ⟨fun k hk => by rw [← hI]; exact deepI_get M hk⟩
  have HLM : Aside0 (L.length = M.length) := ⟨by rw [← hL, ← hM, flatL_length, flatD_length]⟩
  have HIM : Aside0 (I.length = M.length) := ⟨by rw [← hI]; unfold deepI; rw [List.length_map]⟩
  have HMX : Aside0 (L.length ≤ 1099511627776) := ⟨by rw [← hL, flatL_length]; exact HRS.out⟩
  have HDM : Aside0 (∀ k, k < M.length → (M.getD k (0, z27)).1 + 1 ≤ 1099511627776) := ⟨fun k hk => by
    refine HDP.out _ ?_
    rw [hM, List.getD_eq_getElem?_getD, List.getElem?_eq_getElem hk]
    exact List.getElem_mem hk⟩
  rw [hM, hI] at HD
  rw [hL] at HC3
  simp only [hM, hL, hI]
  clear hM hL hI HDP
  go_wp2_with (fail)
  go_loopw [8] (fun i wr => ∃ k : Nat, i = .int .i64 (k : Int) ∧ Aside0 (k ≤ L.length) ∧ Aside0 (parR (M.take k).reverse (M.drop k) key = parR [] M key) ∧ Aside0 (Below w3.heap.size w3 wr)) (fun i _ => L.length - (intOf i).toNat)
  case atStart => exact ⟨0, rfl, ⟨Nat.zero_le _⟩, ⟨rfl⟩, ⟨Below.refl _ _⟩⟩
  case round =>
    obtain ⟨k, rfl, HK, HP, HBW⟩ := hrel
    have HKR := Aside0.mk ((HBW.out.block _ (blk_lt HK3.out)).trans HK3.out)
    have HZR := Aside0.mk ((HBW.out.block _ (blk_lt HZ3.out)).trans HZ3.out)
    have HCR := Aside0.mk (Kd.C_below HC3.out HBW.out)
    have HDR := Aside0.mk (Kd.C_below HD.out HBW.out)
    by_cases hlt : k < L.length
    case neg =>
      have e6 : ((k : Int) < (L.length : Int)) = False := eq_false (by omega)
      have e7 : (k < L.length) = False := eq_false hlt
      have HF0 : Aside0 (parR [] M key = (z23, false)) := ⟨by rw [← HP.out, List.drop_of_length_le (by have := HLM.out; omega)]; rfl⟩
      clear hlt
      have z0 := Mem.cell_of HZR.out 0
      have z1 := Mem.cell_of HZR.out 1
      have y0 := Mem.free_of HZR.out 0
      have y1 := Mem.free_of HZR.out 1
      go_wp2_with (fail)
      have h6 := setB (setB HZR.out 0 (.int .i64 0)) 1 (.int .i64 0)
      refine bodyPost_ret (results_row_tmp rfl _ _ (w.heap.size + 2) 23 _ (0, 0) _ rfl h6 Try.underlying23 rfl (by kernel_rfl)) rfl ?_
      rw [HMM.out, HF0.out]
      have hge : w.heap.size ≤ w.heap.size + 2 := Nat.le_add_right _ _
      exact ⟨rfl, (HB3.out.trans (HBW.out.mono HB3.out.size)).trans ((low_set hge _).trans (low_set hge _))⟩
    have HLT := Aside0.mk hlt
    have hkM : k < M.length := by have := HLM.out; omega
    have HKM := Aside0.mk hkM
    have HW := Aside0.mk (wrap_in (k := k) (n := L.length) hlt (by have := HMX.out; omega))
    obtain ⟨ad, B4, d4, B5, d5, rfl, hyc, _⟩ := kid_read HCR.out k hlt
    rw [HLG.out k hkM] at hyc
    obtain ⟨p, hp⟩ : ∃ p, ad.add (k * 6) = p := ⟨_, rfl⟩
    rw [hp] at hyc
    obtain ⟨y, hy⟩ : ∃ y, M.getD k (0, z27) = y := ⟨_, rfl⟩
    rw [hy] at hyc
    have HY := Aside0.mk hy
    obtain ⟨x0, x1, x2, x3, x4, x5⟩ := hyc
    have e6 : ((k : Int) < (L.length : Int)) = True := eq_true (Int.ofNat_lt.2 hlt)
    have e7 : (k < L.length) = True := eq_true hlt
    have hkn : (k : Int).toNat = k := Int.toNat_natCast k
    have hkp : (0 : Int) ≤ (k : Int) := Int.natCast_nonneg k
    have k0 := Mem.cell_of HKR.out 0
    have k1 := Mem.cell_of HKR.out 1
    clear hlt hkM hy
    by_cases hq : sameK y.2.f0 key = true
    case neg =>
      have HPN : Aside0 (parR (M.take (k + 1)).reverse (M.drop (k + 1)) key = parR [] M key) := ⟨by rw [parR_step M key HKM.out (by rw [HY.out]; exact Bool.eq_false_iff.2 hq), HP.out]⟩
      have g1 : (y.2.f0.f0 == key.f0 && (y.2.f0.f1 == key.f1)) = false := Bool.eq_false_iff.2 hq
      clear hq
      go_wp2_with (fail)
      go_quiet ((fail))
      go_wp2_with (fail)
      exact ⟨⟨k + 1, by rw [HW.out], ⟨HLT.out⟩, HPN, ⟨HBW.out.trans (pw_below_drewN (Below.refl _ _) _ |>.mono HBW.out.size)⟩⟩, dec_kid HLT.out HW.out⟩
    have HPH : Aside0 (parR [] M key = backP (M.take k).reverse y.1) := ⟨by rw [← HP.out, parR_hit M key HKM.out (by rw [HY.out]; exact hq), HY.out]⟩
    have g1 : (y.2.f0.f0 == key.f0 && (y.2.f0.f1 == key.f1)) = true := hq
    clear hq
    have HDY := Aside0.mk (HDM.out k HKM.out)
    rw [HY.out] at HDY
    go_wp2_with (fail)
    go_quiet ((fail))
    clear x0 x1 x2 x3 x4 x5 k0 k1 g1 e6 e7
    go_wp2_with (fail)
    have HBV : Aside0 (Below w3.heap.size w3 (wr.drewN nq)) := ⟨HBW.out.trans ((pw_below_drewN (Below.refl wr.heap.size wr) nq).mono HBW.out.size)⟩
    clear HKR HZR HCR HDR HBW
    generalize wr.drewN nq = V at *
    have hwk := wrap_dn (k := k) (by have := HMX.out; have := HLT.out; omega)
    rw [hwk]
    clear hwk
    have HKY := Aside0.mk hkn
    go_loopw [9] (fun j wi => ∃ (z : Int) (q : Nat), j = .int .i64 z ∧ Aside0 (z + 1 = (q : Int)) ∧ Aside0 (q ≤ k) ∧ Aside0 (backP (M.take q).reverse y.1 = backP (M.take k).reverse y.1) ∧ Aside0 (Below w3.heap.size w3 wi)) (fun j _ => (intOf j + 1).toNat)
    case atStart => exact ⟨_, k, rfl, ⟨by omega⟩, ⟨Nat.le_refl _⟩, ⟨rfl⟩, HBV⟩
    case round =>
      obtain ⟨z, q, rfl, HZQ, HQK, HBK, HBI⟩ := hrel
      have HZI := Aside0.mk ((HBI.out.block _ (blk_lt HZ3.out)).trans HZ3.out)
      cases q with
      | zero =>
        obtain rfl : z = -1 := by have := HZQ.out; omega
        have HF0 : Aside0 (parR [] M key = (z23, false)) := ⟨by rw [HPH.out, ← HBK.out]; rfl⟩
        have z0 := Mem.cell_of HZI.out 0
        have z1 := Mem.cell_of HZI.out 1
        have y0 := Mem.free_of HZI.out 0
        have y1 := Mem.free_of HZI.out 1
        go_wp2_with (fail)
        have h6 := setB (setB HZI.out 0 (.int .i64 0)) 1 (.int .i64 0)
        refine bodyPost_ret (results_row_tmp rfl _ _ (w.heap.size + 2) 23 _ (0, 0) _ rfl h6 Try.underlying23 rfl (by kernel_rfl)) rfl ?_
        rw [HMM.out, HF0.out]
        have hge : w.heap.size ≤ w.heap.size + 2 := Nat.le_add_right _ _
        exact ⟨rfl, (HB3.out.trans (HBI.out.mono HB3.out.size)).trans ((low_set hge _).trans (low_set hge _))⟩
      | succ r =>
        obtain rfl : z = (r : Int) := by have := HZQ.out; omega
        have hrk : r < k := by have := HQK.out; omega
        have hrM : r < M.length := by have := HKM.out; omega
        have HRK := Aside0.mk hrk
        obtain ⟨ad2, rfl, hc⟩ := int_at (Kd.C_below HD.out HBI.out) r (by have := HIM.out; omega)
        obtain ⟨ad3, he3, hc3⟩ := int_at (Kd.C_below HD.out HBI.out) k (by have := HIM.out; have := HKM.out; omega)
        injection he3 with he3
        subst he3
        rw [HIG.out r hrM] at hc
        rw [HIG.out k HKM.out, HY.out] at hc3
        obtain ⟨t, ht⟩ : ∃ t, M.getD r (0, z27) = t := ⟨_, rfl⟩
        rw [ht] at hc
        have HTK : Aside0 (backP (M.take (r + 1)).reverse y.1 = if t.1 + 1 = y.1 then (t.2.f0, true) else backP (M.take r).reverse y.1) := ⟨by rw [take_rev M hrM, ht]; rfl⟩
        have HLR : Aside0 (L.getD r z27 = t.2) := ⟨by rw [HLG.out r hrM, ht]⟩
        have HKL : Aside0 (r < L.length) := ⟨by have := HLM.out; omega⟩
        have e1 : ((r : Int) < (I.length : Int)) = True := eq_true (by have := HIM.out; omega)
        have e2 : (r < I.length) = True := eq_true (by have := HIM.out; omega)
        have e3 : ((k : Int) < (I.length : Int)) = True := eq_true (by have := HIM.out; have := HKM.out; omega)
        have e4 : (k < I.length) = True := eq_true (by have := HIM.out; have := HKM.out; omega)
        have hrn : (r : Int).toNat = r := Int.toNat_natCast r
        have hrp : (0 : Int) ≤ (r : Int) := Int.natCast_nonneg r
        have hwy := wrap_sub1 HDY.out
        have HWR := wrap_dn (k := r) (by have := HMX.out; have := HKL.out; omega)
        clear hrk hrM ht
        by_cases hq : t.1 + 1 = y.1
        · have HF0 : Aside0 (parR [] M key = (t.2.f0, true)) := ⟨by rw [HPH.out, ← HBK.out, HTK.out, if_pos hq]⟩
          have g1 : ((t.1 : Int) == (y.1 : Int) - 1) = true := beq_iff_eq.2 (by omega)
          clear hq
          obtain ⟨ad4, B4', d4', B5', d5', he4, hyc, _⟩ := kid_read (Kd.C_below HC3.out HBI.out) r HKL.out
          injection he4 with he4
          subst he4
          rw [HLR.out] at hyc
          obtain ⟨p', hp'⟩ : ∃ p', ad.add (r * 6) = p' := ⟨_, rfl⟩
          rw [hp'] at hyc
          obtain ⟨x0, x1, _, _, _, _⟩ := hyc
          have e5 : ((r : Int) < (L.length : Int)) = True := eq_true (by have := HKL.out; omega)
          have e6 : (r < L.length) = True := eq_true HKL.out
          have z0 := Mem.cell_of HZI.out 0
          have z1 := Mem.cell_of HZI.out 1
          have y0 := Mem.free_of HZI.out 0
          have y1 := Mem.free_of HZI.out 1
          clear HWR
          go_wp2_with (fail)
          go_quiet ((fail))
          go_wp2_with (fail)
          have hbq := pw_below_drewN (Below.refl wr.heap.size wr) nq
          have h6 := setB (setB ((hbq.block _ (blk_lt HZI.out)).trans HZI.out) 0 (.int .i64 t.2.f0.f0)) 1 (.int .i64 t.2.f0.f1)
          refine bodyPost_ret (results_row_tmp rfl _ _ (w.heap.size + 2) 23 _ (0, 0) _ rfl h6 Try.underlying23 rfl (by kernel_rfl)) rfl ?_
          rw [HMM.out, HF0.out]
          have hge : w.heap.size ≤ w.heap.size + 2 := Nat.le_add_right _ _
          have hB := HBI.out.trans (hbq.mono HBI.out.size)
          exact ⟨rfl, (HB3.out.trans (hB.mono HB3.out.size)).trans ((low_set hge _).trans (low_set hge _))⟩
        · have HBN : Aside0 (backP (M.take r).reverse y.1 = backP (M.take k).reverse y.1) := ⟨by rw [← HBK.out, HTK.out, if_neg hq]⟩
          have g1 : ((t.1 : Int) == (y.1 : Int) - 1) = false := beq_eq_false_iff_ne.2 (by omega)
          clear hq
          go_wp2_with (fail)
          go_quiet ((fail))
          go_wp2_with (fail)
          refine ⟨⟨_, r, rfl, ⟨by rw [HWR]; omega⟩, ⟨Nat.le_of_lt HRK.out⟩, HBN, ⟨HBI.out.trans (pw_below_drewN (Below.refl _ _) _ |>.mono HBI.out.size)⟩⟩, ?_⟩
          exact meas_dn HWR
end Go.Proofs.Ytnkbgimihikhoaa.PVt
namespace Go.Proofs.Ytnkbgimihikhoaa.Link
open Go.RowKit
set_option linter.unusedVariables false
variable {α : Type} {F : Fence} {n : Nat} {P : Program}
/-- The iterator's contract: at each round it holds of what came, of the element and of the memory what Lk says. -/
def Tells (F : Fence) (n : Nat) (P : Program) (g : Nat) (lb : Array Value) (encs : α → Array Value) (Kp : World → World → Prop) (Lk : List α → α → World → Prop) (S Sp : List α → Prop) (w : World) : Prop :=
  ∀ (l : Nat) (J Jx : List α → World → Prop) (W : World), Below w.heap.size w W → AbidesFrom W.heap.size J → AbidesFrom W.heap.size Jx →
    (∀ pre x W1, J pre W1 → Lk pre x W1 → YieldAt F (n - 1) P l (encs x) W1 fun e W' =>
      (e = .returned (.bool true) ∧ J (pre ++ [x]) W' ∧ Kp W1 W') ∨ (e = .returned (.bool false) ∧ Jx (pre ++ [x]) W')) →
    J [] W →
    CallsIn F n P g (#[.func (.yield l) #[] #[]] ++ lb) W fun e W' => (∃ v, e = .returned v) ∧ ((∃ xs, S xs ∧ J xs W') ∨ (∃ pre, Sp pre ∧ Jx pre W'))
/-- A loop's record. -/
def record (fn : FuncId) (tmps : Array Value) (ps : Array Tmp) (assign body : Code) (D : Nat) (st : LoopState) (pe : Option Code) : Loop :=
  { state := st, pending := pe, fn := fn, tmps := tmps, params := ps, assign := assign, body := body, defers := D }
/-- The loop stands between two rounds: its record, its block for deferred calls. -/
structure Stands (rec : LoopState → Option Code → Loop) (D : Nat) (st : LoopState) (pe : Option Code) (W : World) : Prop where
  loop : W.heap[D + 1]? = some (.loop (rec st pe))
  mark : W.heap[D]? = some (.deferred (some []))
theorem Stands.lt {rec : LoopState → Option Code → Loop} {D : Nat} {st : LoopState} {pe : Option Code} {W : World} (h : Stands rec D st pe W) : D + 1 < W.heap.size := (Array.getElem?_eq_some_iff.1 h.loop).1
theorem Stands.from_ {rec : LoopState → Option Code → Loop} {D : Nat} {st : LoopState} {pe : Option Code} {W W' : World} (h : Stands rec D st pe W) (k : KeepsFrom D W W') : Stands rec D st pe W' := ⟨k.same _ _ (Nat.le_succ D) h.loop rfl, k.same _ _ (Nat.le_refl D) h.mark rfl⟩
theorem Stands.put {rec : LoopState → Option Code → Loop} {D : Nat} {st st' : LoopState} {pe pe' : Option Code} {W : World} (h : Stands rec D st pe W) : Stands rec D st' pe' (W.putObj (D + 1) (.loop (rec st' pe'))) := ⟨World.putObj_heap_same h.lt, (World.putObj_heap_other (by omega)).trans h.mark⟩
theorem Stands.grown {rec : LoopState → Option Code → Loop} {D : Nat} {st : LoopState} {pe : Option Code} {X Y : World} {row : Option Nat} (h : Stands rec D st pe X) (hg : X.grownBy Y row) (hr : ∀ r, row = some r → ∃ o : Obj, X.heap[r]? = some o ∧ o.isWalk = true) : Stands rec D st pe Y := ⟨(grownBy_keeps hg hr h.loop rfl).trans h.loop, (grownBy_keeps hg hr h.mark rfl).trans h.mark⟩
theorem walk_row {D B : Nat} {A : World} {row : Option Nat} (hB : D ≤ B) (hr : ∀ r, row = some r → B ≤ r ∧ ∃ o : Obj, A.heap[r]? = some o ∧ o.isWalk = true) : ∀ r, row = some r → D ≤ r ∧ ∃ o : Obj, A.heap[r]? = some o ∧ o.isCells = false := fun r e => by
  obtain ⟨h1, o, ho, hw⟩ := hr r e
  exact ⟨Nat.le_trans hB h1, o, ho, Obj.not_cells_of_walk hw⟩
/-- One round. -/
theorem round_told {ps : Array Tmp} {assign body : Code} {tmps : Array Value} {fn D m : Nat} (hfn : F.fn fn) {encs : α → Array Value} {Kp : World → World → Prop}
    (hKt : ∀ {A B C : World}, Kp A B → Kp B C → Kp A C) (hKb : ∀ (W : World) (l : Nat) (o o' : Obj), D ≤ l → W.heap[l]? = some o → o.isCells = false → o.isWalk = false → Kp W (W.putObj l o'))
    (I : List α → World → Prop) (Ix : Code → List α → World → Prop) (hI : OwnFrom D I) (hIx : ∀ c, OwnFrom D (Ix c)) (Ax : Act → World → Prop) (hAx : ∀ a', OwnFrom D (fun (_ : Unit) W => Ax a' W))
    {pre : List α} {x : α} {W : World} (hps : (encs x).size = ps.size) (hs : Stands (record fn tmps ps assign body D) D .ready none W)
    (ha : ∀ K : Act → World → Prop, (∀ a' W', KeepsFrom D W W' → Kp W W' → I pre W' → Ax a' W' → K a' W') →
      assign.wpIn (F.inRound (D + 1)) m P (Exit.then K (fun _ _ _ => False)) { tmps := (ps.zip (encs x)).foldl (fun t (p, v) => t.setIfInBounds p v) tmps, defers := [] } W)
    (hb : ∀ (a' : Act) (Wa : World), (∃ r, Wa.heap[D + 1]? = some (.loop r)) → I pre Wa → Ax a' Wa → body.wpIn (F.inRound (D + 1)) m P (ownPostG D Kp I Ix (pre ++ [x]) Wa) a' Wa) :
    YieldAt F m P (D + 1) (encs x) W fun e W' => (e = .returned (.bool true) ∧ (I (pre ++ [x]) W' ∧ Stands (record fn tmps ps assign body D) D .ready none W') ∧ Kp W W') ∨ (e = .returned (.bool false) ∧ ∃ c, Ix c (pre ++ [x]) W' ∧ Stands (record fn tmps ps assign body D) D .done (some c) W') := by
  refine ⟨fn, _, assign, body, run_yield (P := P) (args := encs x) hs.loop hps, roundIn_of_wpIn hfn (ha _ ?_)⟩
  intro a' Wa hkf hkp hia hax
  have h1 := hs.from_ hkf
  have h2 : Stands (record fn tmps ps assign body D) D .busy none (Wa.putObj (D + 1) (.loop (record fn tmps ps assign body D .busy none))) := h1.put
  have hk1 : Kp Wa (Wa.putObj (D + 1) (.loop (record fn tmps ps assign body D .busy none))) := hKb _ _ _ _ (Nat.le_succ D) h1.loop rfl rfl
  refine ⟨_, run_beginRound h1.loop rfl, ?_⟩
  refine wpIn_mono (hb a' _ ⟨_, h2.loop⟩ (hI.putObj _ hia (Nat.le_succ D) h1.loop rfl) ((hAx a').putObj (s := ()) _ hax (Nat.le_succ D) h1.loop rfl)) ?_
  have last : ∀ (c : Code) (W3 : World), KeepsFrom D (Wa.putObj (D + 1) (.loop (record fn tmps ps assign body D .busy none))) W3 → Ix c (pre ++ [x]) W3 →
      ∃ v W4, (Instr.endRound (D + 1) (some c)).run P W3 = .ok v W4 ∧ ((v = .bool true ∧ (I (pre ++ [x]) W4 ∧ Stands (record fn tmps ps assign body D) D .ready none W4) ∧ Kp W W4) ∨ (v = .bool false ∧ ∃ c, Ix c (pre ++ [x]) W4 ∧ Stands (record fn tmps ps assign body D) D .done (some c) W4)) := fun c W3 hk hx => by
    have h3 := h2.from_ hk
    exact ⟨_, _, run_endRound (P := P) (some c) h3.loop, .inr ⟨rfl, c, (hIx c).putObj _ hx (Nat.le_succ D) h3.loop rfl, h3.put⟩⟩
  rintro e a3 W3 hp
  cases e with
  | normal =>
    obtain ⟨hk3, hkp3, hi3⟩ := hp
    have h3 := h2.from_ hk3
    exact ⟨_, _, run_endRound (P := P) none h3.loop, .inl ⟨rfl, ⟨hI.putObj _ hi3 (Nat.le_succ D) h3.loop rfl, h3.put⟩, hKt hkp (hKt (hKt hk1 hkp3) (hKb _ _ _ _ (Nat.le_succ D) h3.loop rfl rfl))⟩⟩
  | ret =>
    obtain ⟨v, W4, hr, h⟩ := last .ret W3 hp.1 hp.2
    exact ⟨v, W4, hr, h.imp (fun h => ⟨by rw [h.1], h.2⟩) (fun h => ⟨by rw [h.1], h.2⟩)⟩
  | exit id =>
    obtain ⟨v, W4, hr, h⟩ := last (.exit id) W3 hp.1 hp.2
    exact ⟨v, W4, hr, h.imp (fun h => ⟨by rw [h.1], h.2⟩) (fun h => ⟨by rw [h.1], h.2⟩)⟩
  | goto t =>
    obtain ⟨v, W4, hr, h⟩ := last (.goto t) W3 hp.1 hp.2
    exact ⟨v, W4, hr, h.imp (fun h => ⟨by rw [h.1], h.2⟩) (fun h => ⟨by rw [h.1], h.2⟩)⟩
  | panic ch => exact hp.elim
  | outgrown => exact hp.elim
/-- A range over a function, each round told of its element. -/
theorem range_told {g : Operand} {ps : Array Tmp} {assign body : Code} {Q : Exit → Act → World → Prop} {a : Act} {w : World}
    (hro : F.round = none) (h1 : 1 ≤ n) {gf : Nat} {lb : Array Value} (hg : a.eval g = .func (.func gf) #[] lb) (hFg : F.fn gf) (eg : ∀ args w, (callFunc gf args).run P w = .ok (.enter gf args) w)
    {encs : α → Array Value} {Kp : World → World → Prop} {Lk : List α → α → World → Prop} {S Sp : List α → Prop} {w0 : World} (hseq : Tells F (n - 1) P gf lb encs Kp Lk S Sp w0)
    (hKt : ∀ {A B C : World}, Kp A B → Kp B C → Kp A C) (hKb : ∀ (W : World) (l : Nat) (o o' : Obj), w.heap.size ≤ l → W.heap[l]? = some o → o.isCells = false → o.isWalk = false → Kp W (W.putObj l o')) (hb0 : Below w0.heap.size w0 w) (hps : ∀ x, (encs x).size = ps.size)
    (I : List α → World → Prop) (Ix : Code → List α → World → Prop) (hI : OwnFrom w.heap.size I) (hIx : ∀ c, OwnFrom w.heap.size (Ix c)) (h0 : I [] w) (Ax : List α → α → Act → World → Prop) (hAx : ∀ pre x a', OwnFrom w.heap.size (fun (_ : Unit) W => Ax pre x a' W))
    (hassign : ∀ (l : Nat) (pre : List α) (x : α) (W : World) (K : Act → World → Prop), I pre W → Lk pre x W → (∀ a' W', KeepsFrom w.heap.size W W' → Kp W W' → I pre W' → Ax pre x a' W' → K a' W') →
      assign.wpIn (F.inRound l) (n - 1 - 1) P (Exit.then K (fun _ _ _ => False)) { tmps := (ps.zip (encs x)).foldl (fun t (p, v) => t.setIfInBounds p v) a.tmps, defers := [] } W)
    (hbody : ∀ (l : Nat) (pre : List α) (x : α) (a' : Act) (W : World), w.heap.size ≤ l → (∃ r, W.heap[l]? = some (.loop r)) → I pre W → Ax pre x a' W → body.wpIn (F.inRound l) (n - 1 - 1) P (ownPostG w.heap.size Kp I Ix (pre ++ [x]) W) a' W)
    (hdone : ∀ (D : Nat) (xs : List α) (W : World), w.heap.size ≤ D → S xs → I xs W → W.heap[D]? = some (.deferred (some [])) → Q .normal { a with defers := { target := .collected D, args := #[] } :: a.defers } W)
    (hstop : ∀ (D : Nat) (c : Code) (pre : List α) (W : World), w.heap.size ≤ D → Sp pre → Ix c pre W → W.heap[D]? = some (.deferred (some [])) → c.wpIn F n P Q { a with defers := { target := .collected D, args := #[] } :: a.defers } W) :
    (Code.rangeFunc g ps assign body).wpIn F n P Q a w := by
  refine wpIn_rangeFunc fun fn hfn => ?_
  rw [hro]
  have hent := run_enterLoop_outer (P := P) (w := w) fn a.tmps ps assign body
  have hst : Stands (record fn a.tmps ps assign body w.heap.size) w.heap.size .ready none ((w.alloc (.deferred (some []))).alloc (.loop (record fn a.tmps ps assign body w.heap.size .ready none))) := by
    constructor
    · have := World.alloc_heap_new (w.alloc (.deferred (some []))) (.loop (record fn a.tmps ps assign body w.heap.size .ready none))
      rwa [World.size_alloc] at this
    · exact (Below.heap_alloc _ _ _ (by simp)).trans (World.alloc_heap_new w _)
  have hst0 : I [] ((w.alloc (.deferred (some []))).alloc (.loop (record fn a.tmps ps assign body w.heap.size .ready none))) := hI.alloc _ (hI.alloc _ h0)
  have hbl : Below w.heap.size w ((w.alloc (.deferred (some []))).alloc (.loop (record fn a.tmps ps assign body w.heap.size .ready none))) := ((Below.refl _ w).alloc (Nat.le_refl _) _).alloc (by simp) _
  change _ = Result.ok _ ((w.alloc (.deferred (some []))).alloc (.loop (record fn a.tmps ps assign body w.heap.size .ready none))) at hent
  generalize ((w.alloc (.deferred (some []))).alloc (.loop (record fn a.tmps ps assign body w.heap.size .ready none))) = W1 at *
  refine ⟨w.heap.size + 1, [{ target := .collected w.heap.size, args := #[] }], W1, { target := .fn (.func gf) lb, args := #[.func (.yield (w.heap.size + 1)) #[] #[]] }, W1, gf, #[.func (.yield (w.heap.size + 1)) #[] #[]] ++ lb, W1, hent, ?_, ?_, ?_, fun _ => h1, ?_⟩
  · simp only [resolve, hg]
    simp [go_sem]
  · intro f' hf'
    simp [Target.leads] at hf'
    subst hf'
    exact hFg
  · simp [invoke, go_sem, eg]
  · refine CallsIn.mono (hseq (w.heap.size + 1) (fun pre W => I pre W ∧ Stands (record fn a.tmps ps assign body w.heap.size) w.heap.size .ready none W) (fun pre W => ∃ c, Ix c pre W ∧ Stands (record fn a.tmps ps assign body w.heap.size) w.heap.size .done (some c) W) W1 (hb0.trans (hbl.mono hb0.size)) ?_ ?_ ?_ ⟨hst0, hst⟩) ?_
    · exact fun s A B row hs hg' hr => ⟨hI s A B row hs.1 hg' (walk_row hbl.size hr), hs.2.grown hg' (fun r e => (hr r e).2)⟩
    · rintro s A B row ⟨c, hc, hs⟩ hg' hr
      exact ⟨c, hIx c s A B row hc hg' (walk_row hbl.size hr), hs.grown hg' (fun r e => (hr r e).2)⟩
    · rintro pre x W ⟨hi, hs⟩ hlk
      exact round_told (Kp := Kp) hfn (fun h k => hKt h k) hKb I Ix hI hIx (Ax pre x) (hAx pre x) (hps x) hs (fun K hK => hassign _ pre x W K hi hlk hK) (fun a' Wa hr hia hax => hbody _ pre x a' Wa (Nat.le_succ _) hr hia hax)
    · rintro e W2 ⟨⟨v, rfl⟩, ⟨xs, hS, hi, hs⟩ | ⟨pre, hSp, c, hi, hs⟩⟩
      · exact ⟨none, _, run_endLoop (P := P) hs.loop (by simp [record]), hdone _ xs _ (Nat.le_refl _) hS (hI.putObj _ hi (Nat.le_succ _) hs.loop rfl) ((World.putObj_heap_other (by omega)).trans hs.mark)⟩
      · exact ⟨some c, _, run_endLoop (P := P) hs.loop (by simp [record]), hstop _ c pre _ (Nat.le_refl _) hSp ((hIx c).putObj _ hi (Nat.le_succ _) hs.loop rfl) ((World.putObj_heap_other (by omega)).trans hs.mark)⟩
end Go.Proofs.Ytnkbgimihikhoaa.Link
namespace Go.Proofs.Ytnkbgimihikhoaa.PVt
open Go.RowKit Go.Shelf Go.Proofs.YtnkbgimihikhoaaW.PrintWords Go.Proofs.YtnkbgimihikhoaaW.PrintLast Go.Proofs.YtnkbgimihikhoaaW.PrintMore
attribute [local go_sem] Oper.semAt_some
set_option linter.unusedVariables false
set_option linter.unusedSimpArgs false
/-- A node that is handed to a round: how many are above it, what it is, its cells. -/
structure Nq where
  d : Nat
  x : S27
  cs : List Value
def plq (p : Nq) : Nat × S27 := (p.d, p.x)
def encQ (p : Nq) : Array Value := #[.int .i64 (p.d : Int), .agg p.cs.toArray]
/-- What a round is told: the node lies as its cells say; with it a part of the tree's nodes has come; the memory below n0 is as it was. -/
def Lkq (w0 : World) (n0 : Nat) (X : List (Nat × S27)) (pre : List Nq) (p : Nq) (W : World) : Prop := TK w0 n0 p.x p.cs ∧ fitT p.x ∧ (pre ++ [p]).map plq <+: X ∧ ∀ i, i < n0 → W.heap[i]? = w0.heap[i]?
theorem pre_one {X : List (Nat × S27)} {pre : List Nq} {d : Nat} {x : S27} {cs : List Value} (h : pre.map plq ++ flatD d x <+: X) : (pre ++ [(⟨d, x, cs⟩ : Nq)]).map plq <+: X := by
  obtain ⟨t, ht⟩ := h
  rw [flatD_eq] at ht
  exact ⟨flatDs (d + 1) x.f4 ++ t, by rw [← ht, List.map_append]; simp [plq]⟩
theorem pre_kid {X a : List (Nat × S27)} {d k : Nat} {x y : S27} (h : a ++ flatD d x <+: X) (hf : flatD d x = (d, x) :: flatDs (d + 1) x.f4) (hs : flatDs (d + 1) (x.f4.take (k + 1)) = flatDs (d + 1) (x.f4.take k) ++ flatD (d + 1) y) : (a ++ (d, x) :: flatDs (d + 1) (x.f4.take k)) ++ flatD (d + 1) y <+: X := by
  obtain ⟨t, ht⟩ := h
  obtain ⟨u, hu⟩ := flatDs_prefix (d + 1) x.f4 (k + 1)
  refine ⟨u ++ t, ?_⟩
  rw [← ht, hf, ← hu, hs]
  simp
set_option maxHeartbeats 8000000 in
set_option maxRecDepth 100000 in
theorem walkn_in (l n0 B : Nat) (X : List (Nat × S27)) (T : Nat → Prop) (w0 : World) (J Jx : List (Nq) → World → Prop) (hJ : AbidesFrom B J)
    (hY : ∀ pre x W, J pre W → Lkq w0 n0 X pre x W → YieldAt Fence.wide 1 Try.prog l (encQ x) W fun e W' => (e = .returned (.bool true) ∧ J (pre ++ [x]) W' ∧ Kw n0 T W W') ∨ (e = .returned (.bool false) ∧ Jx (pre ++ [x]) W')) :
    ∀ (q : Nat) (d : Nat) (x : S27) (cs : List Value) (pre : List (Nq)) (W : World), szT x ≤ q → d + szT x ≤ 1099511627776 → TK w0 n0 x cs → fitT x → pre.map plq ++ flatD d x <+: X → (∀ i, i < n0 → W.heap[i]? = w0.heap[i]?) → n0 ≤ W.heap.size → (∀ i, T i → i < W.heap.size) → J pre W →
      CallsIn Fence.wide 1 Try.prog 59 #[.agg cs.toArray, .int .i64 (d : Int), .func (.yield l) #[] #[]] W fun e W' =>
        (e = .returned (.bool true) ∧ (∃ ys, ys.map plq = flatD d x ∧ J (pre ++ ys) W') ∧ Kw n0 T W W') ∨ (e = .returned (.bool false) ∧ ∃ ys, ys.map plq <+: flatD d x ∧ Jx (pre ++ ys) W') := by
  intro q
  induction q with
  | zero =>
    intro d x cs pre W hq
    have := szT_pos x
    omega
  | succ q ih =>
    intro d x cs pre W hq hd hT hft hpx hb hn hTl hJ0
    have hsz := szT_eq x
    obtain ⟨A4, c4, A5, c5, hcs, l4, g4, l5, g5⟩ := hT.open
    subst hcs
    have HFT := Aside0.mk hft
    have HPX := Aside0.mk hpx
    have HB := Aside0.mk hb
    have HTL := Aside0.mk hTl
    have hlen := szTs_len x.f4
    obtain ⟨fn, tmps, assign, body, hy, hR⟩ := hY pre ⟨d, x, [.int .i64 x.f0.f0, .int .i64 x.f0.f1, .string x.f1, .string x.f2, .slice A4 x.f3.length c4, .slice A5 x.f4.length c5]⟩ (W.alloc (.cells #[.int .i64 x.f0.f0, .int .i64 x.f0.f1, .string x.f1, .string x.f2, .slice A4 x.f3.length c4, .slice A5 x.f4.length c5] 27)) (hJ _ _ _ none hJ0 (World.grownBy_alloc _ _ none) (fun r e => by cases e)) ⟨hT, hft, pre_one hpx, fun i hi => ((below_alloc (Below.refl W.heap.size W) _).block i (Nat.lt_of_lt_of_le hi hn)).trans (hb i hi)⟩
    dsimp only [encQ] at hy
    have HF := Aside0.mk g5
    have HFF : Aside0 (flatD d x = (d, x) :: flatDs (d + 1) x.f4) := ⟨flatD_eq d x⟩
    have HT := Aside0.mk hT
    obtain ⟨nd, hnd⟩ : ∃ nd : Nq, nd = ⟨d, x, [.int .i64 x.f0.f0, .int .i64 x.f0.f1, .string x.f1, .string x.f2, .slice A4 x.f3.length c4, .slice A5 x.f4.length c5]⟩ := ⟨_, rfl⟩
    have HND : Aside0 (plq nd = (d, x)) := ⟨by rw [hnd]; rfl⟩
    rw [← hnd] at hR
    clear hnd hT hft hpx hb hTl g4 g5 hJ0
    refine callsIn_of_wp Try.func59 rfl trivial ?_ rfl
    simp only [Try.ntmps59, List.size_toArray, List.length_cons, List.length_nil, Nat.reduceAdd, Nat.reduceSub, Array.replicate_succ, Array.replicate_zero, List.push_toArray, List.append_toArray, List.nil_append, List.cons_append]
    gi_wp2
    refine (round_any rfl hR).mono ?_
    rintro e W1 (⟨rfl, hJ1, hk1⟩ | ⟨rfl, hx1⟩)
    · have HJ1 := Aside0.mk hJ1
      have HK1 : Aside0 (Kw n0 T W W1) := ⟨(Kw.below (below_alloc (Below.refl _ _) _) hn).trans hk1⟩
      have HBX : Aside0 (W1.heap[W.heap.size]? = some (.cells #[.int .i64 x.f0.f0, .int .i64 x.f0.f1, .string x.f1, .string x.f2, .slice A4 x.f3.length c4, .slice A5 x.f4.length c5] 27 (0, 0))) := ⟨hk1.cells _ _ _ (fun h => Nat.lt_irrefl _ (HTL.out _ h)) (Mem.alloc_new _ _)⟩
      have b5 : W1.cell? ⟨W.heap.size, 5, none⟩ = some (.slice A5 x.f4.length c5) := Mem.cell_of HBX.out 5
      clear hJ1 hk1
      gi_wp2
      gi_loopw [17] (fun i wr => ∃ k : Nat, i = .int .i64 (k : Int) ∧ Aside0 (k ≤ x.f4.length) ∧ Aside0 (∃ ys, ys.map plq = flatDs (d + 1) (x.f4.take k) ∧ J (pre ++ nd :: ys) wr) ∧ Aside0 (Kw n0 T W wr))
        (fun i _ => x.f4.length - (intOf i).toNat)
      case atStart => exact ⟨0, rfl, ⟨Nat.zero_le _⟩, ⟨[], by simp [flatDs], HJ1.out⟩, HK1⟩
      case round =>
        obtain ⟨k, rfl, HKL, HJS, HKW⟩ := hrel
        by_cases hlt : k < x.f4.length
        · obtain ⟨ad, B4, e4, B5, e5, rfl, hcl, hTk⟩ := kid_at (Kd.F_step HF.out (fun i hi _ => (HKW.out.low i hi).trans (HB.out i hi))) k hlt
          have hTk0 : TK w0 n0 _ _ := hTk.low (fun i hi => ((HKW.out.low i hi).trans (HB.out i hi)).symm)
          have HFK : Aside0 (fitT (x.f4.getD k z27)) := ⟨fitTs_get ((fitT_eq x).1 HFT.out).2.2.2.2 hlt⟩
          have HS := Aside0.mk (flatDs_snoc (d + 1) x.f4 hlt)
          have HZ : Aside0 (szTs (x.f4.take (k + 1)) = szTs (x.f4.take k) + szT (x.f4.getD k z27) ∧ szTs (x.f4.take (k + 1)) ≤ szTs x.f4) := ⟨szTs_snoc x.f4 hlt, szTs_take _ _⟩
          obtain ⟨y, hy'⟩ : ∃ y, x.f4.getD k z27 = y := ⟨_, rfl⟩
          rw [hy'] at hcl hTk hTk0 HS HZ HFK
          obtain ⟨p, hp⟩ : ∃ p, ad.add (k * 6) = p := ⟨_, rfl⟩
          rw [hp] at hcl
          obtain ⟨c0, c1, c2, c3, c4', c5'⟩ := hcl
          obtain ⟨ys, hys, hJs⟩ := HJS.out
          have HYS := Aside0.mk hys
          have HPK : Aside0 ((pre ++ nd :: ys).map plq ++ flatD (d + 1) y <+: X) := ⟨by rw [List.map_append, List.map_cons, HND.out, hys]; exact pre_kid HPX.out HFF.out HS.out⟩
          have IH := Aside0.mk (ih (d + 1) y _ (pre ++ nd :: ys) (wr.alloc (.cells #[.int .i64 y.f0.f0, .int .i64 y.f0.f1, .string y.f1, .string y.f2, .slice B4 y.f3.length e4, .slice B5 y.f4.length e5] 27))
            (by have := HZ.out; omega) (by have := HZ.out; omega) hTk0 HFK.out HPK.out (fun i hi => by
              have h1 : i < wr.heap.size := Nat.lt_of_lt_of_le (Nat.lt_of_lt_of_le hi hn) HKW.out.size
              exact ((below_alloc (Below.refl wr.heap.size wr) _).block i h1).trans ((HKW.out.low i hi).trans (HB.out i hi))) (Nat.le_trans (Nat.le_trans hn HKW.out.size) (by rw [Mem.alloc_size]; omega)) (fun i hi => by have := HTL.out i hi; have := HKW.out.size; rw [Mem.alloc_size]; omega)
            (hJ _ _ _ none hJs (World.grownBy_alloc _ _ none) (fun r e => by cases e)))
          have hw_ := wrap_next hd
          have hw2 := wrap_kid hlt hlen hsz hd
          clear hTk hTk0 hy' hys hJs
          have hkn : (k : Int).toNat = k := Int.toNat_natCast k
          have hkp : (0 : Int) ≤ (k : Int) := Int.natCast_nonneg k
          clear hd hq hsz hlen
          gi_wp2_with (fail)
          refine ⟨trivial, ?_⟩
          refine (callsIn_wide.2 ((callsIn_wide (n := 1)).1 IH.out)).mono ?_
          rintro e W3 (⟨rfl, ⟨zs, hzs, hJ3⟩, hk3⟩ | ⟨rfl, zs, hzs, hx3⟩)
          · have HZS := Aside0.mk hzs
            have HJ3 : Aside0 (J (pre ++ nd :: (ys ++ zs)) W3) := ⟨by rw [List.append_assoc] at hJ3; exact hJ3⟩
            have HK3 : Aside0 (Kw n0 T W W3) := ⟨HKW.out.trans ((Kw.below (below_alloc (Below.refl _ _) _) (Nat.le_trans hn HKW.out.size)).trans hk3)⟩
            clear hzs hJ3 hk3 IH
            gi_wp2_with (fail)
            go_roundw
            case rel => exact ⟨k + 1, congrArg (Value.int .i64) hw2, ⟨hlt⟩, ⟨ys ++ zs, by rw [List.map_append, HYS.out, HZS.out, HS.out], HJ3.out⟩, HK3⟩
            case measure => exact dec_lt hlt hw2
          · have HZS := Aside0.mk hzs
            have HX3 : Aside0 (Jx (pre ++ nd :: (ys ++ zs)) W3) := ⟨by rw [List.append_assoc] at hx3; exact hx3⟩
            clear hzs hx3 IH
            gi_wp2_with (fail)
            refine bodyPost_ret (results_tmp rfl _ _ _) rfl ?_
            refine .inr ⟨rfl, nd :: (ys ++ zs), ?_, HX3.out⟩
            rw [HFF.out, List.map_cons, HND.out, List.map_append, HYS.out]
            have h1 : flatDs (d + 1) (x.f4.take k) ++ zs.map plq <+: flatDs (d + 1) (x.f4.take (k + 1)) := by rw [HS.out]; exact (List.prefix_append_right_inj _).2 HZS.out
            exact (List.prefix_cons_inj _).2 (h1.trans (flatDs_prefix _ _ _))
        · obtain rfl : k = x.f4.length := by have := HKL.out; omega
          gi_wp2
          refine bodyPost_ret (results_tmp rfl _ _ _) rfl ?_
          obtain ⟨ys, hys, hJs⟩ := HJS.out
          rw [List.take_length] at hys
          exact .inl ⟨rfl, ⟨nd :: ys, by rw [HFF.out, List.map_cons, HND.out, hys], hJs⟩, HKW.out⟩
    · gi_wp2
      refine bodyPost_ret (results_tmp rfl _ _ _) rfl ?_
      exact .inr ⟨rfl, [nd], by rw [HFF.out, List.map_cons, HND.out]; exact ⟨_, rfl⟩, hx1⟩
set_option maxHeartbeats 8000000 in
set_option maxRecDepth 100000 in
theorem nodes_tells {w w0 : World} {n0 bx : Nat} {T : Nat → Prop} {x : S27} {A4 : Option Addr} {c4 : Nat} {A5 : Option Addr} {c5 : Nat} (hd : szT x ≤ 1099511627776) (hfx : fitT x)
    (hT : TK w0 n0 x [.int .i64 x.f0.f0, .int .i64 x.f0.f1, .string x.f1, .string x.f2, .slice A4 x.f3.length c4, .slice A5 x.f4.length c5]) (hb : ∀ i, i < n0 → w.heap[i]? = w0.heap[i]?) (hn : n0 ≤ w.heap.size) (hTl : ∀ i, T i → i < w.heap.size)
    (hbx : w.heap[bx]? = some (.cells #[.int .i64 x.f0.f0, .int .i64 x.f0.f1, .string x.f1, .string x.f2, .slice A4 x.f3.length c4, .slice A5 x.f4.length c5] 27 (0, 0))) :
    Link.Tells Fence.wide 2 Try.prog 65 #[.pointer (some ⟨bx, 0, none⟩)] (encQ) (Kw n0 T) (Lkq w0 n0 (flatD 0 x)) (fun ys => ys.map plq = flatD 0 x) (fun ys => ys.map plq <+: flatD 0 x) w := fun l J Jx W hW hJ hJx hY h0 => by
  have hbl := (Array.getElem?_eq_some_iff.1 hbx).1
  have hbW := (hW.block bx hbl).trans hbx
  have HW := Aside0.mk (walkn_in l n0 W.heap.size (flatD 0 x) T w0 J Jx hJ hY (szT x) 0 x _ [] W (Nat.le_refl _) (by rw [Nat.zero_add]; exact hd) hT hfx (List.prefix_refl _) (fun i hi => (hW.block i (Nat.lt_of_lt_of_le hi hn)).trans (hb i hi)) (Nat.le_trans hn hW.size) (fun i hi => Nat.lt_of_lt_of_le (hTl i hi) hW.size) h0)
  have a0 := Mem.cell_of hbW 0
  have a1 := Mem.cell_of hbW 1
  have a2 := Mem.cell_of hbW 2
  have a3 := Mem.cell_of hbW 3
  have a4 := Mem.cell_of hbW 4
  have a5 := Mem.cell_of hbW 5
  clear hbl hbW hbx hd hT hb hn hTl hY h0
  refine callsIn_of_wp Try.func65 rfl trivial ?_ rfl
  simp only [Try.ntmps65, List.append_toArray, List.size_toArray, List.length_cons, List.length_nil, Nat.reduceAdd, Nat.reduceSub, Array.replicate_succ, Array.replicate_zero, List.push_toArray, List.append_toArray, List.nil_append, List.cons_append]
  gi_wp2_with (fail)
  refine ⟨trivial, ?_⟩
  refine (callsIn_wide.2 ((callsIn_wide (n := 1)).1 HW.out)).mono ?_
  rintro e W3 (⟨rfl, ⟨zs, hzs, hJ3⟩, hk3⟩ | ⟨rfl, zs, hzs, hx3⟩)
  · have HZ := Aside0.mk hzs
    clear hzs
    gi_wp2_with (fail)
    go_end0
    exact ⟨⟨_, rfl⟩, .inl ⟨zs, HZ.out, hJ3⟩⟩
  · have HZ := Aside0.mk hzs
    clear hzs
    gi_wp2_with (fail)
    go_end0
    exact ⟨⟨_, rfl⟩, .inr ⟨zs, HZ.out, hx3⟩⟩
end Go.Proofs.Ytnkbgimihikhoaa.PVt
namespace Go.Proofs.Ytnkbgimihikhoaa.Round
open Go.RowKit Go.Proofs.YtnkbgimihikhoaaW.PrintWords Go.Proofs.YtnkbgimihikhoaaW.PrintLast
set_option linter.unusedVariables false
variable {P : Program} {ops : Array Oper} {Q : Exit → Act → World → Prop} {md : Region.Mode} {l m : Nat}
def noDefer (ops : Array Oper) : Bool := ops.toList.all fun o => match o.op with | .defer _ => false | _ => true
theorem noDefer_spec (h : noDefer ops = true) {i : Nat} {o : Oper} (hi : ops[i]? = some o) (c : _) : o.op ≠ .defer c := by
  have := List.all_eq_true.1 h o (by rw [← Array.getElem?_toList] at hi; exact List.mem_of_getElem? hi)
  intro e
  rw [e] at this
  cases this
theorem rowsIn_of {row : String} {args : Array Value} {w : World} {R : Value → World → Prop} (h : Rows P row args w R) : RowsIn (Fence.wide.inRound l) m P row args w R :=
  fun c cs _ => by
    obtain ⟨v, w', hr, hs⟩ := h c cs
    exact ⟨v, w', hr, stepsIn_wide.2 hs⟩
theorem opIn {o : Oper} {a : Act} {w : World} {K : Act → World → Prop} (hd : ∀ c, o.op ≠ .defer c) (h : o.wp P a w K Q) : o.wpIn (Fence.wide.inRound l) m P a w K Q := by
  unfold Oper.wp at h
  unfold Oper.wpIn
  refine ⟨fun _ _ => trivial, ?_⟩
  rw [show (Fence.wide.inRound l).round = some l from rfl, Oper.semAt_some l _ _ hd]
  generalize (execOp a.eval o).run P w = r at h ⊢
  cases r with
  | ok x w' =>
    cases x with
    | enter f args => exact ⟨(fun hh => nomatch hh), (CallsIn.inRound l (callsIn_wide.2 h)).mono (fun e w'' he => by cases e <;> exact he)⟩
    | row r args => exact ⟨(fun hh => nomatch hh), rowsIn_of h⟩
    | round l f t a b => exact False.elim h
    | _ => exact h
  | halt x w' => cases x <;> exact h
theorem anyIn (hd : noDefer ops = true) (hQ : ¬ LetsOut Q) : ∀ (fuel : Nat) (listed : Array Bool) (a : Act) (w : World), wpAny P md ops Q fuel listed a w → wpAnyIn (Fence.wide.inRound l) m P md ops Q fuel listed a w
  | 0, _, _, _, h => h
  | fuel + 1, listed, a, w, h => ⟨h.1, fun i hi => by
    have h2 := h.2 i hi
    unfold wpOp at h2
    unfold wpOpIn
    cases ho : ops[i]? with
    | none => rw [ho] at h2; exact anyIn hd hQ fuel _ a w h2
    | some o =>
      rw [ho] at h2
      simp only at h2 ⊢
      split
      · rename_i hw
        rw [if_pos hw] at h2
        rcases h2 with h2 | h2
        · exact Oper.wpIn_mono (fun a w => anyIn hd hQ fuel _ a w) (opIn (noDefer_spec hd ho) h2)
        · exact absurd h2.2 hQ
      · rename_i hw
        rw [if_neg hw] at h2
        exact ⟨fun _ _ => trivial, anyIn hd hQ fuel _ _ w h2⟩⟩
theorem region {id : Nat} {a : Act} {w : World} (hm : P.follows .mixedOrders = true) (hd : noDefer ops = true) (hQ : ¬ LetsOut Q)
    (h : wpAny P .any ops Q ops.size (Array.replicate ops.size false) a { w with drawn := w.drawn + 1 }) : (Code.region id ops true).wpIn (Fence.wide.inRound l) m P Q a w := wpIn_region_any hm (anyIn hd hQ _ _ _ _ h)
/-- The start of a region's steps (the words start_, pure_, take_, ..). -/
theorem start {id n : Nat} {a : Act} {w : World} {S : World → Prop} {ds : List Nat} (lb : Array Bool) (hm : P.follows .mixedOrders = true) (hn : ops.size = n) (hl : Array.replicate n false = lb) (hd : noDefer ops = true) (hQ : ¬ LetsOut Q) (hS : S w.drew)
    (h : S w.drew → wpAnyLast P .any ops Q S ds n lb a w.drew) : (Code.region id ops true).wpIn (Fence.wide.inRound l) m P Q a w := by
  subst hn
  subst hl
  exact region hm hd hQ (wpAny_of_last _ _ _ _ (h hS))
end Go.Proofs.Ytnkbgimihikhoaa.Round
namespace Go.Proofs.Ytnkbgimihikhoaa.PVt
open Go.RowKit Go.Shelf Go.Proofs.YtnkbgimihikhoaaW.PrintWords Go.Proofs.YtnkbgimihikhoaaW.PrintLast Go.Proofs.YtnkbgimihikhoaaW.PrintMore
attribute [local go_sem] Oper.semAt_some
attribute [local go_sem high] eqA23
set_option linter.unusedVariables false
set_option linter.unusedSimpArgs false
def stepA (ab : List S23) (p : Nat × S27) : List S23 := ab.take p.1 ++ [p.2.f0]
def aboveL (l : List (Nat × S27)) : List S23 := l.foldl stepA []
theorem aboveL_snoc (l : List (Nat × S27)) (p : Nat × S27) : aboveL (l ++ [p]) = (aboveL l).take p.1 ++ [p.2.f0] := by simp [aboveL, stepA]
/-- Each node is one deeper than the one ahead of it, at most. -/
def Steps : Nat → List (Nat × S27) → Prop
  | _, [] => True
  | n, p :: l => p.1 ≤ n ∧ Steps (p.1 + 1) l
mutual
theorem flatD_steps : ∀ (d : Nat) (x : S27) (n : Nat) (l : List (Nat × S27)), d ≤ n → (∀ m, d + 1 ≤ m → Steps m l) → Steps n (flatD d x ++ l)
  | d, ⟨k, t, u, a, ls⟩, n, l, hd, h => by
    rw [flatD, List.cons_append, Steps]
    exact ⟨hd, flatDs_steps (d + 1) ls (d + 1) l (Nat.le_refl _) h⟩
theorem flatDs_steps : ∀ (d : Nat) (ls : List S27) (n : Nat) (l : List (Nat × S27)), d ≤ n → (∀ m, d ≤ m → Steps m l) → Steps n (flatDs d ls ++ l)
  | d, [], n, l, hd, h => by rw [flatDs, List.nil_append]; exact h n hd
  | d, x :: ls, n, l, hd, h => by
    rw [flatDs, List.append_assoc]
    exact flatD_steps d x n _ hd (fun m hm => flatDs_steps d ls m l (by omega) h)
end
theorem Steps.left : ∀ {n : Nat} {a b : List (Nat × S27)}, Steps n (a ++ b) → Steps n a
  | _, [], _, _ => trivial
  | n, p :: a, b, h => ⟨h.1, Steps.left h.2⟩
def AbInv (r : List (Nat × S27)) (ab : List S23) : Prop := ∀ d, 1 ≤ d → d ≤ ab.length → backP r d = (ab.getD (d - 1) z23, true)
theorem AbInv.step {r : List (Nat × S27)} {ab : List S23} {p : Nat × S27} (h : AbInv r ab) (hp : p.1 ≤ ab.length) : AbInv (p :: r) (stepA ab p) ∧ (stepA ab p).length = p.1 + 1 := by
  have hl : (stepA ab p).length = p.1 + 1 := by unfold stepA; rw [List.length_append, List.length_take, List.length_singleton]; omega
  refine ⟨fun d h1 h2 => ?_, hl⟩
  rw [hl] at h2
  unfold backP
  by_cases hd : p.1 + 1 = d
  · rw [if_pos hd]
    subst hd
    unfold stepA
    rw [List.getD_eq_getElem?_getD, List.getElem?_append_right (by rw [List.length_take]; omega), List.length_take, show p.1 + 1 - 1 - min p.1 ab.length = 0 from by omega]
    rfl
  · rw [if_neg hd, h d h1 (by omega)]
    unfold stepA
    rw [List.getD_eq_getElem?_getD, List.getD_eq_getElem?_getD, List.getElem?_append_left (by rw [List.length_take]; omega), List.getElem?_take_of_lt (by omega)]
theorem above_steps : ∀ (l : List (Nat × S27)) (p : Nat × S27) (ab : List S23) (r : List (Nat × S27)), Steps ab.length (l ++ [p]) → AbInv r ab → p.1 ≤ (l.foldl stepA ab).length ∧ AbInv (l.reverse ++ r) (l.foldl stepA ab)
  | [], p, ab, r, h, hi => ⟨h.1, hi⟩
  | q :: l, p, ab, r, h, hi => by
    obtain ⟨h1, h2⟩ := hi.step (p := q) h.1
    have := above_steps l p (stepA ab q) (q :: r) (by rw [h2]; exact h.2) h1
    simpa using this
theorem above_ok {x : S27} {a : List (Nat × S27)} {p : Nat × S27} (h : a ++ [p] <+: flatD 0 x) : p.1 ≤ (aboveL a).length ∧ AbInv a.reverse (aboveL a) := by
  obtain ⟨t, ht⟩ := h
  have hs := flatD_steps 0 x 0 [] (Nat.le_refl _) (fun m _ => trivial)
  rw [List.append_nil, ← ht] at hs
  have := above_steps a p [] [] hs.left (fun d h1 h2 => absurd h2 (by simp; omega))
  simpa [aboveL] using this
theorem backP_zero : ∀ r : List (Nat × S27), backP r 0 = (z23, false)
  | [] => rfl
  | p :: r => by rw [backP, if_neg (by omega)]; exact backP_zero r
/-- None of them has the key. -/
def noKey (l : List (Nat × S27)) (key : S23) : Prop := ∀ p ∈ l, sameK p.2.f0 key = false
theorem noKey_snoc {l : List (Nat × S27)} {p : Nat × S27} {key : S23} (h : noKey l key) (hp : sameK p.2.f0 key = false) : noKey (l ++ [p]) key := fun q hq => by
  rcases List.mem_append.1 hq with hq | hq
  · exact h q hq
  · obtain rfl := List.mem_singleton.1 hq; exact hp
theorem parR_skip : ∀ (a b r : List (Nat × S27)) (key : S23), noKey a key → parR r (a ++ b) key = parR (a.reverse ++ r) b key
  | [], b, r, key, _ => rfl
  | p :: a, b, r, key, h => by
    rw [List.cons_append, parR, if_neg (by rw [h p (List.mem_cons_self ..)]; simp), parR_skip a b (p :: r) key (fun q hq => h q (List.mem_cons_of_mem _ hq))]
    simp
theorem parR_none {l : List (Nat × S27)} {key : S23} (h : noKey l key) : parR [] l key = (z23, false) := by
  have := parR_skip l [] [] key h
  rw [List.append_nil] at this
  rw [this, parR]
theorem parR_found {x : S27} {a : List (Nat × S27)} {p : Nat × S27} {key : S23} (h : a ++ [p] <+: flatD 0 x) (hn : noKey a key) (hp : sameK p.2.f0 key = true) : parR [] (flatD 0 x) key = if p.1 = 0 then (z23, false) else ((aboveL a).getD (p.1 - 1) z23, true) := by
  obtain ⟨h1, h2⟩ := above_ok h
  obtain ⟨t, ht⟩ := h
  rw [← ht, List.append_assoc, parR_skip a _ [] key hn, List.singleton_append, parR, if_pos hp, List.append_nil]
  by_cases h0 : p.1 = 0
  · rw [if_pos h0, h0, backP_zero]
  · rw [if_neg h0]; exact h2 p.1 (by omega) h1
def ParI (b : Nat) (key : S23) (w U : World) (pre : List Nq) (W : World) : Prop :=
  (noKey (pre.map plq) key ∧ ∃ v, W.heap[b + 1 + 1 + 1 + 1]? = some (.cells #[v] 48 (0, 0)) ∧ k23.R 23 W U.heap.size (fun _ => True) v (aboveL (pre.map plq))) ∧ LK (fun i => i = b + 1 + 1 + 1 + 1) b w U W
theorem ParI_own {b : Nat} {key : S23} {w U : World} (h0 : b = w.heap.size) (h2 : w.heap.size ≤ U.heap.size) : OwnFrom U.heap.size (ParI b key w U) := fun s X Y row hs hg hr => by
  subst h0
  obtain ⟨⟨hn, v, hb, hR⟩, hL⟩ := hs
  exact ⟨⟨hn, v, (Own.from (cells_own (w.heap.size + 1 + 1 + 1 + 1) 48 (fun (_ : Unit) => #[v])) U.heap.size) () X Y row hb hg hr, R_of_own_grown hR hg hr⟩, LK_own (β := Unit) (Nat.le_refl _) h2 () X Y row hL hg hr⟩
/-- The result lies in the results' boxes. -/
def ParX (b : Nat) (r : S23 × Bool) (W : World) : Prop := W.heap[b + 1 + 1]? = some (.cells #[.int .i64 r.1.f0, .int .i64 r.1.f1] 23 (0, 0)) ∧ W.heap[b + 1 + 1 + 1]? = some (.cells #[.bool r.2] 4 (0, 0))
theorem ParX_own {β : Type} {b : Nat} {r : S23 × Bool} : Own (fun (_ : β) W => ParX b r W) := fun s X Y row hs hg hr =>
  ⟨cells_own (b + 1 + 1) 23 (fun (_ : Unit) => #[.int .i64 r.1.f0, .int .i64 r.1.f1]) () X Y row hs.1 hg hr, cells_own (b + 1 + 1 + 1) 4 (fun (_ : Unit) => #[.bool r.2]) () X Y row hs.2 hg hr⟩
theorem ParX_set {b : Nat} {r : S23 × Bool} {W : World} {u0 u1 : Value} {u : Value} (h2 : W.heap[b + 1 + 1]? = some (.cells #[u0, u1] 23 (0, 0))) (h3 : W.heap[b + 1 + 1 + 1]? = some (.cells #[u] 4 (0, 0))) :
    ParX b r (((W.setCell ⟨b + 1 + 1, 0, none⟩ (.int .i64 r.1.f0)).setCell ⟨b + 1 + 1, 1, none⟩ (.int .i64 r.1.f1)).setCell ⟨b + 1 + 1 + 1, 0, none⟩ (.bool r.2)) := by
  have hne : b + 1 + 1 ≠ b + 1 + 1 + 1 := by omega
  refine ⟨(Mem.set_other _ _ _ _ hne).trans (setB (setB h2 0 (.int .i64 r.1.f0)) 1 (.int .i64 r.1.f1)), Mem.set_heap ((Mem.set_other _ _ _ _ (Ne.symm hne)).trans ((Mem.set_other _ _ _ _ (Ne.symm hne)).trans h3)) 0 _⟩
theorem LK.wider {T T' : Nat → Prop} {n0 : Nat} {Wb U W : World} (h : LK T n0 Wb U W) (hT : ∀ i, T i → T' i) : LK T' n0 Wb U W := ⟨⟨h.1.size, fun i hi hn => h.1.block i hi (fun t => hn (hT i t))⟩, h.2⟩
theorem room_ab {ab : List S23} {d : Nat} (hd : d ≤ 1099511627776) : ((ab.take d).length + 1) * 16 ≤ 140737488355328 := by rw [List.length_take]; omega
def vpa.T9 : Bool × List (List Nat × List Nat) := (true, [([], []), ([], []), ([0, 1], [0, 1]), ([], []), ([3], [3]), ([4], [4]), ([2, 5], [2, 5]), ([6, 6, 0, 1, 2, 3, 4, 5, 6], [6])])
def vpa.B9 : List Nat := [0, 0, 3, 0, 8, 24, 63, 127]
theorem vpa.tab9 : rtab .any (opsOf Try.f39 9) = vpa.T9 := by kernel_rfl
theorem vpa.bits9 : waitsOk vpa.T9.2 vpa.B9 = true := by kernel_rfl
set_option maxHeartbeats 8000000 in
set_option maxRecDepth 100000 in
theorem parent_calls (w : World) (x : S27) (key : S23) (A4 : Option Addr) (c4 : Nat) (A5 : Option Addr) (c5 : Nat) (hd : szT x ≤ 1099511627776) (hfx : fitT x) (hT : TK w w.heap.size x (cs27 x A4 c4 A5 c5).toList) :
    Calls Try.prog 39 #[.agg #[.int .i64 x.f0.f0, .int .i64 x.f0.f1, .string x.f1, .string x.f2, .slice A4 x.f3.length c4, .slice A5 x.f4.length c5], .agg #[.int .i64 key.f0, .int .i64 key.f1]] w fun e w' => e = .returned (.tuple #[.agg #[.int .i64 (parR [] (flatD 0 x) key).1.f0, .int .i64 (parR [] (flatD 0 x) key).1.f1], .bool (parR [] (flatD 0 x) key).2]) ∧ Below w.heap.size w w' := by
  have HT := Aside0.mk hT
  have HFX := Aside0.mk hfx
  have HDP : Aside0 (∀ p ∈ flatD 0 x, p.1 + 1 ≤ 1099511627776) := ⟨fun p hp => by have := flatD_hi 0 x p hp; omega⟩
  clear hT hfx
  refine (callsIn_wide (n := 3)).1 ?_
  refine callsIn_of_wp_marks Try.func39 rfl trivial ?_ rfl
  simp only [Try.ntmps39, List.size_toArray, List.length_cons, List.length_nil, Nat.reduceAdd, Nat.reduceSub, Array.replicate_succ, Array.replicate_zero, List.push_toArray, List.append_toArray, List.nil_append, List.cons_append]
  gi_wp2_with (fail)
  refine ⟨trivial, ?_⟩
  refine (callsIn_wide.2 (nodes_calls _ _ _ _ _ _ _)).mono ?_
  rintro e w1 ⟨rfl, rfl⟩
  gi_wp2_with (fail)
  have hBU : Below w.heap.size w ((((((w.alloc (.cells #[.int .i64 x.f0.f0, .int .i64 x.f0.f1, .string x.f1, .string x.f2, .slice A4 x.f3.length c4, .slice A5 x.f4.length c5] 27)).alloc (.cells #[.int .i64 key.f0, .int .i64 key.f1] 23)).alloc (.cells #[.int .i64 0, .int .i64 0] 23)).alloc (.cells #[.bool false] 4)).alloc (.cells #[.slice none 0 0] 48)).alloc (.cells #[.int .i64 x.f0.f0, .int .i64 x.f0.f1, .string x.f1, .string x.f2, .slice A4 x.f3.length c4, .slice A5 x.f4.length c5] 27)) := below_alloc (below_alloc (below_alloc (below_alloc (below_alloc (below_alloc (Below.refl _ _) _) _) _) _) _) _
  have hBK : ((((((w.alloc (.cells #[.int .i64 x.f0.f0, .int .i64 x.f0.f1, .string x.f1, .string x.f2, .slice A4 x.f3.length c4, .slice A5 x.f4.length c5] 27)).alloc (.cells #[.int .i64 key.f0, .int .i64 key.f1] 23)).alloc (.cells #[.int .i64 0, .int .i64 0] 23)).alloc (.cells #[.bool false] 4)).alloc (.cells #[.slice none 0 0] 48)).alloc (.cells #[.int .i64 x.f0.f0, .int .i64 x.f0.f1, .string x.f1, .string x.f2, .slice A4 x.f3.length c4, .slice A5 x.f4.length c5] 27)).heap[w.heap.size + 1]? = some (.cells #[.int .i64 key.f0, .int .i64 key.f1] 23 (0, 0)) := Mem.alloc_old (Mem.alloc_old (Mem.alloc_old (Mem.alloc_old (Mem.alloc_new_at _ _ _ (by rw [Mem.alloc_size])) _) _) _) _
  have hBZ : ((((((w.alloc (.cells #[.int .i64 x.f0.f0, .int .i64 x.f0.f1, .string x.f1, .string x.f2, .slice A4 x.f3.length c4, .slice A5 x.f4.length c5] 27)).alloc (.cells #[.int .i64 key.f0, .int .i64 key.f1] 23)).alloc (.cells #[.int .i64 0, .int .i64 0] 23)).alloc (.cells #[.bool false] 4)).alloc (.cells #[.slice none 0 0] 48)).alloc (.cells #[.int .i64 x.f0.f0, .int .i64 x.f0.f1, .string x.f1, .string x.f2, .slice A4 x.f3.length c4, .slice A5 x.f4.length c5] 27)).heap[w.heap.size + 1 + 1]? = some (.cells #[.int .i64 0, .int .i64 0] 23 (0, 0)) := Mem.alloc_old (Mem.alloc_old (Mem.alloc_old (Mem.alloc_new_at _ _ _ (by rw [Mem.alloc_size, Mem.alloc_size])) _) _) _
  have hBB : ((((((w.alloc (.cells #[.int .i64 x.f0.f0, .int .i64 x.f0.f1, .string x.f1, .string x.f2, .slice A4 x.f3.length c4, .slice A5 x.f4.length c5] 27)).alloc (.cells #[.int .i64 key.f0, .int .i64 key.f1] 23)).alloc (.cells #[.int .i64 0, .int .i64 0] 23)).alloc (.cells #[.bool false] 4)).alloc (.cells #[.slice none 0 0] 48)).alloc (.cells #[.int .i64 x.f0.f0, .int .i64 x.f0.f1, .string x.f1, .string x.f2, .slice A4 x.f3.length c4, .slice A5 x.f4.length c5] 27)).heap[w.heap.size + 1 + 1 + 1]? = some (.cells #[.bool false] 4 (0, 0)) := Mem.alloc_old (Mem.alloc_old (Mem.alloc_new_at _ _ _ (by rw [Mem.alloc_size, Mem.alloc_size, Mem.alloc_size])) _) _
  have hBA : ((((((w.alloc (.cells #[.int .i64 x.f0.f0, .int .i64 x.f0.f1, .string x.f1, .string x.f2, .slice A4 x.f3.length c4, .slice A5 x.f4.length c5] 27)).alloc (.cells #[.int .i64 key.f0, .int .i64 key.f1] 23)).alloc (.cells #[.int .i64 0, .int .i64 0] 23)).alloc (.cells #[.bool false] 4)).alloc (.cells #[.slice none 0 0] 48)).alloc (.cells #[.int .i64 x.f0.f0, .int .i64 x.f0.f1, .string x.f1, .string x.f2, .slice A4 x.f3.length c4, .slice A5 x.f4.length c5] 27)).heap[w.heap.size + 1 + 1 + 1 + 1]? = some (.cells #[.slice none 0 0] 48 (0, 0)) := Mem.alloc_old (Mem.alloc_new_at _ _ _ (by rw [Mem.alloc_size, Mem.alloc_size, Mem.alloc_size, Mem.alloc_size])) _
  have hBX : ((((((w.alloc (.cells #[.int .i64 x.f0.f0, .int .i64 x.f0.f1, .string x.f1, .string x.f2, .slice A4 x.f3.length c4, .slice A5 x.f4.length c5] 27)).alloc (.cells #[.int .i64 key.f0, .int .i64 key.f1] 23)).alloc (.cells #[.int .i64 0, .int .i64 0] 23)).alloc (.cells #[.bool false] 4)).alloc (.cells #[.slice none 0 0] 48)).alloc (.cells #[.int .i64 x.f0.f0, .int .i64 x.f0.f1, .string x.f1, .string x.f2, .slice A4 x.f3.length c4, .slice A5 x.f4.length c5] 27)).heap[w.heap.size + 1 + 1 + 1 + 1 + 1]? = some (.cells #[.int .i64 x.f0.f0, .int .i64 x.f0.f1, .string x.f1, .string x.f2, .slice A4 x.f3.length c4, .slice A5 x.f4.length c5] 27 (0, 0)) := Mem.alloc_new_at _ _ _ (by rw [Mem.alloc_size, Mem.alloc_size, Mem.alloc_size, Mem.alloc_size, Mem.alloc_size])
  have hUS : ((((((w.alloc (.cells #[.int .i64 x.f0.f0, .int .i64 x.f0.f1, .string x.f1, .string x.f2, .slice A4 x.f3.length c4, .slice A5 x.f4.length c5] 27)).alloc (.cells #[.int .i64 key.f0, .int .i64 key.f1] 23)).alloc (.cells #[.int .i64 0, .int .i64 0] 23)).alloc (.cells #[.bool false] 4)).alloc (.cells #[.slice none 0 0] 48)).alloc (.cells #[.int .i64 x.f0.f0, .int .i64 x.f0.f1, .string x.f1, .string x.f2, .slice A4 x.f3.length c4, .slice A5 x.f4.length c5] 27)).heap.size = w.heap.size + 6 := by rw [Mem.alloc_size, Mem.alloc_size, Mem.alloc_size, Mem.alloc_size, Mem.alloc_size, Mem.alloc_size]
  generalize ((((((w.alloc (.cells #[.int .i64 x.f0.f0, .int .i64 x.f0.f1, .string x.f1, .string x.f2, .slice A4 x.f3.length c4, .slice A5 x.f4.length c5] 27)).alloc (.cells #[.int .i64 key.f0, .int .i64 key.f1] 23)).alloc (.cells #[.int .i64 0, .int .i64 0] 23)).alloc (.cells #[.bool false] 4)).alloc (.cells #[.slice none 0 0] 48)).alloc (.cells #[.int .i64 x.f0.f0, .int .i64 x.f0.f1, .string x.f1, .string x.f2, .slice A4 x.f3.length c4, .slice A5 x.f4.length c5] 27)) = U at *
  have HUS := Aside0.mk hUS
  clear hUS
  refine Link.range_told (F := Fence.wide) (n := 3) rfl (by decide) (gf := 65) (lb := #[.pointer (some ⟨w.heap.size + 1 + 1 + 1 + 1 + 1, 0, none⟩)]) rfl trivial (enters_of Try.func65 (by kernel_rfl) rfl)
    (nodes_tells (T := fun _ => False) hd HFX.out HT.out (fun i hi => hBU.block i hi) hBU.size (fun _ h => h.elim) hBX) Kw.trans (fun W l o o' hl h1 h2 _ => Kw.put W l o o' (Nat.le_trans hBU.size hl) h1 h2) (Below.refl _ _) (fun _ => rfl)
    (ParI w.heap.size key w U)
    (fun c pre W => (c = .ret ∧ ParX w.heap.size (parR [] (flatD 0 x) key) W) ∧ LK (fun i => i = w.heap.size + 1 + 1 + 1 + 1 ∨ i = w.heap.size + 1 + 1 ∨ i = w.heap.size + 1 + 1 + 1) w.heap.size w U W)
    (ParI_own rfl hBU.size)
    (fun c => OwnFrom.and (OwnFrom.and (ownFrom_pure _ _) (Own.from ParX_own _)) (LK_own (Nat.le_refl _) hBU.size))
    ⟨⟨fun p hp => (by cases hp), _, hBA, Kd.R_nil _ _ _ _ _⟩, KeptT.refl _ _, hBU⟩
    (fun pre y a' Wr => ((pre ++ [y]).map plq <+: flatD 0 x ∧ TK w w.heap.size y.x y.cs) ∧ ∃ Bx, U.heap.size ≤ Bx ∧ Wr.heap[Bx]? = some (.cells y.cs.toArray 27 (0, 0)) ∧ a' = { tmps := #[.agg #[.int .i64 x.f0.f0, .int .i64 x.f0.f1, .string x.f1, .string x.f2, .slice A4 x.f3.length c4, .slice A5 x.f4.length c5], .agg #[.int .i64 key.f0, .int .i64 key.f1], .pointer (some ⟨w.heap.size, 0, none⟩), .pointer (some ⟨w.heap.size + 1, 0, none⟩), .pointer (some ⟨w.heap.size + 1 + 1, 0, none⟩), .pointer (some ⟨w.heap.size + 1 + 1 + 1, 0, none⟩), .pointer (some ⟨w.heap.size + 1 + 1 + 1 + 1, 0, none⟩), .int .i64 (y.d : Int), .pointer (some ⟨Bx, 0, none⟩), .agg #[.int .i64 x.f0.f0, .int .i64 x.f0.f1, .string x.f1, .string x.f2, .slice A4 x.f3.length c4, .slice A5 x.f4.length c5], .func (.func 65) #[] #[.pointer (some ⟨w.heap.size + 1 + 1 + 1 + 1 + 1, 0, none⟩)], .int .i64 (y.d : Int), .agg y.cs.toArray, undef, undef, undef, undef, undef, undef, undef, undef, undef, undef, undef, undef, undef, undef, undef, undef, undef, undef, undef, undef], defers := [] })
    (fun pre y a' _ X Y row hs hg hr => by obtain ⟨h0, Bx, h1, h2, h3⟩ := hs; exact ⟨h0, Bx, h1, cells_own Bx 27 (fun (_ : Unit) => y.cs.toArray) () X Y row h2 hg (fun r e => (hr r e).2), h3⟩)
    ?assign ?body ?done ?stop
  case assign =>
    rintro l pre ⟨yd, y, ycs⟩ W K hI ⟨yok, yhf, ypre, ylow⟩ hK
    have yok' : TK w w.heap.size y ycs := yok
    obtain ⟨B4, e4, B5, e5, rfl, _⟩ := yok'.open
    dsimp only [encQ]
    gi_wp2
    have hbl : Below W.heap.size W (W.alloc (.cells #[.int .i64 y.f0.f0, .int .i64 y.f0.f1, .string y.f1, .string y.f2, .slice B4 y.f3.length e4, .slice B5 y.f4.length e5] 27)) := below_alloc (Below.refl _ _) _
    obtain ⟨⟨hn, v, hv, hR⟩, hL⟩ := hI
    exact hK _ _ ((KeepsOthers.alloc _ _).from _) (Kw.below hbl hL.2.size) ⟨⟨hn, v, Mem.alloc_old hv _, Kd.R_below hR hbl⟩, hL.on hbl hBU.size⟩ ⟨⟨ypre, yok⟩, W.heap.size, hL.1.size, Mem.alloc_new _ _, rfl⟩
  case body =>
    rintro l pre ⟨yd, y, ycs⟩ a' W hl ⟨r, hr⟩ ⟨⟨hn, v, hv, hR⟩, hK⟩ ⟨⟨ypre, yok⟩, Bx, hBx, bX, rfl⟩
    have yok' : TK w w.heap.size y ycs := yok
    obtain ⟨B4, e4, B5, e5, rfl, _⟩ := yok'.open
    have hmap : (pre ++ [(⟨yd, y, [.int .i64 y.f0.f0, .int .i64 y.f0.f1, .string y.f1, .string y.f2, .slice B4 y.f3.length e4, .slice B5 y.f4.length e5]⟩ : Nq)]).map plq = pre.map plq ++ [(yd, y)] := by rw [List.map_append]; rfl
    have HMAP := Aside0.mk hmap
    rw [hmap] at ypre
    have HPRE := Aside0.mk ypre
    have HN := Aside0.mk hn
    have HAB := Aside0.mk (above_ok ypre)
    have HYD : Aside0 (yd + 1 ≤ 1099511627776) := ⟨HDP.out (yd, y) (ypre.subset (List.mem_append_right _ (List.mem_singleton.2 rfl)))⟩
    obtain ⟨A, c, rfl, hlc, hC⟩ := Kd.R_reads hR
    have HLC := Aside0.mk hlc
    have HC := Aside0.mk hC
    have HR := Aside0.mk hR
    have HV := Aside0.mk hv
    have HBKW := Aside0.mk (hK.1.cells hBK (by show ¬ (w.heap.size + 1 = w.heap.size + 1 + 1 + 1 + 1); omega))
    have HBZW := Aside0.mk (hK.1.cells hBZ (by show ¬ (w.heap.size + 1 + 1 = w.heap.size + 1 + 1 + 1 + 1); omega))
    have HBBW := Aside0.mk (hK.1.cells hBB (by show ¬ (w.heap.size + 1 + 1 + 1 = w.heap.size + 1 + 1 + 1 + 1); omega))
    have HK := Aside0.mk hK
    have HX := Aside0.mk bX
    have HBX := Aside0.mk hBx
    have x0 := Mem.cell_of bX 0
    have x1 := Mem.cell_of bX 1
    have k0 := Mem.cell_of HBKW.out 0
    have k1 := Mem.cell_of HBKW.out 1
    obtain ⟨n, hn_⟩ : ∃ n, (aboveL (pre.map plq)).length = n := ⟨_, rfl⟩
    have HNN := Aside0.mk hn_
    rw [hn_] at HV HR HC HLC HAB
    have b0 := Mem.cell_of HV.out 0
    have b1 := Mem.free_of HV.out 0
    clear hr hn hK bX ypre yok yok' hmap hlc hC hR hv hBx hn_
    by_cases hq : sameK y.f0 key = true
    · have g1 : (y.f0.f0 == key.f0 && (y.f0.f1 == key.f1)) = true := hq
      have HQ := Aside0.mk (parR_found HPRE.out HN.out hq)
      clear hq
      have z0 := Mem.cell_of HBZW.out 0
      have z1 := Mem.cell_of HBZW.out 1
      have y0 := Mem.free_of HBZW.out 0
      have y1 := Mem.free_of HBZW.out 1
      have c0 := Mem.cell_of HBBW.out 0
      have c1 := Mem.free_of HBBW.out 0
      by_cases h0 : yd = 0
      · have HR0 : Aside0 (parR [] (flatD 0 x) key = (z23, false)) := ⟨by rw [HQ.out, if_pos h0]⟩
        have e1 : ((yd : Int) == 0) = true := beq_iff_eq.2 (by omega)
        have e2 : ((yd : Int) = 0) = True := eq_true (by omega)
        have e3 : (yd = 0) = True := eq_true h0
        clear h0 b0 b1
        gi_wp2_with (fail)
        refine ⟨((KeepsOthers.setCell _ _ _).trans ((KeepsOthers.setCell _ _ _).trans (KeepsOthers.setCell _ _ _))).from _, ⟨rfl, ?_⟩, ?_⟩
        · rw [HR0.out]; exact ParX_set (r := (z23, false)) HBZW.out HBBW.out
        · exact (((HK.out.wider (T' := fun i => i = w.heap.size + 1 + 1 + 1 + 1 ∨ i = w.heap.size + 1 + 1 ∨ i = w.heap.size + 1 + 1 + 1) (fun i hi => .inl hi)).set _ (.inr (.inl rfl)) (by omega)).set _ (.inr (.inl rfl)) (by omega)).set _ (.inr (.inr rfl)) (by omega)
      · have hyn : yd - 1 < n := by have := HAB.out.1; omega
        obtain ⟨ad, rfl, i0, i1⟩ := at_T23 HC.out ((yd - 1 : Nat) : Int) (Int.natCast_nonneg _) (Int.ofNat_lt.2 hyn)
        rw [Int.toNat_natCast] at i0 i1
        obtain ⟨q, hq⟩ : ∃ q, rd_T23 (aboveL (pre.map plq)) ((yd - 1 : Nat) : Int) = q := ⟨_, rfl⟩
        rw [hq] at i0 i1
        have HR0 : Aside0 (parR [] (flatD 0 x) key = (q, true)) := ⟨by rw [HQ.out, if_neg h0, ← hq]; unfold rd_T23; rw [Int.toNat_natCast]⟩
        have e1 : ((yd : Int) == 0) = false := beq_eq_false_iff_ne.2 (by omega)
        have e2 : ((yd : Int) = 0) = False := eq_false (by omega)
        have e3 : (yd = 0) = False := eq_false h0
        have hwd : wrap64 ((yd : Int) - 1) = ((yd - 1 : Nat) : Int) := by rw [wrap_dn (by have := HYD.out; omega)]; omega
        have e4 : (((yd - 1 : Nat) : Int) < (n : Int)) = True := eq_true (Int.ofNat_lt.2 hyn)
        have e5 : (yd - 1 < n) = True := eq_true hyn
        have hyp : (0 : Int) ≤ ((yd - 1 : Nat) : Int) := Int.natCast_nonneg _
        have hyq : ((yd - 1 : Nat) : Int).toNat = yd - 1 := Int.toNat_natCast _
        obtain ⟨p', hp'⟩ : ∃ p', ad.add ((yd - 1) * 2) = p' := ⟨_, rfl⟩
        rw [hp'] at i0 i1
        clear h0 hyn hq
        generalize yd - 1 = yj at *
        gi_wp2_with (fail)
        refine ⟨((KeepsOthers.setCell _ _ _).trans ((KeepsOthers.setCell _ _ _).trans (KeepsOthers.setCell _ _ _))).from _, ⟨rfl, ?_⟩, ?_⟩
        · rw [HR0.out]; exact ParX_set (r := (q, true)) HBZW.out HBBW.out
        · exact (((HK.out.wider (T' := fun i => i = w.heap.size + 1 + 1 + 1 + 1 ∨ i = w.heap.size + 1 + 1 ∨ i = w.heap.size + 1 + 1 + 1) (fun i hi => .inl hi)).set _ (.inr (.inl rfl)) (by omega)).set _ (.inr (.inl rfl)) (by omega)).set _ (.inr (.inr rfl)) (by omega)
    · have g1 : (y.f0.f0 == key.f0 && (y.f0.f1 == key.f1)) = false := Bool.eq_false_iff.2 hq
      have HQ : Aside0 (sameK y.f0 key = false) := ⟨Bool.eq_false_iff.2 hq⟩
      have HR9 : Aside0 (k23.R 23 W.drew U.heap.size (fun _ => True) (.slice A yd c) ((aboveL (pre.map plq)).take yd)) := ⟨Kd.R_take (Kd.R_below HR.out (below_drew (Below.refl _ _))) (by rw [HNN.out]; exact HAB.out.1)⟩
      have HLN : Aside0 ((((aboveL (pre.map plq)).take yd).length + 1) * 16 ≤ 140737488355328) := ⟨room_ab (by have := HYD.out; omega)⟩
      have HSZ : Aside0 (U.heap.size ≤ W.drew.heap.size) := ⟨HK.out.1.size⟩
      have hS5B : W.drew.heap[Bx]? = some (.cells #[.int .i64 y.f0.f0, .int .i64 y.f0.f1, .string y.f1, .string y.f2, .slice B4 y.f3.length e4, .slice B5 y.f4.length e5] 27 (0, 0)) := HX.out
      have hyc : yd ≤ c := by have := HAB.out.1; have := HLC.out; omega
      have e4_ : ((yd : Int) ≤ (c : Int)) = True := eq_true (Int.ofNat_le.2 hyc)
      have e5_ : (yd ≤ c) = True := eq_true hyc
      have hyp : (0 : Int) ≤ (yd : Int) := Int.natCast_nonneg _
      have hyq : (yd : Int).toNat = yd := Int.toNat_natCast _
      clear hq hyc
      gi_wp2_with (fail)
      have hS5 : (fun w' => w'.cell? ⟨w.heap.size + 1 + 1 + 1 + 1, 0, none⟩ = some (.slice A n c) ∧ w'.cell? ⟨Bx, 0, none⟩ = some (.int .i64 y.f0.f0) ∧ w'.cell? ⟨Bx, 1, none⟩ = some (.int .i64 y.f0.f1) ∧ w'.heap[w.heap.size + 1 + 1 + 1 + 1]? = some (.cells #[.slice A n c] 48 (0, 0))) W.drew := ⟨b0, x0, x1, HV.out⟩
      have hS0 : (fun w' => w'.cell? ⟨w.heap.size + 1 + 1 + 1 + 1, 0, none⟩ = some (.slice A n c) ∧ w'.cell? ⟨Bx, 0, none⟩ = some (.int .i64 y.f0.f0) ∧ w'.cell? ⟨Bx, 1, none⟩ = some (.int .i64 y.f0.f1) ∧ w'.heap[w.heap.size + 1 + 1 + 1 + 1]? = some (.cells #[.slice A n c] 48 (0, 0))) W.drew := hS5
      clear b0 b1 x0 x1 k0 k1 g1
      refine Round.start (n := 8) (S := (fun w' => w'.cell? ⟨w.heap.size + 1 + 1 + 1 + 1, 0, none⟩ = some (.slice A n c) ∧ w'.cell? ⟨Bx, 0, none⟩ = some (.int .i64 y.f0.f0) ∧ w'.cell? ⟨Bx, 1, none⟩ = some (.int .i64 y.f0.f1) ∧ w'.heap[w.heap.size + 1 + 1 + 1 + 1]? = some (.cells #[.slice A n c] 48 (0, 0)))) (ds := [7]) #[false, false, false, false, false, false, false, false] (by kernel_rfl) rfl rfl (by kernel_rfl) (fun ⟨_, _, h⟩ => h) (hS0) (fun hHeld => ?_)
      refine with_tabW vpa.tab9 vpa.bits9 (fun HT_ HW_ => ?_)
      refine pure_ (i := 1) (N := (some 26)) (v := ?_) (a' := ?_) #[false, true, false, false, false, false, false, false] rfl rfl (any_of HT_.out (by kernel_rfl)) (fun _ _ _ h => h) (Or.inl ⟨by rfl, ?_⟩) ?_ ?_
      rotate_left
      · intro w'
        go_simp
        with_reducible rfl
      rotate_left
      · simp only [Act.put, List.setIfInBounds_toArray, List.set_cons_zero, List.set_cons_succ, i64_w, i32_w]
        rfl
      refine pure_ (i := 3) (N := (some 28)) (v := ?_) (a' := ?_) #[false, true, false, true, false, false, false, false] rfl rfl (any_of HT_.out (by kernel_rfl)) (fun _ _ _ h => h) (Or.inl ⟨by rfl, ?_⟩) ?_ ?_
      rotate_left
      · intro w'
        go_simp
        with_reducible rfl
      rotate_left
      · simp only [Act.put, List.setIfInBounds_toArray, List.set_cons_zero, List.set_cons_succ, i64_w, i32_w]
        rfl
      refine take_ (i := 0) (N := (some 25)) (v := ?_) (a' := ?_) #[true, true, false, true, false, false, false, false] rfl rfl (take_ofW HT_.out HW_.out (by kernel_rfl)) (fun _ _ _ h => h) (Or.inl ⟨by rfl, ?_⟩) hHeld ?_ ?_
      rotate_left
      · rintro w' ⟨s0, s1, s2, s3⟩
        go_simp
        with_reducible rfl
      rotate_left
      · simp only [Act.put, List.setIfInBounds_toArray, List.set_cons_zero, List.set_cons_succ, i64_w, i32_w]
        rfl
      refine pure_ (i := 2) (N := (some 27)) (v := ?_) (a' := ?_) #[true, true, true, true, false, false, false, false] rfl rfl (any_of HT_.out (by kernel_rfl)) (fun _ _ _ h => h) (Or.inl ⟨by rfl, ?_⟩) ?_ ?_
      rotate_left
      · intro w'
        go_simp
        with_reducible rfl
      rotate_left
      · simp only [Act.put, List.setIfInBounds_toArray, List.set_cons_zero, List.set_cons_succ, i64_w, i32_w]
        rfl
      refine take_ (i := 4) (N := (some 29)) (v := ?_) (a' := ?_) #[true, true, true, true, true, false, false, false] rfl rfl (take_ofW HT_.out HW_.out (by kernel_rfl)) (fun _ _ _ h => h) (Or.inl ⟨by rfl, ?_⟩) hHeld ?_ ?_
      rotate_left
      · rintro w' ⟨s0, s1, s2, s3⟩
        go_simp
        with_reducible rfl
      rotate_left
      · simp only [Act.put, List.setIfInBounds_toArray, List.set_cons_zero, List.set_cons_succ, i64_w, i32_w]
        rfl
      refine one_ (i := 5) (N := (some 30)) #[true, true, true, true, true, true, false, false] rfl rfl (one_of HT_.out (by kernel_rfl)) (by decide) (fun K hK => ?_)
      refine value_ (w1 := ?_) (v := ?_) (by rfl) rfl ?_ ?_
      rotate_left 2
      · go_simp
        constructor
        · rfl
        · rfl
      refine hK.out _ _ (⟨Mem.cell_alloc hHeld.1 _, Mem.cell_alloc hHeld.2.1 _, Mem.cell_alloc hHeld.2.2.1 _, Mem.alloc_old hHeld.2.2.2 _⟩) (fun hHeld => ?_)
      clear hK K
      refine norm_ (a' := ?_) ?_ ?_
      rotate_left
      · show Act.put _ (some 30) _ = _
        simp only [Act.put, List.setIfInBounds_toArray, List.set_cons_zero, List.set_cons_succ, i64_w, i32_w]
        rfl
      refine one_ (i := 6) (N := (some 31)) #[true, true, true, true, true, true, true, false] rfl rfl (one_of HT_.out (by kernel_rfl)) (by decide) (fun K hK => ?_)
      refine Kd.R_append_step k23 (w0 := W.drew) U.heap.size (by rfl) (.tmp 27) (.tmp 30) 48 23 (.agg #[(.int .i64 0), (.int .i64 0)]) 16 rfl Try.underlying48 info23 rfl (by decide) (by omega) (.slice A yd c) ((aboveL (pre.map plq)).take yd) y.f0 [.int .i64 y.f0.f0, .int .i64 y.f0.f1] (fun _ => True) (fun _ => False) rfl rfl ?hp (fun _ hk => hk.elim) (fun _ _ => trivial) ?hO (Below.refl _ _) ?hb ?hl ?_
      case hp => exact k23_mkM _ _ _ y.f0
      case hO => exact HR9.out
      case hb => exact HSZ.out
      case hl => exact HLN.out
      intro v6 w6 ho6 hb6 hg6 hat6
      have HO6 := Aside0.mk ho6
      have HG6 := Aside0.mk hg6
      have hne6 : some (w.heap.size + 1 + 1 + 1 + 1) ≠ (Value.slice A yd c).ownBlock := Kd.R_ne HR9.out hS5.2.2.2 (by decide)
      have hb46 := (hg6.block _ (blk_lt hS5.2.2.2) hne6).trans hS5.2.2.2
      obtain ⟨A6, c6, rfl⟩ := Kd.R_slice ho6
      have H46 := Aside0.mk hb46
      have hbx6 : w6.heap[Bx]? = some (.cells #[.int .i64 y.f0.f0, .int .i64 y.f0.f1, .string y.f1, .string y.f2, .slice B4 y.f3.length e4, .slice B5 y.f4.length e5] 27 (0, 0)) := (hg6.block _ (blk_lt hS5B) (Kd.R_ne HR9.out hS5B (by decide))).trans hS5B
      have HX6 : Aside0 (w6.cell? ⟨Bx, 0, none⟩ = some (.int .i64 y.f0.f0) ∧ w6.cell? ⟨Bx, 1, none⟩ = some (.int .i64 y.f0.f1)) := ⟨⟨Mem.cell_of hbx6 0, Mem.cell_of hbx6 1⟩⟩
      clear hbx6
      have cz := Mem.cell_of hb46 0
      have fz := Mem.free_of hb46 0
      refine hK.out _ _ (⟨cz, HX6.out.1, HX6.out.2, hb46⟩) (fun hHeld => ?_)
      clear hK K
      refine norm_ (a' := ?_) ?_ ?_
      rotate_left
      · show Act.put _ (some 31) _ = _
        simp only [Act.put, List.setIfInBounds_toArray, List.set_cons_zero, List.set_cons_succ, i64_w, i32_w]
        rfl
      refine last_ (i := 7) (N := none) #[true, true, true, true, true, true, true, true] rfl rfl (one_of HT_.out (by kernel_rfl)) (by decide) (fun K hK => ?_)
      refine skip_ (w1 := w6.setCell ⟨w.heap.size + 1 + 1 + 1 + 1, 0, none⟩ (.slice A6 ((aboveL (pre.map plq)).take yd ++ [y.f0]).length c6)) (by rfl) rfl ?_ ?_
      · go_simp
      refine hK.out _ _ ?_
      clear hK K
      refine done_ (done_of HT_.out (by kernel_rfl)) ?_
      have hty := Kd.R_typed HR9.out
      have hba := Kd.R_base HR9.out
      have hwd := HK.out.on (below_drew (Below.refl _ _)) hBU.size
      refine ⟨((KeepsOthers.drew W).trans ((KeepsOthers.of_grownBy HG6.out (fun j o e ho => by obtain ⟨c_, hc_⟩ := hty j e; rw [hc_] at ho; cases ho; rfl)).trans (KeepsOthers.setCell _ _ _))).from _,
        (Kw.below (below_drew (Below.refl _ _)) HK.out.2.size).trans ((Kw.grown HG6.out (fun k e => ⟨Nat.le_trans hBU.size (hba k e), fun c_ fr_ hc_ => by obtain ⟨c2_, h2_⟩ := hty k e; rw [h2_] at hc_; cases hc_⟩) hwd.2.size).trans (Kw.box H46.out (by decide) _ (by omega))),
        ⟨by rw [HMAP.out]; exact noKey_snoc HN.out HQ.out, _, Mem.set_heap H46.out 0 _, ?_⟩, (hwd.grown HG6.out hba hBU.size).set _ rfl (by omega)⟩
      rw [HMAP.out, aboveL_snoc]
      exact Kd.R_set HO6.out H46.out (by decide) 0 _
  case done =>
    rintro D ys W hD hys ⟨⟨hn, v, hv, hR⟩, hK⟩ hKD
    have HG : Aside0 (parR [] (flatD 0 x) key = (z23, false)) := ⟨by rw [← hys]; exact parR_none hn⟩
    have HBZW := Aside0.mk (hK.1.cells hBZ (by show ¬ (w.heap.size + 1 + 1 = w.heap.size + 1 + 1 + 1 + 1); omega))
    have HBBW := Aside0.mk (hK.1.cells hBB (by show ¬ (w.heap.size + 1 + 1 + 1 = w.heap.size + 1 + 1 + 1 + 1); omega))
    have HK := Aside0.mk hK
    have HKD := Aside0.mk hKD
    clear hn hys hK hKD hv hR
    have z0 := Mem.cell_of HBZW.out 0
    have z1 := Mem.cell_of HBZW.out 1
    have y0 := Mem.free_of HBZW.out 0
    have y1 := Mem.free_of HBZW.out 1
    have c0 := Mem.cell_of HBBW.out 0
    have c1 := Mem.free_of HBBW.out 0
    gi_wp2_with (fail)
    have hus := HUS.out
    have hpx := ParX_set (r := (z23, false)) HBZW.out HBBW.out
    have hkx := (((HK.out.wider (T' := fun i => i = w.heap.size + 1 + 1 + 1 + 1 ∨ i = w.heap.size + 1 + 1 ∨ i = w.heap.size + 1 + 1 + 1) (fun i hi => .inl hi)).set (o := 0) (.int .i64 0) (.inr (.inl rfl)) (by omega)).set (o := 1) (.int .i64 0) (.inr (.inl rfl)) (by omega)).set (o := 0) (.bool false) (.inr (.inr rfl)) (by omega)
    have he1 := (Mem.set_other _ ⟨w.heap.size + 1 + 1 + 1, 0, none⟩ (.bool false) D (by show D ≠ w.heap.size + 1 + 1 + 1; omega)).trans ((Mem.set_other _ ⟨w.heap.size + 1 + 1, 1, none⟩ (.int .i64 0) D (by show D ≠ w.heap.size + 1 + 1; omega)).trans ((Mem.set_other W ⟨w.heap.size + 1 + 1, 0, none⟩ (.int .i64 0) D (by show D ≠ w.heap.size + 1 + 1; omega)).trans HKD.out))
    have he4 : ((((W.setCell ⟨w.heap.size + 1 + 1, 0, none⟩ (.int .i64 0)).setCell ⟨w.heap.size + 1 + 1, 1, none⟩ (.int .i64 0)).setCell ⟨w.heap.size + 1 + 1 + 1, 0, none⟩ (.bool false)).putObj D (.deferred none)).heap[w.heap.size + 1 + 1]? = some (.cells #[.int .i64 0, .int .i64 0] 23 (0, 0)) := (World.putObj_heap_other (by omega)).trans hpx.1
    have he5 : ((((W.setCell ⟨w.heap.size + 1 + 1, 0, none⟩ (.int .i64 0)).setCell ⟨w.heap.size + 1 + 1, 1, none⟩ (.int .i64 0)).setCell ⟨w.heap.size + 1 + 1 + 1, 0, none⟩ (.bool false)).putObj D (.deferred none)).heap[w.heap.size + 1 + 1 + 1]? = some (.cells #[.bool false] 4 (0, 0)) := (World.putObj_heap_other (by omega)).trans hpx.2
    refine ⟨by simp, .inl ⟨_, _, rfl, run_takeDeferred he1, ?_⟩⟩
    refine ⟨_, results_row_bool rfl _ _ (w.heap.size + 1 + 1) (w.heap.size + 1 + 1 + 1) 23 _ (0, 0) _ false rfl he4 Try.underlying23 rfl (by kernel_rfl) rfl (Mem.cell_of he5 0) Try.underlying4, ?_⟩
    rw [HG.out]
    refine ⟨rfl, Below.trans hkx.2 ?_⟩
    exact belowK_b (w := U) hBU.size _ D _ _ hD he1 rfl rfl
  case stop =>
    rintro D c pre W hD hsp ⟨⟨rfl, hpx⟩, hK⟩ hKD
    refine wpIn_wide.2 ?_
    go_wp2_with (fail)
    have hus := HUS.out
    have he4 : (W.putObj D (.deferred none)).heap[w.heap.size + 1 + 1]? = _ := (World.putObj_heap_other (by omega)).trans hpx.1
    have he5 : (W.putObj D (.deferred none)).heap[w.heap.size + 1 + 1 + 1]? = some (.cells #[.bool (parR [] (flatD 0 x) key).2] 4 (0, 0)) := (World.putObj_heap_other (by omega)).trans hpx.2
    refine ⟨by simp, .inl ⟨_, _, rfl, run_takeDeferred hKD, ?_⟩⟩
    refine ⟨_, results_row_bool rfl _ _ (w.heap.size + 1 + 1) (w.heap.size + 1 + 1 + 1) 23 _ (0, 0) _ _ rfl he4 Try.underlying23 rfl (by kernel_rfl) rfl (Mem.cell_of he5 0) Try.underlying4, ?_⟩
    exact ⟨rfl, hK.2.trans (belowK_b (w := U) hBU.size W D _ _ hD hKD rfl rfl)⟩
end Go.Proofs.Ytnkbgimihikhoaa.PVt
namespace Go.Proofs.Ytnkbgimihikhoaa.PVt
open Go.RowKit Go.Proofs.YtnkbgimihikhoaaW.PrintWords Go.Proofs.YtnkbgimihikhoaaW.PrintLast Go.Proofs.YtnkbgimihikhoaaW.PrintMore
attribute [local go_sem] max2_int min2_int max_two min_two max_three min_three max_four min_four   -- for this text's walks alone
set_option linter.unusedVariables false
set_option linter.unusedSimpArgs false
attribute [local go_sem high] eqA23
def topiaryref01_Same.l0 : Nat → List (S23) → List (S23) → Int → Option (Bool)
  | 0, _, _, _ => none
  | k + 1, x0, x1, x5 => if x5 < (x0.length : Int) then (if 0 ≤ x5 then (if x5 < (x1.length : Int) then (if (!(((rd_T23 x0 x5).f0) == ((rd_T23 x1 x5).f0)) || (!(((rd_T23 x0 x5).f1) == ((rd_T23 x1 x5).f1)))) = true then (some false) else (topiaryref01_Same.l0 k x0 x1 (wrap64 (x5 + 1)))) else (none)) else (none)) else (some true)
def topiaryref01_Same.f (k : Nat) (l0 : List (S23)) (l1 : List (S23)) : Option (Bool) := if (l0.length : Int) = (l1.length : Int) then (topiaryref01_Same.l0 k l0 l1 0) else (some false)
theorem topiaryref01_Same.mono_l : ∀ k, (∀ y0 y1 y2, LeO (topiaryref01_Same.l0 k y0 y1 y2) (topiaryref01_Same.l0 (k + 1) y0 y1 y2))
  | 0 => fun _ _ _ r h => by simp [topiaryref01_Same.l0] at h
  | k + 1 => by
    have ih0 := topiaryref01_Same.mono_l k
    · intro y0 y1 y2
      unfold topiaryref01_Same.l0
      repeat' first
      | (with_reducible exact ih0 _ _ _)
      | (with_reducible exact LeO.refl _)
      | (with_reducible exact LeO.none _)
      | (with_reducible refine LeO.ite ?_ ?_)
      | (with_reducible refine LeO.bind ?_ (fun _ => ?_))
      | exact ih0 _ _ _
      | exact LeO.none _
      | refine LeO.ite ?_ ?_
      | refine LeO.bind ?_ (fun _ => ?_)
theorem topiaryref01_Same.mono : ∀ a0 a1 k, LeO (topiaryref01_Same.f k a0 a1) (topiaryref01_Same.f (k + 1) a0 a1) := by
  intro a0 a1 k
  have ih0 := topiaryref01_Same.mono_l k
  unfold topiaryref01_Same.f
  repeat' first
      | (with_reducible exact ih0 _ _ _)
      | (with_reducible exact LeO.refl _)
      | (with_reducible exact LeO.none _)
      | (with_reducible refine LeO.ite ?_ ?_)
      | (with_reducible refine LeO.bind ?_ (fun _ => ?_))
      | exact ih0 _ _ _
      | exact LeO.none _
      | refine LeO.ite ?_ ?_
      | refine LeO.bind ?_ (fun _ => ?_)
set_option maxHeartbeats 8000000 in
set_option maxRecDepth 100000 in
theorem topiaryref01_Same.calls (k : Nat) (A0 : Option Addr) (c0 : Nat) (l0 : List (S23)) (A1 : Option Addr) (c1 : Nat) (l1 : List (S23)) (r : Bool) (w : World) (hr0 : Kd.C k23 w A0 l0.length l0) (hc0 : l0.length ≤ c0) (hr1 : Kd.C k23 w A1 l1.length l1) (hc1 : l1.length ≤ c1) (h : topiaryref01_Same.f k l0 l1 = some r) :
    Calls Try.prog 35 #[.slice A0 l0.length c0, .slice A1 l1.length c1] w fun e w' => e = .returned (.bool r) ∧ Drawn0 w w' := by
  have hu23 := Try.underlying23
  have HR0 := Aside0.mk hr0
  have HC0 := Aside0.mk hc0
  clear hr0 hc0
  have HR1 := Aside0.mk hr1
  have HC1 := Aside0.mk hc1
  clear hr1 hc1
  have H : (if (l0.length : Int) = (l1.length : Int) then (topiaryref01_Same.l0 k l0 l1 0) else (some false)) = some r := h
  clear h
  by_cases c3 : (l0.length : Int) = (l1.length : Int)
  · rw [if_pos c3] at H
    have c3b0 : ((l0.length : Int) == (l1.length : Int)) = true := beq_iff_eq.mpr c3
    have c3b1 : ((l0.length : Int) != (l1.length : Int)) = false := bne_eq_false_iff_eq.mpr c3
    have c3b2 : (l0.length == l1.length) = true := by first | simpa using c3 | (simp at c3 ⊢; omega)
    clear c3
    have H' := Aside0.mk H
    clear H
    go_enter Try.func35, Try.ntmps35
    go_wp2
    repeat (go_quiet (fail); try go_wp2)
    go_loopg [5] k (fun kq v5 w' => ∃ (x5_1 : Int), v5 = .int .i64 x5_1 ∧ Aside0 (topiaryref01_Same.l0 kq l0 l1 x5_1 = some r) ∧ Aside0 (kq ≤ k) ∧ Drawn0 w w')
    case atStart => exact ⟨(0), (by first | rfl | (simp; done) | (simp [*]; done)), H', ⟨Nat.le_refl _⟩, by repeat (first | exact Drawn0.refl _ | apply Drawn0.step)⟩
    case round =>
      clear H'
      try clear c1
      try clear p2
      try clear c3
      try clear c3b0
      try clear c3b1
      try clear c3b2
      obtain ⟨x5_1, rfl, HA, HK1, ⟨m1, rfl⟩⟩ := hrel
      cases gk with
      | zero => exact absurd HA.out (by simp [topiaryref01_Same.l0])
      | succ k1 =>
        have H := HA.out
        clear HA
        simp only [topiaryref01_Same.l0] at H
        by_cases c4 : x5_1 < (l0.length : Int)
        · rw [if_pos c4] at H
          have c4b0 : decide (x5_1 < (l0.length : Int)) = true := decide_eq_true c4
          clear c4
          by_cases c5 : 0 ≤ x5_1
          · rw [if_pos c5] at H
            have c5b0 : decide (0 ≤ x5_1) = true := decide_eq_true c5
            clear c5
            by_cases c6 : x5_1 < (l1.length : Int)
            · rw [if_pos c6] at H
              have c6b0 : decide (x5_1 < (l1.length : Int)) = true := decide_eq_true c6
              clear c6
              by_cases c7 : (!(((rd_T23 l0 x5_1).f0) == ((rd_T23 l1 x5_1).f0)) || (!(((rd_T23 l0 x5_1).f1) == ((rd_T23 l1 x5_1).f1)))) = true
              · rw [if_pos c7] at H
                have c7b0 : (!(((rd_T23 l0 x5_1).f0) == ((rd_T23 l1 x5_1).f0)) || (!(((rd_T23 l0 x5_1).f1) == ((rd_T23 l1 x5_1).f1)))) = true := c7
                clear c7
                obtain rfl := Option.some.inj H
                have p170 : 0 ≤ (x5_1 : Int) := of_decide_eq_true (by first | (with_reducible assumption) | assumption)
                have q170 : x5_1 < (l0.length : Int) := of_decide_eq_true (by first | (with_reducible assumption) | assumption)
                obtain ⟨ad170, e170, hx170_0, hx170_1⟩ := at_T23 HR0.out x5_1 p170 q170
                cases e170
                replace p170 := eq_true p170
                replace q170 := eq_true q170
                have p171 : 0 ≤ (x5_1 : Int) := of_decide_eq_true (by first | (with_reducible assumption) | assumption)
                have q171 : x5_1 < (l1.length : Int) := of_decide_eq_true (by first | (with_reducible assumption) | assumption)
                obtain ⟨ad171, e171, hx171_0, hx171_1⟩ := at_T23 HR1.out x5_1 p171 q171
                cases e171
                replace p171 := eq_true p171
                replace q171 := eq_true q171
                go_wp2
                repeat (go_quiet (fail); try go_wp2)
                go_ret
                exact ⟨by first | rfl | (simp; done) | (simp [*]; done), by repeat (first | exact Drawn0.refl _ | apply Drawn0.step)⟩
              · rw [if_neg c7] at H
                have c7b0 : (!(((rd_T23 l0 x5_1).f0) == ((rd_T23 l1 x5_1).f0)) || (!(((rd_T23 l0 x5_1).f1) == ((rd_T23 l1 x5_1).f1)))) = false := by simpa using c7
                clear c7
                have H' := Aside0.mk H
                clear H
                have p170 : 0 ≤ (x5_1 : Int) := of_decide_eq_true (by first | (with_reducible assumption) | assumption)
                have q170 : x5_1 < (l0.length : Int) := of_decide_eq_true (by first | (with_reducible assumption) | assumption)
                obtain ⟨ad170, e170, hx170_0, hx170_1⟩ := at_T23 HR0.out x5_1 p170 q170
                cases e170
                replace p170 := eq_true p170
                replace q170 := eq_true q170
                have p171 : 0 ≤ (x5_1 : Int) := of_decide_eq_true (by first | (with_reducible assumption) | assumption)
                have q171 : x5_1 < (l1.length : Int) := of_decide_eq_true (by first | (with_reducible assumption) | assumption)
                obtain ⟨ad171, e171, hx171_0, hx171_1⟩ := at_T23 HR1.out x5_1 p171 q171
                cases e171
                replace p171 := eq_true p171
                replace q171 := eq_true q171
                go_wp2
                repeat (go_quiet (fail); try go_wp2)
                go_roundg k1
                case measure => have := HK1.out; omega
                case rel => exact ⟨(wrap64 (x5_1 + 1)), (by first | rfl | (simp; done) | (simp [*]; done)), H', ⟨by have := HK1.out; omega⟩, by repeat (first | exact Drawn0.refl _ | apply Drawn0.step)⟩
            · rw [if_neg c6] at H
              exact absurd H (by simp)
          · rw [if_neg c5] at H
            exact absurd H (by simp)
        · rw [if_neg c4] at H
          have c4b0 : decide (x5_1 < (l0.length : Int)) = false := decide_eq_false c4
          clear c4
          obtain rfl := Option.some.inj H
          go_wp2
          repeat (go_quiet (fail); try go_wp2)
          go_ret
          exact ⟨by first | rfl | (simp; done) | (simp [*]; done), by repeat (first | exact Drawn0.refl _ | apply Drawn0.step)⟩
  · rw [if_neg c3] at H
    have c3b0 : ((l0.length : Int) == (l1.length : Int)) = false := beq_eq_false_iff_ne.mpr c3
    have c3b1 : ((l0.length : Int) != (l1.length : Int)) = true := bne_iff_ne.mpr c3
    have c3b2 : (l0.length == l1.length) = false := by first | simpa using c3 | (simp at c3 ⊢; omega)
    obtain rfl := Option.some.inj H
    go_enter Try.func35, Try.ntmps35
    go_wp2
    repeat (go_quiet (fail); try go_wp2)
    go_ret
    exact ⟨by first | rfl | (simp; done) | (simp [*]; done), by repeat (first | exact Drawn0.refl _ | apply Drawn0.step)⟩
theorem ssame_l (l : List S23) (hl : l.length ≤ 9223372036854775807) : ∀ (n i k : Nat), i + n = l.length → n + 1 ≤ k → topiaryref01_Same.l0 k l l (i : Int) = some true
  | 0, i, 0, h, hk => by omega
  | 0, i, k + 1, h, hk => by
    simp only [topiaryref01_Same.l0]
    rw [if_neg (by omega)]
  | n + 1, i, 0, h, hk => by omega
  | n + 1, i, k + 1, h, hk => by
    have go := ssame_l l hl n (i + 1) k (by omega) (by omega)
    have hw := wrap_in (k := i) (n := l.length) (by omega) hl
    simp only [topiaryref01_Same.l0]
    rw [if_pos (by omega), if_pos (by omega), if_pos (by omega), if_neg (by simp), hw, go]
theorem ssame_calls (w : World) (A0 : Option Addr) (c0 : Nat) (A1 : Option Addr) (c1 : Nat) (l : List S23) (h0 : Kd.C k23 w A0 l.length l) (hc0 : l.length ≤ c0) (h1 : Kd.C k23 w A1 l.length l) (hc1 : l.length ≤ c1) :
    Calls Try.prog 35 #[.slice A0 l.length c0, .slice A1 l.length c1] w fun e w' => e = .returned (.bool true) ∧ Below w.heap.size w w' :=
  (topiaryref01_Same.calls (l.length + 1) A0 c0 l A1 c1 l true w h0 hc0 h1 hc1 (by
    unfold topiaryref01_Same.f
    rw [if_pos rfl]
    exact ssame_l l h0.2.1 l.length 0 _ (by omega) (Nat.le_refl _))).mono fun e w' ⟨h1, h2⟩ => ⟨h1, drawn_below h2⟩
end Go.Proofs.Ytnkbgimihikhoaa.PVt
namespace Go.Proofs.Ytnkbgimihikhoaa.PVt
open Go.RowKit Go.Proofs.YtnkbgimihikhoaaW.PrintWords Go.Proofs.YtnkbgimihikhoaaW.PrintLast Go.Proofs.YtnkbgimihikhoaaW.PrintMore
set_option linter.unusedVariables false
set_option linter.unusedSimpArgs false
set_option maxHeartbeats 4000000 in
set_option maxRecDepth 100000 in
theorem many_calls (n0 : Nat) (w : World) (x : S27) (A4 : Option Addr) (c4 : Nat) (A5 : Option Addr) (c5 : Nat) (hx : TK w n0 x (cs27 x A4 c4 A5 c5).toList) (hn : n0 ≤ w.heap.size) (hr : Room 0 (szT x)) :
    Calls Try.prog 27 #[.agg (cs27 x A4 c4 A5 c5)] w fun e w' => e = .returned (.bool (decide (1500 < szT x))) ∧ Below w.heap.size w w' := by
  have hB := below_alloc (Below.refl w.heap.size w) (.cells (cs27 x A4 c4 A5 c5) 27)
  have HB := Aside0.mk hB
  have HX := Aside0.mk (hx.low (fun i hi => hB.block i (Nat.lt_of_lt_of_le hi hn)))
  have HN : Aside0 (n0 ≤ (w.alloc (.cells (cs27 x A4 c4 A5 c5) 27)).heap.size) := ⟨by rw [Mem.alloc_size]; omega⟩
  have HR := Aside0.mk hr
  clear hx hn hr hB
  go_enter Try.func27, Try.ntmps27
  go_wp2_with (fail)
  refine (flatten_calls n0 _ x _ _ _ _ HX.out HN.out HR.out).mono ?_
  rintro e w2 ⟨v, rfl, hv, hb2⟩
  obtain ⟨A, c, rfl⟩ := Kd.N_slice hv
  have HB2 := Aside0.mk (HB.out.trans (hb2.mono HB.out.size))
  have HL := Aside0.mk (flatL_length x)
  dsimp only
  clear hv hb2 HB HX HN
  generalize flatL x = L at *
  have HD : Aside0 (decide ((1500 : Int) < (L.length : Int)) = decide (1500 < szT x)) := ⟨by rw [← HL.out]; exact decide_eq_decide.2 (by omega)⟩
  go_wp2
  go_ret
  exact ⟨by rw [← HD.out]; rfl, HB2.out⟩
end Go.Proofs.Ytnkbgimihikhoaa.PVt
namespace Go.Proofs.Ytnkbgimihikhoaa.PVt
open Go.RowKit Go.Proofs.YtnkbgimihikhoaaW.PrintWords Go.Proofs.YtnkbgimihikhoaaW.PrintLast Go.Proofs.YtnkbgimihikhoaaW.PrintMore
set_option linter.unusedVariables false
set_option linter.unusedSimpArgs false
set_option maxHeartbeats 4000000 in
set_option maxRecDepth 100000 in
theorem rkeys_calls (n0 : Nat) (w : World) (x : S27) (A4 : Option Addr) (c4 : Nat) (A5 : Option Addr) (c5 : Nat) (hx : TK w n0 x (cs27 x A4 c4 A5 c5).toList) (hn : n0 ≤ w.heap.size) (hr : szT x ≤ 1099511627776) :
    Calls Try.prog 36 #[.agg (cs27 x A4 c4 A5 c5)] w fun e w' => ∃ v, e = .returned v ∧ Kd.R k23 23 w' w.heap.size (fun _ => True) v (keysL (flatL x)) ∧ Below w.heap.size w w' := by
  have hB := below_alloc (Below.refl w.heap.size w) (.cells (cs27 x A4 c4 A5 c5) 27)
  have HB := Aside0.mk hB
  have HX := Aside0.mk (hx.low (fun i hi => hB.block i (Nat.lt_of_lt_of_le hi hn)))
  have HN : Aside0 (n0 ≤ (w.alloc (.cells (cs27 x A4 c4 A5 c5) 27)).heap.size) := ⟨by rw [Mem.alloc_size]; omega⟩
  have HR : Aside0 (Room 0 (szT x)) := ⟨by unfold Room; omega⟩
  have HMX : Aside0 ((flatL x).length ≤ 1099511627776) := ⟨by rw [flatL_length]; exact hr⟩
  clear hx hn hr hB
  go_enter Try.func36, Try.ntmps36
  go_wp2_with (fail)
  refine (flatten_calls n0 _ x _ _ _ _ HX.out HN.out HR.out).mono ?_
  rintro e w2 ⟨v, rfl, hv, hb2⟩
  obtain ⟨A, c, rfl⟩ := Kd.N_slice hv
  have HC := Aside0.mk (Kd.N_reads' hv).2.2
  have HB2 := Aside0.mk (HB.out.trans (hb2.mono HB.out.size))
  dsimp only
  clear hv hb2 HB HX HN
  obtain ⟨L, hL⟩ : ∃ L, flatL x = L := ⟨_, rfl⟩
  rw [hL] at HC HMX ⊢
  have HLL := Aside0.mk hL
  clear hL
  go_wp2_with (fail)
  go_loopw [4, 5] (fun v4 i wr => ∃ k : Nat, i = .int .i64 (k : Int) ∧ Aside0 (k ≤ L.length) ∧ Aside0 (Kd.R k23 23 wr w2.heap.size (fun _ => True) v4 (keysL (L.take k))) ∧ Aside0 (Below w2.heap.size w2 wr)) (fun _ i _ => L.length - (intOf i).toNat)
  case atStart => exact ⟨0, rfl, ⟨Nat.zero_le _⟩, ⟨empty_R _ _ _ rfl (Nat.le_refl _)⟩, ⟨below_alloc (Below.refl _ _) _⟩⟩
  case round =>
    obtain ⟨k, rfl, HK, HSR, HBW⟩ := hrel
    by_cases hlt : k < L.length
    case neg =>
      have e6 : ((k : Int) < (L.length : Int)) = False := eq_false (by omega)
      have e7 : (k < L.length) = False := eq_false hlt
      have HT : Aside0 (L.take k = L) := ⟨List.take_of_length_le (by omega)⟩
      rw [HT.out] at HSR
      clear hlt
      go_wp2_with (fail)
      go_ret
      exact ⟨_, rfl, by rw [HLL.out]; exact Kd.R_lower HSR.out HB2.out.size, HB2.out.trans (HBW.out.mono HB2.out.size)⟩
    have HW := Aside0.mk (wrap_in (k := k) (n := L.length) hlt (by have := HMX.out; omega))
    obtain ⟨ad, B4, d4, B5, d5, rfl, hyc, _⟩ := kid_read HC.out k hlt
    have HLT := Aside0.mk hlt
    have HKS := Aside0.mk (keysL_snoc L hlt)
    obtain ⟨y, hy⟩ : ∃ y, L.getD k z27 = y := ⟨_, rfl⟩
    rw [hy] at hyc HKS
    obtain ⟨p, hp⟩ : ∃ p, ad.add (k * 6) = p := ⟨_, rfl⟩
    rw [hp] at hyc
    have e6 : ((k : Int) < (L.length : Int)) = True := eq_true (Int.ofNat_lt.2 hlt)
    have e7 : (k < L.length) = True := eq_true hlt
    have hkn : (k : Int).toNat = k := Int.toNat_natCast k
    have hkp : (0 : Int) ≤ (k : Int) := Int.natCast_nonneg k
    obtain ⟨x0, x1, x2, x3, x4, x5⟩ := hyc.below HBW.out
    clear hlt hyc hy
    go_wp2_with (first | ((with_reducible refine gate_builtin (b := .append) (xs := #[.tmp 15, .tmp 21]) rfl ?_); at_builtin; go_loud (refine Kd.R_append k23 (w0 := w2) w2.heap.size rfl (.tmp 15) (.tmp 21) 48 23 (.agg #[(.int .i64 0), (.int .i64 0)]) 16 rfl Try.underlying48 info23 rfl (by decide) (by omega) u4 (keysL (L.take k)) y.f0 [.int .i64 y.f0.f0, .int .i64 y.f0.f1] (fun _ => True) (fun _ => False) rfl rfl ?aP (fun _ hk => hk.elim) (fun _ _ => trivial) ?aO ?aB ?aS ?aL ?_); (case aP => exact k23_mkM _ _ _ y.f0); (case aO => exact HSR.out); (case aB => exact HBW.out); (case aS => exact HBW.out.size); (case aL => have := keysL_len L k; have := HMX.out; omega); intro v5 w5 ho hb hg hat; have HS5 := Aside0.mk ho; have HB5 := Aside0.mk hb; clear ho hb hg hat x0 x1 x2 x3 x4 x5))
    exact ⟨⟨k + 1, by rw [HW.out], ⟨HLT.out⟩, ⟨by rw [HKS.out]; exact HS5.out⟩, HB5⟩, dec_kid HLT.out HW.out⟩
end Go.Proofs.Ytnkbgimihikhoaa.PVt
namespace Go.Proofs.Ytnkbgimihikhoaa.PVt
open Go.RowKit Go.Proofs.YtnkbgimihikhoaaW.PrintWords Go.Proofs.YtnkbgimihikhoaaW.PrintLast Go.Proofs.YtnkbgimihikhoaaW.PrintMore
set_option linter.unusedVariables false
set_option linter.unusedSimpArgs false
theorem keysL_flat (x : S27) : keysL (flatL x) = keysP (flatD 0 x) := by rw [← flatL_map 0 x]; unfold keysL keysP; rw [List.map_map]; rfl
theorem made_stays {w w' : World} {lo : Nat} {x : S27} {A4 : Option Addr} {c4 : Nat} {A5 : Option Addr} {c5 : Nat} (h : k27.M w lo (fun _ => True) x (cs27 x A4 c4 A5 c5).toList) (hk : ∀ k, lo ≤ k → k < w.heap.size → w'.heap[k]? = w.heap[k]?) : RK w' x A4 c4 A5 c5 :=
  RK.of (k27.K_of_M (k27.M_move (fun k hk' => hk k hk'.2.1 hk'.2.2.1) (k27.M_bound h)))
theorem fit_zero : fitT z27 := by rw [fitT_eq]; refine ⟨by decide, by decide, ⟨by decide, fun p hp => by cases hp⟩, by decide, ?_⟩; show fitTs []; simp [fitTs]
theorem findL_fit : ∀ (l : List S27) (key : S23), (∀ p ∈ l, fitT p) → fitT (findL l key).1
  | [], _, _ => fit_zero
  | y :: l, key, h => by
    rw [findL]
    split
    · exact h y (List.mem_cons_self ..)
    · exact findL_fit l key (fun p hp => h p (List.mem_cons_of_mem _ hp))
def vas.T4 : Bool × List (List Nat × List Nat) := (true, [([], []), ([0], [0]), ([], []), ([2, 1], [2]), ([3], [3]), ([1, 4], [1, 4]), ([5, 3], [5]), ([6], [6]), ([7, 6, 6], [6, 7]), ([6], [6]), ([9, 8, 6], [6, 9]), ([8, 10, 6], [6, 8, 10]), ([6, 11], [6, 11]), ([12, 10], [12]), ([13], [13]), ([14, 13, 13], [13, 14]), ([13], [13]), ([16, 15, 13], [13, 16]), ([15, 17, 17, 13], [13, 15, 17]), ([18, 13], [13, 18]), ([13, 19], [13, 19])])
def vas.B4 : List Nat := [0, 1, 0, 7, 15, 31, 63, 127, 255, 127, 1023, 2047, 4095, 8191, 16383, 32767, 16383, 131071, 262143, 524287, 1048575]
theorem vas.tab4 : rtab .any (opsOf Try.f9 4) = vas.T4 := by kernel_rfl
theorem vas.bits4 : waitsOk vas.T4.2 vas.B4 = true := by kernel_rfl
set_option maxHeartbeats 16000000 in
set_option maxRecDepth 100000 in
theorem asks_calls (w : World) (x : S27) (key : S23) (A4 : Option Addr) (c4 : Nat) (A5 : Option Addr) (c5 : Nat) (hx : RK w x A4 c4 A5 c5) (hf : fitT x) (hs : szT x ≤ 1048576) :
    Calls Try.prog 9 #[.agg #[.int .i64 x.f0.f0, .int .i64 x.f0.f1, .string x.f1, .string x.f2, .slice A4 x.f3.length c4, .slice A5 x.f4.length c5], .agg #[.int .i64 key.f0, .int .i64 key.f1]] w fun e w' => e = .returned (.bool true) ∧ Below w.heap.size w w' := by
  have hB := below_alloc (below_alloc (Below.refl w.heap.size w) (.cells #[.int .i64 x.f0.f0, .int .i64 x.f0.f1, .string x.f1, .string x.f2, .slice A4 x.f3.length c4, .slice A5 x.f4.length c5] 27)) (.cells #[.int .i64 key.f0, .int .i64 key.f1] 23)
  have HRX0 := Aside0.mk (hx.below hB)
  have HX0 : Aside0 (((w.alloc (.cells #[.int .i64 x.f0.f0, .int .i64 x.f0.f1, .string x.f1, .string x.f2, .slice A4 x.f3.length c4, .slice A5 x.f4.length c5] 27)).alloc (.cells #[.int .i64 key.f0, .int .i64 key.f1] 23)).heap[w.heap.size]? = some (.cells #[.int .i64 x.f0.f0, .int .i64 x.f0.f1, .string x.f1, .string x.f2, .slice A4 x.f3.length c4, .slice A5 x.f4.length c5] 27 (0, 0))) := ⟨Mem.alloc_old (Mem.alloc_new _ _) _⟩
  have HK0 : Aside0 (((w.alloc (.cells #[.int .i64 x.f0.f0, .int .i64 x.f0.f1, .string x.f1, .string x.f2, .slice A4 x.f3.length c4, .slice A5 x.f4.length c5] 27)).alloc (.cells #[.int .i64 key.f0, .int .i64 key.f1] 23)).heap[w.heap.size + 1]? = some (.cells #[.int .i64 key.f0, .int .i64 key.f1] 23 (0, 0))) := ⟨Mem.alloc_new_at _ _ _ (by rw [Mem.alloc_size])⟩
  have HB0 := Aside0.mk hB
  have HF := Aside0.mk hf
  have HSZ : Aside0 (szT x ≤ 1099511627776) := ⟨by omega⟩
  have HRM : Aside0 (Room 0 (szT x)) := ⟨by unfold Room; omega⟩
  clear hx hB hf hs
  go_enter Try.func9, Try.ntmps9
  go_wp2_with (fail)
  generalize ((w.alloc (.cells #[.int .i64 x.f0.f0, .int .i64 x.f0.f1, .string x.f1, .string x.f2, .slice A4 x.f3.length c4, .slice A5 x.f4.length c5] 27)).alloc (.cells #[.int .i64 key.f0, .int .i64 key.f1] 23)) = U0 at *
  refine (many_calls _ _ x _ _ _ _ (TK.of HRX0.out.K) (Nat.le_refl _) HRM.out).mono ?_
  rintro e w1 ⟨rfl, hb1⟩
  have HB1 := Aside0.mk (HB0.out.trans (hb1.mono HB0.out.size))
  have HRX1 := Aside0.mk (HRX0.out.below hb1)
  have HX1 := Aside0.mk ((hb1.block _ (blk_lt HX0.out)).trans HX0.out)
  have HK1 := Aside0.mk ((hb1.block _ (blk_lt HK0.out)).trans HK0.out)
  clear hb1
  cases hm : decide (1500 < szT x) with
  | true =>
    go_wp2_with (fail)
    refine (awake_calls _).mono ?_
    rintro e w2 ⟨rfl, hb2⟩
    dsimp only
    have HB2 := Aside0.mk (HB1.out.trans (hb2.mono HB1.out.size))
    clear hb2
    go_wp2_with (fail)
    go_ret
    exact ⟨rfl, HB2.out⟩
  | false =>
    have a0 := Mem.cell_of HX1.out 0
    have a1 := Mem.cell_of HX1.out 1
    have a2 := Mem.cell_of HX1.out 2
    have a3 := Mem.cell_of HX1.out 3
    have a4 := Mem.cell_of HX1.out 4
    have a5 := Mem.cell_of HX1.out 5
    clear hm
    go_wp2_with (fail)
    refine (rcopyM_calls _ x _ _ _ _ HRX1.out HF.out).mono ?_
    rintro e w2 ⟨B4, d4, B5, d5, rfl, hM2, hb2⟩
    dsimp only
    have HBU := Aside0.mk (HB1.out.trans ((below_alloc hb2 (.cells #[.int .i64 x.f0.f0, .int .i64 x.f0.f1, .string x.f1, .string x.f2, .slice B4 x.f3.length d4, .slice B5 x.f4.length d5] 27)).mono HB1.out.size))
    have HRX : Aside0 (RK (w2.alloc (.cells #[.int .i64 x.f0.f0, .int .i64 x.f0.f1, .string x.f1, .string x.f2, .slice B4 x.f3.length d4, .slice B5 x.f4.length d5] 27)) x A4 c4 A5 c5) := ⟨HRX1.out.below (below_alloc hb2 _)⟩
    have HRO : Aside0 (RK (w2.alloc (.cells #[.int .i64 x.f0.f0, .int .i64 x.f0.f1, .string x.f1, .string x.f2, .slice B4 x.f3.length d4, .slice B5 x.f4.length d5] 27)) x B4 d4 B5 d5) := ⟨(RK.of (k27.K_of_M hM2)).below (below_alloc (Below.refl _ _) _)⟩
    have HX : Aside0 ((w2.alloc (.cells #[.int .i64 x.f0.f0, .int .i64 x.f0.f1, .string x.f1, .string x.f2, .slice B4 x.f3.length d4, .slice B5 x.f4.length d5] 27)).heap[w.heap.size]? = some (.cells #[.int .i64 x.f0.f0, .int .i64 x.f0.f1, .string x.f1, .string x.f2, .slice A4 x.f3.length c4, .slice A5 x.f4.length c5] 27 (0, 0))) := ⟨((below_alloc hb2 _).block _ (blk_lt HX1.out)).trans HX1.out⟩
    have HK : Aside0 ((w2.alloc (.cells #[.int .i64 x.f0.f0, .int .i64 x.f0.f1, .string x.f1, .string x.f2, .slice B4 x.f3.length d4, .slice B5 x.f4.length d5] 27)).heap[w.heap.size + 1]? = some (.cells #[.int .i64 key.f0, .int .i64 key.f1] 23 (0, 0))) := ⟨((below_alloc hb2 _).block _ (blk_lt HK1.out)).trans HK1.out⟩
    have HO : Aside0 ((w2.alloc (.cells #[.int .i64 x.f0.f0, .int .i64 x.f0.f1, .string x.f1, .string x.f2, .slice B4 x.f3.length d4, .slice B5 x.f4.length d5] 27)).heap[w2.heap.size]? = some (.cells #[.int .i64 x.f0.f0, .int .i64 x.f0.f1, .string x.f1, .string x.f2, .slice B4 x.f3.length d4, .slice B5 x.f4.length d5] 27 (0, 0))) := ⟨Mem.alloc_new _ _⟩
    clear hM2 hb2 HB0 HRX0 HX0 HK0 HB1 HRX1 HX1 HK1
    clear a0 a1 a2 a3 a4 a5
    go_wp2_with (fail)
    generalize (w2.alloc (.cells #[.int .i64 x.f0.f0, .int .i64 x.f0.f1, .string x.f1, .string x.f2, .slice B4 x.f3.length d4, .slice B5 x.f4.length d5] 27)) = U at *
    have HBQ : Aside0 (Below U.heap.size U U.drew) := ⟨below_drew (Below.refl _ _)⟩
    have HS : Aside0 ((U.drew.cell? ⟨w.heap.size, 0, none⟩ = some (.int .i64 x.f0.f0) ∧ U.drew.cell? ⟨w.heap.size, 1, none⟩ = some (.int .i64 x.f0.f1) ∧ U.drew.cell? ⟨w.heap.size, 2, none⟩ = some (.string x.f1) ∧ U.drew.cell? ⟨w.heap.size, 3, none⟩ = some (.string x.f2) ∧ U.drew.cell? ⟨w.heap.size, 4, none⟩ = some (.slice A4 x.f3.length c4) ∧ U.drew.cell? ⟨w.heap.size, 5, none⟩ = some (.slice A5 x.f4.length c5)) ∧ (U.drew.cell? ⟨w2.heap.size, 0, none⟩ = some (.int .i64 x.f0.f0) ∧ U.drew.cell? ⟨w2.heap.size, 1, none⟩ = some (.int .i64 x.f0.f1) ∧ U.drew.cell? ⟨w2.heap.size, 2, none⟩ = some (.string x.f1) ∧ U.drew.cell? ⟨w2.heap.size, 3, none⟩ = some (.string x.f2) ∧ U.drew.cell? ⟨w2.heap.size, 4, none⟩ = some (.slice B4 x.f3.length d4) ∧ U.drew.cell? ⟨w2.heap.size, 5, none⟩ = some (.slice B5 x.f4.length d5))) := ⟨cells_now HX.out HBQ.out, cells_now HO.out HBQ.out⟩
    refine start_ (n := 21) (S := (fun w' => (w'.cell? ⟨w.heap.size, 0, none⟩ = some (.int .i64 x.f0.f0) ∧ w'.cell? ⟨w.heap.size, 1, none⟩ = some (.int .i64 x.f0.f1) ∧ w'.cell? ⟨w.heap.size, 2, none⟩ = some (.string x.f1) ∧ w'.cell? ⟨w.heap.size, 3, none⟩ = some (.string x.f2) ∧ w'.cell? ⟨w.heap.size, 4, none⟩ = some (.slice A4 x.f3.length c4) ∧ w'.cell? ⟨w.heap.size, 5, none⟩ = some (.slice A5 x.f4.length c5)) ∧ (w'.cell? ⟨w2.heap.size, 0, none⟩ = some (.int .i64 x.f0.f0) ∧ w'.cell? ⟨w2.heap.size, 1, none⟩ = some (.int .i64 x.f0.f1) ∧ w'.cell? ⟨w2.heap.size, 2, none⟩ = some (.string x.f1) ∧ w'.cell? ⟨w2.heap.size, 3, none⟩ = some (.string x.f2) ∧ w'.cell? ⟨w2.heap.size, 4, none⟩ = some (.slice B4 x.f3.length d4) ∧ w'.cell? ⟨w2.heap.size, 5, none⟩ = some (.slice B5 x.f4.length d5)))) (ds := []) #[false, false, false, false, false, false, false, false, false, false, false, false, false, false, false, false, false, false, false, false, false] (by kernel_rfl) rfl rfl (HS.out) (fun hHeld => ?_)
    refine with_tabW vas.tab4 vas.bits4 (fun HT_ HW_ => ?_)
    refine take_ (i := 0) (N := (some 19)) (v := ?_) (a' := ?_) #[true, false, false, false, false, false, false, false, false, false, false, false, false, false, false, false, false, false, false, false, false] rfl rfl (take_ofW HT_.out HW_.out (by kernel_rfl)) (fun _ _ _ h => h) (Or.inl ⟨by rfl, ?_⟩) hHeld ?_ ?_
    rotate_left
    · rintro w' ⟨⟨s0, s1, s2, s3, s4, s5⟩, u0, u1, u2, u3, u4, u5⟩
      go_simp
      with_reducible rfl
    rotate_left
    · simp only [Act.put, List.setIfInBounds_toArray, List.set_cons_zero, List.set_cons_succ, i64_w, i32_w]
      rfl
    refine take_ (i := 2) (N := (some 21)) (v := ?_) (a' := ?_) #[true, false, true, false, false, false, false, false, false, false, false, false, false, false, false, false, false, false, false, false, false] rfl rfl (take_ofW HT_.out HW_.out (by kernel_rfl)) (fun _ _ _ h => h) (Or.inl ⟨by rfl, ?_⟩) hHeld ?_ ?_
    rotate_left
    · rintro w' ⟨⟨s0, s1, s2, s3, s4, s5⟩, u0, u1, u2, u3, u4, u5⟩
      go_simp
      with_reducible rfl
    rotate_left
    · simp only [Act.put, List.setIfInBounds_toArray, List.set_cons_zero, List.set_cons_succ, i64_w, i32_w]
      rfl
    refine one_ (i := 1) (N := (some 20)) #[true, true, true, false, false, false, false, false, false, false, false, false, false, false, false, false, false, false, false, false, false] rfl rfl (one_of HT_.out (by kernel_rfl)) (by decide) (fun K hK => ?_)
    refine goes_ Try.func32 (by kernel_rfl) rfl #[.agg #[.int .i64 x.f0.f0, .int .i64 x.f0.f1, .string x.f1, .string x.f2, .slice B4 x.f3.length d4, .slice B5 x.f4.length d5]] (by rfl) rfl rfl (by (try simp only [List.map_toArray, List.map_cons, List.map_nil]); first | done | rfl) ?_
    refine (count_calls _ x B4 d4 B5 d5 HSZ.out (TK.of (HRO.out.below HBQ.out).K)).mono ?_
    rintro e w3 ⟨rfl, hb3⟩
    refine ⟨_, rfl, ?_⟩
    have HBN : Aside0 (Below U.heap.size U w3) := ⟨HBQ.out.trans (hb3.mono HBQ.out.size)⟩
    clear HBQ hb3
    have HBQ := HBN
    clear HBN
    refine hK.out _ _ (⟨cells_now (HX.out) HBQ.out, cells_now HO.out HBQ.out⟩) (fun hHeld => ?_)
    clear hK K
    refine norm_ (a' := ?_) ?_ ?_
    rotate_left
    · show Act.put _ (some 20) _ = _
      simp only [Act.put, List.setIfInBounds_toArray, List.set_cons_zero, List.set_cons_succ, i64_w, i32_w]
      rfl
    refine one_ (i := 3) (N := (some 22)) #[true, true, true, true, false, false, false, false, false, false, false, false, false, false, false, false, false, false, false, false, false] rfl rfl (one_of HT_.out (by kernel_rfl)) (by decide) (fun K hK => ?_)
    refine goes_ Try.func29 (by kernel_rfl) rfl #[.agg #[.int .i64 x.f0.f0, .int .i64 x.f0.f1, .string x.f1, .string x.f2, .slice A4 x.f3.length c4, .slice A5 x.f4.length c5]] (by rfl) rfl rfl (by (try simp only [List.map_toArray, List.map_cons, List.map_nil]); first | done | rfl) ?_
    refine (flatten_calls _ _ x A4 c4 A5 c5 (TK.of (HRX.out.below HBQ.out).K) (Nat.le_refl _) HRM.out).mono ?_
    rintro e w4 ⟨vf, rfl, hvf, hb3⟩
    obtain ⟨Af, cf, rfl⟩ := Kd.N_slice hvf
    rw [flatL_length]
    clear hvf
    refine ⟨_, rfl, ?_⟩
    have HBN : Aside0 (Below U.heap.size U w4) := ⟨HBQ.out.trans (hb3.mono HBQ.out.size)⟩
    clear HBQ hb3
    have HBQ := HBN
    clear HBN
    refine hK.out _ _ (⟨cells_now (HX.out) HBQ.out, cells_now HO.out HBQ.out⟩) (fun hHeld => ?_)
    clear hK K
    refine norm_ (a' := ?_) ?_ ?_
    rotate_left
    · show Act.put _ (some 22) _ = _
      simp only [Act.put, List.setIfInBounds_toArray, List.set_cons_zero, List.set_cons_succ, i64_w, i32_w]
      rfl
    refine pure_ (i := 4) (N := (some 23)) (v := ?_) (a' := ?_) #[true, true, true, true, true, false, false, false, false, false, false, false, false, false, false, false, false, false, false, false, false] rfl rfl (any_of HT_.out (by kernel_rfl)) (fun _ _ _ h => h) (Or.inl ⟨by rfl, ?_⟩) ?_ ?_
    rotate_left
    · intro w'
      go_simp
      with_reducible rfl
    rotate_left
    · simp only [Act.put, List.setIfInBounds_toArray, List.set_cons_zero, List.set_cons_succ, i64_w, i32_w]
      rfl
    refine pure_ (i := 5) (N := (some 24)) (v := ?_) (a' := ?_) #[true, true, true, true, true, true, false, false, false, false, false, false, false, false, false, false, false, false, false, false, false] rfl rfl (any_of HT_.out (by kernel_rfl)) (fun _ _ _ h => h) (Or.inl ⟨by rfl, ?_⟩) ?_ ?_
    rotate_left
    · intro w'
      go_simp
      with_reducible rfl
    rotate_left
    · simp only [Act.put, List.setIfInBounds_toArray, List.set_cons_zero, List.set_cons_succ, i64_w, i32_w]
      rfl
    refine pure_ (i := 6) (N := (some 25)) (v := ?_) (a' := ?_) #[true, true, true, true, true, true, true, false, false, false, false, false, false, false, false, false, false, false, false, false, false] rfl rfl (any_of HT_.out (by kernel_rfl)) (fun _ _ _ h => h) (Or.inl ⟨by rfl, ?_⟩) ?_ ?_
    rotate_left
    · intro w'
      go_simp
      with_reducible rfl
    rotate_left
    · simp only [Act.put, List.setIfInBounds_toArray, List.set_cons_zero, List.set_cons_succ, i64_w, i32_w]
      rfl
    refine take_ (i := 7) (N := (some 26)) (v := ?_) (a' := ?_) #[true, true, true, true, true, true, true, true, false, false, false, false, false, false, false, false, false, false, false, false, false] rfl rfl (take_ofW HT_.out HW_.out (by kernel_rfl)) (fun _ _ _ h => h) (Or.inl ⟨by rfl, ?_⟩) hHeld ?_ ?_
    rotate_left
    · rintro w' ⟨⟨s0, s1, s2, s3, s4, s5⟩, u0, u1, u2, u3, u4, u5⟩
      go_simp
      with_reducible rfl
    rotate_left
    · simp only [Act.put, List.setIfInBounds_toArray, List.set_cons_zero, List.set_cons_succ, i64_w, i32_w]
      rfl
    refine take_ (i := 9) (N := (some 28)) (v := ?_) (a' := ?_) #[true, true, true, true, true, true, true, true, false, true, false, false, false, false, false, false, false, false, false, false, false] rfl rfl (take_ofW HT_.out HW_.out (by kernel_rfl)) (fun _ _ _ h => h) (Or.inl ⟨by rfl, ?_⟩) hHeld ?_ ?_
    rotate_left
    · rintro w' ⟨⟨s0, s1, s2, s3, s4, s5⟩, u0, u1, u2, u3, u4, u5⟩
      go_simp
      with_reducible rfl
    rotate_left
    · simp only [Act.put, List.setIfInBounds_toArray, List.set_cons_zero, List.set_cons_succ, i64_w, i32_w]
      rfl
    refine one_ (i := 8) (N := (some 27)) #[true, true, true, true, true, true, true, true, true, true, false, false, false, false, false, false, false, false, false, false, false] rfl rfl (one_of HT_.out (by kernel_rfl)) (by decide) (fun K hK => ?_)
    refine goes_ Try.func33 (by kernel_rfl) rfl #[.agg #[.int .i64 x.f0.f0, .int .i64 x.f0.f1, .string x.f1, .string x.f2, .slice B4 x.f3.length d4, .slice B5 x.f4.length d5]] (by rfl) rfl rfl (by (try simp only [List.map_toArray, List.map_cons, List.map_nil]); first | done | rfl) ?_
    refine (depth_calls _ x B4 d4 B5 d5 HSZ.out (TK.of (HRO.out.below HBQ.out).K)).mono ?_
    rintro e w5 ⟨rfl, hb3⟩
    refine ⟨_, rfl, ?_⟩
    have HBN : Aside0 (Below U.heap.size U w5) := ⟨HBQ.out.trans (hb3.mono HBQ.out.size)⟩
    clear HBQ hb3
    have HBQ := HBN
    clear HBN
    refine hK.out _ _ (⟨cells_now (HX.out) HBQ.out, cells_now HO.out HBQ.out⟩) (fun hHeld => ?_)
    clear hK K
    refine norm_ (a' := ?_) ?_ ?_
    rotate_left
    · show Act.put _ (some 27) _ = _
      simp only [Act.put, List.setIfInBounds_toArray, List.set_cons_zero, List.set_cons_succ, i64_w, i32_w]
      rfl
    refine one_ (i := 10) (N := (some 29)) #[true, true, true, true, true, true, true, true, true, true, true, false, false, false, false, false, false, false, false, false, false] rfl rfl (one_of HT_.out (by kernel_rfl)) (by decide) (fun K hK => ?_)
    refine goes_ Try.func34 (by kernel_rfl) rfl #[.agg #[.int .i64 x.f0.f0, .int .i64 x.f0.f1, .string x.f1, .string x.f2, .slice A4 x.f3.length c4, .slice A5 x.f4.length c5]] (by rfl) rfl rfl (by (try simp only [List.map_toArray, List.map_cons, List.map_nil]); first | done | rfl) ?_
    refine (rdepth_calls _ _ x A4 c4 A5 c5 (TK.of (HRX.out.below HBQ.out).K) (Nat.le_refl _) HSZ.out).mono ?_
    rintro e w6 ⟨rfl, hb3⟩
    refine ⟨_, rfl, ?_⟩
    have HBN : Aside0 (Below U.heap.size U w6) := ⟨HBQ.out.trans (hb3.mono HBQ.out.size)⟩
    clear HBQ hb3
    have HBQ := HBN
    clear HBN
    refine hK.out _ _ (⟨cells_now (HX.out) HBQ.out, cells_now HO.out HBQ.out⟩) (fun hHeld => ?_)
    clear hK K
    refine norm_ (a' := ?_) ?_ ?_
    rotate_left
    · show Act.put _ (some 29) _ = _
      simp only [Act.put, List.setIfInBounds_toArray, List.set_cons_zero, List.set_cons_succ, i64_w, i32_w]
      rfl
    refine pure_ (i := 11) (N := (some 30)) (v := ?_) (a' := ?_) #[true, true, true, true, true, true, true, true, true, true, true, true, false, false, false, false, false, false, false, false, false] rfl rfl (any_of HT_.out (by kernel_rfl)) (fun _ _ _ h => h) (Or.inl ⟨by rfl, ?_⟩) ?_ ?_
    rotate_left
    · intro w'
      go_simp
      with_reducible rfl
    rotate_left
    · simp only [Act.put, List.setIfInBounds_toArray, List.set_cons_zero, List.set_cons_succ, i64_w, i32_w]
      rfl
    refine pure_ (i := 12) (N := (some 31)) (v := ?_) (a' := ?_) #[true, true, true, true, true, true, true, true, true, true, true, true, true, false, false, false, false, false, false, false, false] rfl rfl (any_of HT_.out (by kernel_rfl)) (fun _ _ _ h => h) (Or.inl ⟨by rfl, ?_⟩) ?_ ?_
    rotate_left
    · intro w'
      go_simp
      with_reducible rfl
    rotate_left
    · simp only [Act.put, List.setIfInBounds_toArray, List.set_cons_zero, List.set_cons_succ, i64_w, i32_w]
      rfl
    refine pure_ (i := 13) (N := (some 32)) (v := ?_) (a' := ?_) #[true, true, true, true, true, true, true, true, true, true, true, true, true, true, false, false, false, false, false, false, false] rfl rfl (any_of HT_.out (by kernel_rfl)) (fun _ _ _ h => h) (Or.inl ⟨by rfl, ?_⟩) ?_ ?_
    rotate_left
    · intro w'
      go_simp
      with_reducible rfl
    rotate_left
    · simp only [Act.put, List.setIfInBounds_toArray, List.set_cons_zero, List.set_cons_succ, i64_w, i32_w]
      rfl
    refine take_ (i := 14) (N := (some 33)) (v := ?_) (a' := ?_) #[true, true, true, true, true, true, true, true, true, true, true, true, true, true, true, false, false, false, false, false, false] rfl rfl (take_ofW HT_.out HW_.out (by kernel_rfl)) (fun _ _ _ h => h) (Or.inl ⟨by rfl, ?_⟩) hHeld ?_ ?_
    rotate_left
    · rintro w' ⟨⟨s0, s1, s2, s3, s4, s5⟩, u0, u1, u2, u3, u4, u5⟩
      go_simp
      with_reducible rfl
    rotate_left
    · simp only [Act.put, List.setIfInBounds_toArray, List.set_cons_zero, List.set_cons_succ, i64_w, i32_w]
      rfl
    refine take_ (i := 16) (N := (some 35)) (v := ?_) (a' := ?_) #[true, true, true, true, true, true, true, true, true, true, true, true, true, true, true, false, true, false, false, false, false] rfl rfl (take_ofW HT_.out HW_.out (by kernel_rfl)) (fun _ _ _ h => h) (Or.inl ⟨by rfl, ?_⟩) hHeld ?_ ?_
    rotate_left
    · rintro w' ⟨⟨s0, s1, s2, s3, s4, s5⟩, u0, u1, u2, u3, u4, u5⟩
      go_simp
      with_reducible rfl
    rotate_left
    · simp only [Act.put, List.setIfInBounds_toArray, List.set_cons_zero, List.set_cons_succ, i64_w, i32_w]
      rfl
    refine one_ (i := 15) (N := (some 34)) #[true, true, true, true, true, true, true, true, true, true, true, true, true, true, true, true, true, false, false, false, false] rfl rfl (one_of HT_.out (by kernel_rfl)) (by decide) (fun K hK => ?_)
    refine goes_ Try.func22 (by kernel_rfl) rfl #[.agg #[.int .i64 x.f0.f0, .int .i64 x.f0.f1, .string x.f1, .string x.f2, .slice B4 x.f3.length d4, .slice B5 x.f4.length d5]] (by rfl) rfl rfl (by (try simp only [List.map_toArray, List.map_cons, List.map_nil]); first | done | rfl) ?_
    refine (keys_calls _ x B4 d4 B5 d5 HSZ.out (TK.of (HRO.out.below HBQ.out).K)).mono ?_
    rintro e w7 ⟨vk, rfl, hvk, hb3⟩
    obtain ⟨Ak, ck, rfl, hlk, hck⟩ := Kd.R_reads hvk
    have HCK := Aside0.mk hck
    have HLK := Aside0.mk hlk
    clear hvk hlk hck
    refine ⟨_, rfl, ?_⟩
    have HBN : Aside0 (Below U.heap.size U w7) := ⟨HBQ.out.trans (hb3.mono HBQ.out.size)⟩
    clear HBQ hb3
    have HBQ := HBN
    clear HBN
    refine hK.out _ _ (⟨cells_now (HX.out) HBQ.out, cells_now HO.out HBQ.out⟩) (fun hHeld => ?_)
    clear hK K
    refine norm_ (a' := ?_) ?_ ?_
    rotate_left
    · show Act.put _ (some 34) _ = _
      simp only [Act.put, List.setIfInBounds_toArray, List.set_cons_zero, List.set_cons_succ, i64_w, i32_w]
      rfl
    refine one_ (i := 17) (N := (some 36)) #[true, true, true, true, true, true, true, true, true, true, true, true, true, true, true, true, true, true, false, false, false] rfl rfl (one_of HT_.out (by kernel_rfl)) (by decide) (fun K hK => ?_)
    refine goes_ Try.func36 (by kernel_rfl) rfl #[.agg #[.int .i64 x.f0.f0, .int .i64 x.f0.f1, .string x.f1, .string x.f2, .slice A4 x.f3.length c4, .slice A5 x.f4.length c5]] (by rfl) rfl rfl (by (try simp only [List.map_toArray, List.map_cons, List.map_nil]); first | done | rfl) ?_
    refine (rkeys_calls _ _ x A4 c4 A5 c5 (TK.of (HRX.out.below HBQ.out).K) (Nat.le_refl _) HSZ.out).mono ?_
    rintro e w8 ⟨vk, rfl, hvk, hb3⟩
    rw [keysL_flat] at hvk
    obtain ⟨Am, cm, rfl, hlk, hck⟩ := Kd.R_reads hvk
    have HCM := Aside0.mk hck
    have HLM := Aside0.mk hlk
    have HCL := Aside0.mk (Kd.C_below HCK.out hb3)
    clear hvk hlk hck HCK
    refine ⟨_, rfl, ?_⟩
    have HBN : Aside0 (Below U.heap.size U w8) := ⟨HBQ.out.trans (hb3.mono HBQ.out.size)⟩
    clear HBQ hb3
    have HBQ := HBN
    clear HBN
    refine hK.out _ _ (⟨cells_now (HX.out) HBQ.out, cells_now HO.out HBQ.out⟩) (fun hHeld => ?_)
    clear hK K
    refine norm_ (a' := ?_) ?_ ?_
    rotate_left
    · show Act.put _ (some 36) _ = _
      simp only [Act.put, List.setIfInBounds_toArray, List.set_cons_zero, List.set_cons_succ, i64_w, i32_w]
      rfl
    refine one_ (i := 18) (N := (some 37)) #[true, true, true, true, true, true, true, true, true, true, true, true, true, true, true, true, true, true, true, false, false] rfl rfl (one_of HT_.out (by kernel_rfl)) (by decide) (fun K hK => ?_)
    refine goes_ Try.func35 (by kernel_rfl) rfl #[.slice Ak (keysP (flatD 0 x)).length ck, .slice Am (keysP (flatD 0 x)).length cm] (by rfl) rfl rfl (by (try simp only [List.map_toArray, List.map_cons, List.map_nil]); first | done | rfl) ?_
    refine (ssame_calls _ Ak ck Am cm (keysP (flatD 0 x)) HCL.out HLK.out HCM.out HLM.out).mono ?_
    rintro e w9 ⟨rfl, hb3⟩
    refine ⟨_, rfl, ?_⟩
    have HBN : Aside0 (Below U.heap.size U w9) := ⟨HBQ.out.trans (hb3.mono HBQ.out.size)⟩
    clear HBQ hb3
    have HBQ := HBN
    clear HBN
    refine hK.out _ _ (⟨cells_now (HX.out) HBQ.out, cells_now HO.out HBQ.out⟩) (fun hHeld => ?_)
    clear hK K
    refine norm_ (a' := ?_) ?_ ?_
    rotate_left
    · show Act.put _ (some 37) _ = _
      simp only [Act.put, List.setIfInBounds_toArray, List.set_cons_zero, List.set_cons_succ, i64_w, i32_w]
      rfl
    refine pure_ (i := 19) (N := (some 38)) (v := ?_) (a' := ?_) #[true, true, true, true, true, true, true, true, true, true, true, true, true, true, true, true, true, true, true, true, false] rfl rfl (any_of HT_.out (by kernel_rfl)) (fun _ _ _ h => h) (Or.inl ⟨by rfl, ?_⟩) ?_ ?_
    rotate_left
    · intro w'
      go_simp
      with_reducible rfl
    rotate_left
    · simp only [Act.put, List.setIfInBounds_toArray, List.set_cons_zero, List.set_cons_succ, i64_w, i32_w]
      rfl
    refine pure_ (i := 20) (N := (some 39)) (v := ?_) (a' := ?_) #[true, true, true, true, true, true, true, true, true, true, true, true, true, true, true, true, true, true, true, true, true] rfl rfl (any_of HT_.out (by kernel_rfl)) (fun _ _ _ h => h) (Or.inl ⟨by rfl, ?_⟩) ?_ ?_
    rotate_left
    · intro w'
      go_simp
      with_reducible rfl
    rotate_left
    · simp only [Act.put, List.setIfInBounds_toArray, List.set_cons_zero, List.set_cons_succ, i64_w, i32_w]
      rfl
    refine done_ (done_of HT_.out (by kernel_rfl)) ?_
    have HX9 := Aside0.mk ((HBQ.out.block _ (blk_lt HX.out)).trans HX.out)
    have HK9 := Aside0.mk ((HBQ.out.block _ (blk_lt HK.out)).trans HK.out)
    have HO9 := Aside0.mk ((HBQ.out.block _ (blk_lt HO.out)).trans HO.out)
    have HRX9 := Aside0.mk (HRX.out.below HBQ.out)
    have HRO9 := Aside0.mk (HRO.out.below HBQ.out)
    have HB9 := Aside0.mk (HBU.out.trans (HBQ.out.mono HBU.out.size))
    obtain ⟨⟨y, o⟩, hyo⟩ : ∃ q, findL (flatL x) key = q := ⟨_, rfl⟩
    have HFY : Aside0 (fitT y) := ⟨by have := findL_fit (flatL x) key (fun p hp => fit_flat x HF.out p hp); rw [hyo] at this; exact this⟩
    have HYO := Aside0.mk hyo
    clear hyo HX HK HO HRX HRO HBU HBQ HLK HLM HCL HCM
    have o0 := Mem.cell_of HO9.out 0
    have o1 := Mem.cell_of HO9.out 1
    have o2 := Mem.cell_of HO9.out 2
    have o3 := Mem.cell_of HO9.out 3
    have o4 := Mem.cell_of HO9.out 4
    have o5 := Mem.cell_of HO9.out 5
    have k0 := Mem.cell_of HK9.out 0
    have k1 := Mem.cell_of HK9.out 1
    go_wp2_with (fail)
    refine (find_calls _ x key _ _ _ _ HSZ.out HF.out (TK.of HRO9.out.K)).mono ?_
    rw [HYO.out]
    rintro e w10 ⟨C4, g4, C5, g5, rfl, hM10, hb10⟩
    dsimp only at hM10 ⊢
    have hba := below_alloc hb10 (.cells #[.int .i64 y.f0.f0, .int .i64 y.f0.f1, .string y.f1, .string y.f2, .slice C4 y.f3.length g4, .slice C5 y.f4.length g5] 27)
    have HS910 : Aside0 (w9.heap.size ≤ w10.heap.size) := ⟨hb10.size⟩
    have HBA := Aside0.mk hba
    have HM10 := Aside0.mk hM10
    have HMK : Aside0 (∀ k, k < w10.heap.size → (w10.alloc (.cells #[.int .i64 y.f0.f0, .int .i64 y.f0.f1, .string y.f1, .string y.f2, .slice C4 y.f3.length g4, .slice C5 y.f4.length g5] 27)).heap[k]? = w10.heap[k]?) := ⟨fun k hk => (below_alloc (Below.refl w10.heap.size w10) _).block k hk⟩
    have HN : Aside0 ((w10.alloc (.cells #[.int .i64 y.f0.f0, .int .i64 y.f0.f1, .string y.f1, .string y.f2, .slice C4 y.f3.length g4, .slice C5 y.f4.length g5] 27)).heap[w10.heap.size]? = some (.cells #[.int .i64 y.f0.f0, .int .i64 y.f0.f1, .string y.f1, .string y.f2, .slice C4 y.f3.length g4, .slice C5 y.f4.length g5] 27 (0, 0))) := ⟨Mem.alloc_new _ _⟩
    have HSV : Aside0 ((w10.alloc (.cells #[.int .i64 y.f0.f0, .int .i64 y.f0.f1, .string y.f1, .string y.f2, .slice C4 y.f3.length g4, .slice C5 y.f4.length g5] 27)).heap.size = w10.heap.size + 1) := ⟨Mem.alloc_size _ _⟩
    have HX10 := Aside0.mk ((hba.block _ (blk_lt HX9.out)).trans HX9.out)
    have HK10 := Aside0.mk ((hba.block _ (blk_lt HK9.out)).trans HK9.out)
    have HO10 := Aside0.mk ((hba.block _ (blk_lt HO9.out)).trans HO9.out)
    have HRX10 := Aside0.mk (HRX9.out.below hba)
    have HRO10 := Aside0.mk (HRO9.out.below hba)
    clear hba hb10 hM10 k0 k1
    clear o0 o1 o2 o3 o4 o5
    have a0 := Mem.cell_of HX10.out 0
    have a1 := Mem.cell_of HX10.out 1
    have a2 := Mem.cell_of HX10.out 2
    have a3 := Mem.cell_of HX10.out 3
    have a4 := Mem.cell_of HX10.out 4
    have a5 := Mem.cell_of HX10.out 5
    have k0 := Mem.cell_of HK10.out 0
    have k1 := Mem.cell_of HK10.out 1
    go_wp2_with (fail)
    generalize (w10.alloc (.cells #[.int .i64 y.f0.f0, .int .i64 y.f0.f1, .string y.f1, .string y.f2, .slice C4 y.f3.length g4, .slice C5 y.f4.length g5] 27)) = V at *
    refine (rfind_calls _ _ x key _ _ _ _ (TK.of HRX10.out.K) (Nat.le_refl _) HSZ.out).mono ?_
    rw [HYO.out]
    rintro e w11 ⟨D4, h4, D5, h5, rfl, hR11, hb11⟩
    dsimp only at hR11 ⊢
    have hba := below_alloc hb11 (.cells #[.int .i64 y.f0.f0, .int .i64 y.f0.f1, .string y.f1, .string y.f2, .slice D4 y.f3.length h4, .slice D5 y.f4.length h5] 27)
    have HBV := Aside0.mk hba
    have HRW : Aside0 (RK (w11.alloc (.cells #[.int .i64 y.f0.f0, .int .i64 y.f0.f1, .string y.f1, .string y.f2, .slice D4 y.f3.length h4, .slice D5 y.f4.length h5] 27)) y D4 h4 D5 h5) := ⟨hR11.below (below_alloc (Below.refl _ _) _)⟩
    have HW : Aside0 ((w11.alloc (.cells #[.int .i64 y.f0.f0, .int .i64 y.f0.f1, .string y.f1, .string y.f2, .slice D4 y.f3.length h4, .slice D5 y.f4.length h5] 27)).heap[w11.heap.size]? = some (.cells #[.int .i64 y.f0.f0, .int .i64 y.f0.f1, .string y.f1, .string y.f2, .slice D4 y.f3.length h4, .slice D5 y.f4.length h5] 27 (0, 0))) := ⟨Mem.alloc_new _ _⟩
    have HX11 := Aside0.mk ((hba.block _ (blk_lt HX10.out)).trans HX10.out)
    have HK11 := Aside0.mk ((hba.block _ (blk_lt HK10.out)).trans HK10.out)
    have HO11 := Aside0.mk ((hba.block _ (blk_lt HO10.out)).trans HO10.out)
    have HN11 := Aside0.mk ((hba.block _ (blk_lt HN.out)).trans HN.out)
    have HRX11 := Aside0.mk (HRX10.out.below hba)
    have HRO11 := Aside0.mk (HRO10.out.below hba)
    clear hba hb11 hR11 k0 k1
    clear a0 a1 a2 a3 a4 a5
    obtain ⟨⟨p, s⟩, hps⟩ : ∃ q, parR [] (flatD 0 x) key = q := ⟨_, rfl⟩
    have HPS := Aside0.mk hps
    clear hps
    have o0 := Mem.cell_of HO11.out 0
    have o1 := Mem.cell_of HO11.out 1
    have o2 := Mem.cell_of HO11.out 2
    have o3 := Mem.cell_of HO11.out 3
    have o4 := Mem.cell_of HO11.out 4
    have o5 := Mem.cell_of HO11.out 5
    have k0 := Mem.cell_of HK11.out 0
    have k1 := Mem.cell_of HK11.out 1
    go_wp2_with (fail)
    generalize (w11.alloc (.cells #[.int .i64 y.f0.f0, .int .i64 y.f0.f1, .string y.f1, .string y.f2, .slice D4 y.f3.length h4, .slice D5 y.f4.length h5] 27)) = V1 at *
    refine (parent_calls _ x key _ _ _ _ HSZ.out HF.out (TK.of HRO11.out.K)).mono ?_
    rw [HPS.out]
    rintro e w12 ⟨rfl, hb12⟩
    dsimp only
    have hba := below_alloc hb12 (.cells #[.int .i64 p.f0, .int .i64 p.f1] 23)
    have HBV1 := Aside0.mk hba
    have HP : Aside0 ((w12.alloc (.cells #[.int .i64 p.f0, .int .i64 p.f1] 23)).heap[w12.heap.size]? = some (.cells #[.int .i64 p.f0, .int .i64 p.f1] 23 (0, 0))) := ⟨Mem.alloc_new _ _⟩
    have HX12 := Aside0.mk ((hba.block _ (blk_lt HX11.out)).trans HX11.out)
    have HK12 := Aside0.mk ((hba.block _ (blk_lt HK11.out)).trans HK11.out)
    have HO12 := Aside0.mk ((hba.block _ (blk_lt HO11.out)).trans HO11.out)
    have HN12 := Aside0.mk ((hba.block _ (blk_lt HN11.out)).trans HN11.out)
    have HW12 := Aside0.mk ((hba.block _ (blk_lt HW.out)).trans HW.out)
    have HRX12 := Aside0.mk (HRX11.out.below hba)
    have HRO12 := Aside0.mk (HRO11.out.below hba)
    have HRW12 := Aside0.mk (HRW.out.below hba)
    clear hba hb12 k0 k1
    clear o0 o1 o2 o3 o4 o5
    have a0 := Mem.cell_of HX12.out 0
    have a1 := Mem.cell_of HX12.out 1
    have a2 := Mem.cell_of HX12.out 2
    have a3 := Mem.cell_of HX12.out 3
    have a4 := Mem.cell_of HX12.out 4
    have a5 := Mem.cell_of HX12.out 5
    have k0 := Mem.cell_of HK12.out 0
    have k1 := Mem.cell_of HK12.out 1
    go_wp2_with (fail)
    generalize (w12.alloc (.cells #[.int .i64 p.f0, .int .i64 p.f1] 23)) = V2 at *
    refine (rparent_calls _ _ x key _ _ _ _ (TK.of HRX12.out.K) (Nat.le_refl _) HSZ.out).mono ?_
    rw [HPS.out]
    rintro e w13 ⟨rfl, hb13⟩
    dsimp only
    have hba := below_alloc hb13 (.cells #[.int .i64 p.f0, .int .i64 p.f1] 23)
    have HBV2 := Aside0.mk hba
    have HQ : Aside0 ((w13.alloc (.cells #[.int .i64 p.f0, .int .i64 p.f1] 23)).heap[w13.heap.size]? = some (.cells #[.int .i64 p.f0, .int .i64 p.f1] 23 (0, 0))) := ⟨Mem.alloc_new _ _⟩
    have HX13 := Aside0.mk ((hba.block _ (blk_lt HX12.out)).trans HX12.out)
    have HO13 := Aside0.mk ((hba.block _ (blk_lt HO12.out)).trans HO12.out)
    have HN13 := Aside0.mk ((hba.block _ (blk_lt HN12.out)).trans HN12.out)
    have HW13 := Aside0.mk ((hba.block _ (blk_lt HW12.out)).trans HW12.out)
    have HP13 := Aside0.mk ((hba.block _ (blk_lt HP.out)).trans HP.out)
    have HRX13 := Aside0.mk (HRX12.out.below hba)
    have HRO13 := Aside0.mk (HRO12.out.below hba)
    have HRW13 := Aside0.mk (HRW12.out.below hba)
    clear hba hb13 k0 k1
    clear a0 a1 a2 a3 a4 a5
    have a0 := Mem.cell_of HN13.out 0
    have a1 := Mem.cell_of HN13.out 1
    have a2 := Mem.cell_of HN13.out 2
    have a3 := Mem.cell_of HN13.out 3
    have a4 := Mem.cell_of HN13.out 4
    have a5 := Mem.cell_of HN13.out 5
    have q0 := Mem.cell_of HW13.out 0
    have q1 := Mem.cell_of HW13.out 1
    have q2 := Mem.cell_of HW13.out 2
    have q3 := Mem.cell_of HW13.out 3
    have q4 := Mem.cell_of HW13.out 4
    have q5 := Mem.cell_of HW13.out 5
    have p0 := Mem.cell_of HP13.out 0
    have p1 := Mem.cell_of HP13.out 1
    have r0 := Mem.cell_of HQ.out 0
    have r1 := Mem.cell_of HQ.out 1
    go_wp2_with (fail)
    generalize (w13.alloc (.cells #[.int .i64 p.f0, .int .i64 p.f1] 23)) = V3 at *
    have HVV : Aside0 (Below V.heap.size V V3) := ⟨HBV.out.trans ((HBV1.out.trans (HBV2.out.mono HBV1.out.size)).mono HBV.out.size)⟩
    have HVK : Aside0 (∀ k, k < w10.heap.size → V3.heap[k]? = w10.heap[k]?) := ⟨fun k hk => (HVV.out.block k (by have := HSV.out; omega)).trans (HMK.out k hk)⟩
    have HRN13 : Aside0 (RK V3 y C4 g4 C5 g5) := ⟨made_stays (k27.M_lower (Nat.zero_le _) HM10.out) (fun k _ hk => HVK.out k hk)⟩
    clear HBV HBV1 HBV2
    refine (rsame_calls _ y y _ _ _ _ _ _ _ _ HRN13.out HRW13.out HFY.out).mono ?_
    rintro e w14 ⟨rfl, hb14⟩
    rw [eqT_self]
    dsimp only
    have HX14 := Aside0.mk ((hb14.block _ (blk_lt HX13.out)).trans HX13.out)
    have HO14 := Aside0.mk ((hb14.block _ (blk_lt HO13.out)).trans HO13.out)
    have HN14 := Aside0.mk ((hb14.block _ (blk_lt HN13.out)).trans HN13.out)
    have HP14 := Aside0.mk ((hb14.block _ (blk_lt HP13.out)).trans HP13.out)
    have HQ14 := Aside0.mk ((hb14.block _ (blk_lt HQ.out)).trans HQ.out)
    have HRX14 := Aside0.mk (HRX13.out.below hb14)
    have HRO14 := Aside0.mk (HRO13.out.below hb14)
    have HVK14 : Aside0 (∀ k, k < w10.heap.size → w14.heap[k]? = w10.heap[k]?) := ⟨fun k hk => (hb14.block k (by have := HVV.out.size; have := HSV.out; omega)).trans (HVK.out k hk)⟩
    have HV14 := Aside0.mk (HVV.out.trans (hb14.mono HVV.out.size))
    clear hb14 p0 p1 r0 r1
    clear a0 a1 a2 a3 a4 a5
    clear q0 q1 q2 q3 q4 q5
    have p0 := Mem.cell_of HP14.out 0
    have p1 := Mem.cell_of HP14.out 1
    have r0 := Mem.cell_of HQ14.out 0
    have r1 := Mem.cell_of HQ14.out 1
    have a0 := Mem.cell_of HN14.out 0
    have a1 := Mem.cell_of HN14.out 1
    have a2 := Mem.cell_of HN14.out 2
    have a3 := Mem.cell_of HN14.out 3
    have a4 := Mem.cell_of HN14.out 4
    have a5 := Mem.cell_of HN14.out 5
    go_wp2_with (fail)
    have hsp : Sp w9.heap.size w10.heap.size w14 (szT y) #[.int .i64 y.f0.f0, .int .i64 y.f0.f1, .string y.f1, .string y.f2, .slice C4 y.f3.length g4, .slice C5 y.f4.length g5].toList := Sp.step (fun k _ hk => HVK14.out k hk) _ _ (Sp.made _ _ y _ (Nat.le_refl _) HM10.out)
    have h910 : w9.heap.size ≤ w10.heap.size ∧ w10.heap.size ≤ w14.heap.size := ⟨HS910.out, by have := HV14.out.size; have := HSV.out; omega⟩
    refine (spoil_calls w9.heap.size w10.heap.size _ w14 _ hsp h910.1 h910.2).mono ?_
    rintro e w15 ⟨⟨v15, rfl⟩, hw15⟩
    dsimp only
    have HO15 := Aside0.mk ((hw15.low.block _ (blk_lt HO9.out)).trans HO14.out)
    have HX15 := Aside0.mk ((hw15.low.block _ (blk_lt HX9.out)).trans HX14.out)
    have HBL : Aside0 (Below w9.heap.size w9 w15) := ⟨(HBA.out.trans (HV14.out.mono HBA.out.size)).trans hw15.low⟩
    have HRO15 := Aside0.mk (HRO9.out.below HBL.out)
    have HRX15 := Aside0.mk (HRX9.out.below HBL.out)
    clear hsp h910 hw15 p0 p1 r0 r1
    clear a0 a1 a2 a3 a4 a5
    have a0 := Mem.cell_of HX15.out 0
    have a1 := Mem.cell_of HX15.out 1
    have a2 := Mem.cell_of HX15.out 2
    have a3 := Mem.cell_of HX15.out 3
    have a4 := Mem.cell_of HX15.out 4
    have a5 := Mem.cell_of HX15.out 5
    have o0 := Mem.cell_of HO15.out 0
    have o1 := Mem.cell_of HO15.out 1
    have o2 := Mem.cell_of HO15.out 2
    have o3 := Mem.cell_of HO15.out 3
    have o4 := Mem.cell_of HO15.out 4
    have o5 := Mem.cell_of HO15.out 5
    go_wp2_with (fail)
    refine (rsame_calls _ x x _ _ _ _ _ _ _ _ HRO15.out HRX15.out HF.out).mono ?_
    rintro e w16 ⟨rfl, hb16⟩
    rw [eqT_self]
    dsimp only
    have HB16 := Aside0.mk (HBL.out.trans (hb16.mono HBL.out.size))
    clear hb16
    clear a0 a1 a2 a3 a4 a5
    clear o0 o1 o2 o3 o4 o5
    go_wp2_with (fail)
    refine (awake_calls _).mono ?_
    rintro e w17 ⟨rfl, hb17⟩
    dsimp only
    have HB17 := Aside0.mk (HB16.out.trans (hb17.mono HB16.out.size))
    clear hb17
    go_wp2_with (fail)
    go_ret
    exact ⟨rfl, HB9.out.trans (HB17.out.mono HB9.out.size)⟩
end Go.Proofs.Ytnkbgimihikhoaa.PVt
namespace Go.Proofs.Ytnkbgimihikhoaa.Rdb
open Go.RowKit Go.Proofs.YtnkbgimihikhoaaW.PrintWords
theorem one_le {H : Type} (d : DataW H) : 1 ≤ Rows.uptoBulk d := by
  cases d with
  | lit l => cases l <;> simp [Rows.uptoBulk]
  | _ => simp [Rows.uptoBulk]
theorem sum_le {H : Type} {α : Type} (sz : α → Nat) : ∀ (l : List (DataW H)) (xs : List α), xs.length = l.length → (∀ (i : Nat) a d, xs[i]? = some a → l[i]? = some d → sz a ≤ Rows.uptoBulk d) → (xs.map sz).sum ≤ Rows.uptoBulkAll l
  | [], [], _, _ => by simp [Rows.uptoBulkAll]
  | [], x :: xs, h, _ => by simp at h
  | d :: l, [], h, _ => by simp at h
  | d :: l, x :: xs, h, g => by
    have h1 := g 0 x d rfl rfl
    have h2 := sum_le sz l xs (by simpa using h) (fun i a e h1 h2 => g (i + 1) a e (by simpa using h1) (by simpa using h2))
    simp only [List.map_cons, List.sum_cons, Rows.uptoBulkAll]
    omega
theorem cells_get {w : World} {a : Addr} : ∀ {n : Nat} {cs : List Value}, w.cells? 0 a n = some cs → cs.length = n ∧ ∀ i u, cs[i]? = some u → w.cell? (a.add i) = some u := by
  intro n cs h
  obtain ⟨_, h1, h2⟩ := World.cells?_some h
  refine ⟨h1, fun i u hu => ?_⟩
  have hi := (List.getElem?_eq_some_iff.1 hu).1
  rw [h2 i (by omega)]
  exact hu
/-- Cells of type t that can be read as data are a value of kind d, of size at most the data's bulk. -/
def Reads (N : Nat) {α : Type} (t : TypeId) (d : Kd α) (sz : α → Nat) : Prop :=
  ∀ {H : Type} (enc : TypeId × Value → H) (w : World) (spare : Nat → Bool) (held : Bool) (fuel : Nat) (cs : List Value) (x : DataW H × List MemPlace), fuel ≤ N →
    DataW.trod enc Try.prog w 0 spare held fuel t cs = some x → ∃ a : α, d.K w a cs ∧ sz a ≤ Rows.uptoBulk x.1
theorem int {N : Nat} {t : TypeId} {k : IntKind} (ht : Try.prog.underlying t = some (.int k)) : Reads N t (Kd.int k) (fun _ => 1) := by
  intro H enc w spare held fuel cs x hN h
  obtain ⟨n, rfl, rfl, hw⟩ := DataW.trod_int ht h
  exact ⟨n, rfl, one_le _⟩
theorem bool {N : Nat} {t : TypeId} (ht : Try.prog.underlying t = some .bool) : Reads N t Kd.bool (fun _ => 1) := by
  intro H enc w spare held fuel cs x hN h
  obtain ⟨n, rfl, rfl⟩ := DataW.trod_bool ht h
  exact ⟨n, rfl, one_le _⟩
theorem string {N : Nat} {t : TypeId} (ht : Try.prog.underlying t = some .string) : Reads N t Kd.string (fun s => s.size + 1) := by
  intro H enc w spare held fuel cs x hN h
  obtain ⟨s, rfl, rfl, hw⟩ := DataW.trod_string ht h
  refine ⟨s, rfl, ?_⟩
  simp only [Rows.uptoBulk]
  have : s.data.toList.length = s.size := by rw [Array.length_toList]; rfl
  omega
theorem slice {N : Nat} {α : Type} {t e : TypeId} {d : Kd α} {sz : α → Nat} (ht : Try.prog.underlying t = some (.slice e)) (hc : Try.prog.cellsOf e = d.sz) (R : Reads N e d sz) :
    Reads (N + 1) t (Kd.slice e d) (fun xs => (xs.map sz).sum + 1) := by
  intro H enc w spare held fuel cs x hN h
  rcases DataW.trod_slice ht h with ⟨rfl, rfl⟩ | ⟨a, len, cap, elems, rest, n, hfn, rfl, rfl, _, hlc, hm, hel, hg, _, _⟩
  · exact ⟨[], ⟨none, 0, rfl, Nat.le_refl _, rfl, by simp, fun h => by simp at h⟩, by simp [Rows.uptoBulk]⟩
  · have step : ∀ i, i < len → ∃ (v : α) (c : List Value) (y : DataW H × List MemPlace), elems[i]? = some y ∧ c.length = d.sz ∧ d.K w v c ∧ (∀ j u, c[j]? = some u → w.cell? (a.add (i * d.sz + j)) = some u) ∧ sz v ≤ Rows.uptoBulk y.1 := by
      intro i hi
      have h1 := hg i hi
      obtain ⟨y, hy⟩ : ∃ y, elems[i]? = some y := ⟨_, List.getElem?_eq_getElem (by omega)⟩
      rw [hy] at h1
      obtain ⟨c, hc1, hc2⟩ := Option.bind_eq_some_iff.1 h1
      obtain ⟨v, hv1, hv2⟩ := R enc w spare held n c y (by omega) hc2
      obtain ⟨g1, g2⟩ := cells_get hc1
      rw [hc] at g1 g2
      exact ⟨v, c, y, hy, g1, hv1, fun j u hu => by
        have := g2 j u hu
        rwa [Go.Addr.add_add] at this, hv2⟩
    have build : ∀ m, m ≤ len → ∃ xs : List α, xs.length = m ∧ (∀ (i : Nat) v, xs[i]? = some v → ∃ (c : List Value) (y : DataW H × List MemPlace), elems[i]? = some y ∧ c.length = d.sz ∧ d.K w v c ∧ (∀ j u, c[j]? = some u → w.cell? (a.add (i * d.sz + j)) = some u) ∧ sz v ≤ Rows.uptoBulk y.1) := by
      intro m
      induction m with
      | zero => intro _; exact ⟨[], rfl, fun i v hv => by simp at hv⟩
      | succ m ih =>
        intro hm
        obtain ⟨xs, hx1, hx2⟩ := ih (by omega)
        obtain ⟨v, c, y, hv⟩ := step m (by omega)
        refine ⟨xs ++ [v], by simp [hx1], fun i u hu => ?_⟩
        rcases Nat.lt_or_ge i xs.length with hi | hi
        · rw [List.getElem?_append_left hi] at hu
          exact hx2 i u hu
        · have : i = m := by
            have := (List.getElem?_eq_some_iff.1 hu).1
            rw [List.length_append, List.length_singleton] at this
            omega
          subst this
          have : v = u := by rw [← hx1] at hu; simpa using hu
          subst this
          exact ⟨c, y, hv⟩
    obtain ⟨xs, hx1, hx2⟩ := build len (Nat.le_refl _)
    refine ⟨xs, ⟨some a, cap, by rw [hx1], by omega, ⟨rfl, by unfold maxLen at hm; omega, fun _ => ⟨a, rfl, fun i v hv => ?_⟩⟩⟩, ?_⟩
    · obtain ⟨c, y, _, h2, h3, h4, _⟩ := hx2 i v hv
      exact ⟨c, h2, h3, h4⟩
    · have := sum_le sz (elems.map (·.1)) xs (by rw [List.length_map]; omega) (fun i v y hv hy => by
        obtain ⟨c, z, h1, _, _, _, h5⟩ := hx2 i v hv
        rw [List.getElem?_map, h1] at hy
        have : z.1 = y := by simpa using hy
        rw [← this]; exact h5)
      simp only [Rows.uptoBulk]
      omega
/-- Fields one behind the other, from cell o on. -/
def ReadsAt (N : Nat) {α : Type} (o : Nat) (fs : List Field) (d : Kd α) (sz : α → Nat) : Prop :=
  ∀ {H : Type} (enc : TypeId × Value → H) (w : World) (spare : Nat → Bool) (held : Bool) (n : Nat) (cs : List Value) (xs : List (DataW H × List MemPlace)), n ≤ N → xs.length = fs.length →
    (∀ (i : Nat) (f : Field), fs[i]? = some f → DataW.trod enc Try.prog w 0 spare held n f.type ((cs.drop f.offset).take (Try.prog.cellsOf f.type)) = xs[i]?) →
    ∃ a : α, d.K w a ((cs.drop o).take d.sz) ∧ sz a ≤ Rows.uptoBulkAll (xs.map (·.1))
theorem last {N : Nat} {α : Type} {f : Field} {d : Kd α} {sz : α → Nat} (hc : Try.prog.cellsOf f.type = d.sz) (R : Reads N f.type d sz) : ReadsAt N f.offset [f] d sz := by
  intro H enc w spare held n cs xs hN hl hx
  match xs, hl with
  | [y], _ =>
    have h := hx 0 f rfl
    rw [hc] at h
    obtain ⟨a, h1, h2⟩ := R enc w spare held n _ y hN h
    refine ⟨a, h1, ?_⟩
    simp only [List.map_cons, List.map_nil, Rows.uptoBulkAll]
    omega
theorem more {N : Nat} {α β : Type} {f : Field} {fs : List Field} {d : Kd α} {e : Kd β} {sz : α → Nat} {sz2 : β → Nat} (hc : Try.prog.cellsOf f.type = d.sz) (R : Reads N f.type d sz) (R2 : ReadsAt N (f.offset + d.sz) fs e sz2) :
    ReadsAt N f.offset (f :: fs) (Kd.pair d e) (fun x => sz x.1 + sz2 x.2) := by
  intro H enc w spare held n cs xs hN hl hx
  match xs, hl with
  | y :: ys, hl =>
    have h := hx 0 f rfl
    rw [hc] at h
    obtain ⟨a, h1, h2⟩ := R enc w spare held n _ y hN h
    obtain ⟨b, g1, g2⟩ := R2 enc w spare held n cs ys hN (by simpa using hl) (fun i f' hf => hx (i + 1) f' hf)
    refine ⟨(a, b), ⟨_, _, ?_, h1, g1⟩, ?_⟩
    · show (cs.drop f.offset).take (d.sz + e.sz) = _
      rw [List.take_add, List.drop_drop]
    · simp only [List.map_cons, Rows.uptoBulkAll]
      omega
theorem struct {N : Nat} {α : Type} {t : TypeId} {fs : Array Field} {d : Kd α} {sz : α → Nat} (ht : Try.prog.underlying t = some (.struct fs)) (hc : Try.prog.cellsOf t = d.sz) (R : ReadsAt N 0 fs.toList d sz) : Reads (N + 1) t d (fun a => sz a + 1) := by
  intro H enc w spare held fuel cs x hN h
  obtain ⟨xs, n, hfn, rfl, hl, hlen, hx⟩ := DataW.trod_struct ht h
  obtain ⟨a, h1, h2⟩ := R enc w spare held n cs xs (by omega) (by rw [hlen, Array.length_toList]) (fun i f hf => hx i f (by rwa [Array.getElem?_toList] at hf))
  rw [List.drop_zero, List.take_of_length_le (by rw [hl, hc]; exact Nat.le_refl _)] at h1
  refine ⟨a, h1, ?_⟩
  simp only [Rows.uptoBulk]
  omega
theorem iso {N : Nat} {α β : Type} {t : TypeId} {d : Kd α} {sz : α → Nat} (R : Reads N t d sz) (f : β → α) (g : α → β) (hfg : ∀ a, f (g a) = a) : Reads N t (Kd.iso d f) (fun b => sz (f b)) := by
  intro H enc w spare held fuel cs x hN h
  obtain ⟨a, h1, h2⟩ := R enc w spare held fuel cs x hN h
  refine ⟨g a, ?_, ?_⟩
  · show d.K w (f (g a)) cs
    rw [hfg]; exact h1
  · show sz (f (g a)) ≤ _
    rw [hfg]; exact h2
theorem Reads.less {N M : Nat} {α : Type} {t : TypeId} {d : Kd α} {sz : α → Nat} (R : Reads N t d sz) (h : M ≤ N) : Reads M t d sz := fun enc w spare held fuel cs x hM hx => R enc w spare held fuel cs x (Nat.le_trans hM h) hx
theorem Reads.imp {N : Nat} {α : Type} {t : TypeId} {d d' : Kd α} {sz sz' : α → Nat} (R : Reads N t d sz) (hk : ∀ w a cs, d.K w a cs → d'.K w a cs) (h : ∀ a, sz' a ≤ sz a) : Reads N t d' sz' := fun enc w spare held fuel cs x hN hx => by
  obtain ⟨a, h1, h2⟩ := R enc w spare held fuel cs x hN hx
  exact ⟨a, hk _ _ _ h1, Nat.le_trans (h a) h2⟩
/-- A parameter. -/
theorem Reads.param {α : Type} {t : TypeId} {d : Kd α} {sz : α → Nat} (R : ∀ N, Reads N t d sz) {H : Type} {enc : TypeId × Value → H} {w : World} {spare : Nat → Bool} {held : Bool} {v : Value} {x : DataW H} {ps : List MemPlace}
    (h : DataW.Trod enc Try.prog w 0 spare held t v x ps) : ∃ a : α, d.K w a v.cells.toList ∧ sz a ≤ Rows.uptoBulk x ∧ True := by
  obtain ⟨fuel, hf⟩ := h
  obtain ⟨a, h1, h2⟩ := R fuel enc w spare held fuel _ _ (Nat.le_refl _) hf
  exact ⟨a, h1, h2, trivial⟩
end Go.Proofs.Ytnkbgimihikhoaa.Rdb
namespace Go.Proofs.Ytnkbgimihikhoaa.PVt
open Go.RowKit Go.Proofs.YtnkbgimihikhoaaW.PrintWords Go.Proofs.YtnkbgimihikhoaaW.PrintLast Go.Proofs.YtnkbgimihikhoaaW.PrintMore
set_option linter.unusedVariables false
def bulkA (p : S99) : Nat := (p.f0.size + 1) + (p.f1.size + 1) + 1
mutual
/-- A tree's bulk, at least. -/
def bulkT : S27 → Nat
  | ⟨_, t, u, a, l⟩ => 3 + ((t.size + 1) + ((u.size + 1) + (((a.map bulkA).sum + 1) + (bulkTs l + 1)))) + 1
def bulkTs : List S27 → Nat
  | [] => 0
  | x :: l => bulkT x + bulkTs l
end
theorem bulkT_eq (x : S27) : bulkT x = 3 + ((x.f1.size + 1) + ((x.f2.size + 1) + (((x.f3.map bulkA).sum + 1) + (bulkTs x.f4 + 1)))) + 1 := by cases x; simp [bulkT]
theorem bulkTs_sum : ∀ l : List S27, (l.map bulkT).sum = bulkTs l
  | [] => by simp [bulkTs]
  | x :: l => by simp [bulkTs, bulkTs_sum l]
mutual
theorem bulk_sz : ∀ x : S27, szT x ≤ bulkT x
  | ⟨k, t, u, a, l⟩ => by have := bulk_szs l; rw [szT, bulkT]; omega
theorem bulk_szs : ∀ l : List S27, szTs l ≤ bulkTs l
  | [] => by simp [szTs, bulkTs]
  | x :: l => by have h1 := bulk_sz x; have h2 := bulk_szs l; rw [szTs, bulkTs]; omega
end
theorem bulkA_mem {a : List S99} : ∀ p ∈ a, bulkA p ≤ (a.map bulkA).sum := by
  induction a with
  | nil => intro p hp; cases hp
  | cons q a ih =>
    intro p hp
    rw [List.map_cons, List.sum_cons]
    rcases List.mem_cons.1 hp with rfl | hp
    · omega
    · have := ih p hp; omega
theorem bulkA_len (a : List S99) : a.length ≤ (a.map bulkA).sum := by
  induction a with
  | nil => simp
  | cons q a ih => rw [List.map_cons, List.sum_cons, List.length_cons]; have : 1 ≤ bulkA q := by unfold bulkA; omega
                   omega
theorem bulkTs_len (l : List S27) : l.length ≤ bulkTs l := Nat.le_trans (szTs_len l) (bulk_szs l)
theorem reach_b : reachBytes = 140737488351232 := by decide
mutual
theorem bulk_fit : ∀ x : S27, bulkT x ≤ 1048576 → fitT x
  | ⟨k, t, u, a, l⟩, h => by
    rw [bulkT] at h
    have h1 := bulkA_len a
    have h2 := bulkTs_len l
    have h3 := bulk_fits l (by omega)
    rw [fitT, reach_b]
    refine ⟨by omega, by omega, ⟨by omega, fun p hp => ?_⟩, by omega, h3⟩
    have h4 := bulkA_mem p hp
    have h5 : bulkA p = (p.f0.size + 1) + (p.f1.size + 1) + 1 := rfl
    unfold fitA
    rw [reach_b]
    omega
theorem bulk_fits : ∀ l : List S27, bulkTs l ≤ 1048576 → fitTs l
  | [], _ => by simp [fitTs]
  | x :: l, h => by
    rw [bulkTs] at h
    rw [fitTs]
    exact ⟨bulk_fit x (by omega), bulk_fits l (by omega)⟩
end
theorem bulk23 (N : Nat) : Rdb.Reads N 23 k23 (fun _ => 3) :=
  Rdb.Reads.imp (Rdb.Reads.less (Rdb.iso (Rdb.struct (N := N) Try.underlying23 (by kernel_rfl) (Rdb.more (by kernel_rfl) (Rdb.int Try.underlying3) (Rdb.last (by kernel_rfl) (Rdb.int Try.underlying3)))) (fun x : S23 => (x.f0, x.f1)) (fun p => ⟨p.1, p.2⟩) (fun _ => rfl)) (Nat.le_succ N)) (fun _ _ _ h => h) (fun _ => Nat.le_refl _)
theorem bulk99 (N : Nat) : Rdb.Reads N 99 k99 bulkA :=
  Rdb.Reads.imp (Rdb.Reads.less (Rdb.iso (Rdb.struct (N := N) Try.underlying99 (by kernel_rfl) (Rdb.more (by kernel_rfl) (Rdb.string Try.underlying9) (Rdb.last (by kernel_rfl) (Rdb.string Try.underlying9)))) (fun x : S99 => (x.f0, x.f1)) (fun p => ⟨p.1, p.2⟩) (fun _ => rfl)) (Nat.le_succ N)) (fun _ _ _ h => h) (fun a => Nat.le_refl _)
theorem bulk24 (N : Nat) : Rdb.Reads N 24 (Kd.slice 99 k99) (fun xs => (xs.map bulkA).sum + 1) := Rdb.Reads.less (Rdb.slice (N := N) Try.underlying24 (by kernel_rfl) (bulk99 N)) (Nat.le_succ N)
theorem bulk_step (N : Nat) (ih : Rdb.Reads N 27 k27 bulkT) : Rdb.Reads (N + 2) 27 k27 bulkT :=
  Rdb.Reads.imp (Rdb.iso (Rdb.struct (N := N + 1) Try.underlying27 (by kernel_rfl) (Rdb.more (by kernel_rfl) (bulk23 _) (Rdb.more (by kernel_rfl) (Rdb.string Try.underlying9) (Rdb.more (by kernel_rfl) (Rdb.string Try.underlying9) (Rdb.more (by kernel_rfl) (bulk24 _) (Rdb.last (by kernel_rfl) (Rdb.slice Try.underlying25 (by kernel_rfl) ih))))))) (fun x : S27 => (x.f0, x.f1, x.f2, x.f3, x.f4)) (fun p => ⟨p.1, p.2.1, p.2.2.1, p.2.2.2.1, p.2.2.2.2⟩) (fun _ => rfl)) (fun _ _ _ h => fold27 h) (fun a => by
    rw [bulkT_eq, ← bulkTs_sum]
    exact Nat.le_refl _)
theorem bulk27 : ∀ N, Rdb.Reads N 27 k27 bulkT
  | 0 => fun enc w spare held fuel cs x h0 hx => by
    obtain ⟨_, n, hn, _⟩ := DataW.trod_struct Try.underlying27 hx
    omega
  | 1 => Rdb.Reads.less (bulk_step 0 (bulk27 0)) (by omega)
  | N + 2 => bulk_step N (bulk27 N)
end Go.Proofs.Ytnkbgimihikhoaa.PVt
