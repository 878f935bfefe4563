/-
  What the listed variables of the sha laws lay, and what their arguments read as: shared by all of them. Arrays of bytes as arguments. A list of arrays of 32 bytes as an argument. The laws' argument: a struct of four numbers, two texts, two hashes and two lists of hashes.
-/
import Derived.Test.YtjcmgpiapbeodaaDoorDig
import Derived.Test.YtjcmgpiapbeodaaDoorRows
import Derived.WalkKit
import Derived.Lib.LaidTab
import Derived.Lib.LaidU8
import Derived.Lib.SmallJoins
import Derived.Test.YtjcmgpiapbeodaaDoorStore
import Derived.Deep.Matrix
import Derived.ProofKit
import Derived.OpenShut
import Derived.Deep.DeepHandedRow
import Derived.Test.YtjcmgpiapbeodaaDoorShaState
import Derived.Test.YtjcmgpiapbeodaaDoorRoot
import Derived.SizedLaws
import Derived.Test.YtjcmgpiapbeodaaDoorWSized
import Derived.ChangeOld
set_option linter.unusedSimpArgs false
set_option linter.unusedVariables false
namespace Go.Proofs.YtjcmgpiapbeodaaDoor.Sha
open Go.ChangeShapes Go.WideShapes Go.ChangeAt Go.RowKit
theorem tab_mem {P : Program} {W : World} {l : List (String × DataW Unit)} {name : String} {k : IntKind} {zs : List Int} {g : Nat} {t e : TypeId} {n : Nat}
    (h : laidMet P l W) (hm : (name, Lib.tabData k zs) ∈ l)
    (hg : P.globalNamed name = some g) (hty : (P.globals[g]?).map (·.type) = some t) (ht : P.underlying t = some (.array n e)) (he : P.underlying e = some (.int k)) (hce : P.cellsOf e = 1) (hct : P.cellsOf t = n) : ∀ i, i < zs.length → W.cell? ⟨g, i, none⟩ = some (.int k (zs.getD i 0)) := by
  obtain ⟨g', t', cs, fuel, p, hg', ht', hvar, hd⟩ := Lib.laidMet.reads h hm
  obtain rfl := Option.some.inj (hg.symm.trans hg')
  obtain rfl := Option.some.inj (hty.symm.trans ht')
  have hT : Lib.TabIs P W name k zs := by
    unfold Lib.TabIs
    rw [hvar, ← Lib.cells_of_tab ht he hce hct hd]
  exact fun i hi => hT.cell hg i hi
theorem turns_cells {W : World} {l : List (String × DataW Unit)} {name : String} {g : Nat} (a0 a1 a2 b0 b1 b2 c0 c1 c2 d0 d1 d2 : Int)
    (h : laidMet Tryd.prog l W) (hm : (name, .agg [Lib.tabData .i64 [a0, a1, a2], Lib.tabData .i64 [b0, b1, b2], Lib.tabData .i64 [c0, c1, c2], Lib.tabData .i64 [d0, d1, d2]]) ∈ l)
    (hg : Tryd.prog.globalNamed name = some g) (hty : (Tryd.prog.globals[g]?).map (·.type) = some 169) :
    ∀ i, i < 12 → W.cell? ⟨g, i, none⟩ = [Value.int .i64 a0, .int .i64 a1, .int .i64 a2, .int .i64 b0, .int .i64 b1, .int .i64 b2, .int .i64 c0, .int .i64 c1, .int .i64 c2, .int .i64 d0, .int .i64 d1, .int .i64 d2][i]? := by
  obtain ⟨g', t', cs, fuel, p, hg', ht', hvar, hd⟩ := Lib.laidMet.reads h hm
  obtain rfl := Option.some.inj (hg.symm.trans hg')
  obtain rfl := Option.some.inj (hty.symm.trans ht')
  obtain ⟨y0, y1, y2, y3, n, hx, hl, h0, h1, h2, h3⟩ := Joins.trod_struct4 Tryd.underlying169 hd
  have hct : Tryd.prog.cellsOf 64 = 3 := by kernel_rfl
  have hce : Tryd.prog.cellsOf 3 = 1 := by kernel_rfl
  simp only [Prod.mk.injEq, DataW.agg.injEq, List.cons.injEq, and_true] at hx
  obtain ⟨⟨e0, e1, e2, e3⟩, _⟩ := hx
  have k0 := Lib.cells_of_tab Tryd.underlying64 Tryd.underlying3 hce hct (show DataW.trod _ _ _ _ _ _ n 64 _ = some (Lib.tabData .i64 [a0, a1, a2], y0.2) by rw [e0]; exact h0)
  have k1 := Lib.cells_of_tab Tryd.underlying64 Tryd.underlying3 hce hct (show DataW.trod _ _ _ _ _ _ n 64 _ = some (Lib.tabData .i64 [b0, b1, b2], y1.2) by rw [e1]; exact h1)
  have k2 := Lib.cells_of_tab Tryd.underlying64 Tryd.underlying3 hce hct (show DataW.trod _ _ _ _ _ _ n 64 _ = some (Lib.tabData .i64 [c0, c1, c2], y2.2) by rw [e2]; exact h2)
  have k3 := Lib.cells_of_tab Tryd.underlying64 Tryd.underlying3 hce hct (show DataW.trod _ _ _ _ _ _ n 64 _ = some (Lib.tabData .i64 [d0, d1, d2], y3.2) by rw [e3]; exact h3)
  rw [hct] at k0 k1 k2 k3
  intro i hi
  rw [World.var?_cell hg hvar i]
  have hcs : cs.toList = (cs.toList.drop 0).take 3 ++ ((cs.toList.drop 3).take 3 ++ ((cs.toList.drop 6).take 3 ++ ((cs.toList.drop 9).take 3))) := by
    have hl' : cs.toList.length = 12 := hl.trans (by kernel_rfl)
    have e9 : (cs.toList.drop 9).take 3 = cs.toList.drop 9 := List.take_of_length_le (by rw [List.length_drop, hl']; omega)
    rw [e9]
    have s2 : (cs.toList.drop 6).take 3 ++ cs.toList.drop 9 = cs.toList.drop 6 := by
      have := List.take_append_drop 3 (cs.toList.drop 6)
      rwa [List.drop_drop] at this
    have s1 : (cs.toList.drop 3).take 3 ++ cs.toList.drop 6 = cs.toList.drop 3 := by
      have := List.take_append_drop 3 (cs.toList.drop 3)
      rwa [List.drop_drop] at this
    rw [s2, s1, List.drop_zero, List.take_append_drop]
  have hcs2 : cs.toList = [Value.int .i64 a0, .int .i64 a1, .int .i64 a2, .int .i64 b0, .int .i64 b1, .int .i64 b2, .int .i64 c0, .int .i64 c1, .int .i64 c2, .int .i64 d0, .int .i64 d1, .int .i64 d2] := by
    rw [hcs]
    have q0 : (cs.toList.drop 0).take 3 = [Value.int .i64 a0, .int .i64 a1, .int .i64 a2] := k0
    have q1 : (cs.toList.drop 3).take 3 = [Value.int .i64 b0, .int .i64 b1, .int .i64 b2] := k1
    have q2 : (cs.toList.drop 6).take 3 = [Value.int .i64 c0, .int .i64 c1, .int .i64 c2] := k2
    have q3 : (cs.toList.drop 9).take 3 = [Value.int .i64 d0, .int .i64 d1, .int .i64 d2] := k3
    rw [q0, q1, q2, q3]
    rfl
  rw [← hcs2]
  simp
def nats {w : Nat} (l : List (BitVec w)) : List Int := l.map fun x => (x.toNat : Int)
theorem nats_get {w : Nat} (l : List (BitVec w)) (i : Nat) (h : i < l.length) : (nats l).getD i 0 = (((l.getD i 0).toNat : Nat) : Int) := by
  simp [nats, h]
theorem laid_gen {l : List (String × DataW Unit)} (W : World) (h : laidMet Tryd.prog l W) (hs : W.ShapedOpen Tryd.prog)
    (m256 : ("ledger/sha.rounds256", Lib.tabData .u32 (nats K256)) ∈ l) (m512 : ("ledger/sha.rounds512", Lib.tabData .u64 (nats K512)) ∈ l) (mst : ("ledger/sha.starts", Lib.tabData .u64 (nats start64.list)) ∈ l)
    (mt1 : ("ledger/sha.turns256", .agg [Lib.tabData .i64 [2, 13, 22], Lib.tabData .i64 [6, 11, 25], Lib.tabData .i64 [7, 18, 3], Lib.tabData .i64 [17, 19, 10]]) ∈ l)
    (mt2 : ("ledger/sha.turns512", .agg [Lib.tabData .i64 [28, 34, 39], Lib.tabData .i64 [14, 18, 41], Lib.tabData .i64 [1, 8, 7], Lib.tabData .i64 [19, 61, 6]]) ∈ l) : Laid W := by
  have hsize : low ≤ W.heap.size := by
    have hz : (((begin Tryd.prog (fun _ _ => 0) default).world.heap[4]?).bind Obj.row?).isSome = true := by kernel_rfl
    obtain ⟨⟨zero, t⟩, hz⟩ := Option.isSome_iff_exists.1 hz
    obtain ⟨cs, hcs, _⟩ := hs.1 4 zero t (of_decide_eq_true (by kernel_rfl)) hz
    have : 4 < W.heap.size := by
      rcases Nat.lt_or_ge 4 W.heap.size with h | h
      · exact h
      · rw [Array.getElem?_eq_none h] at hcs; cases hcs
    exact this
  refine ⟨hsize, ⟨Nat.lt_of_lt_of_le (by decide) hsize, fun i hi => ?_⟩, ⟨Nat.lt_of_lt_of_le (by decide) hsize, fun i hi => ?_⟩, ?_, ?_, fun i hi => ?_⟩
  · have hl : K256.length = 64 := by kernel_rfl
    rw [← nats_get K256 i (by omega)]
    exact tab_mem h m256 (g := 1) (by kernel_rfl) (t := 163) (by kernel_rfl) Tryd.underlying163 Tryd.underlying127 (by kernel_rfl) (by kernel_rfl) i (by simp [nats]; omega)
  · have hl : K512.length = 80 := by kernel_rfl
    rw [← nats_get K512 i (by omega)]
    exact tab_mem h m512 (g := 3) (by kernel_rfl) (t := 170) (by kernel_rfl) Tryd.underlying170 Tryd.underlying129 (by kernel_rfl) (by kernel_rfl) i (by simp [nats]; omega)
  · exact turns_cells (name := "ledger/sha.turns256") 2 13 22 6 11 25 7 18 3 17 19 10 (l := l) h mt1 (by kernel_rfl) (by kernel_rfl)
  · exact turns_cells (name := "ledger/sha.turns512") 28 34 39 14 18 41 1 8 7 19 61 6 (l := l) h mt2 (by kernel_rfl) (by kernel_rfl)
  · have hl : start64.list.length = 8 := rfl
    rw [← nats_get start64.list i (by omega)]
    exact tab_mem h mst (g := 0) (by kernel_rfl) (t := 130) (by kernel_rfl) Tryd.underlying130 Tryd.underlying129 (by kernel_rfl) (by kernel_rfl) i (by simp [nats]; omega)
def IsRow (k : IntKind) (w : World) (a : Option Addr) (len cap : Nat) (zs : List Int) : Prop :=
  (a = none ∧ len = 0 ∧ cap = 0 ∧ zs = []) ∨
  ∃ x, a = some x ∧ len ≤ cap ∧ cap ≤ maxLen ∧ zs.length = cap ∧ (∀ i, i < zs.length → w.cell? (x.add i) = some (.int k (zs.getD i 0))) ∧ ∀ n ∈ zs, (Lit.int k n).wf = true
theorem open_at {w : World} {x : Addr} {v : Value} (h : w.cell? (x.add 0) = some v) : x = ⟨x.block, x.off, none⟩ ∧ x.block < w.heap.size := by
  rw [Addr.add_zero'] at h
  have hs : x.spot = none := by
    unfold World.cell? at h
    cases hsp : x.spot with
    | none => rfl
    | some s => rw [hsp] at h; split at h <;> simp at h
  exact ⟨by cases x; simp at hs; subst hs; rfl, World.block_lt_of_cell? w _ h⟩
theorem src_of_row {w : World} {a : Option Addr} {len cap : Nat} {zs : List Int} (h : IsRow .u8 w a len cap zs) : (zs.take len).length = len ∧ Src w (fun _ => False) a cap (zs.take len) := by
  rcases h with ⟨rfl, rfl, rfl, rfl⟩ | ⟨x, rfl, hl, _, hz, hc, _⟩
  · exact ⟨rfl, Nat.le_refl _, .inl ⟨rfl, rfl, rfl⟩⟩
  · have htl : (zs.take len).length = len := by rw [List.length_take]; omega
    refine ⟨htl, by omega, ?_⟩
    rcases Nat.eq_zero_or_pos len with h0 | h0
    · subst h0
      exact .inr (.inl ⟨rfl, x, rfl⟩)
    · obtain ⟨e, hb⟩ := open_at (hc 0 (by omega))
      refine .inr (.inr ⟨x.block, x.off, by rw [← e], ⟨hb, fun i hi => ?_⟩, fun h => h⟩)
      have hi' : i < len := by omega
      have := hc i (by omega)
      rw [e, Addr.add_lit] at this
      rw [this]
      simp [hi']
theorem ints_of_row {w : World} {a : Option Addr} {len cap : Nat} {zs : List Int} (h : IsRow .i64 w a len cap zs) :
    (∀ i, -9223372036854775808 ≤ zs.getD i 0 ∧ zs.getD i 0 ≤ 9223372036854775807) ∧ (len = 0 ∨ ∃ bc oc, a = some ⟨bc, oc, none⟩ ∧ bc < w.heap.size ∧ ∀ i, i < len → w.cell? ⟨bc, oc + i, none⟩ = some (.int .i64 (zs.getD i 0))) := by
  rcases h with ⟨rfl, rfl, rfl, rfl⟩ | ⟨x, rfl, hl, _, hz, hc, hwf⟩
  · exact ⟨fun i => by simp, .inl rfl⟩
  · refine ⟨fun i => ?_, ?_⟩
    · rw [List.getD_eq_getElem?_getD]
      cases hx : zs[i]? with
      | none => simp
      | some v =>
        have := hwf v (List.mem_of_getElem? hx)
        have e1 : IntKind.i64.min = -9223372036854775808 := by decide
        have e2 : IntKind.i64.max = 9223372036854775807 := by decide
        simp only [Lit.wf, Bool.and_eq_true, decide_eq_true_eq, e1, e2] at this
        simpa using this
    · rcases Nat.eq_zero_or_pos len with h0 | h0
      · exact .inl h0
      · obtain ⟨e, hb⟩ := open_at (hc 0 (by omega))
        refine .inr ⟨x.block, x.off, by rw [← e], hb, fun i hi => ?_⟩
        have := hc i (by omega)
        rw [e, Addr.add_lit] at this
        exact this
/-- rows of bytes: a list of lists -/
def IsRows (w : World) (a : Option Addr) (len : Nat) (A : Nat → Option Addr) (C : Nat → Nat) (P : Nat → List Int) : Prop :=
  len = 0 ∨ ∃ bp op, a = some ⟨bp, op, none⟩ ∧ bp < w.heap.size ∧ ∀ r, r < len → w.cell? ⟨bp, op + r, none⟩ = some (.slice (A r) (P r).length (C r)) ∧ Src w (fun _ => False) (A r) (C r) (P r)
theorem src_of_cells {w : World} {a : Option Addr} {len cap : Nat} {zs : List Int} (hl : len ≤ cap) (hz : zs.length = cap) (hn : a = none → cap = 0) (hc : ∀ x, a = some x → ∀ c, c < cap → w.cell? (x.add c) = some (.int .u8 (zs.getD c 0))) : (zs.take len).length = len ∧ Src w (fun _ => False) a cap (zs.take len) := by
  have htl : (zs.take len).length = len := by rw [List.length_take]; omega
  refine ⟨htl, by omega, ?_⟩
  cases a with
  | none =>
    have := hn rfl
    exact .inl ⟨rfl, this, List.eq_nil_of_length_eq_zero (by omega)⟩
  | some x =>
    rcases Nat.eq_zero_or_pos len with h0 | h0
    · subst h0
      exact .inr (.inl ⟨rfl, x, rfl⟩)
    · obtain ⟨e, hb⟩ := open_at (hc x rfl 0 (by omega))
      refine .inr (.inr ⟨x.block, x.off, by rw [← e], ⟨hb, fun i hi => ?_⟩, fun h => h⟩)
      have hi' : i < len := by omega
      have := hc x rfl i (by omega)
      rw [e, Addr.add_lit] at this
      rw [this]
      simp [hi']
theorem rows_of {H : Type} {enc : TypeId × Value → H} {P : Program} {w : World} {base : Nat} {held : Bool} {t e q : TypeId} {fuel : Nat} {v : Value} {x : DataW H × List MemPlace} (ht : P.underlying t = some (.slice e)) (he : P.underlying e = some (.slice q)) (hq : P.underlying q = some (.int .u8))
    (ce : P.cellsOf e = 1) (cq : P.cellsOf q = 1) (h : DataW.trod enc P w base (fun _ => true) held fuel t [v] = some x) :
    ∃ a len cap A C Z, v = .slice a len cap ∧ IsRows w a len A C Z ∧ (len = 0 ∨ ∃ (B : Nat → Option Addr) (L : Nat → Nat) (Y : Nat → List Int) (spare : List (DataW H)), x.1 = .slice ((List.range len).map fun r => Deep.intRow .u8 (B r) (L r) (Y r)) spare ∧ ∀ r, r < len → Z r = (Y r).take (L r) ∧ (B r = none → Z r = [])) := by
  rcases Deep.open_int_rows ht he hq ce cq h with ⟨hcs, hx⟩ | ⟨a, len, cap, B, L, C, Y, hcs, _, hl, hm, hx, hr⟩
  · obtain rfl : v = .slice none 0 0 := by simpa using hcs
    exact ⟨none, 0, 0, fun _ => none, fun _ => 0, fun _ => [], rfl, .inl rfl, .inl rfl⟩
  · obtain rfl : v = .slice (some a) len cap := by simpa using hcs
    refine ⟨some a, len, cap, B, C, fun r => (Y r).take (L r), rfl, ?_, .inr ⟨B, L, Y, _, by rw [hx], fun r hr' => ⟨rfl, fun hb => ?_⟩⟩⟩
    · rcases Nat.eq_zero_or_pos len with h0 | h0
      · exact .inl h0
      · obtain ⟨e0, hb⟩ := open_at (hr 0 (by omega)).1
        refine .inr ⟨a.block, a.off, by rw [← e0], hb, fun r hr' => ?_⟩
        obtain ⟨r1, r2, _, r4, _, r6, r7⟩ := hr r (by omega)
        obtain ⟨s1, s2⟩ := src_of_cells (w := w) r2 r4 r6 (fun x hx c hc => (r7 x hx).2 c hc)
        rw [e0, Addr.add_lit] at r1
        exact ⟨by rw [s1]; exact r1, s2⟩
    · obtain ⟨_, r2, _, r4, _, r6, _⟩ := hr r (by omega)
      have := r6 hb
      exact List.eq_nil_of_length_eq_zero (by rw [List.length_take]; omega)
def put (cs : List Value) : Obj → Obj
  | .cells _ t frozen => .cells cs.toArray t frozen
  | o => o
end Go.Proofs.YtjcmgpiapbeodaaDoor.Sha
namespace Go.Proofs.YtjcmgpiapbeodaaDoor.Sha
open Go.RowKit Go.Proofs.YtjcmgpiapbeodaaDoor.Mem
section
variable {H : Type} {enc : TypeId × Value → H} {P : Program} {w : World} {base : Nat} {sp : Nat → Bool} {held : Bool}
theorem trod_agg {fuel : Nat} {t e : TypeId} {n : Nat} {cs : List Value} {d : DataW H} {p : List MemPlace} (ht : P.underlying t = some (.array n e))
    (h : DataW.trod enc P w base sp held fuel t cs = some (d, p)) : (∃ ds, d = .agg ds) ∧ cs.length = P.cellsOf t := by
  cases fuel with
  | zero => simp [DataW.trod] at h
  | succ fuel =>
    simp only [DataW.trod, ht] at h
    split at h
    · rename_i hl
      obtain ⟨xs, hm, hx⟩ := Option.map_eq_some_iff.1 h
      exact ⟨⟨_, (congrArg Prod.fst hx).symm⟩, hl⟩
    · cases h
theorem ints_of_arr {fuel : Nat} {t e : TypeId} {n : Nat} {k : IntKind} {cs : List Value} {d : DataW H} {p : List MemPlace} (ht : P.underlying t = some (.array n e)) (he : P.underlying e = some (.int k)) (hce : P.cellsOf e = 1) (hct : P.cellsOf t = n)
    (h : DataW.trod enc P w base sp held fuel t cs = some (d, p)) : ∃ zs : List Int, zs.length = n ∧ cs = zs.map (Value.int k) ∧ ∀ z ∈ zs, (Lit.int k z).wf = true := by
  obtain ⟨⟨ds, rfl⟩, hl⟩ := trod_agg ht h
  rw [hct] at hl
  have el : ∀ i, i < n → ∃ z, cs[i]? = some (.int k z) ∧ (Lit.int k z).wf = true := fun i hi => by
    obtain ⟨f', d', q, _, htr⟩ := Lib.array_elem ht h i hi
    rw [hce, Nat.mul_one] at htr
    obtain ⟨z, hz, _, hw⟩ := DataW.trod_int he htr
    refine ⟨z, ?_, hw⟩
    have h1 := congrArg (fun l : List Value => l[0]?) hz
    simpa [List.getElem?_take, List.getElem?_drop] using h1
  refine ⟨cs.map (fun v => match v with | .int _ z => z | _ => 0), by simpa using hl, ?_, ?_⟩
  · apply List.ext_getElem?
    intro i
    rcases Nat.lt_or_ge i n with hi | hi
    · obtain ⟨z, hz, _⟩ := el i hi
      simp [hz]
    · rw [List.getElem?_eq_none (by omega), List.getElem?_eq_none (by simp; omega)]
  · intro z hz
    obtain ⟨v, hv, rfl⟩ := List.mem_map.1 hz
    obtain ⟨i, hi, he⟩ := List.getElem_of_mem hv
    obtain ⟨z, h1, h2⟩ := el i (by omega)
    rw [List.getElem?_eq_getElem hi, he] at h1
    obtain rfl := Option.some.inj h1
    exact h2
/-- two rows of ints, one behind the other -/
theorem ints_of_two {fuel : Nat} {t e q : TypeId} {n : Nat} {k : IntKind} {cs : List Value} {d : DataW H} {p : List MemPlace} (ht : P.underlying t = some (.array 2 e)) (he : P.underlying e = some (.array n q)) (hq : P.underlying q = some (.int k)) (hcq : P.cellsOf q = 1) (hce : P.cellsOf e = n) (hct : P.cellsOf t = 2 * n)
    (h : DataW.trod enc P w base sp held fuel t cs = some (d, p)) : ∃ xs ys : List Int, xs.length = n ∧ ys.length = n ∧ cs = xs.map (Value.int k) ++ ys.map (Value.int k) ∧ (∀ z ∈ xs, (Lit.int k z).wf = true) ∧ ∀ z ∈ ys, (Lit.int k z).wf = true := by
  obtain ⟨⟨ds, rfl⟩, hl⟩ := trod_agg ht h
  rw [hct] at hl
  obtain ⟨f0, d0, q0, _, h0⟩ := Lib.array_elem ht h 0 (by omega)
  obtain ⟨f1, d1, q1, _, h1⟩ := Lib.array_elem ht h 1 (by omega)
  rw [hce] at h0 h1
  obtain ⟨xs, hx, ex, wx⟩ := ints_of_arr he hq hcq hce h0
  obtain ⟨ys, hy, ey, wy⟩ := ints_of_arr he hq hcq hce h1
  refine ⟨xs, ys, hx, hy, ?_, wx, wy⟩
  rw [← ex, ← ey, Nat.zero_mul, List.drop_zero, Nat.one_mul]
  have : (cs.drop n).take n = cs.drop n := List.take_of_length_le (by rw [List.length_drop]; omega)
  rw [this, List.take_append_drop]
end
end Go.Proofs.YtjcmgpiapbeodaaDoor.Sha
namespace Go.Proofs.YtjcmgpiapbeodaaDoor.Sha
open Go.RowKit Go.Proofs.YtjcmgpiapbeodaaDoor.Mem Go.ChangeShapes Go.WideShapes
theorem flat_get {L : List (List Int)} (h : ∀ x ∈ L, x.length = 32) (i j : Nat) (hi : i < L.length) (hj : j < 32) : L.flatten.getD (32 * i + j) 0 = (L[i]).getD j 0 := by
  rw [← flat_row h i hi]
  simp only [List.getD, List.getElem?_take_of_lt hj, List.getElem?_drop]
theorem hopen_at {w : World} {x : Addr} {v : Value} (h : w.cell? (x.add 0) = some v) : x = ⟨x.block, x.off, none⟩ ∧ x.block < w.heap.size := by
  rw [Addr.add_zero'] at h
  have hs : x.spot = none := by
    unfold World.cell? at h
    cases hsp : x.spot with
    | none => rfl
    | some s => rw [hsp] at h; split at h <;> simp at h
  exact ⟨by cases x; simp at hs; subst hs; rfl, World.block_lt_of_cell? w _ h⟩
section
variable {H : Type} {enc : TypeId × Value → H} {P : Program} {w : World} {base : Nat} {held : Bool}
theorem hrows_of {t e q : TypeId} {fuel : Nat} {a : Option Addr} {len cap : Nat} {x : DataW H × List MemPlace} (ht : P.underlying t = some (.slice e)) (he : P.underlying e = some (.array 32 q)) (hq : P.underlying q = some (.int .u8))
    (ce : P.cellsOf e = 32) (cq : P.cellsOf q = 1) (h : DataW.trod enc P w base (fun _ => true) held fuel t [.slice a len cap] = some x) :
    ∃ L : List (List Int), L.length = len ∧ HRow w (fun _ => False) a cap L ∧ (len = 0 ∨ ∃ elems rest : List (DataW H), x.1 = .slice elems rest ∧ elems.length = len) := by
  cases fuel with
  | zero => simp [DataW.trod] at h
  | succ fuel =>
    cases a with
    | none =>
      have h0 : len = 0 ∧ cap = 0 := by
        simp only [DataW.trod, ht] at h
        split at h <;> simp_all
      obtain ⟨rfl, rfl⟩ := h0
      exact ⟨[], rfl, ⟨by simp, Nat.le_refl _, .inl ⟨rfl, rfl, rfl⟩⟩, .inl rfl⟩
    | some a =>
      simp only [DataW.trod, ht] at h
      split at h
      · rename_i hb
        obtain ⟨elems, hm, h2⟩ := Option.bind_eq_some_iff.1 h
        obtain ⟨rest, _, hx⟩ := Option.map_eq_some_iff.1 h2
        have hel : elems.length = len := by simpa using mapM_some_length hm
        have each : ∀ i, i < len → ∃ zs : List Int, zs.length = 32 ∧ ∀ j, j < 32 → w.cell? ((a.add (i * 32)).add j) = some (.int .u8 (zs.getD j 0)) := by
          intro i hi
          obtain ⟨b, _, hb2⟩ := Lib.mapM_at hm i i (by simp [hi])
          rw [ce] at hb2
          obtain ⟨cs, hcs, htr⟩ := Option.bind_eq_some_iff.1 hb2
          obtain ⟨_, _, hcell⟩ := World.cells?_some hcs
          obtain ⟨d, p⟩ := b
          obtain ⟨zs, hz, rfl, _⟩ := ints_of_arr he hq cq ce htr
          refine ⟨zs, hz, fun j hj => ?_⟩
          rw [hcell j hj]
          simp [List.getElem?_eq_getElem (show j < zs.length by omega)]
        obtain ⟨y, hy⟩ := Deep.choose_lt each
        refine ⟨(List.range len).map y, by simp, ?_, .inr ⟨_, _, by rw [← hx], by rw [List.length_map, hel]⟩⟩
        have h32 : ∀ z ∈ (List.range len).map y, z.length = 32 := by
          intro z hz
          obtain ⟨i, hi, rfl⟩ := List.mem_map.1 hz
          exact (hy i (List.mem_range.1 hi)).1
        refine ⟨h32, by simpa using hb.2.1, ?_⟩
        rcases Nat.eq_zero_or_pos len with h0 | h0
        · subst h0
          exact .inr (.inl ⟨rfl, a, rfl⟩)
        · have h00 := (hy 0 h0).2 0 (by decide)
          rw [Nat.zero_mul, Addr.add_zero'] at h00
          obtain ⟨ea, hbk⟩ := hopen_at h00
          refine .inr (.inr ⟨a.block, a.off, by rw [← ea], ⟨hbk, fun i hi => ?_⟩, fun h => h⟩)
          rw [flat_len h32, List.length_map, List.length_range] at hi
          have h1 := (hy (i / 32) (by omega)).2 (i % 32) (Nat.mod_lt _ (by decide))
          rw [ea, Addr.add_lit, Addr.add_lit] at h1
          have h3 := flat_get h32 (i / 32) (i % 32) (by simp; omega) (Nat.mod_lt _ (by decide))
          rw [show 32 * (i / 32) + i % 32 = i by omega] at h3
          simp only [List.getElem_map, List.getElem_range] at h3
          rw [h3, ← h1]
          congr 2
          omega
      · cases h
/-- how long such a list may be -/
theorem sized_hashes {t e : TypeId} {len : Nat} {d : DataW H} {ts : List TypeId} {ds : List (DataW H)} {j : Nat}
    (hsz : (DataW.weightsEach P ts ds).all (· ≤ reachBytes) = true) (ht : ts[j]? = some t) (hd : ds[j]? = some d) (hu : P.underlying t = some (.slice e)) (hB : P.bytesOf e = 32)
    (h : len = 0 ∨ ∃ elems rest : List (DataW H), d = .slice elems rest ∧ elems.length = len) : len * 32 ≤ 140737488351232 := by
  rcases h with rfl | ⟨elems, rest, rfl, hl⟩
  · omega
  · have z := sized_slice hsz ht hd hu
    rw [hB] at z
    exact Nat.le_trans (by omega) z
end
end Go.Proofs.YtjcmgpiapbeodaaDoor.Sha
namespace Go.Proofs.YtjcmgpiapbeodaaDoor.Sha
open Go.ChangeShapes Go.WideShapes Go.ChangeAt Go.RowKit Go.Proofs.YtjcmgpiapbeodaaDoor.Mem
/-- what the cells of the laws' argument are -/
def Twn (w : World) (cs : List Value) : Prop :=
    cs.length = 72 ∧ (∃ k n m i : Int, cs[0]? = some (.int .i64 k) ∧ cs[1]? = some (.int .i64 n) ∧ cs[2]? = some (.int .i64 m) ∧ cs[3]? = some (.int .i64 i) ∧ ∀ z ∈ [k, n, m, i], -9223372036854775808 ≤ z ∧ z ≤ 9223372036854775807) ∧
    (∃ a c p, cs[4]? = some (.slice a p.length c) ∧ Src w (fun _ => False) a c p ∧ (∀ b ∈ p, 0 ≤ b ∧ b < 256) ∧ p.length ≤ 140737488351232) ∧
    (∃ a c p, cs[5]? = some (.slice a p.length c) ∧ Src w (fun _ => False) a c p ∧ (∀ b ∈ p, 0 ≤ b ∧ b < 256) ∧ p.length ≤ 140737488351232) ∧
    (∃ X Y : List Int, X.length = 32 ∧ Y.length = 32 ∧ (∀ b ∈ X, 0 ≤ b ∧ b < 256) ∧ (∀ b ∈ Y, 0 ≤ b ∧ b < 256) ∧ (cs.drop 6).take 32 = bytes X ∧ (cs.drop 38).take 32 = bytes Y) ∧
    (∃ a c, ∃ L : List (List Int), cs[70]? = some (.slice a L.length c) ∧ HRow w (fun _ => False) a c L ∧ L.length * 32 ≤ 140737488351232 ∧ ∀ x ∈ L, ∀ b ∈ x, 0 ≤ b ∧ b < 256) ∧
    (∃ a c, ∃ L : List (List Int), cs[71]? = some (.slice a L.length c) ∧ HRow w (fun _ => False) a c L ∧ L.length * 32 ≤ 140737488351232 ∧ ∀ x ∈ L, ∀ b ∈ x, 0 ≤ b ∧ b < 256)
section
variable {H : Type} {enc : TypeId × Value → H} {w : World}
theorem irow_cells {fuel : Nat} {cs : List Value} {d : DataW H} {p : List MemPlace} (h : DataW.trod enc Tryd.prog w 0 (fun _ => true) true fuel 22 cs = some (d, p)) :
    ∃ a len cap zs, cs = [.slice a len cap] ∧ IsRow .u8 w a len cap zs := by
  rcases open_ints Tryd.underlying22 Tryd.underlying5 (by kernel_rfl) h with ⟨hcs, _⟩ | ⟨x, l, c, zs, hcs, _, hl, hm, hz, _, hcell, hwz⟩
  · exact ⟨none, 0, 0, [], hcs, .inl ⟨rfl, rfl, rfl, rfl⟩⟩
  · exact ⟨some x, l, c, zs, hcs, .inr ⟨_, rfl, hl, hm, by simpa using hz, hcell, hwz⟩⟩
theorem cell_of {cs : List Value} {o : Nat} {v : Value} (h : (cs.drop o).take 1 = [v]) : cs[o]? = some v := by
  have h1 := congrArg (fun l : List Value => l[0]?) h
  simpa [List.getElem?_take, List.getElem?_drop] using h1
theorem byt_wf {zs : List Int} (h : ∀ z ∈ zs, (Lit.int .u8 z).wf = true) : ∀ b ∈ zs, 0 ≤ b ∧ b < 256 := fun z hz => by
  have := h z hz
  have e1 : IntKind.u8.min = 0 := by decide
  have e2 : IntKind.u8.max = 255 := by decide
  simp only [Lit.wf, Bool.and_eq_true, decide_eq_true_eq, e1, e2] at this
  omega
theorem bs_row {w : World} {a : Option Addr} {len cap : Nat} {zs : List Int} (h : IsRow .u8 w a len cap zs) : ∀ b ∈ zs.take len, 0 ≤ b ∧ b < 256 := by
  rcases h with ⟨rfl, rfl, rfl, rfl⟩ | ⟨x, rfl, _, _, _, _, hw⟩
  · intro b hb
    simp at hb
  · exact fun b hb => byt_wf hw b (List.mem_of_mem_take hb)
theorem hrows_byt {P : Program} {base : Nat} {held : Bool} {t e q : TypeId} {fuel : Nat} {a : Option Addr} {len cap : Nat} {x : DataW H × List MemPlace} (ht : P.underlying t = some (.slice e)) (he : P.underlying e = some (.array 32 q)) (hq : P.underlying q = some (.int .u8))
    (ce : P.cellsOf e = 32) (cq : P.cellsOf q = 1) (h : DataW.trod enc P w base (fun _ => true) held fuel t [.slice a len cap] = some x) :
    ∃ L : List (List Int), L.length = len ∧ HRow w (fun _ => False) a cap L ∧ (∀ x ∈ L, ∀ b ∈ x, 0 ≤ b ∧ b < 256) ∧ (len = 0 ∨ ∃ elems rest : List (DataW H), x.1 = .slice elems rest ∧ elems.length = len) := by
  cases fuel with
  | zero => simp [DataW.trod] at h
  | succ fuel =>
    cases a with
    | none =>
      have h0 : len = 0 ∧ cap = 0 := by
        simp only [DataW.trod, ht] at h
        split at h <;> simp_all
      obtain ⟨rfl, rfl⟩ := h0
      exact ⟨[], rfl, ⟨by simp, Nat.le_refl _, .inl ⟨rfl, rfl, rfl⟩⟩, by simp, .inl rfl⟩
    | some a =>
      simp only [DataW.trod, ht] at h
      split at h
      · rename_i hb
        obtain ⟨elems, hm, h2⟩ := Option.bind_eq_some_iff.1 h
        obtain ⟨rest, _, hx⟩ := Option.map_eq_some_iff.1 h2
        have hel : elems.length = len := by simpa using mapM_some_length hm
        have each : ∀ i, i < len → ∃ zs : List Int, (zs.length = 32 ∧ ∀ b ∈ zs, 0 ≤ b ∧ b < 256) ∧ ∀ j, j < 32 → w.cell? ((a.add (i * 32)).add j) = some (.int .u8 (zs.getD j 0)) := by
          intro i hi
          obtain ⟨b, _, hb2⟩ := Lib.mapM_at hm i i (by simp [hi])
          rw [ce] at hb2
          obtain ⟨cs, hcs, htr⟩ := Option.bind_eq_some_iff.1 hb2
          obtain ⟨_, _, hcell⟩ := World.cells?_some hcs
          obtain ⟨d, p⟩ := b
          obtain ⟨zs, hz, rfl, hwf⟩ := ints_of_arr he hq cq ce htr
          refine ⟨zs, ⟨hz, byt_wf hwf⟩, fun j hj => ?_⟩
          rw [hcell j hj]
          simp [List.getElem?_eq_getElem (show j < zs.length by omega)]
        obtain ⟨y, hy⟩ := Deep.choose_lt each
        refine ⟨(List.range len).map y, by simp, ?_, fun x hx => by
          obtain ⟨i, hi, rfl⟩ := List.mem_map.1 hx
          exact (hy i (List.mem_range.1 hi)).1.2, .inr ⟨_, _, by rw [← hx], by rw [List.length_map, hel]⟩⟩
        have h32 : ∀ z ∈ (List.range len).map y, z.length = 32 := by
          intro z hz
          obtain ⟨i, hi, rfl⟩ := List.mem_map.1 hz
          exact (hy i (List.mem_range.1 hi)).1.1
        refine ⟨h32, by simpa using hb.2.1, ?_⟩
        rcases Nat.eq_zero_or_pos len with h0 | h0
        · subst h0
          exact .inr (.inl ⟨rfl, a, rfl⟩)
        · have h00 := (hy 0 h0).2 0 (by decide)
          rw [Nat.zero_mul, Addr.add_zero'] at h00
          obtain ⟨ea, hbk⟩ := hopen_at h00
          refine .inr (.inr ⟨a.block, a.off, by rw [← ea], ⟨hbk, fun i hi => ?_⟩, fun h => h⟩)
          rw [flat_len h32, List.length_map, List.length_range] at hi
          have h1 := (hy (i / 32) (by omega)).2 (i % 32) (Nat.mod_lt _ (by decide))
          rw [ea, Addr.add_lit, Addr.add_lit] at h1
          have h3 := flat_get h32 (i / 32) (i % 32) (by simp; omega) (Nat.mod_lt _ (by decide))
          rw [show 32 * (i / 32) + i % 32 = i by omega] at h3
          simp only [List.getElem_map, List.getElem_range] at h3
          rw [h3, ← h1]
          congr 2
          omega
      · cases h
theorem hrow_cells {fuel : Nat} {cs : List Value} {d : DataW H} {p : List MemPlace} (h : DataW.trod enc Tryd.prog w 0 (fun _ => true) true fuel 24 cs = some (d, p)) :
    ∃ a cap, ∃ L : List (List Int), cs = [.slice a L.length cap] ∧ HRow w (fun _ => False) a cap L ∧ (∀ x ∈ L, ∀ b ∈ x, 0 ≤ b ∧ b < 256) ∧ (L.length = 0 ∨ ∃ elems rest : List (DataW H), d = .slice elems rest ∧ elems.length = L.length) := by
  rcases DataW.trod_slice Tryd.underlying24 h with ⟨rfl, _⟩ | ⟨a, len, cap, _, _, _, _, rfl, _⟩
  · obtain ⟨L, hl, hx, hb, hd⟩ := hrows_byt Tryd.underlying24 Tryd.underlying23 Tryd.underlying5 (by kernel_rfl) (by kernel_rfl) h
    exact ⟨none, 0, L, by rw [hl], hx, hb, by rw [hl]; exact hd⟩
  · obtain ⟨L, hl, hx, hb, hd⟩ := hrows_byt Tryd.underlying24 Tryd.underlying23 Tryd.underlying5 (by kernel_rfl) (by kernel_rfl) h
    exact ⟨some a, cap, L, by rw [hl], hx, hb, by rw [hl]; exact hd⟩
set_option maxRecDepth 100000 in
set_option maxHeartbeats 2000000 in
/-- what the struct's cells are -/
theorem twin_of {fuel : Nat} {cs : List Value} {x : DataW H × List MemPlace} (h : DataW.trod enc Tryd.prog w 0 (fun _ => true) true fuel 26 cs = some x)
    (hsz : ∀ n ∈ DataW.weights Tryd.prog 26 x.1, n ≤ reachBytes) :
    Twn w cs := by
  obtain ⟨xs, n, rfl, rfl, hl, hlen, hf⟩ := DataW.trod_struct Tryd.underlying26 h
  have c1 : Tryd.prog.cellsOf 3 = 1 := by kernel_rfl
  have c2 : Tryd.prog.cellsOf 22 = 1 := by kernel_rfl
  have c3 : Tryd.prog.cellsOf 23 = 32 := by kernel_rfl
  have c4 : Tryd.prog.cellsOf 24 = 1 := by kernel_rfl
  have c5 : Tryd.prog.cellsOf 26 = 72 := by kernel_rfl
  have hsz' : (DataW.weightsEach Tryd.prog [3, 3, 3, 3, 22, 22, 23, 23, 24, 24] (xs.map (·.1))).all (· ≤ reachBytes) = true := by
    rw [List.all_eq_true]
    intro n hn
    have := hsz n (by simp only [DataW.weights, Tryd.underlying26]; exact hn)
    simpa using this
  obtain ⟨y0, y1, y2, y3, y4, y5, y6, y7, y8, y9, rfl⟩ : ∃ y0 y1 y2 y3 y4 y5 y6 y7 y8 y9, xs = [y0, y1, y2, y3, y4, y5, y6, y7, y8, y9] := by
    match xs, hlen with
    | [y0, y1, y2, y3, y4, y5, y6, y7, y8, y9], _ => exact ⟨y0, y1, y2, y3, y4, y5, y6, y7, y8, y9, rfl⟩
  have f0 : DataW.trod enc Tryd.prog w 0 (fun _ => true) true n 3 ((cs.drop 0).take (Tryd.prog.cellsOf 3)) = some y0 := hf 0 _ rfl
  rw [c1] at f0
  have f1 : DataW.trod enc Tryd.prog w 0 (fun _ => true) true n 3 ((cs.drop 1).take (Tryd.prog.cellsOf 3)) = some y1 := hf 1 _ rfl
  rw [c1] at f1
  have f2 : DataW.trod enc Tryd.prog w 0 (fun _ => true) true n 3 ((cs.drop 2).take (Tryd.prog.cellsOf 3)) = some y2 := hf 2 _ rfl
  rw [c1] at f2
  have f3 : DataW.trod enc Tryd.prog w 0 (fun _ => true) true n 3 ((cs.drop 3).take (Tryd.prog.cellsOf 3)) = some y3 := hf 3 _ rfl
  rw [c1] at f3
  have f4 : DataW.trod enc Tryd.prog w 0 (fun _ => true) true n 22 ((cs.drop 4).take (Tryd.prog.cellsOf 22)) = some y4 := hf 4 _ rfl
  rw [c2] at f4
  have f5 : DataW.trod enc Tryd.prog w 0 (fun _ => true) true n 22 ((cs.drop 5).take (Tryd.prog.cellsOf 22)) = some y5 := hf 5 _ rfl
  rw [c2] at f5
  have f6 : DataW.trod enc Tryd.prog w 0 (fun _ => true) true n 23 ((cs.drop 6).take (Tryd.prog.cellsOf 23)) = some y6 := hf 6 _ rfl
  rw [c3] at f6
  have f7 : DataW.trod enc Tryd.prog w 0 (fun _ => true) true n 23 ((cs.drop 38).take (Tryd.prog.cellsOf 23)) = some y7 := hf 7 _ rfl
  rw [c3] at f7
  have f8 : DataW.trod enc Tryd.prog w 0 (fun _ => true) true n 24 ((cs.drop 70).take (Tryd.prog.cellsOf 24)) = some y8 := hf 8 _ rfl
  rw [c4] at f8
  have f9 : DataW.trod enc Tryd.prog w 0 (fun _ => true) true n 24 ((cs.drop 71).take (Tryd.prog.cellsOf 24)) = some y9 := hf 9 _ rfl
  rw [c4] at f9
  refine ⟨by rw [hl, c5], ?_, ?_, ?_, ?_, ?_, ?_⟩
  · obtain ⟨k, h0, _, w0⟩ := DataW.trod_int Tryd.underlying3 f0
    obtain ⟨n, h1, _, w1⟩ := DataW.trod_int Tryd.underlying3 f1
    obtain ⟨m, h2, _, w2⟩ := DataW.trod_int Tryd.underlying3 f2
    obtain ⟨i, h3, _, w3⟩ := DataW.trod_int Tryd.underlying3 f3
    refine ⟨k, n, m, i, cell_of h0, cell_of h1, cell_of h2, cell_of h3, fun z hz => ?_⟩
    have hw : (Lit.int .i64 z).wf = true := by
      simp only [List.mem_cons, List.not_mem_nil, or_false] at hz
      rcases hz with rfl | rfl | rfl | rfl <;> assumption
    have e1 : IntKind.i64.min = -9223372036854775808 := by decide
    have e2 : IntKind.i64.max = 9223372036854775807 := by decide
    simp only [Lit.wf, Bool.and_eq_true, decide_eq_true_eq, e1, e2] at hw
    exact hw
  · obtain ⟨a, len, cap, zs, hc, hr⟩ := irow_cells f4
    have ht : DataW.Trod enc Tryd.prog w 0 (fun _ => true) true 22 (.slice a len cap) y4.1 y4.2 := ⟨n, by rw [hc] at f4; exact f4⟩
    obtain ⟨s0, x0⟩ := src_of_row hr
    have hy : len * 1 ≤ 140737488351232 := Go.Proofs.YtjcmgpiapbeodaaDoorW.PrintWords.sized_ints hsz' (j := 4) (t := 22) rfl rfl Tryd.underlying22 Tryd.underlying5 (by kernel_rfl) (by kernel_rfl) ht
    refine ⟨a, cap, zs.take len, ?_, x0, bs_row hr, ?_⟩
    · rw [s0]; exact cell_of hc
    · rw [s0]; omega
  · obtain ⟨a, len, cap, zs, hc, hr⟩ := irow_cells f5
    have ht : DataW.Trod enc Tryd.prog w 0 (fun _ => true) true 22 (.slice a len cap) y5.1 y5.2 := ⟨n, by rw [hc] at f5; exact f5⟩
    obtain ⟨s0, x0⟩ := src_of_row hr
    have hy : len * 1 ≤ 140737488351232 := Go.Proofs.YtjcmgpiapbeodaaDoorW.PrintWords.sized_ints hsz' (j := 5) (t := 22) rfl rfl Tryd.underlying22 Tryd.underlying5 (by kernel_rfl) (by kernel_rfl) ht
    refine ⟨a, cap, zs.take len, ?_, x0, bs_row hr, ?_⟩
    · rw [s0]; exact cell_of hc
    · rw [s0]; omega
  · obtain ⟨X, hX, eX, wX⟩ := ints_of_arr Tryd.underlying23 Tryd.underlying5 (by kernel_rfl) c3 f6
    obtain ⟨Y, hY, eY, wY⟩ := ints_of_arr Tryd.underlying23 Tryd.underlying5 (by kernel_rfl) c3 f7
    exact ⟨X, Y, hX, hY, byt_wf wX, byt_wf wY, eX, eY⟩
  · obtain ⟨a, cap, L, hc, hr, hb, hd⟩ := hrow_cells f8
    exact ⟨a, cap, L, cell_of hc, hr, sized_hashes hsz' (j := 8) (t := 24) rfl rfl Tryd.underlying24 (by kernel_rfl) hd, hb⟩
  · obtain ⟨a, cap, L, hc, hr, hb, hd⟩ := hrow_cells f9
    exact ⟨a, cap, L, cell_of hc, hr, sized_hashes hsz' (j := 9) (t := 24) rfl rfl Tryd.underlying24 (by kernel_rfl) hd, hb⟩
end
end Go.Proofs.YtjcmgpiapbeodaaDoor.Sha
