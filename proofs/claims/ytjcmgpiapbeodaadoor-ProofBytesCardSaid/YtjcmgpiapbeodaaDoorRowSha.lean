/-
  What the listed variables of the sha laws lay, and what their arguments read as: shared by all of them.
-/
import Derived.Test.YtjcmgpiapbeodaaDoorDig
import Derived.Test.YtjcmgpiapbeodaaDoorRows
import Derived.WalkKit
import Derived.Lib.LaidTab
import Derived.Lib.LaidU8
import Derived.Lib.SmallJoins
import Derived.Test.YtjcmgpiapbeodaaDoorStore
import Derived.Deep.Matrix
import Derived.ProofKit
import Derived.OpenShut
import Derived.Deep.DeepHandedRow
namespace Go.Proofs.YtjcmgpiapbeodaaDoor.Sha
open Go.ChangeShapes Go.WideShapes Go.ChangeAt Go.RowKit
theorem tab_mem {P : Program} {W : World} {l : List (String × DataW Unit)} {name : String} {k : IntKind} {zs : List Int} {g : Nat} {t e : TypeId} {n : Nat}
    (h : laidMet P l W) (hm : (name, Lib.tabData k zs) ∈ l)
    (hg : P.globalNamed name = some g) (hty : (P.globals[g]?).map (·.type) = some t) (ht : P.underlying t = some (.array n e)) (he : P.underlying e = some (.int k)) (hce : P.cellsOf e = 1) (hct : P.cellsOf t = n) : ∀ i, i < zs.length → W.cell? ⟨g, i, none⟩ = some (.int k (zs.getD i 0)) := by
  obtain ⟨g', t', cs, fuel, p, hg', ht', hvar, hd⟩ := Lib.laidMet.reads h hm
  obtain rfl := Option.some.inj (hg.symm.trans hg')
  obtain rfl := Option.some.inj (hty.symm.trans ht')
  have hT : Lib.TabIs P W name k zs := by
    unfold Lib.TabIs
    rw [hvar, ← Lib.cells_of_tab ht he hce hct hd]
  exact fun i hi => hT.cell hg i hi
theorem turns_cells {W : World} {l : List (String × DataW Unit)} {name : String} {g : Nat} (a0 a1 a2 b0 b1 b2 c0 c1 c2 d0 d1 d2 : Int)
    (h : laidMet Tryd.prog l W) (hm : (name, .agg [Lib.tabData .i64 [a0, a1, a2], Lib.tabData .i64 [b0, b1, b2], Lib.tabData .i64 [c0, c1, c2], Lib.tabData .i64 [d0, d1, d2]]) ∈ l)
    (hg : Tryd.prog.globalNamed name = some g) (hty : (Tryd.prog.globals[g]?).map (·.type) = some 169) :
    ∀ i, i < 12 → W.cell? ⟨g, i, none⟩ = [Value.int .i64 a0, .int .i64 a1, .int .i64 a2, .int .i64 b0, .int .i64 b1, .int .i64 b2, .int .i64 c0, .int .i64 c1, .int .i64 c2, .int .i64 d0, .int .i64 d1, .int .i64 d2][i]? := by
  obtain ⟨g', t', cs, fuel, p, hg', ht', hvar, hd⟩ := Lib.laidMet.reads h hm
  obtain rfl := Option.some.inj (hg.symm.trans hg')
  obtain rfl := Option.some.inj (hty.symm.trans ht')
  obtain ⟨y0, y1, y2, y3, n, hx, hl, h0, h1, h2, h3⟩ := Joins.trod_struct4 Tryd.underlying169 hd
  have hct : Tryd.prog.cellsOf 64 = 3 := by kernel_rfl
  have hce : Tryd.prog.cellsOf 3 = 1 := by kernel_rfl
  simp only [Prod.mk.injEq, DataW.agg.injEq, List.cons.injEq, and_true] at hx
  obtain ⟨⟨e0, e1, e2, e3⟩, _⟩ := hx
  have k0 := Lib.cells_of_tab Tryd.underlying64 Tryd.underlying3 hce hct (show DataW.trod _ _ _ _ _ _ n 64 _ = some (Lib.tabData .i64 [a0, a1, a2], y0.2) by rw [e0]; exact h0)
  have k1 := Lib.cells_of_tab Tryd.underlying64 Tryd.underlying3 hce hct (show DataW.trod _ _ _ _ _ _ n 64 _ = some (Lib.tabData .i64 [b0, b1, b2], y1.2) by rw [e1]; exact h1)
  have k2 := Lib.cells_of_tab Tryd.underlying64 Tryd.underlying3 hce hct (show DataW.trod _ _ _ _ _ _ n 64 _ = some (Lib.tabData .i64 [c0, c1, c2], y2.2) by rw [e2]; exact h2)
  have k3 := Lib.cells_of_tab Tryd.underlying64 Tryd.underlying3 hce hct (show DataW.trod _ _ _ _ _ _ n 64 _ = some (Lib.tabData .i64 [d0, d1, d2], y3.2) by rw [e3]; exact h3)
  rw [hct] at k0 k1 k2 k3
  intro i hi
  rw [World.var?_cell hg hvar i]
  have hcs : cs.toList = (cs.toList.drop 0).take 3 ++ ((cs.toList.drop 3).take 3 ++ ((cs.toList.drop 6).take 3 ++ ((cs.toList.drop 9).take 3))) := by
    have hl' : cs.toList.length = 12 := hl.trans (by kernel_rfl)
    have e9 : (cs.toList.drop 9).take 3 = cs.toList.drop 9 := List.take_of_length_le (by rw [List.length_drop, hl']; omega)
    rw [e9]
    have s2 : (cs.toList.drop 6).take 3 ++ cs.toList.drop 9 = cs.toList.drop 6 := by
      have := List.take_append_drop 3 (cs.toList.drop 6)
      rwa [List.drop_drop] at this
    have s1 : (cs.toList.drop 3).take 3 ++ cs.toList.drop 6 = cs.toList.drop 3 := by
      have := List.take_append_drop 3 (cs.toList.drop 3)
      rwa [List.drop_drop] at this
    rw [s2, s1, List.drop_zero, List.take_append_drop]
  have hcs2 : cs.toList = [Value.int .i64 a0, .int .i64 a1, .int .i64 a2, .int .i64 b0, .int .i64 b1, .int .i64 b2, .int .i64 c0, .int .i64 c1, .int .i64 c2, .int .i64 d0, .int .i64 d1, .int .i64 d2] := by
    rw [hcs]
    have q0 : (cs.toList.drop 0).take 3 = [Value.int .i64 a0, .int .i64 a1, .int .i64 a2] := k0
    have q1 : (cs.toList.drop 3).take 3 = [Value.int .i64 b0, .int .i64 b1, .int .i64 b2] := k1
    have q2 : (cs.toList.drop 6).take 3 = [Value.int .i64 c0, .int .i64 c1, .int .i64 c2] := k2
    have q3 : (cs.toList.drop 9).take 3 = [Value.int .i64 d0, .int .i64 d1, .int .i64 d2] := k3
    rw [q0, q1, q2, q3]
    rfl
  rw [← hcs2]
  simp
def nats {w : Nat} (l : List (BitVec w)) : List Int := l.map fun x => (x.toNat : Int)
theorem nats_get {w : Nat} (l : List (BitVec w)) (i : Nat) (h : i < l.length) : (nats l).getD i 0 = (((l.getD i 0).toNat : Nat) : Int) := by
  simp [nats, h]
theorem laid_gen {l : List (String × DataW Unit)} (W : World) (h : laidMet Tryd.prog l W) (hs : W.ShapedOpen Tryd.prog)
    (m256 : ("ledger/sha.rounds256", Lib.tabData .u32 (nats K256)) ∈ l) (m512 : ("ledger/sha.rounds512", Lib.tabData .u64 (nats K512)) ∈ l) (mst : ("ledger/sha.starts", Lib.tabData .u64 (nats start64.list)) ∈ l)
    (mt1 : ("ledger/sha.turns256", .agg [Lib.tabData .i64 [2, 13, 22], Lib.tabData .i64 [6, 11, 25], Lib.tabData .i64 [7, 18, 3], Lib.tabData .i64 [17, 19, 10]]) ∈ l)
    (mt2 : ("ledger/sha.turns512", .agg [Lib.tabData .i64 [28, 34, 39], Lib.tabData .i64 [14, 18, 41], Lib.tabData .i64 [1, 8, 7], Lib.tabData .i64 [19, 61, 6]]) ∈ l) : Laid W := by
  have hsize : low ≤ W.heap.size := by
    have hz : (((begin Tryd.prog (fun _ _ => 0) default).world.heap[4]?).bind Obj.row?).isSome = true := by kernel_rfl
    obtain ⟨⟨zero, t⟩, hz⟩ := Option.isSome_iff_exists.1 hz
    obtain ⟨cs, hcs, _⟩ := hs.1 4 zero t (of_decide_eq_true (by kernel_rfl)) hz
    have : 4 < W.heap.size := by
      rcases Nat.lt_or_ge 4 W.heap.size with h | h
      · exact h
      · rw [Array.getElem?_eq_none h] at hcs; cases hcs
    exact this
  refine ⟨hsize, ⟨Nat.lt_of_lt_of_le (by decide) hsize, fun i hi => ?_⟩, ⟨Nat.lt_of_lt_of_le (by decide) hsize, fun i hi => ?_⟩, ?_, ?_, fun i hi => ?_⟩
  · have hl : K256.length = 64 := by kernel_rfl
    rw [← nats_get K256 i (by omega)]
    exact tab_mem h m256 (g := 1) (by kernel_rfl) (t := 163) (by kernel_rfl) Tryd.underlying163 Tryd.underlying127 (by kernel_rfl) (by kernel_rfl) i (by simp [nats]; omega)
  · have hl : K512.length = 80 := by kernel_rfl
    rw [← nats_get K512 i (by omega)]
    exact tab_mem h m512 (g := 3) (by kernel_rfl) (t := 170) (by kernel_rfl) Tryd.underlying170 Tryd.underlying129 (by kernel_rfl) (by kernel_rfl) i (by simp [nats]; omega)
  · exact turns_cells (name := "ledger/sha.turns256") 2 13 22 6 11 25 7 18 3 17 19 10 (l := l) h mt1 (by kernel_rfl) (by kernel_rfl)
  · exact turns_cells (name := "ledger/sha.turns512") 28 34 39 14 18 41 1 8 7 19 61 6 (l := l) h mt2 (by kernel_rfl) (by kernel_rfl)
  · have hl : start64.list.length = 8 := rfl
    rw [← nats_get start64.list i (by omega)]
    exact tab_mem h mst (g := 0) (by kernel_rfl) (t := 130) (by kernel_rfl) Tryd.underlying130 Tryd.underlying129 (by kernel_rfl) (by kernel_rfl) i (by simp [nats]; omega)
def IsRow (k : IntKind) (w : World) (a : Option Addr) (len cap : Nat) (zs : List Int) : Prop :=
  (a = none ∧ len = 0 ∧ cap = 0 ∧ zs = []) ∨
  ∃ x, a = some x ∧ len ≤ cap ∧ cap ≤ maxLen ∧ zs.length = cap ∧ (∀ i, i < zs.length → w.cell? (x.add i) = some (.int k (zs.getD i 0))) ∧ ∀ n ∈ zs, (Lit.int k n).wf = true
theorem open_at {w : World} {x : Addr} {v : Value} (h : w.cell? (x.add 0) = some v) : x = ⟨x.block, x.off, none⟩ ∧ x.block < w.heap.size := by
  rw [Addr.add_zero'] at h
  have hs : x.spot = none := by
    unfold World.cell? at h
    cases hsp : x.spot with
    | none => rfl
    | some s => rw [hsp] at h; split at h <;> simp at h
  exact ⟨by cases x; simp at hs; subst hs; rfl, World.block_lt_of_cell? w _ h⟩
theorem src_of_row {w : World} {a : Option Addr} {len cap : Nat} {zs : List Int} (h : IsRow .u8 w a len cap zs) : (zs.take len).length = len ∧ Src w (fun _ => False) a cap (zs.take len) := by
  rcases h with ⟨rfl, rfl, rfl, rfl⟩ | ⟨x, rfl, hl, _, hz, hc, _⟩
  · exact ⟨rfl, Nat.le_refl _, .inl ⟨rfl, rfl, rfl⟩⟩
  · have htl : (zs.take len).length = len := by rw [List.length_take]; omega
    refine ⟨htl, by omega, ?_⟩
    rcases Nat.eq_zero_or_pos len with h0 | h0
    · subst h0
      exact .inr (.inl ⟨rfl, x, rfl⟩)
    · obtain ⟨e, hb⟩ := open_at (hc 0 (by omega))
      refine .inr (.inr ⟨x.block, x.off, by rw [← e], ⟨hb, fun i hi => ?_⟩, fun h => h⟩)
      have hi' : i < len := by omega
      have := hc i (by omega)
      rw [e, Addr.add_lit] at this
      rw [this]
      simp [hi']
theorem ints_of_row {w : World} {a : Option Addr} {len cap : Nat} {zs : List Int} (h : IsRow .i64 w a len cap zs) :
    (∀ i, -9223372036854775808 ≤ zs.getD i 0 ∧ zs.getD i 0 ≤ 9223372036854775807) ∧ (len = 0 ∨ ∃ bc oc, a = some ⟨bc, oc, none⟩ ∧ bc < w.heap.size ∧ ∀ i, i < len → w.cell? ⟨bc, oc + i, none⟩ = some (.int .i64 (zs.getD i 0))) := by
  rcases h with ⟨rfl, rfl, rfl, rfl⟩ | ⟨x, rfl, hl, _, hz, hc, hwf⟩
  · exact ⟨fun i => by simp, .inl rfl⟩
  · refine ⟨fun i => ?_, ?_⟩
    · rw [List.getD_eq_getElem?_getD]
      cases hx : zs[i]? with
      | none => simp
      | some v =>
        have := hwf v (List.mem_of_getElem? hx)
        have e1 : IntKind.i64.min = -9223372036854775808 := by decide
        have e2 : IntKind.i64.max = 9223372036854775807 := by decide
        simp only [Lit.wf, Bool.and_eq_true, decide_eq_true_eq, e1, e2] at this
        simpa using this
    · rcases Nat.eq_zero_or_pos len with h0 | h0
      · exact .inl h0
      · obtain ⟨e, hb⟩ := open_at (hc 0 (by omega))
        refine .inr ⟨x.block, x.off, by rw [← e], hb, fun i hi => ?_⟩
        have := hc i (by omega)
        rw [e, Addr.add_lit] at this
        exact this
/-- rows of bytes: a list of lists -/
def IsRows (w : World) (a : Option Addr) (len : Nat) (A : Nat → Option Addr) (C : Nat → Nat) (P : Nat → List Int) : Prop :=
  len = 0 ∨ ∃ bp op, a = some ⟨bp, op, none⟩ ∧ bp < w.heap.size ∧ ∀ r, r < len → w.cell? ⟨bp, op + r, none⟩ = some (.slice (A r) (P r).length (C r)) ∧ Src w (fun _ => False) (A r) (C r) (P r)
theorem src_of_cells {w : World} {a : Option Addr} {len cap : Nat} {zs : List Int} (hl : len ≤ cap) (hz : zs.length = cap) (hn : a = none → cap = 0) (hc : ∀ x, a = some x → ∀ c, c < cap → w.cell? (x.add c) = some (.int .u8 (zs.getD c 0))) : (zs.take len).length = len ∧ Src w (fun _ => False) a cap (zs.take len) := by
  have htl : (zs.take len).length = len := by rw [List.length_take]; omega
  refine ⟨htl, by omega, ?_⟩
  cases a with
  | none =>
    have := hn rfl
    exact .inl ⟨rfl, this, List.eq_nil_of_length_eq_zero (by omega)⟩
  | some x =>
    rcases Nat.eq_zero_or_pos len with h0 | h0
    · subst h0
      exact .inr (.inl ⟨rfl, x, rfl⟩)
    · obtain ⟨e, hb⟩ := open_at (hc x rfl 0 (by omega))
      refine .inr (.inr ⟨x.block, x.off, by rw [← e], ⟨hb, fun i hi => ?_⟩, fun h => h⟩)
      have hi' : i < len := by omega
      have := hc x rfl i (by omega)
      rw [e, Addr.add_lit] at this
      rw [this]
      simp [hi']
theorem rows_of {H : Type} {enc : TypeId × Value → H} {P : Program} {w : World} {base : Nat} {held : Bool} {t e q : TypeId} {fuel : Nat} {v : Value} {x : DataW H × List MemPlace} (ht : P.underlying t = some (.slice e)) (he : P.underlying e = some (.slice q)) (hq : P.underlying q = some (.int .u8))
    (ce : P.cellsOf e = 1) (cq : P.cellsOf q = 1) (h : DataW.trod enc P w base (fun _ => true) held fuel t [v] = some x) :
    ∃ a len cap A C Z, v = .slice a len cap ∧ IsRows w a len A C Z ∧ (len = 0 ∨ ∃ (B : Nat → Option Addr) (L : Nat → Nat) (Y : Nat → List Int) (spare : List (DataW H)), x.1 = .slice ((List.range len).map fun r => Deep.intRow .u8 (B r) (L r) (Y r)) spare ∧ ∀ r, r < len → Z r = (Y r).take (L r) ∧ (B r = none → Z r = [])) := by
  rcases Deep.open_int_rows ht he hq ce cq h with ⟨hcs, hx⟩ | ⟨a, len, cap, B, L, C, Y, hcs, _, hl, hm, hx, hr⟩
  · obtain rfl : v = .slice none 0 0 := by simpa using hcs
    exact ⟨none, 0, 0, fun _ => none, fun _ => 0, fun _ => [], rfl, .inl rfl, .inl rfl⟩
  · obtain rfl : v = .slice (some a) len cap := by simpa using hcs
    refine ⟨some a, len, cap, B, C, fun r => (Y r).take (L r), rfl, ?_, .inr ⟨B, L, Y, _, by rw [hx], fun r hr' => ⟨rfl, fun hb => ?_⟩⟩⟩
    · rcases Nat.eq_zero_or_pos len with h0 | h0
      · exact .inl h0
      · obtain ⟨e0, hb⟩ := open_at (hr 0 (by omega)).1
        refine .inr ⟨a.block, a.off, by rw [← e0], hb, fun r hr' => ?_⟩
        obtain ⟨r1, r2, _, r4, _, r6, r7⟩ := hr r (by omega)
        obtain ⟨s1, s2⟩ := src_of_cells (w := w) r2 r4 r6 (fun x hx c hc => (r7 x hx).2 c hc)
        rw [e0, Addr.add_lit] at r1
        exact ⟨by rw [s1]; exact r1, s2⟩
    · obtain ⟨_, r2, _, r4, _, r6, _⟩ := hr r (by omega)
      have := r6 hb
      exact List.eq_nil_of_length_eq_zero (by rw [List.length_take]; omega)
def put (cs : List Value) : Obj → Obj
  | .cells _ t frozen => .cells cs.toArray t frozen
  | o => o
end Go.Proofs.YtjcmgpiapbeodaaDoor.Sha
