/-
  ShaPieces: in whatever pieces a message is written, and however often the sum is asked between them, each sum is that of all that was written up to there, taken whole. (For every kind, message and list of cuts. The tables are those that the program's text lays: the card ties them.)
-/
import Derived.Test.YtjcfnflkiialbaaDoorDig
import Derived.Test.YtjcfnflkiialbaaDoorRows
import Derived.WalkKit
import Derived.Lib.LaidTab
import Derived.Lib.LaidU8
import Derived.Lib.SmallJoins
import Derived.Test.YtjcfnflkiialbaaDoorPieces
import Derived.Test.YtjcfnflkiialbaaDoorCards
import Derived.Test.YtjcfnflkiialbaaDoorTie
import Derived.Test.YtjcfnflkiialbaaDoorWSized
import Derived.ProofKit
import Derived.OpenShut
import Derived.ChangeOld
import Derived.Below
import Derived.SizedLaws
import Derived.Deep.DeepHandedRow
namespace Go.Proofs.YtjcfnflkiialbaaDoor.Sha
open Go.ChangeShapes Go.WideShapes Go.ChangeAt Go.RowKit
theorem tab_mem {P : Program} {W : World} {l : List (String × DataW Unit)} {name : String} {k : IntKind} {zs : List Int} {g : Nat} {t e : TypeId} {n : Nat}
    (h : laidMet P l W) (hm : (name, Lib.tabData k zs) ∈ l)
    (hg : P.globalNamed name = some g) (hty : (P.globals[g]?).map (·.type) = some t) (ht : P.underlying t = some (.array n e)) (he : P.underlying e = some (.int k)) (hce : P.cellsOf e = 1) (hct : P.cellsOf t = n) : ∀ i, i < zs.length → W.cell? ⟨g, i, none⟩ = some (.int k (zs.getD i 0)) := by
  obtain ⟨g', t', cs, fuel, p, hg', ht', hvar, hd⟩ := Lib.laidMet.reads h hm
  obtain rfl := Option.some.inj (hg.symm.trans hg')
  obtain rfl := Option.some.inj (hty.symm.trans ht')
  have hT : Lib.TabIs P W name k zs := by
    unfold Lib.TabIs
    rw [hvar, ← Lib.cells_of_tab ht he hce hct hd]
  exact fun i hi => hT.cell hg i hi
theorem turns_cells {W : World} {l : List (String × DataW Unit)} {name : String} {g : Nat} (a0 a1 a2 b0 b1 b2 c0 c1 c2 d0 d1 d2 : Int)
    (h : laidMet Tryd.prog l W) (hm : (name, .agg [Lib.tabData .i64 [a0, a1, a2], Lib.tabData .i64 [b0, b1, b2], Lib.tabData .i64 [c0, c1, c2], Lib.tabData .i64 [d0, d1, d2]]) ∈ l)
    (hg : Tryd.prog.globalNamed name = some g) (hty : (Tryd.prog.globals[g]?).map (·.type) = some 104) :
    ∀ i, i < 12 → W.cell? ⟨g, i, none⟩ = [Value.int .i64 a0, .int .i64 a1, .int .i64 a2, .int .i64 b0, .int .i64 b1, .int .i64 b2, .int .i64 c0, .int .i64 c1, .int .i64 c2, .int .i64 d0, .int .i64 d1, .int .i64 d2][i]? := by
  obtain ⟨g', t', cs, fuel, p, hg', ht', hvar, hd⟩ := Lib.laidMet.reads h hm
  obtain rfl := Option.some.inj (hg.symm.trans hg')
  obtain rfl := Option.some.inj (hty.symm.trans ht')
  obtain ⟨y0, y1, y2, y3, n, hx, hl, h0, h1, h2, h3⟩ := Joins.trod_struct4 Tryd.underlying104 hd
  have hct : Tryd.prog.cellsOf 102 = 3 := by kernel_rfl
  have hce : Tryd.prog.cellsOf 3 = 1 := by kernel_rfl
  simp only [Prod.mk.injEq, DataW.agg.injEq, List.cons.injEq, and_true] at hx
  obtain ⟨⟨e0, e1, e2, e3⟩, _⟩ := hx
  have k0 := Lib.cells_of_tab Tryd.underlying102 Tryd.underlying3 hce hct (show DataW.trod _ _ _ _ _ _ n 102 _ = some (Lib.tabData .i64 [a0, a1, a2], y0.2) by rw [e0]; exact h0)
  have k1 := Lib.cells_of_tab Tryd.underlying102 Tryd.underlying3 hce hct (show DataW.trod _ _ _ _ _ _ n 102 _ = some (Lib.tabData .i64 [b0, b1, b2], y1.2) by rw [e1]; exact h1)
  have k2 := Lib.cells_of_tab Tryd.underlying102 Tryd.underlying3 hce hct (show DataW.trod _ _ _ _ _ _ n 102 _ = some (Lib.tabData .i64 [c0, c1, c2], y2.2) by rw [e2]; exact h2)
  have k3 := Lib.cells_of_tab Tryd.underlying102 Tryd.underlying3 hce hct (show DataW.trod _ _ _ _ _ _ n 102 _ = some (Lib.tabData .i64 [d0, d1, d2], y3.2) by rw [e3]; exact h3)
  rw [hct] at k0 k1 k2 k3
  intro i hi
  rw [World.var?_cell hg hvar i]
  have hcs : cs.toList = (cs.toList.drop 0).take 3 ++ ((cs.toList.drop 3).take 3 ++ ((cs.toList.drop 6).take 3 ++ ((cs.toList.drop 9).take 3))) := by
    have hl' : cs.toList.length = 12 := hl.trans (by kernel_rfl)
    have e9 : (cs.toList.drop 9).take 3 = cs.toList.drop 9 := List.take_of_length_le (by rw [List.length_drop, hl']; omega)
    rw [e9]
    have s2 : (cs.toList.drop 6).take 3 ++ cs.toList.drop 9 = cs.toList.drop 6 := by
      have := List.take_append_drop 3 (cs.toList.drop 6)
      rwa [List.drop_drop] at this
    have s1 : (cs.toList.drop 3).take 3 ++ cs.toList.drop 6 = cs.toList.drop 3 := by
      have := List.take_append_drop 3 (cs.toList.drop 3)
      rwa [List.drop_drop] at this
    rw [s2, s1, List.drop_zero, List.take_append_drop]
  have hcs2 : cs.toList = [Value.int .i64 a0, .int .i64 a1, .int .i64 a2, .int .i64 b0, .int .i64 b1, .int .i64 b2, .int .i64 c0, .int .i64 c1, .int .i64 c2, .int .i64 d0, .int .i64 d1, .int .i64 d2] := by
    rw [hcs]
    have q0 : (cs.toList.drop 0).take 3 = [Value.int .i64 a0, .int .i64 a1, .int .i64 a2] := k0
    have q1 : (cs.toList.drop 3).take 3 = [Value.int .i64 b0, .int .i64 b1, .int .i64 b2] := k1
    have q2 : (cs.toList.drop 6).take 3 = [Value.int .i64 c0, .int .i64 c1, .int .i64 c2] := k2
    have q3 : (cs.toList.drop 9).take 3 = [Value.int .i64 d0, .int .i64 d1, .int .i64 d2] := k3
    rw [q0, q1, q2, q3]
    rfl
  rw [← hcs2]
  simp
end Go.Proofs.YtjcfnflkiialbaaDoor.Sha
namespace Go.Proofs.YtjcfnflkiialbaaDoor.shaPieces
open Go.ChangeShapes Go.WideShapes Go.ChangeAt Go.RowKit Go.Proofs.YtjcfnflkiialbaaDoor.Mem Go.Proofs.YtjcfnflkiialbaaDoor.Sha
theorem own : ownKnob Tryd.prog.godebug = none := by kernel_rfl
theorem laidOut : laidOutB Tryd.prog = true := by kernel_rfl
def nats {w : Nat} (l : List (BitVec w)) : List Int := l.map fun x => (x.toNat : Int)
theorem nats_get {w : Nat} (l : List (BitVec w)) (i : Nat) (h : i < l.length) : (nats l).getD i 0 = (((l.getD i 0).toNat : Nat) : Int) := by
  simp [nats, h]
theorem laid_of (W : World) (h : laidMetH Tryd.prog Rows.shaPiecesRow.laid W) (hs : W.ShapedOpen Tryd.prog) : Laid W := by
  have hsize : low ≤ W.heap.size := by
    have hz : (((begin Tryd.prog (fun _ _ => 0) default).world.heap[7]?).bind Obj.row?).isSome = true := by kernel_rfl
    obtain ⟨⟨zero, t⟩, hz⟩ := Option.isSome_iff_exists.1 hz
    obtain ⟨cs, hcs, _⟩ := hs.1 7 zero t (of_decide_eq_true (by kernel_rfl)) hz
    have : 7 < W.heap.size := by
      rcases Nat.lt_or_ge 7 W.heap.size with h | h
      · exact h
      · rw [Array.getElem?_eq_none h] at hcs; cases hcs
    exact this
  have m256 : ("ledger/sha.rounds256", Lib.tabData .u32 (nats K256)) ∈ Rows.shaPiecesRow.laid := List.mem_of_getElem? (i := 3) (by kernel_rfl)
  have m512 : ("ledger/sha.rounds512", Lib.tabData .u64 (nats K512)) ∈ Rows.shaPiecesRow.laid := List.mem_of_getElem? (i := 4) (by kernel_rfl)
  have mst : ("ledger/sha.starts", Lib.tabData .u64 (nats start64.list)) ∈ Rows.shaPiecesRow.laid := List.mem_of_getElem? (i := 2) (by kernel_rfl)
  refine ⟨hsize, ⟨Nat.lt_of_lt_of_le (by decide) hsize, fun i hi => ?_⟩, ⟨Nat.lt_of_lt_of_le (by decide) hsize, fun i hi => ?_⟩, ?_, ?_, fun i hi => ?_⟩
  · have hl : K256.length = 64 := by kernel_rfl
    rw [← nats_get K256 i (by omega)]
    exact tab_mem h m256 (g := 0) (by kernel_rfl) (t := 79) (by kernel_rfl) Tryd.underlying79 Tryd.underlying77 (by kernel_rfl) (by kernel_rfl) i (by simp [nats]; omega)
  · have hl : K512.length = 80 := by kernel_rfl
    rw [← nats_get K512 i (by omega)]
    exact tab_mem h m512 (g := 1) (by kernel_rfl) (t := 82) (by kernel_rfl) Tryd.underlying82 Tryd.underlying58 (by kernel_rfl) (by kernel_rfl) i (by simp [nats]; omega)
  · exact turns_cells (name := "ledger/sha.turns256") 2 13 22 6 11 25 7 18 3 17 19 10 (l := Rows.shaPiecesRow.laid) h (List.mem_of_getElem? (i := 0) (by kernel_rfl)) (by kernel_rfl) (by kernel_rfl)
  · exact turns_cells (name := "ledger/sha.turns512") 28 34 39 14 18 41 1 8 7 19 61 6 (l := Rows.shaPiecesRow.laid) h (List.mem_of_getElem? (i := 1) (by kernel_rfl)) (by kernel_rfl) (by kernel_rfl)
  · have hl : start64.list.length = 8 := rfl
    rw [← nats_get start64.list i (by omega)]
    exact tab_mem h mst (g := 3) (by kernel_rfl) (t := 65) (by kernel_rfl) Tryd.underlying65 Tryd.underlying58 (by kernel_rfl) (by kernel_rfl) i (by simp [nats]; omega)
def IsRow (k : IntKind) (w : World) (a : Option Addr) (len cap : Nat) (zs : List Int) : Prop :=
  (a = none ∧ len = 0 ∧ cap = 0 ∧ zs = []) ∨
  ∃ x, a = some x ∧ len ≤ cap ∧ cap ≤ maxLen ∧ zs.length = cap ∧ (∀ i, i < zs.length → w.cell? (x.add i) = some (.int k (zs.getD i 0))) ∧ ∀ n ∈ zs, (Lit.int k n).wf = true
theorem open_at {w : World} {x : Addr} {v : Value} (h : w.cell? (x.add 0) = some v) : x = ⟨x.block, x.off, none⟩ ∧ x.block < w.heap.size := by
  rw [Addr.add_zero'] at h
  have hs : x.spot = none := by
    unfold World.cell? at h
    cases hsp : x.spot with
    | none => rfl
    | some s => rw [hsp] at h; split at h <;> simp at h
  exact ⟨by cases x; simp at hs; subst hs; rfl, World.block_lt_of_cell? w _ h⟩
theorem src_of_row {w : World} {a : Option Addr} {len cap : Nat} {zs : List Int} (h : IsRow .u8 w a len cap zs) : (zs.take len).length = len ∧ Src w (fun _ => False) a cap (zs.take len) := by
  rcases h with ⟨rfl, rfl, rfl, rfl⟩ | ⟨x, rfl, hl, _, hz, hc, _⟩
  · exact ⟨rfl, Nat.le_refl _, .inl ⟨rfl, rfl, rfl⟩⟩
  · have htl : (zs.take len).length = len := by rw [List.length_take]; omega
    refine ⟨htl, by omega, ?_⟩
    rcases Nat.eq_zero_or_pos len with h0 | h0
    · subst h0
      exact .inr (.inl ⟨rfl, x, rfl⟩)
    · obtain ⟨e, hb⟩ := open_at (hc 0 (by omega))
      refine .inr (.inr ⟨x.block, x.off, by rw [← e], ⟨hb, fun i hi => ?_⟩, fun h => h⟩)
      have hi' : i < len := by omega
      have := hc i (by omega)
      rw [e, Addr.add_lit] at this
      rw [this]
      simp [hi']
theorem ints_of_row {w : World} {a : Option Addr} {len cap : Nat} {zs : List Int} (h : IsRow .i64 w a len cap zs) :
    (∀ i, -9223372036854775808 ≤ zs.getD i 0 ∧ zs.getD i 0 ≤ 9223372036854775807) ∧ (len = 0 ∨ ∃ bc oc, a = some ⟨bc, oc, none⟩ ∧ bc < w.heap.size ∧ ∀ i, i < len → w.cell? ⟨bc, oc + i, none⟩ = some (.int .i64 (zs.getD i 0))) := by
  rcases h with ⟨rfl, rfl, rfl, rfl⟩ | ⟨x, rfl, hl, _, hz, hc, hwf⟩
  · exact ⟨fun i => by simp, .inl rfl⟩
  · refine ⟨fun i => ?_, ?_⟩
    · rw [List.getD_eq_getElem?_getD]
      cases hx : zs[i]? with
      | none => simp
      | some v =>
        have := hwf v (List.mem_of_getElem? hx)
        have e1 : IntKind.i64.min = -9223372036854775808 := by decide
        have e2 : IntKind.i64.max = 9223372036854775807 := by decide
        simp only [Lit.wf, Bool.and_eq_true, decide_eq_true_eq, e1, e2] at this
        simpa using this
    · rcases Nat.eq_zero_or_pos len with h0 | h0
      · exact .inl h0
      · obtain ⟨e, hb⟩ := open_at (hc 0 (by omega))
        refine .inr ⟨x.block, x.off, by rw [← e], hb, fun i hi => ?_⟩
        have := hc i (by omega)
        rw [e, Addr.add_lit] at this
        exact this
set_option maxRecDepth 100000 in
/-- What the walk gives, in every world that holds the listed variables. -/
theorem contract (H : Type) (enc : TypeId × Value → H) (W : World) (base : Nat) (args : Array Value) (ds gs : List (DataW H)) (before : List MemPlace)
    (hval0 : ∀ (j : Nat) t v, Tryd.f6.params[j]? = some t → args[j]? = some v → Value.okWide Tryd.prog W .any base t v)
    (hW : DataW.Whole enc Tryd.prog Tryd.f6.params.toList Rows.shaPiecesSpec.vars false W args.toList ds gs before)
    (hsz0 : (DataW.weightsEach Tryd.prog (Tryd.f6.params.toList ++ Rows.shaPiecesSpec.plain.varTypes Tryd.prog) (ds ++ gs)).all (· ≤ reachBytes) = true)
    (hL : laidMetH Tryd.prog Rows.shaPiecesRow.laid W) (hsh : W.ShapedOpen Tryd.prog) :
    Calls Tryd.prog 6 args W fun e W' => ∃ v, e = .returned v ∧ Rows.shaPiecesSpec.post enc Tryd.prog Tryd.f6 false true false false W args v W' := by
  have hsz : (DataW.weightsEach Tryd.prog (Tryd.f6.params.toList ++ Rows.shaPiecesSpec.plain.varTypes Tryd.prog) (ds ++ gs)).all (· ≤ reachBytes) = true := hsz0
  have hval : ∀ (j : Nat) t v, Tryd.f6.params[j]? = some t → args[j]? = some v → Value.okWide Tryd.prog W .any base t v := hval0
  have hW' := hW
  obtain ⟨p, q, hA0, hV, rfl, hfz, hnd⟩ := hW
  have hA : DataW.TrodAll enc Tryd.prog W 0 (fun _ => true) true Tryd.f6.params.toList args.toList ds p := hA0
  rw [Tryd.params6] at hA hval hsz
  obtain ⟨v0, vs0, d0, ds0, p0, q0, hargs, rfl, rfl, h0, r0⟩ := trodAll_cons hA
  obtain ⟨v1, vs1, d1, ds1, p1, q1, rfl, rfl, rfl, h1, r1⟩ := trodAll_cons r0
  obtain ⟨v2, vs2, d2, ds2, p2, q2, rfl, rfl, rfl, h2, r2⟩ := trodAll_cons r1
  obtain ⟨rfl, rfl, rfl⟩ := trodAll_nil r2
  obtain rfl : args = #[v0, v1, v2] := by cases args; simp_all
  obtain ⟨rfl, rfl⟩ := trodVars_none hV
  obtain ⟨a0, rfl, rfl, rfl, w0⟩ := open_int Tryd.underlying3 (hval 0 3 v0 rfl rfl) h0
  obtain ⟨a1, len1, cap1, rfl⟩ := okWide_slice Tryd.underlying23 (hval 1 23 v1 rfl rfl)
  have k1 := h1
  have lt1 : ∀ x ∈ p1, x.block < W.heap.size := by obtain ⟨m, hm⟩ := k1; exact DataW.trod_lt m _ _ _ hm
  obtain ⟨z1, w1⟩ : ∃ zs, IsRow .u8 W a1 len1 cap1 zs := by
    obtain ⟨fuel, hf⟩ := h1
    rcases open_ints Tryd.underlying23 Tryd.underlying5 (by kernel_rfl) hf with ⟨hcs, _⟩ | ⟨x, l, c, zs, hcs, _, hl, hm, hz, _, hcell, hwz⟩
    · simp [Value.cells] at hcs
      obtain ⟨rfl, rfl, rfl⟩ := hcs
      exact ⟨[], .inl ⟨rfl, rfl, rfl, rfl⟩⟩
    · simp [Value.cells] at hcs
      obtain ⟨rfl, rfl, rfl⟩ := hcs
      exact ⟨zs, .inr ⟨_, rfl, hl, hm, by simpa using hz, hcell, hwz⟩⟩
  have y1 : len1 * 1 ≤ 140737488351232 := Go.Proofs.YtjcfnflkiialbaaDoorW.PrintWords.sized_ints hsz (j := 1) (t := 23) rfl rfl Tryd.underlying23 Tryd.underlying5 (by kernel_rfl) (by kernel_rfl) h1
  obtain ⟨a2, len2, cap2, rfl⟩ := okWide_slice Tryd.underlying22 (hval 2 22 v2 rfl rfl)
  have k2 := h2
  have lt2 : ∀ x ∈ p2, x.block < W.heap.size := by obtain ⟨m, hm⟩ := k2; exact DataW.trod_lt m _ _ _ hm
  obtain ⟨z2, w2⟩ : ∃ zs, IsRow .i64 W a2 len2 cap2 zs := by
    obtain ⟨fuel, hf⟩ := h2
    rcases open_ints Tryd.underlying22 Tryd.underlying3 (by kernel_rfl) hf with ⟨hcs, _⟩ | ⟨x, l, c, zs, hcs, _, hl, hm, hz, _, hcell, hwz⟩
    · simp [Value.cells] at hcs
      obtain ⟨rfl, rfl, rfl⟩ := hcs
      exact ⟨[], .inl ⟨rfl, rfl, rfl, rfl⟩⟩
    · simp [Value.cells] at hcs
      obtain ⟨rfl, rfl, rfl⟩ := hcs
      exact ⟨zs, .inr ⟨_, rfl, hl, hm, by simpa using hz, hcell, hwz⟩⟩
  have y2 : len2 * 8 ≤ 140737488351232 := Go.Proofs.YtjcfnflkiialbaaDoorW.PrintWords.sized_ints hsz (j := 2) (t := 22) rfl rfl Tryd.underlying22 Tryd.underlying3 (by kernel_rfl) (by kernel_rfl) h2
  clear hA0 hval0 hsz0 hsz
  obtain ⟨s1, s2⟩ := src_of_row w1
  obtain ⟨i1, i2⟩ := ints_of_row w2
  have hwalk : Calls Tryd.prog 6 #[.int .i64 a0, .slice a1 len1 cap1, .slice a2 len2 cap2] W fun e w' => e = .returned (.bool true) ∧ Below W.heap.size W w' := by
    rw [← s1]
    cases a1 with
    | none => exact pieces_none a0 cap1 (z1.take len1) a2 len2 cap2 z2 (by omega) (by omega) i1 W (laid_of W hL hsh) s2 i2
    | some ad => exact pieces_some a0 ad cap1 (z1.take len1) a2 len2 cap2 z2 (by omega) (by omega) i1 W (laid_of W hL hsh) s2 i2
  refine hwalk.mono fun e W' ⟨he, bel⟩ => ?_
  subst he
  exact ⟨_, rfl, _, _, _, [], _, [], hW', trodAll_mk1 (shut_bool Tryd.underlying4 _), (trodAll_cons_mk (shut_int Tryd.underlying3 w0) (trodAll_cons_mk (Below.trod laidOut (by kernel_rfl) (of_decide_eq_true (by kernel_rfl)) k1 bel lt1) (trodAll_cons_mk (Below.trod laidOut (by kernel_rfl) (of_decide_eq_true (by kernel_rfl)) k2 bel lt2) trodAll_mk0))), rfl, bel.frame _, fun h => by cases h⟩
def put (cs : List Value) : Obj → Obj
  | .cells _ t frozen => .cells cs.toArray t frozen
  | o => o
def inp : Input := ⟨#[], #[.int .i64 0, .slice none 0 0, .slice none 0 0], []⟩
/-- A world for the witness: the settled one, the listed variables holding what their initialisers lay. -/
noncomputable def laidWorld (os : Os) : World :=
  { World.holding Tryd.prog os inp with heap := (((((World.holding Tryd.prog os inp).heap.modify 0 (put ((nats K256).map (Value.int .u32)))).modify 1 (put ((nats K512).map (Value.int .u64)))).modify 3 (put ((nats start64.list).map (Value.int .u64)))).modify 4 (put C32.tcells)).modify 5 (put C64.tcells) }
theorem laid_met (os : Os) : laidMet Tryd.prog Rows.shaPiecesRow.laid ((laidWorld os).forCall (fun _ _ => 0) inp).memory :=
  laidMet_of_run' 8 (by kernel_rfl) (by kernel_rfl)
theorem reads (os : Os) {H : Type} (enc : TypeId × Value → H) : ∃ places, DataW.whole enc Tryd.prog ((laidWorld os).forCall (fun _ _ => 0) inp).memory Tryd.f6.params.toList Rows.shaPiecesSpec.vars false inp.args.toList 8 = some ([.lit (.int .i64 0), .nil, .nil], [], places) :=
  ⟨[], by kernel_rfl⟩

set_option maxRecDepth 100000 in
theorem lifted (os : Os) (started : os.Started) (H : Type) (enc : TypeId × Value → H) (F : Stop.Interp) :
    ReturnsInHanded {} Tryd.checked os 6 .any ((OpenSpec.ofChange Rows.shaPiecesSpec).preRow enc Tryd.prog Tryd.f6 Rows.shaPiecesRow.domain false Rows.shaPiecesRow.laid) (((OpenSpec.ofChange Rows.shaPiecesSpec).at F).post enc Tryd.prog Tryd.f6 false true false false) := by
  obtain ⟨places, hx⟩ := reads os enc
  refine returnsInHanded_of_row (C := Tryd.checked) (s := OpenSpec.ofChange Rows.shaPiecesSpec) own started (by kernel_rfl) Tryd.func6
    (witness_row_at (enc := enc) (C := Tryd.checked) false (laidWorld os) inp.args rfl (by kernel_rfl) (by kernel_rfl) (by kernel_rfl)
      (OpenSpec.preRow_of_cond 8 hx (by kernel_rfl) (fun k hk => by cases hk) (by kernel_rfl) (laid_met os))) ?_
  intro W base args ds gs before hval hW _ _ hsz hL hsh _
  exact contract H enc W base args ds gs before hval hW hsz hL hsh

theorem said : Rows.ShaPiecesSaid :=
  OpenClaim.holds_of_cond 6 Tryd.f6 rfl rfl rfl rfl rfl rfl rfl ⟨rfl, rfl, rfl, rfl, rfl⟩ rfl rfl rfl rfl rfl (by kernel_rfl) Tryd.func6 (by kernel_rfl)
    (of_decide_eq_true (by kernel_rfl)) (by unfold Func.isWrapper; first | (rw [if_pos (by decide +kernel)]; kernel_rfl) | (rw [if_neg (by decide +kernel)]; exact ⟨rfl, rfl⟩))
    (fun os started H enc _ F => by rw [OpenClaim.pre_eq_preRow]; exact lifted os started H enc F)

theorem stand0 : Tryd.pinned.checked.prog.wantsStandIn 3 = false := by kernel_rfl
theorem stand1 : Tryd.pinned.checked.prog.wantsStandIn 23 = false := by kernel_rfl
theorem stand2 : Tryd.pinned.checked.prog.wantsStandIn 22 = false := by kernel_rfl
theorem plain (f : FuncId) (fn : Func) (hf : Tryd.pinned.checked.prog.funcNamed "ledger/ledgerlaw01.ShaPieces" = some f) (hfn : Tryd.pinned.checked.prog.funcs[f]? = some fn) :
    false = Tryd.pinned.checked.prog.looks [] ∧ ∀ (j : Nat) t, fn.params[j]? = some t → Tryd.pinned.checked.prog.wantsStandIn t = false := by
  obtain rfl : f = 6 := Option.some.inj ((show Tryd.prog.funcNamed "ledger/ledgerlaw01.ShaPieces" = some 6 by kernel_rfl).symm.trans hf) |>.symm
  obtain rfl : fn = Tryd.f6 := (Option.some.inj (Tryd.func6.symm.trans hfn)).symm
  refine ⟨by kernel_rfl, fun j t ht => ?_⟩
  rw [Tryd.params6] at ht
  match j, ht with
  | 0, ht =>
    have h : 3 = t := Option.some.inj ht
    rw [← h]
    exact stand0
  | 1, ht =>
    have h : 23 = t := Option.some.inj ht
    rw [← h]
    exact stand1
  | 2, ht =>
    have h : 22 = t := Option.some.inj ht
    rw [← h]
    exact stand2
  | j + 3, ht => simp at ht

theorem card : Rows.ShaPiecesCardSaid :=
  Claim7.holds_tied_plain_at .later [] _ _ _ _ said (fun _ h => by cases h) (by kernel_rfl) (fun _ h => by cases h) shaPieces_row_tie rfl ⟨rfl, rfl⟩ (by kernel_rfl) rfl plain (by kernel_rfl)
end Go.Proofs.YtjcfnflkiialbaaDoor.shaPieces
namespace Go.Proofs.YtjcfnflkiialbaaDoor
theorem shaPieces_holds : Rows.ShaPiecesCardSaid := shaPieces.card
end Go.Proofs.YtjcfnflkiialbaaDoor
