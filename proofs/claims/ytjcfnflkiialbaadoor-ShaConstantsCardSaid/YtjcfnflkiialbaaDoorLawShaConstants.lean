/-
  ShaConstants: the constants of every kind are the document's, byte by byte; what was answered is the caller's own: written full, it changes no later answer. (For every kind. The tables are those that the program's text lays: the card ties them.)
-/
import Derived.Test.YtjcfnflkiialbaaDoorConstants
import Derived.Test.YtjcfnflkiialbaaDoorRowSha
import Derived.Test.YtjcfnflkiialbaaDoorCards
import Derived.Test.YtjcfnflkiialbaaDoorTie
import Derived.Test.YtjcfnflkiialbaaDoorWSized
import Derived.WalkKit
import Derived.ProofKit
import Derived.OpenShut
import Derived.ChangeOld
import Derived.Below
import Derived.SizedLaws
import Derived.Deep.DeepHandedRow
namespace Go.Proofs.YtjcfnflkiialbaaDoor.shaConstants
open Go.ChangeShapes Go.WideShapes Go.ChangeAt Go.RowKit Go.Proofs.YtjcfnflkiialbaaDoor.Mem Go.Proofs.YtjcfnflkiialbaaDoor.Sha
theorem own : ownKnob Tryd.prog.godebug = none := by kernel_rfl
theorem laidOut : laidOutB Tryd.prog = true := by kernel_rfl
theorem laid_of (W : World) (h : laidMetH Tryd.prog Rows.shaConstantsRow.laid W) (hs : W.ShapedOpen Tryd.prog) : CLaid W := by
  have hsize : low ≤ W.heap.size := by
    have hz : (((begin Tryd.prog (fun _ _ => 0) default).world.heap[7]?).bind Obj.row?).isSome = true := by kernel_rfl
    obtain ⟨⟨zero, t⟩, hz⟩ := Option.isSome_iff_exists.1 hz
    obtain ⟨cs, hcs, _⟩ := hs.1 7 zero t (of_decide_eq_true (by kernel_rfl)) hz
    have : 7 < W.heap.size := by
      rcases Nat.lt_or_ge 7 W.heap.size with h | h
      · exact h
      · rw [Array.getElem?_eq_none h] at hcs; cases hcs
    exact this
  refine ⟨hsize, ⟨Nat.lt_of_lt_of_le (by decide) hsize, fun i hi => ?_⟩, ⟨Nat.lt_of_lt_of_le (by decide) hsize, fun i hi => ?_⟩, fun i hi => ?_⟩
  · rw [← nats_get K256 i (by rw [K256_len]; exact hi)]
    exact tab_mem h (List.mem_of_getElem? (i := 1) (by kernel_rfl)) (name := "ledger/sha.rounds256") (zs := nats K256) (k := .u32) (g := 0) (by kernel_rfl) (t := 79) (by kernel_rfl) Tryd.underlying79 Tryd.underlying77 (by kernel_rfl) (by kernel_rfl) i (by rw [nats, List.length_map, K256_len]; exact hi)
  · rw [← nats_get K512 i (by rw [K512_len]; exact hi)]
    exact tab_mem h (List.mem_of_getElem? (i := 2) (by kernel_rfl)) (name := "ledger/sha.rounds512") (zs := nats K512) (k := .u64) (g := 1) (by kernel_rfl) (t := 82) (by kernel_rfl) Tryd.underlying82 Tryd.underlying58 (by kernel_rfl) (by kernel_rfl) i (by rw [nats, List.length_map, K512_len]; exact hi)
  · rw [← nats_get K512 i (by rw [K512_len]; exact hi)]
    exact tab_mem h (List.mem_of_getElem? (i := 0) (by kernel_rfl)) (name := "ledger/ledgerref01.cubes") (zs := nats K512) (k := .u64) (g := 2) (by kernel_rfl) (t := 82) (by kernel_rfl) Tryd.underlying82 Tryd.underlying58 (by kernel_rfl) (by kernel_rfl) i (by rw [nats, List.length_map, K512_len]; exact hi)
set_option maxRecDepth 100000 in
/-- What the walk gives, in every world that holds the listed variables. -/
theorem contract (H : Type) (enc : TypeId × Value → H) (W : World) (base : Nat) (args : Array Value) (ds gs : List (DataW H)) (before : List MemPlace)
    (hval0 : ∀ (j : Nat) t v, Tryd.f3.params[j]? = some t → args[j]? = some v → Value.okWide Tryd.prog W .any base t v)
    (hW : DataW.Whole enc Tryd.prog Tryd.f3.params.toList Rows.shaConstantsSpec.vars false W args.toList ds gs before)
    (hsz0 : (DataW.weightsEach Tryd.prog (Tryd.f3.params.toList ++ Rows.shaConstantsSpec.plain.varTypes Tryd.prog) (ds ++ gs)).all (· ≤ reachBytes) = true)
    (hL : laidMetH Tryd.prog Rows.shaConstantsRow.laid W) (hsh : W.ShapedOpen Tryd.prog) :
    Calls Tryd.prog 3 args W fun e W' => ∃ v, e = .returned v ∧ Rows.shaConstantsSpec.post enc Tryd.prog Tryd.f3 false true false false W args v W' := by
  have hsz : (DataW.weightsEach Tryd.prog (Tryd.f3.params.toList ++ Rows.shaConstantsSpec.plain.varTypes Tryd.prog) (ds ++ gs)).all (· ≤ reachBytes) = true := hsz0
  have hval : ∀ (j : Nat) t v, Tryd.f3.params[j]? = some t → args[j]? = some v → Value.okWide Tryd.prog W .any base t v := hval0
  have hW' := hW
  obtain ⟨p, q, hA0, hV, rfl, hfz, hnd⟩ := hW
  have hA : DataW.TrodAll enc Tryd.prog W 0 (fun _ => true) true Tryd.f3.params.toList args.toList ds p := hA0
  rw [Tryd.params3] at hA hval hsz
  obtain ⟨v0, vs0, d0, ds0, p0, q0, hargs, rfl, rfl, h0, r0⟩ := trodAll_cons hA
  obtain ⟨rfl, rfl, rfl⟩ := trodAll_nil r0
  obtain rfl : args = #[v0] := by cases args; simp_all
  obtain ⟨rfl, rfl⟩ := trodVars_none hV
  obtain ⟨a0, rfl, rfl, rfl, w0⟩ := open_int Tryd.underlying3 (hval 0 3 v0 rfl rfl) h0
  clear hA0 hval0 hsz0 hsz
  have hwalk : Calls Tryd.prog 3 #[.int .i64 a0] W fun e w' => e = .returned (.bool true) ∧ Below W.heap.size W w' := by
    exact constants_calls a0 W (laid_of W hL hsh)
  refine hwalk.mono fun e W' ⟨he, bel⟩ => ?_
  subst he
  exact ⟨_, rfl, _, _, _, [], _, [], hW', trodAll_mk1 (shut_bool Tryd.underlying4 _), (trodAll_cons_mk (shut_int Tryd.underlying3 w0) trodAll_mk0), rfl, bel.frame _, fun h => by cases h⟩
def inp : Input := ⟨#[], #[.int .i64 0], []⟩
/-- A world for the witness: the settled one, the listed variables holding what their initialisers lay. -/
noncomputable def laidWorld (os : Os) : World :=
  { World.holding Tryd.prog os inp with heap := (((World.holding Tryd.prog os inp).heap.modify 0 (put ((nats K256).map (Value.int .u32)))).modify 1 (put ((nats K512).map (Value.int .u64)))).modify 2 (put ((nats K512).map (Value.int .u64))) }
theorem laid_met (os : Os) : laidMet Tryd.prog Rows.shaConstantsRow.laid ((laidWorld os).forCall (fun _ _ => 0) inp).memory :=
  laidMet_of_run' 8 (by kernel_rfl) (by kernel_rfl)
theorem reads (os : Os) {H : Type} (enc : TypeId × Value → H) : ∃ places, DataW.whole enc Tryd.prog ((laidWorld os).forCall (fun _ _ => 0) inp).memory Tryd.f3.params.toList Rows.shaConstantsSpec.vars false inp.args.toList 8 = some ([.lit (.int .i64 0)], [], places) :=
  ⟨[], by kernel_rfl⟩

set_option maxRecDepth 100000 in
theorem lifted (os : Os) (started : os.Started) (H : Type) (enc : TypeId × Value → H) (F : Stop.Interp) :
    ReturnsInHanded {} Tryd.checked os 3 .any ((OpenSpec.ofChange Rows.shaConstantsSpec).preRow enc Tryd.prog Tryd.f3 Rows.shaConstantsRow.domain false Rows.shaConstantsRow.laid) (((OpenSpec.ofChange Rows.shaConstantsSpec).at F).post enc Tryd.prog Tryd.f3 false true false false) := by
  obtain ⟨places, hx⟩ := reads os enc
  refine returnsInHanded_of_row (C := Tryd.checked) (s := OpenSpec.ofChange Rows.shaConstantsSpec) own started (by kernel_rfl) Tryd.func3
    (witness_row_at (enc := enc) (C := Tryd.checked) false (laidWorld os) inp.args rfl (by kernel_rfl) (by kernel_rfl) (by kernel_rfl)
      (OpenSpec.preRow_of_cond 8 hx (by kernel_rfl) (fun k hk => by cases hk) (by kernel_rfl) (laid_met os))) ?_
  intro W base args ds gs before hval hW _ hcond hsz hL hsh _
  exact contract H enc W base args ds gs before hval hW hsz hL hsh

theorem said : Rows.ShaConstantsSaid :=
  OpenClaim.holds_of_cond 3 Tryd.f3 rfl rfl rfl rfl rfl rfl rfl ⟨rfl, rfl, rfl, rfl, rfl⟩ rfl rfl rfl rfl rfl (by kernel_rfl) Tryd.func3 (by kernel_rfl)
    (of_decide_eq_true (by kernel_rfl)) (by unfold Func.isWrapper; first | (rw [if_pos (by decide +kernel)]; kernel_rfl) | (rw [if_neg (by decide +kernel)]; exact ⟨rfl, rfl⟩))
    (fun os started H enc _ F => by rw [OpenClaim.pre_eq_preRow]; exact lifted os started H enc F)

theorem stand0 : Tryd.pinned.checked.prog.wantsStandIn 3 = false := by kernel_rfl
theorem plain (f : FuncId) (fn : Func) (hf : Tryd.pinned.checked.prog.funcNamed "ledger/ledgerlaw01.ShaConstants" = some f) (hfn : Tryd.pinned.checked.prog.funcs[f]? = some fn) :
    false = Tryd.pinned.checked.prog.looks [] ∧ ∀ (j : Nat) t, fn.params[j]? = some t → Tryd.pinned.checked.prog.wantsStandIn t = false := by
  obtain rfl : f = 3 := Option.some.inj ((show Tryd.prog.funcNamed "ledger/ledgerlaw01.ShaConstants" = some 3 by kernel_rfl).symm.trans hf) |>.symm
  obtain rfl : fn = Tryd.f3 := (Option.some.inj (Tryd.func3.symm.trans hfn)).symm
  refine ⟨by kernel_rfl, fun j t ht => ?_⟩
  rw [Tryd.params3] at ht
  match j, ht with
  | 0, ht =>
    have h : 3 = t := Option.some.inj ht
    rw [← h]
    exact stand0
  | j + 1, ht => simp at ht

theorem card : Rows.ShaConstantsCardSaid :=
  Claim7.holds_tied_plain_at .later [] _ _ _ _ said (fun _ h => by cases h) (by kernel_rfl) (fun _ h => by cases h) shaConstants_row_tie rfl ⟨rfl, rfl⟩ (by kernel_rfl) rfl plain (by kernel_rfl)
end Go.Proofs.YtjcfnflkiialbaaDoor.shaConstants
namespace Go.Proofs.YtjcfnflkiialbaaDoor
theorem shaConstants_holds : Rows.ShaConstantsCardSaid := shaConstants.card
end Go.Proofs.YtjcfnflkiialbaaDoor
