/-
  ShaTurns: two digests of unlike kinds, given the same pieces in turns, each sum as if it were alone; and Sum's and Save's answers, written full, change nothing. (The second form: the argument is of bulk at most 1048576. The tables are those that the program's text lays: the card ties them.)
-/
import Derived.Test.YtjcfnflkiialbaaDoorTurns
import Derived.Test.YtjcfnflkiialbaaDoorRowSha
import Derived.Test.YtjcfnflkiialbaaDoorCards
import Derived.Test.YtjcfnflkiialbaaDoorTie
import Derived.Test.YtjcfnflkiialbaaDoorWSized
import Derived.WalkKit
import Derived.ProofKit
import Derived.OpenShut
import Derived.ChangeOld
import Derived.Below
import Derived.SizedLaws
import Derived.Deep.DeepHandedRow
namespace Go.Proofs.YtjcfnflkiialbaaDoor.shaTurns
open Go.ChangeShapes Go.WideShapes Go.ChangeAt Go.RowKit Go.Proofs.YtjcfnflkiialbaaDoor.Mem Go.Proofs.YtjcfnflkiialbaaDoor.Sha
theorem own : ownKnob Tryd.prog.godebug = none := by kernel_rfl
theorem laidOut : laidOutB Tryd.prog = true := by kernel_rfl
theorem laid_of (W : World) (h : laidMetH Tryd.prog Rows.shaTurnsUptoRow.laid W) (hs : W.ShapedOpen Tryd.prog) : Laid W :=
  laid_gen W h hs (List.mem_of_getElem? (i := 3) (by kernel_rfl)) (List.mem_of_getElem? (i := 4) (by kernel_rfl)) (List.mem_of_getElem? (i := 2) (by kernel_rfl)) (List.mem_of_getElem? (i := 0) (by kernel_rfl)) (List.mem_of_getElem? (i := 1) (by kernel_rfl))
theorem bulk_one {H : Type} (x : DataW H) : 1 ≤ Rows.uptoBulk x := by
  cases x with
  | lit l => cases l <;> simp [Rows.uptoBulk]
  | nil => simp [Rows.uptoBulk]
  | ptr x => simp [Rows.uptoBulk]
  | slice elems spare => simp [Rows.uptoBulk]
  | agg parts => simp [Rows.uptoBulk]
  | iface t x => simp [Rows.uptoBulk]
  | map entries => simp [Rows.uptoBulk]
  | held h => simp [Rows.uptoBulk]
theorem bulk_part {H : Type} {x : DataW H} : ∀ {l : List (DataW H)}, x ∈ l → Rows.uptoBulk x ≤ Rows.uptoBulkAll l
  | y :: r, h => by
    simp only [Rows.uptoBulkAll]
    rcases List.mem_cons.1 h with rfl | h
    · omega
    · have := bulk_part h; omega
theorem bulk_length {H : Type} : ∀ l : List (DataW H), l.length ≤ Rows.uptoBulkAll l
  | [] => by simp [Rows.uptoBulkAll]
  | x :: r => by have := bulk_one x; have := bulk_length r; simp only [Rows.uptoBulkAll, List.length_cons]; omega
theorem bulk_append {H : Type} (l r : List (DataW H)) : Rows.uptoBulkAll (l ++ r) = Rows.uptoBulkAll l + Rows.uptoBulkAll r := by
  induction l with
  | nil => simp [Rows.uptoBulkAll]
  | cons x l ih => simp only [List.cons_append, Rows.uptoBulkAll, ih]; omega
theorem bulk_slice {H : Type} (elems spare : List (DataW H)) : Rows.uptoBulkAll elems + 1 ≤ Rows.uptoBulk (.slice elems spare) := by
  simp only [Rows.uptoBulk]; omega
theorem bulk_rows {H : Type} (B : Nat → Option Addr) (L : Nat → Nat) (Y Z : Nat → List Int) : ∀ n, (∀ r, r < n → Z r = (Y r).take (L r) ∧ (B r = none → Z r = [])) → (catP Z n).length ≤ Rows.uptoBulkAll ((List.range n).map fun r => Deep.intRow (H := H) .u8 (B r) (L r) (Y r))
  | 0, _ => Nat.zero_le _
  | n + 1, h => by
    have ih := bulk_rows (H := H) B L Y Z n (fun r hr => h r (by omega))
    rw [catP_succ, List.length_append, List.range_succ, List.map_append, bulk_append]
    have hz := h n (by omega)
    have : (Z n).length ≤ Rows.uptoBulkAll ([n].map fun r => Deep.intRow (H := H) .u8 (B r) (L r) (Y r)) := by
      simp only [List.map_cons, List.map_nil, Rows.uptoBulkAll]
      cases hb : B n with
      | none => rw [hz.2 hb]; exact Nat.zero_le _
      | some a =>
        rw [hz.1]
        have h1 := bulk_slice (H := H) (lits .u8 ((Y n).take (L n))) (lits .u8 ((Y n).drop (L n)))
        have h2 := bulk_length (H := H) (lits .u8 ((Y n).take (L n)))
        have h3 : (lits (H := H) .u8 ((Y n).take (L n))).length = ((Y n).take (L n)).length := by simp [lits]
        simp only [Deep.intRow]
        omega
    omega
set_option maxRecDepth 100000 in
/-- What the walk gives, in every world that holds the listed variables. -/
theorem contract (H : Type) (enc : TypeId × Value → H) (W : World) (base : Nat) (args : Array Value) (ds gs : List (DataW H)) (before : List MemPlace)
    (hval0 : ∀ (j : Nat) t v, Tryd.f7.params[j]? = some t → args[j]? = some v → Value.okWide Tryd.prog W .any base t v)
    (hW : DataW.Whole enc Tryd.prog Tryd.f7.params.toList Rows.shaTurnsSpec.vars false W args.toList ds gs before)
    (hsz0 : (DataW.weightsEach Tryd.prog (Tryd.f7.params.toList ++ Rows.shaTurnsSpec.plain.varTypes Tryd.prog) (ds ++ gs)).all (· ≤ reachBytes) = true)
    (hL : laidMetH Tryd.prog Rows.shaTurnsUptoRow.laid W) (hsh : W.ShapedOpen Tryd.prog) (hk : Rows.uptoSmall H (ds ++ gs) = true) :
    Calls Tryd.prog 7 args W fun e W' => ∃ v, e = .returned v ∧ Rows.shaTurnsSpec.post enc Tryd.prog Tryd.f7 false true false false W args v W' := by
  have hsz : (DataW.weightsEach Tryd.prog (Tryd.f7.params.toList ++ Rows.shaTurnsSpec.plain.varTypes Tryd.prog) (ds ++ gs)).all (· ≤ reachBytes) = true := hsz0
  have hval : ∀ (j : Nat) t v, Tryd.f7.params[j]? = some t → args[j]? = some v → Value.okWide Tryd.prog W .any base t v := hval0
  have hW' := hW
  obtain ⟨p, q, hA0, hV, rfl, hfz, hnd⟩ := hW
  have hA : DataW.TrodAll enc Tryd.prog W 0 (fun _ => true) true Tryd.f7.params.toList args.toList ds p := hA0
  rw [Tryd.params7] at hA hval hsz
  obtain ⟨v0, vs0, d0, ds0, p0, q0, hargs, rfl, rfl, h0, r0⟩ := trodAll_cons hA
  obtain ⟨rfl, rfl, rfl⟩ := trodAll_nil r0
  obtain rfl : args = #[v0] := by cases args; simp_all
  obtain ⟨rfl, rfl⟩ := trodVars_none hV
  have k0 := h0
  have lt0 : ∀ x ∈ p0, x.block < W.heap.size := by obtain ⟨m, hm⟩ := k0; exact DataW.trod_lt m _ _ _ hm
  obtain ⟨fuel0, hf0⟩ := h0
  obtain ⟨a0, len0, cap0, A0, C0, Z0, hv0, x0, hd0⟩ := rows_of Tryd.underlying32 Tryd.underlying23 Tryd.underlying5 (by kernel_rfl) (by kernel_rfl) (v := v0) (by
    obtain ⟨a, l, c, rfl⟩ := okWide_slice Tryd.underlying32 (hval 0 32 v0 rfl rfl)
    exact hf0)
  subst hv0
  have b0 : len0 ≤ Rows.uptoBulk d0 ∧ (catP Z0 len0).length ≤ Rows.uptoBulk d0 := by
    rcases hd0 with rfl | ⟨B, L, Y, spare, hx, hr⟩
    · exact ⟨Nat.zero_le _, Nat.zero_le _⟩
    · simp only at hx
      rw [hx]
      have h1 := bulk_slice (H := H) ((List.range len0).map fun r => Deep.intRow .u8 (B r) (L r) (Y r)) spare
      have h2 := bulk_length (H := H) ((List.range len0).map fun r => Deep.intRow .u8 (B r) (L r) (Y r))
      have h3 := bulk_rows (H := H) B L Y Z0 len0 hr
      rw [List.length_map, List.length_range] at h2
      exact ⟨by omega, by omega⟩
  have hbulk : Rows.uptoBulkAll (d0 :: [] ++ []) ≤ 1048576 := of_decide_eq_true hk
  have t0 : Rows.uptoBulk d0 ≤ 1048576 := Nat.le_trans (bulk_part (by simp)) hbulk
  clear hA0 hval0 hsz0 hsz
  have hwalk : Calls Tryd.prog 7 #[.slice a0 len0 cap0] W fun e w' => e = .returned (.bool true) ∧ Below W.heap.size W w' := by
    exact turns_calls a0 len0 cap0 A0 C0 Z0 W (laid_of W hL hsh) (by omega) (by omega) x0
  refine hwalk.mono fun e W' ⟨he, bel⟩ => ?_
  subst he
  exact ⟨_, rfl, _, _, _, [], _, [], hW', trodAll_mk1 (shut_bool Tryd.underlying4 _), (trodAll_cons_mk (Below.trod laidOut (by kernel_rfl) (of_decide_eq_true (by kernel_rfl)) k0 bel lt0) trodAll_mk0), rfl, bel.frame _, fun h => by cases h⟩
def inp : Input := ⟨#[], #[.slice none 0 0], []⟩
/-- A world for the witness: the settled one, the listed variables holding what their initialisers lay. -/
noncomputable def laidWorld (os : Os) : World :=
  { World.holding Tryd.prog os inp with heap := (((((World.holding Tryd.prog os inp).heap.modify 0 (put ((nats K256).map (Value.int .u32)))).modify 1 (put ((nats K512).map (Value.int .u64)))).modify 3 (put ((nats start64.list).map (Value.int .u64)))).modify 4 (put C32.tcells)).modify 5 (put C64.tcells) }
theorem laid_met (os : Os) : laidMet Tryd.prog Rows.shaTurnsUptoRow.laid ((laidWorld os).forCall (fun _ _ => 0) inp).memory :=
  laidMet_of_run' 8 (by kernel_rfl) (by kernel_rfl)
theorem reads (os : Os) {H : Type} (enc : TypeId × Value → H) : ∃ places, DataW.whole enc Tryd.prog ((laidWorld os).forCall (fun _ _ => 0) inp).memory Tryd.f7.params.toList Rows.shaTurnsSpec.vars false inp.args.toList 8 = some ([.nil], [], places) :=
  ⟨[], by kernel_rfl⟩

set_option maxRecDepth 100000 in
theorem lifted (os : Os) (started : os.Started) (H : Type) (enc : TypeId × Value → H) (F : Stop.Interp) :
    ReturnsInHanded {} Tryd.checked os 7 .any ((Rows.OpenSpec.upto Rows.shaTurnsSpec).preRow enc Tryd.prog Tryd.f7 Rows.shaTurnsUptoRow.domain false Rows.shaTurnsUptoRow.laid) (((Rows.OpenSpec.upto Rows.shaTurnsSpec).at F).post enc Tryd.prog Tryd.f7 false true false false) := by
  obtain ⟨places, hx⟩ := reads os enc
  refine returnsInHanded_of_row (C := Tryd.checked) (s := Rows.OpenSpec.upto Rows.shaTurnsSpec) own started (by kernel_rfl) Tryd.func7
    (witness_row_at (enc := enc) (C := Tryd.checked) false (laidWorld os) inp.args rfl (by kernel_rfl) (by kernel_rfl) (by kernel_rfl)
      (OpenSpec.preRow_of_cond 8 hx (by kernel_rfl) (fun k hk => by cases hk; kernel_rfl) (by kernel_rfl) (laid_met os))) ?_
  intro W base args ds gs before hval hW _ hcond hsz hL hsh _
  exact contract H enc W base args ds gs before hval hW hsz hL hsh (hcond _ rfl)

theorem said : Rows.ShaTurnsUptoSaid :=
  OpenClaim.holds_of_cond 7 Tryd.f7 rfl rfl rfl rfl rfl rfl rfl ⟨rfl, rfl, rfl, rfl, rfl⟩ rfl rfl rfl rfl rfl (by kernel_rfl) Tryd.func7 (by kernel_rfl)
    (of_decide_eq_true (by kernel_rfl)) (by unfold Func.isWrapper; first | (rw [if_pos (by decide +kernel)]; kernel_rfl) | (rw [if_neg (by decide +kernel)]; exact ⟨rfl, rfl⟩))
    (fun os started H enc _ F => by rw [OpenClaim.pre_eq_preRow]; exact lifted os started H enc F)

theorem stand0 : Tryd.pinned.checked.prog.wantsStandIn 32 = false := by kernel_rfl
theorem plain (f : FuncId) (fn : Func) (hf : Tryd.pinned.checked.prog.funcNamed "ledger/ledgerlaw01.ShaTurns" = some f) (hfn : Tryd.pinned.checked.prog.funcs[f]? = some fn) :
    false = Tryd.pinned.checked.prog.looks [] ∧ ∀ (j : Nat) t, fn.params[j]? = some t → Tryd.pinned.checked.prog.wantsStandIn t = false := by
  obtain rfl : f = 7 := Option.some.inj ((show Tryd.prog.funcNamed "ledger/ledgerlaw01.ShaTurns" = some 7 by kernel_rfl).symm.trans hf) |>.symm
  obtain rfl : fn = Tryd.f7 := (Option.some.inj (Tryd.func7.symm.trans hfn)).symm
  refine ⟨by kernel_rfl, fun j t ht => ?_⟩
  rw [Tryd.params7] at ht
  match j, ht with
  | 0, ht =>
    have h : 32 = t := Option.some.inj ht
    rw [← h]
    exact stand0
  | j + 1, ht => simp at ht

theorem card : Rows.ShaTurnsUptoCardSaid :=
  Claim7.holds_tied_plain_at .later [] _ _ _ _ said (fun _ h => by cases h) (by kernel_rfl) (fun _ h => by cases h) shaTurnsUpto_row_tie rfl ⟨rfl, rfl⟩ (by kernel_rfl) rfl plain (by kernel_rfl)
end Go.Proofs.YtjcfnflkiialbaaDoor.shaTurns
namespace Go.Proofs.YtjcfnflkiialbaaDoor
theorem shaTurns_holds : Rows.ShaTurnsUptoCardSaid := shaTurns.card
end Go.Proofs.YtjcfnflkiialbaaDoor
