/-
  TlogPlaces: for every level and number, each place, each place taken apart, each count and its turning round, and the peaks are the document's. No condition.
-/
import Derived.Test.YtjbhaopocabfaaaPlacesPure
import Derived.ProofKit
import Derived.OpenShut
import Derived.SizedLaws
import Derived.Test.YtjbhaopocabfaaaRows
import Derived.WalkKit
import Derived.ShutString
import Derived.ChangeOld
import Derived.Below
namespace Go.Proofs.Ytjbhaopocabfaaa.PlWk
open Go.RowKit Go.Proofs.Ytjbhaopocabfaaa.PTlogPlaces Go.Proofs.YtjbhaopocabfaaaW.PrintWords Go.Proofs.YtjbhaopocabfaaaW.PrintLast Go.Proofs.YtjbhaopocabfaaaW.PrintMore Go.Proofs.Ytjbhaopocabfaaa.Pl Go.Proofs.Ytjbhaopocabfaaa.PlPure
open Go.Proofs.Ytjbhaopocabfaaa.Wk (pks)
def opRest : List Value := [.slice none 0 0] ++ List.replicate 64 (.int .u8 0) ++ [.slice none 0 0, .int .i64 0]
def opCells (k l n : Int) : Array Value := (Value.int .i64 k :: .int .i64 0 :: .int .i64 l :: .int .i64 n :: opRest).toArray
theorem build_op (k l n : Int) (w : World) : (Instr.build 39 #[(0, .int .i64 k), (2, .int .i64 l), (3, .int .i64 n)]).run Try.prog w = .ok (.agg (opCells k l n)) w := by kernel_rfl
/-- the two answers of one kind agree -/
theorem index_both (a b : Int) (hb : b ≤ 9223372036854775807) : ∃ x e, tlog_Index.f a b = some (x, e) ∧ ledgerref08_Index.f 1000 a b = some (x, e) := by
  by_cases hf : 0 ≤ a ∧ a ≤ 48 ∧ 0 ≤ b ∧ b < 281474976710656 / 2 ^ a.toNat
  · obtain ⟨f1, f2, f3, f4⟩ := id hf
    obtain ⟨l, rfl⟩ := Int.eq_ofNat_of_zero_le f1
    obtain ⟨q, rfl⟩ := Int.eq_ofNat_of_zero_le f3
    rw [Int.toNat_natCast] at f4
    have h := (fits_iff l q (by omega)).1 f4
    exact ⟨_, _, index_f l q (by omega) h, rIndex_f l q 999 (by omega) h (by omega)⟩
  · exact ⟨_, _, index_no a b hf, rIndex_no a b hb hf 999 (by omega)⟩
theorem split_both (K : Nat) (hK : 281474976710656 < K) (c : Int) : ∃ l n e, tlog_SplitIndex.f (K + 1) c = some (l, n, e) ∧ ledgerref08_SplitIndex.f 1000 c = some (l, n, e) := by
  by_cases h : c < 0 ∨ 562949953421311 ≤ c
  · exact ⟨_, _, _, split_no c h _ (by omega), rsplit_no c h 999⟩
  · obtain ⟨c, rfl⟩ := Int.eq_ofNat_of_zero_le (show 0 ≤ c by omega)
    obtain ⟨r, hr⟩ := fil_exists c (by omega)
    obtain ⟨q, e, hl, hr2⟩ := fil_split c r hr (by omega)
    obtain ⟨l, hcl⟩ : ∃ l, c = cnt r + l := ⟨c - cnt r, by have := hr.2.1; omega⟩
    subst hcl
    rw [show cnt r + l - cnt r = l by omega] at e hl
    exact ⟨_, _, _, split_f r l q (by omega) hr hl e hr2 K hK, rsplit_f r l q (by omega) hr hl e hr2 999 (by omega)⟩
theorem count_both (n : Int) : ∃ x e, tlog_Count.f n = some (x, e) ∧ ledgerref08_Count.f 1000 n = some (x, e) := by
  by_cases h1 : n < 0
  · exact ⟨0, 1, by unfold tlog_Count.f; rw [if_pos h1], by unfold ledgerref08_Count.f; rw [if_pos h1]⟩
  · by_cases h2 : n > 281474976710656
    · exact ⟨0, 1, by unfold tlog_Count.f; rw [if_neg h1, if_pos h2], by unfold ledgerref08_Count.f; rw [if_neg h1, if_pos h2]⟩
    · obtain ⟨m, rfl⟩ := Int.eq_ofNat_of_zero_le (show 0 ≤ n by omega)
      exact ⟨_, _, Count_f m (by omega), rCount_f m 1000 (by omega) (by omega)⟩
theorem records_both (K : Nat) (hK : 281474976710656 < K) (c : Int) : ∃ x e, tlog_Records.f (K + 1) c = some (x, e) ∧ ledgerref08_Records.f 1000 c = some (x, e) := by
  by_cases h : c < 0 ∨ 562949953421311 < c
  · exact ⟨_, _, records_no c h K, rrecords_no c h 999⟩
  · obtain ⟨c, rfl⟩ := Int.eq_ofNat_of_zero_le (show 0 ≤ c by omega)
    obtain ⟨r, hr⟩ := fil_exists c (by omega)
    have h1 := records_f c r (by omega) hr K hK
    have h2 := rrecords_f c r (by omega) hr 999 (by omega)
    by_cases e : cnt r = c
    · rw [if_pos e] at h1 h2; exact ⟨_, _, h1, h2⟩
    · rw [if_neg e] at h1 h2; exact ⟨_, _, h1, h2⟩

open Go.Proofs.Ytjbhaopocabfaaa.Wk (pks_yes pks_no) in
theorem pks_length (n : Nat) : ∀ L a, (pks n L a).length ≤ L
  | 0, _ => by simp [pks]
  | L + 1, a => by
    by_cases hb : n / 2 ^ L % 2 = 1
    · rw [pks_yes n a L hb, List.length_cons]; have := pks_length n L (a + 2 ^ L); omega
    · rw [pks_no n a L hb]; have := pks_length n L a; omega
theorem op_cell (k l n : Int) (w : World) (i : Nat) (v : Value) (h : (opCells k l n)[i]? = some v) : (w.alloc (.cells (opCells k l n) 39)).cell? ⟨w.heap.size, i, none⟩ = some v := by
  rw [World.cell?_alloc_new]; exact h
set_option maxHeartbeats 2000000 in
set_option maxRecDepth 100000 in
theorem places_calls (k : Int) (hk : 4 ≤ k) (hk8 : k ≤ 8) (l n : Int) (hn : n ≤ 9223372036854775807) (w : World) :
    Calls Try.prog 12 #[.agg (opCells k l n)] w fun e w' => e = .returned (.bool true) ∧ Below w.heap.size w w' := by
  have c0 := op_cell k l n w 0 (.int .i64 k) rfl
  have c2 := op_cell k l n w 2 (.int .i64 l) rfl
  have c3 := op_cell k l n w 3 (.int .i64 n) rfl
  have hb : Below w.heap.size w (w.alloc (.cells (opCells k l n) 39)) := below_alloc (Below.refl _ _) _
  have HB := Aside0.mk hb
  clear hb
  have h : k = 4 ∨ k = 5 ∨ k = 6 ∨ k = 7 ∨ k = 8 := by omega
  rcases h with rfl | rfl | rfl | rfl | rfl
  · obtain ⟨x, e, h1, h2⟩ := index_both l n hn
    have H1 := Aside0.mk h1
    have H2 := Aside0.mk h2
    clear h1 h2
    go_enter Try.func12, Try.ntmps12
    go_wp2_with (first | (go_at_call 7; (with_reducible refine (tlog_Index.calls l n x e _ H1.out).mono ?_); rintro e1 w1 ⟨rfl, ⟨nd1, rfl⟩⟩) | (go_at_call 17; (with_reducible refine (ledgerref08_Index.calls 1000 l n x e _ H2.out).mono ?_); rintro e2 w2 ⟨rfl, ⟨nd2, rfl⟩⟩))
    go_ret
    exact ⟨rfl, by repeat (first | exact HB.out | apply pw_below_drewN)⟩
  · obtain ⟨K, hK, hK2⟩ : ∃ K : Nat, 281474976710656 < K ∧ K = K := ⟨281474976710660, by omega, rfl⟩
    clear hK2
    obtain ⟨x, y, e, h1, h2⟩ := split_both K hK n
    have H1 := Aside0.mk h1
    have H2 := Aside0.mk h2
    clear h1 h2 hK
    go_enter Try.func12, Try.ntmps12
    go_wp2_with (first | (go_at_call 8; (with_reducible refine (tlog_SplitIndex.calls _ n x y e _ H1.out).mono ?_); rintro e1 w1 ⟨rfl, ⟨nd1, rfl⟩⟩) | (go_at_call 18; (with_reducible refine (ledgerref08_SplitIndex.calls 1000 n x y e _ H2.out).mono ?_); rintro e2 w2 ⟨rfl, ⟨nd2, rfl⟩⟩))
    go_ret
    exact ⟨rfl, by repeat (first | exact HB.out | apply pw_below_drewN)⟩
  · obtain ⟨x, e, h1, h2⟩ := count_both n
    have H1 := Aside0.mk h1
    have H2 := Aside0.mk h2
    clear h1 h2
    go_enter Try.func12, Try.ntmps12
    go_wp2_with (first | (go_at_call 9; (with_reducible refine (tlog_Count.calls n x e _ H1.out).mono ?_); rintro e1 w1 ⟨rfl, ⟨nd1, rfl⟩⟩) | (go_at_call 19; (with_reducible refine (ledgerref08_Count.calls 1000 n x e _ H2.out).mono ?_); rintro e2 w2 ⟨rfl, ⟨nd2, rfl⟩⟩))
    go_ret
    exact ⟨rfl, by repeat (first | exact HB.out | apply pw_below_drewN)⟩
  · obtain ⟨K, hK, hK2⟩ : ∃ K : Nat, 281474976710656 < K ∧ K = K := ⟨281474976710660, by omega, rfl⟩
    clear hK2
    obtain ⟨x, e, h1, h2⟩ := records_both K hK n
    have H1 := Aside0.mk h1
    have H2 := Aside0.mk h2
    clear h1 h2 hK
    go_enter Try.func12, Try.ntmps12
    go_wp2_with (first | (go_at_call 11; (with_reducible refine (tlog_Records.calls _ n x e _ H1.out).mono ?_); rintro e1 w1 ⟨rfl, ⟨nd1, rfl⟩⟩) | (go_at_call 20; (with_reducible refine (ledgerref08_Records.calls 1000 n x e _ H2.out).mono ?_); rintro e2 w2 ⟨rfl, ⟨nd2, rfl⟩⟩))
    go_ret
    exact ⟨rfl, by repeat (first | exact HB.out | apply pw_below_drewN)⟩
  · by_cases hm : n < 0 ∨ 281474976710656 < n
    · have H2 := Aside0.mk (rPeaks_no n hm 999)
      have HM := Aside0.mk hm
      clear hm
      go_enter Try.func12, Try.ntmps12
      go_wp2_with fail
      refine (Wk.Peaks_no n HM.out _).mono ?_
      rintro e w1 ⟨rfl, ⟨nd1, rfl⟩⟩
      go_wp2_with fail
      refine (ledgerref08_Peaks.calls (999 + 1) n [] 1 _ H2.out).mono ?_
      rintro e w2 ⟨v, rfl, hR, hB⟩
      obtain ⟨A2, c2, rfl, hl2, hC2⟩ := Kd.R_reads hR
      have HC2 := Aside0.mk hC2
      have hfin : Below w.heap.size w w2 := (by repeat (first | exact HB.out | apply pw_below_drewN) : Below w.heap.size w ((w.alloc (.cells (opCells 8 l n) 39)).drewN nd1)).trans (hB.mono (by simp [World.drewN]))
      have HF := Aside0.mk hfin
      clear hR hB hC2 hl2 hfin
      go_wp2_with fail
      refine (ledgerlaw08_sames.calls 2000 none 0 [] A2 c2 [] true _ (Kd.C_of_reads (d := (0 : Int)) ⟨rfl, by decide, fun h => absurd h (by decide)⟩) (Nat.le_refl _) HC2.out (Nat.zero_le _) (sames_f [] (by decide))).mono ?_
      rintro e w3 ⟨rfl, ⟨nd3, rfl⟩⟩
      go_wp2
      go_ret
      exact ⟨rfl, by repeat (first | exact HF.out | apply pw_below_drewN)⟩
    · obtain ⟨m, rfl⟩ := Int.eq_ofNat_of_zero_le (show 0 ≤ n by omega)
      have hm2 : m ≤ 281474976710656 := by omega
      have H2 := Aside0.mk (rPeaks_f m 999 hm2 (by omega))
      have hlen : (pks m 49 0).length ≤ 49 := pks_length m 49 0
      obtain ⟨X, hX⟩ : ∃ X, X = pks m 49 0 := ⟨_, rfl⟩
      rw [← hX] at H2 hlen
      have HX := Aside0.mk hX
      clear hm hX
      go_enter Try.func12, Try.ntmps12
      go_wp2_with fail
      refine (Wk.Peaks_calls m hm2 _).mono ?_
      rw [← HX.out]
      rintro e w1 ⟨v, rfl, hR1, hB1⟩
      obtain ⟨A1, c1, rfl, hl1, hC1⟩ := Kd.R_reads hR1
      have HC1 := Aside0.mk hC1
      have HL1 := Aside0.mk hl1
      have hb1 : Below w.heap.size w w1 := HB.out.trans (hB1.mono (by simp))
      have HB1 := Aside0.mk hb1
      have c3' := (hB1.cell (p := ⟨w.heap.size, 3, none⟩) (by simp)).trans c3
      clear hR1 hB1 hC1 hl1 hb1
      go_wp2_with fail
      refine (ledgerref08_Peaks.calls (999 + 1) (m : Int) X 0 _ H2.out).mono ?_
      rintro e w2 ⟨v, rfl, hR, hB⟩
      obtain ⟨A2, c2, rfl, hl2, hC2⟩ := Kd.R_reads hR
      have HC2 := Aside0.mk hC2
      have HL2 := Aside0.mk hl2
      have HC1' := Aside0.mk (Kd.C_below HC1.out hB)
      have HF := Aside0.mk (HB1.out.trans (hB.mono HB1.out.size))
      clear hR hB hC2 hl2 HC1
      go_wp2_with fail
      refine (ledgerlaw08_sames.calls 2000 A1 c1 X A2 c2 X true _ HC1'.out HL1.out HC2.out HL2.out (sames_f X (by omega))).mono ?_
      rintro e w3 ⟨rfl, ⟨nd3, rfl⟩⟩
      go_wp2
      go_ret
      exact ⟨rfl, by repeat (first | exact HF.out | apply pw_below_drewN)⟩
theorem wpList_value {P : Program} {w : World} {ops : Array Oper} {rest : List Oper} {o : Oper} {a : Act} {Q : Exit → Act → World → Prop} (hg : o.guard = none) (v : Value)
    (hrun : (execOp a.eval o).run P w = .ok (.value v) w) (h : wpList P ops Q rest (a.put o.dst v) w) : wpList P ops Q (o :: rest) a w := by
  refine wpList_plain hg fun K hK' => ?_
  unfold Oper.wp
  rw [hrun]
  exact hK' _ _ h
set_option maxHeartbeats 1000000 in
set_option maxRecDepth 100000 in
theorem tlogPlaces_walk (l n : Int) (hn : n ≤ 9223372036854775807) (w : World) :
    Calls Try.prog 6 #[.int .i64 l, .int .i64 n] w fun e w' => e = .returned (.bool true) ∧ Below w.heap.size w w' := by
  go_enter Try.func6, Try.ntmps6
  go_wp2
  go_loopw [5] (fun i wr => ∃ k : Int, i = .int .i64 k ∧ Aside0 (4 ≤ k ∧ k ≤ 9) ∧ Aside0 (Below w.heap.size w wr)) (fun i _ => (9 - intOf i).toNat)
  case atStart => exact ⟨4, rfl, ⟨by omega⟩, ⟨Below.refl _ _⟩⟩
  case round =>
    obtain ⟨k, rfl, A1, HB⟩ := hrel
    obtain ⟨h4, h9⟩ := A1.out
    by_cases hlt : k ≤ 8
    · go_wp2_with (first | ((with_reducible refine gate_dst (N := 14) rfl ?_); refine wpList_value rfl (.agg (opCells k l n)) (by kernel_rfl) ?_) | (go_at_call 12; (with_reducible refine (places_calls k h4 hlt l n hn _).mono ?_); rintro e w1 ⟨rfl, hB1⟩; have H1 := Aside0.mk (HB.out.trans (hB1.mono HB.out.size)); clear hB1))
      go_roundw
      case rel => exact ⟨k + 1, rfl, ⟨by omega⟩, H1⟩
      case measure => simp [intOf]; omega
    · go_wp2
      go_ret
      exact ⟨rfl, HB.out⟩
end Go.Proofs.Ytjbhaopocabfaaa.PlWk
namespace Go.Proofs.Ytjbhaopocabfaaa.tlogPlaces
open Go.ChangeShapes Go.WideShapes Go.ChangeAt Go.RowKit
open Go.ChangeMaps (open_string shut_string)
set_option linter.unusedVariables false
theorem own : ownKnob Try.prog.godebug = none := by kernel_rfl
set_option maxRecDepth 100000 in
theorem lifted (os : Os) (started : os.Started) (H : Type) (enc : TypeId × Value → H) :
    ReturnsInHanded {} Try.checked os 6 .any (Rows.tlogPlacesSpec.pre6 enc Try.prog Try.f6 Rows.tlogPlacesRow.domain false) (Rows.tlogPlacesSpec.post enc Try.prog Try.f6 false true false false) := by
  refine returnsInHanded_of_change_sized (C := Try.checked) own started (by kernel_rfl) Try.func6
    (ChangeSpec.witness6 (enc := enc) (C := Try.checked) false ⟨#[], #[.int .i64 0, .int .i64 0], []⟩ 8 (by kernel_rfl) (by kernel_rfl) (by kernel_rfl) (by kernel_rfl)) ?_
  intro W base args ds gs before hval0 hW hcnd hsz0 _
  have hsz : (DataW.weightsEach Try.prog (Try.f6.params.toList ++ Rows.tlogPlacesSpec.plain.varTypes Try.prog) (ds ++ gs)).all (· ≤ reachBytes) = true := hsz0
  have hval : ∀ (j : Nat) t v, Try.f6.params[j]? = some t → args[j]? = some v → Value.okWide Try.prog W .any base t v := hval0
  have hW' := hW
  obtain ⟨p, q, hA0, hV, rfl, hfz, hnd⟩ := hW
  have hA : DataW.TrodAll enc Try.prog W 0 (fun _ => true) true Try.f6.params.toList args.toList ds p := hA0
  rw [Try.params6] at hA hval hsz
  obtain ⟨v0, vs0, d0, ds0, p0, q0, hargs, rfl, rfl, h0, r0⟩ := trodAll_cons hA
  obtain ⟨v1, vs1, d1, ds1, p1, q1, rfl, rfl, rfl, h1, r1⟩ := trodAll_cons r0
  obtain ⟨rfl, rfl, rfl⟩ := trodAll_nil r1
  obtain rfl : args = #[v0, v1] := by cases args; simp_all
  obtain ⟨rfl, rfl⟩ := trodVars_none hV
  obtain ⟨a0, rfl, rfl, rfl, w0⟩ := open_int Try.underlying3 (hval 0 3 v0 rfl rfl) h0
  obtain ⟨a1, rfl, rfl, rfl, w1⟩ := open_int Try.underlying3 (hval 1 3 v1 rfl rfl) h1
  clear hA0 hval0 hsz0 hsz
  refine (PlWk.tlogPlaces_walk a0 a1 (bounds_i64 w1).2 W).mono fun e W' ⟨he, bel⟩ => ?_
  subst he
  exact ⟨_, rfl, _, _, _, [], _, [], hW', trodAll_mk1 (shut_bool Try.underlying4 _), (trodAll_cons_mk (shut_int Try.underlying3 w0) (trodAll_cons_mk (shut_int Try.underlying3 w1) trodAll_mk0)), rfl, bel.frame _, fun h => by cases h⟩
theorem over : Rows.tlogPlacesRow.holds Try.pinned (OpenSpec.ofChange Rows.tlogPlacesSpec) :=
  OpenClaim.holds_of_wide 6 Try.f6 rfl rfl rfl rfl rfl rfl rfl ⟨rfl, rfl, rfl, rfl, rfl⟩ rfl rfl rfl rfl rfl (by kernel_rfl) Try.func6 (by kernel_rfl)
    (of_decide_eq_true (by kernel_rfl)) (by unfold Func.isWrapper; first | (rw [if_pos (by decide +kernel)]; kernel_rfl) | (rw [if_neg (by decide +kernel)]; exact ⟨rfl, rfl⟩))
    (fun os started H enc _ => lifted os started H enc)
theorem proved : Rows.TlogPlacesSaid := over
end Go.Proofs.Ytjbhaopocabfaaa.tlogPlaces
namespace Go.Proofs.Ytjbhaopocabfaaa
/-- The row, under a short name, for the claim. -/
theorem tlogPlaces_holds : Rows.TlogPlacesSaid := tlogPlaces.proved
end Go.Proofs.Ytjbhaopocabfaaa
