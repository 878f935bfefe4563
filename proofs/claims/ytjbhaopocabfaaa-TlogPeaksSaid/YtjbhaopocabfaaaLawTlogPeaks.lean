/-
  TlogPeaks: for every number, the peaks of that many records are whole trees side by side, from the first record to the last, each smaller than the one ahead of it; a number that is no tree's is refused. No condition.
-/
import Derived.Test.YtjbhaopocabfaaaPeaks
import Derived.ProofKit
import Derived.OpenShut
import Derived.SizedLaws
import Derived.Test.YtjbhaopocabfaaaRows
import Derived.WalkKit
import Derived.ShutString
import Derived.ChangeOld
import Derived.Below
namespace Go.Proofs.Ytjbhaopocabfaaa.Wk
open Go.RowKit Go.Proofs.Ytjbhaopocabfaaa.PTlogPeaks Go.Proofs.YtjbhaopocabfaaaW.PrintWords Go.Proofs.YtjbhaopocabfaaaW.PrintLast Go.Proofs.YtjbhaopocabfaaaW.PrintMore Go.Proofs.Ytjbhaopocabfaaa.Pl
attribute [local go_sem] max2_int min2_int max_two min_two
theorem pks_split (n : Nat) : ∀ (L ahead : Nat), ahead = n / 2 ^ L * 2 ^ L → (pks n L ahead = [] ∧ ahead = n) ∨
    ∃ m, m < L ∧ pks n L ahead = ((cnt ((ahead / 2 ^ m + 1) * 2 ^ m - 1) + m : Nat) : Int) :: pks n m (ahead + 2 ^ m) ∧ ahead / 2 ^ m * 2 ^ m = ahead ∧ ahead + 2 ^ m = n / 2 ^ m * 2 ^ m ∧ (ahead / 2 ^ m + 1) * 2 ^ m = ahead + 2 ^ m
  | 0, ahead, h => .inl ⟨rfl, by simpa using h⟩
  | L + 1, ahead, h => by
    have hn := ahead_next n ahead L h
    by_cases hb : n / 2 ^ L % 2 = 1
    · obtain ⟨h1, h2⟩ := hn.1 hb
      refine .inr ⟨L, by omega, pks_yes n ahead L hb, ?_, h1, h2⟩
      rw [Nat.add_mul] at h2; omega
    · rcases pks_split n L ahead (hn.2 hb) with ⟨h1, h2⟩ | ⟨m, h1, h2, h3⟩
      · exact .inl ⟨by rw [pks_no n ahead L hb]; exact h1, h2⟩
      · exact .inr ⟨m, by omega, by rw [pks_no n ahead L hb]; exact h2, h3⟩
theorem wrap_small (x : Int) (h0 : 0 ≤ x) (h1 : x ≤ 562949953421312) : wrap64 x = x := by unfold wrap64; omega
theorem add_small (a b : Int) (h0 : 0 ≤ a) (h1 : 0 ≤ b) (h2 : a ≤ 281474976710656) (h3 : b ≤ 281474976710656) : wrap64 (a + b) = a + b := by unfold wrap64; omega
theorem wrap_nat (W : Nat) (h : W ≤ 281474976710656) : wrap64 (W : Int) = W := by unfold wrap64; omega
theorem seven_length : (pks 7 49 0).length = 3 := by decide +kernel
theorem pks_length (n : Nat) : ∀ L a, (pks n L a).length ≤ L
  | 0, _ => by simp [pks]
  | L + 1, a => by
    by_cases hb : n / 2 ^ L % 2 = 1
    · rw [pks_yes n a L hb, List.length_cons]; have := pks_length n L (a + 2 ^ L); omega
    · rw [pks_no n a L hb]; have := pks_length n L a; omega

set_option maxHeartbeats 2000000 in
set_option maxRecDepth 100000 in
theorem tlogPeaks_walk (n : Nat) (hn : n ≤ 281474976710656) (w : World) :
    Calls Try.prog 4 #[.int .i64 n] w fun e w' => e = .returned (.bool true) ∧ Below w.heap.size w w' := by
  go_enter Try.func4, Try.ntmps4
  go_wp2_with fail
  refine (Peaks_calls 7 (by omega) _).mono ?_
  rintro e w2 ⟨v, rfl, HO7, HB7⟩
  obtain ⟨A7, c7, rfl⟩ := Kd.R_slice HO7
  rw [seven_length]
  clear HO7
  have HB7a := Aside0.mk HB7
  clear HB7
  go_wp2_with fail
  refine (Peaks_calls n hn _).mono ?_
  rintro e w3 ⟨v, rfl, HO, HB⟩
  have HB0 : Aside0 (Below w.heap.size w w3) := ⟨HB7a.out.trans (HB.mono (HB7a.out.size))⟩
  obtain ⟨A, c, rfl, hlc, hC⟩ := Kd.R_reads HO
  clear HO HB HB7a
  have HCC := Aside0.mk hC
  clear hC
  have HLC := Aside0.mk hlc
  have hlen : (pks n 49 0).length ≤ 49 := pks_length n 49 0
  clear hlc
  obtain ⟨X, hX⟩ : ∃ X, X = pks n 49 0 := ⟨_, rfl⟩
  rw [← hX] at HCC HLC hlen ⊢
  have HX := Aside0.mk hX
  clear hX
  have HD : Drawn0 w3 w3 := Drawn0.refl _
  go_wp2
  go_loopw [7, 8, 9] (fun a s i wr => ∃ (k ahead L sz : Nat), a = .int .i64 ahead ∧ s = .int .i64 sz ∧ i = .int .i64 k ∧ Aside0 (k ≤ X.length) ∧ Aside0 (ahead = n / 2 ^ L * 2 ^ L) ∧ Aside0 (X.drop k = pks n L ahead) ∧ Aside0 (2 ^ L ≤ sz) ∧ Aside0 (sz ≤ 562949953421312) ∧ Aside0 (L ≤ 49) ∧ Drawn0 w3 wr) (fun _ _ i _ => X.length - (intOf i).toNat)
  case atStart => exact ⟨0, 0, 49, 562949953421312, rfl, rfl, rfl, ⟨Nat.zero_le _⟩, ⟨by omega⟩, ⟨by rw [HX.out]; rfl⟩, ⟨by omega⟩, ⟨by omega⟩, ⟨by omega⟩, HD⟩
  case round =>
    clear HD
    obtain ⟨k, ahead, L, sz, rfl, rfl, rfl, A1, A2, A3, A4, A5, A6, ⟨nd, rfl⟩⟩ := hrel
    have hk := A1.out
    rcases pks_split n L ahead A2.out with ⟨he, ha⟩ | ⟨m, hm, he, h1, h2, h3⟩
    · have hkl : k = X.length := by
        have := congrArg List.length (A3.out.trans he)
        rw [List.length_drop, List.length_nil] at this; omega
      subst hkl
      subst ha
      clear he
      go_wp2
      go_ret
      exact ⟨rfl, pw_below_drewN HB0.out nd⟩
    · have hkl : k < X.length := by
        have := congrArg List.length (A3.out.trans he)
        rw [List.length_drop, List.length_cons] at this; omega
      have hm48 : m ≤ 48 := by have := A6.out; omega
      have hp48 := pow_le48 m hm48
      have hfit : (ahead / 2 ^ m + 1) * 2 ^ m ≤ 281474976710656 := by have := Nat.div_mul_le_self n (2 ^ m); omega
      have hsp := split_place m (ahead / 2 ^ m) hm48 hfit 281474976710657 (by omega)
      obtain ⟨P, hP⟩ : ∃ P : Int, P = ((cnt ((ahead / 2 ^ m + 1) * 2 ^ m - 1) + m : Nat) : Int) := ⟨_, rfl⟩
      rw [← hP] at hsp he
      have HSP := Aside0.mk hsp
      obtain ⟨ad, rfl, hcell⟩ := Kd.at_int HCC.out (k : Int) (by omega) (by omega)
      have hrd : rd X (k : Int) = P := by
        have := A3.out.trans he
        unfold rd
        rw [Int.toNat_natCast, List.getD_eq_getElem?_getD, List.getElem?_eq_getElem hkl]
        show X[k] = P
        have h4 := congrArg List.head? this
        rw [List.head?_drop, List.head?_cons, List.getElem?_eq_getElem hkl] at h4
        exact Option.some.inj h4
      rw [hrd, Int.toNat_natCast] at hcell
      obtain ⟨q, hq⟩ : ∃ q, q = ahead / 2 ^ m := ⟨_, rfl⟩
      rw [← hq] at HSP h1
      obtain ⟨W, hW⟩ : ∃ W : Nat, W = 2 ^ m := ⟨_, rfl⟩
      have hpe : (2 : Int) ^ m = (W : Int) := by rw [hW, Int.natCast_pow]; rfl
      have hwr : wrap64 (2 ^ m) = (W : Int) := by rw [hpe]; exact wrap_nat W (hW ▸ hp48)
      have hsz : W < sz := by
        have : 2 ^ m < 2 ^ L := Nat.pow_lt_pow_right (by decide) hm
        rw [hW]
        exact Nat.lt_of_lt_of_le this A4.out
      have hmul : (q : Int) * (W : Int) = (ahead : Int) := by rw [hW, ← Int.natCast_mul, h1]
      have hmx : (if 0 < m then (m : Int) else 0) = (m : Int) := by split <;> omega
      have hW48 : W ≤ 281474976710656 := hW ▸ hp48
      have hle : n / 2 ^ m * 2 ^ m ≤ n := Nat.div_mul_le_self n (2 ^ m)
      have hah : ahead ≤ 281474976710656 := Nat.le_trans (Nat.le_add_right _ _) (h2 ▸ Nat.le_trans hle hn)
      have HA3 : Aside0 (X.drop (k + 1) = pks n m (ahead + 2 ^ m)) := ⟨by
        have := A3.out.trans he
        rw [← List.drop_drop, this]; rfl⟩
      have H2 : Aside0 (ahead + W = n / 2 ^ m * 2 ^ m) := ⟨by rw [hW]; exact h2⟩
      have HA3 : Aside0 (X.drop (k + 1) = pks n m (ahead + W)) := ⟨by rw [hW]; exact HA3.out⟩
      have HW := Aside0.mk hW
      have hm49 : 2 ^ m ≤ W := Nat.le_of_eq hW.symm
      have HM49 := Aside0.mk hm49
      clear hsp hP he hrd hq h1 h2 h3 hpe A2 A3 A4 A5 hle hfit hp48 hW hm49
      go_wp2_with (first | (go_at_call 8; (with_reducible refine (tlog_SplitIndex.calls _ P (m : Int) (q : Int) 0 _ HSP.out).mono ?_); rintro e w5 ⟨rfl, ⟨nd2, rfl⟩⟩))
      go_roundw
      case rel => exact ⟨k + 1, ahead + W, m, W, rfl, rfl, rfl, ⟨by omega⟩, H2, HA3, HM49, ⟨by omega⟩, ⟨by omega⟩, ⟨⟨_, rfl⟩⟩⟩
      case measure => simp [intOf]; omega
set_option maxHeartbeats 1000000 in
set_option maxRecDepth 100000 in
theorem tlogPeaks_no (n : Int) (hn : n < 0 ∨ 281474976710656 < n) (w : World) :
    Calls Try.prog 4 #[.int .i64 n] w fun e w' => e = .returned (.bool true) ∧ Below w.heap.size w w' := by
  go_enter Try.func4, Try.ntmps4
  go_wp2_with fail
  refine (Peaks_calls 7 (by omega) _).mono ?_
  rintro e w2 ⟨v, rfl, HO7, HB7⟩
  obtain ⟨A7, c7, rfl⟩ := Kd.R_slice HO7
  rw [seven_length]
  clear HO7
  have HB7a := Aside0.mk HB7
  clear HB7
  go_wp2_with fail
  refine (Peaks_no n hn _).mono ?_
  rintro e w3 ⟨rfl, ⟨nd, rfl⟩⟩
  rcases hn with hn | hn
  · go_wp2
    go_ret
    exact ⟨rfl, pw_below_drewN HB7a.out nd⟩
  · have h0 : ¬ n < 0 := by omega
    go_wp2
    go_ret
    exact ⟨rfl, pw_below_drewN HB7a.out nd⟩
theorem tlogPeaks_all (n : Int) (w : World) :
    Calls Try.prog 4 #[.int .i64 n] w fun e w' => e = .returned (.bool true) ∧ Below w.heap.size w w' := by
  by_cases h : n < 0 ∨ 281474976710656 < n
  · exact tlogPeaks_no n h w
  · obtain ⟨m, rfl⟩ := Int.eq_ofNat_of_zero_le (show 0 ≤ n by omega)
    exact tlogPeaks_walk m (by omega) w
end Go.Proofs.Ytjbhaopocabfaaa.Wk
namespace Go.Proofs.Ytjbhaopocabfaaa.tlogPeaks
open Go.ChangeShapes Go.WideShapes Go.ChangeAt Go.RowKit
open Go.ChangeMaps (open_string shut_string)
set_option linter.unusedVariables false
theorem own : ownKnob Try.prog.godebug = none := by kernel_rfl
set_option maxRecDepth 100000 in
theorem lifted (os : Os) (started : os.Started) (H : Type) (enc : TypeId × Value → H) :
    ReturnsInHanded {} Try.checked os 4 .any (Rows.tlogPeaksSpec.pre6 enc Try.prog Try.f4 Rows.tlogPeaksRow.domain false) (Rows.tlogPeaksSpec.post enc Try.prog Try.f4 false true false false) := by
  refine returnsInHanded_of_change_sized (C := Try.checked) own started (by kernel_rfl) Try.func4
    (ChangeSpec.witness6 (enc := enc) (C := Try.checked) false ⟨#[], #[.int .i64 0], []⟩ 8 (by kernel_rfl) (by kernel_rfl) (by kernel_rfl) (by kernel_rfl)) ?_
  intro W base args ds gs before hval0 hW hcnd hsz0 _
  have hsz : (DataW.weightsEach Try.prog (Try.f4.params.toList ++ Rows.tlogPeaksSpec.plain.varTypes Try.prog) (ds ++ gs)).all (· ≤ reachBytes) = true := hsz0
  have hval : ∀ (j : Nat) t v, Try.f4.params[j]? = some t → args[j]? = some v → Value.okWide Try.prog W .any base t v := hval0
  have hW' := hW
  obtain ⟨p, q, hA0, hV, rfl, hfz, hnd⟩ := hW
  have hA : DataW.TrodAll enc Try.prog W 0 (fun _ => true) true Try.f4.params.toList args.toList ds p := hA0
  rw [Try.params4] at hA hval hsz
  obtain ⟨v0, vs0, d0, ds0, p0, q0, hargs, rfl, rfl, h0, r0⟩ := trodAll_cons hA
  obtain ⟨rfl, rfl, rfl⟩ := trodAll_nil r0
  obtain rfl : args = #[v0] := by cases args; simp_all
  obtain ⟨rfl, rfl⟩ := trodVars_none hV
  obtain ⟨a0, rfl, rfl, rfl, w0⟩ := open_int Try.underlying2 (hval 0 2 v0 rfl rfl) h0
  clear hA0 hval0 hsz0 hsz
  refine (Wk.tlogPeaks_all a0 W).mono fun e W' ⟨he, bel⟩ => ?_
  subst he
  exact ⟨_, rfl, _, _, _, [], _, [], hW', trodAll_mk1 (shut_bool Try.underlying4 _), (trodAll_cons_mk (shut_int Try.underlying2 w0) trodAll_mk0), rfl, bel.frame _, fun h => by cases h⟩
theorem over : Rows.tlogPeaksRow.holds Try.pinned (OpenSpec.ofChange Rows.tlogPeaksSpec) :=
  OpenClaim.holds_of_wide 4 Try.f4 rfl rfl rfl rfl rfl rfl rfl ⟨rfl, rfl, rfl, rfl, rfl⟩ rfl rfl rfl rfl rfl (by kernel_rfl) Try.func4 (by kernel_rfl)
    (of_decide_eq_true (by kernel_rfl)) (by unfold Func.isWrapper; first | (rw [if_pos (by decide +kernel)]; kernel_rfl) | (rw [if_neg (by decide +kernel)]; exact ⟨rfl, rfl⟩))
    (fun os started H enc _ => lifted os started H enc)
theorem proved : Rows.TlogPeaksSaid := over
end Go.Proofs.Ytjbhaopocabfaaa.tlogPeaks
namespace Go.Proofs.Ytjbhaopocabfaaa
/-- The row, under a short name, for the claim. -/
theorem tlogPeaks_holds : Rows.TlogPeaksSaid := tlogPeaks.proved
end Go.Proofs.Ytjbhaopocabfaaa
