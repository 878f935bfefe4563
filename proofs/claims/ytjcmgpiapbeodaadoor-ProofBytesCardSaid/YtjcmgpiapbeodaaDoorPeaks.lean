/-
  The walk of tlog.peaks and tlog.Peaks: what they hand out is new memory that holds the places of the peaks, from the highest level down.
-/
import Derived.Test.YtjcmgpiapbeodaaDoorCntP
import Derived.Test.YtjcmgpiapbeodaaDoorPlain
namespace Go.Proofs.YtjcmgpiapbeodaaDoor.Wk
open Go.RowKit Go.Proofs.YtjcmgpiapbeodaaDoor.PProofTakes Go.Proofs.YtjcmgpiapbeodaaDoorW.PrintWords Go.Proofs.YtjcmgpiapbeodaaDoorW.PrintLast Go.Proofs.YtjcmgpiapbeodaaDoorW.PrintMore Go.Proofs.YtjcmgpiapbeodaaDoor.Pl
theorem two62 (n : Nat) (h : n ≤ 562949953421312) : IntKind.u64.wrap (n : Int) = n := by rw [wrap_u64]; omega
theorem ones_f (n : Nat) (h : n ≤ 562949953421312) : bits_OnesCount64.f (n : Int) = some (pop n : Int) := by
  unfold bits_OnesCount64.f
  exact congrArg some (ones n (by omega) _ _ _ rfl rfl rfl)
theorem count_f (n : Nat) (h : n ≤ 562949953421312) : tlog_count.f (n : Int) = some (cnt n : Int) := by
  unfold tlog_count.f
  rw [two62 n h, ones_f n h]
  simp only [Option.bind_some]
  have := pop_le n
  congr 1
  unfold wrap64 cnt
  omega
theorem pow_le48 (l : Nat) (h : l ≤ 48) : 2 ^ l ≤ 281474976710656 := by
  have : 2 ^ l ≤ 2 ^ 48 := Nat.pow_le_pow_right (by decide) h
  omega
theorem fits_iff (l q : Nat) (_ : l ≤ 48) : (q : Int) < 281474976710656 / 2 ^ l ↔ (q + 1) * 2 ^ l ≤ 281474976710656 := by
  have hp : 0 < 2 ^ l := Nat.two_pow_pos l
  obtain ⟨M, hM⟩ : ∃ M : Nat, M = 281474976710656 := ⟨_, rfl⟩
  have hM2 : (281474976710656 : Int) = (M : Int) := by omega
  have e : ((M : Int) / 2 ^ l) = ((M / 2 ^ l : Nat) : Int) := by rw [Int.natCast_ediv, Int.natCast_pow]; rfl
  rw [hM2, e, ← hM]
  have := @Nat.le_div_iff_mul_le (2 ^ l) (q + 1) M hp
  omega
theorem place_f (l q : Nat) (hl : l ≤ 48) (h : (q + 1) * 2 ^ l ≤ 281474976710656) : tlog_place.f (l : Int) (q : Int) = some ((cnt ((q + 1) * 2 ^ l - 1) + l : Nat) : Int) := by
  unfold tlog_place.f
  rw [if_pos (by omega)]
  have hp : 0 < 2 ^ l := Nat.two_pow_pos l
  have hq : (q + 1) * 1 ≤ (q + 1) * 2 ^ l := Nat.mul_le_mul_left _ hp
  have e1 : wrap64 ((q : Int) + 1) = ((q + 1 : Nat) : Int) := by unfold wrap64; omega
  have e2 : shl .i64 ((q + 1 : Nat) : Int) (l : Int) = (((q + 1) * 2 ^ l : Nat) : Int) := by
    unfold shl
    rw [show min (l : Int).toNat IntKind.i64.bits = l by simp [IntKind.bits]; omega]
    have : ((q + 1 : Nat) : Int) * 2 ^ l = (((q + 1) * 2 ^ l : Nat) : Int) := by push_cast; rfl
    rw [this, IntKind.wrap_i64]
    omega
  rw [e1, e2]
  have e3 : wrap64 ((((q + 1) * 2 ^ l : Nat) : Int) - 1) = (((q + 1) * 2 ^ l - 1 : Nat) : Int) := by unfold wrap64; omega
  rw [e3, count_f _ (by omega)]
  simp only [Option.bind_some]
  have := cnt_le ((q + 1) * 2 ^ l - 1)
  congr 1
  unfold wrap64
  omega
theorem shr48 (l : Nat) (hl : l ≤ 48) : shr .i64 281474976710656 (l : Int) = 281474976710656 / 2 ^ l := by
  unfold shr
  rw [show min (l : Int).toNat IntKind.i64.bits = l by simp [IntKind.bits]; omega]
theorem filled_l (c : Nat) (d : Nat) : ∀ (k n : Nat), n + d = 281474976710656 → d < k → cnt n ≤ c →
    ∃ r : Nat, IsFil c r ∧ tlog_filled.l0 k (c : Int) (n : Int) = some (r : Int) := by
  induction d with
  | zero =>
    intro k n hn hk h
    obtain ⟨k, rfl⟩ : ∃ m, k = m + 1 := ⟨k - 1, by omega⟩
    refine ⟨n, ⟨by omega, h, .inl (by omega)⟩, ?_⟩
    simp only [tlog_filled.l0]
    rw [if_neg (by omega)]
  | succ d ih =>
    intro k n hn hk h
    obtain ⟨k, rfl⟩ : ∃ m, k = m + 1 := ⟨k - 1, by omega⟩
    have ew : wrap64 ((n : Int) + 1) = ((n + 1 : Nat) : Int) := by unfold wrap64; omega
    simp only [tlog_filled.l0]
    rw [if_pos (by omega), ew, count_f _ (by omega)]
    simp only [Option.bind_some]
    by_cases h2 : cnt (n + 1) ≤ c
    · rw [if_pos (by omega)]
      exact ih k (n + 1) (by omega) (by omega) h2
    · rw [if_neg (by omega)]
      exact ⟨n, ⟨by omega, h, .inr (by omega)⟩, rfl⟩
theorem filled_f (c r : Nat) (hc : c ≤ 562949953421311) (hr : IsFil c r) (k : Nat) (hk : 281474976710656 < k) : tlog_filled.f k (c : Int) = some (r : Int) := by
  unfold tlog_filled.f
  have e : wrap64 (Int.tdiv (c : Int) 2) = ((c / 2 : Nat) : Int) := by
    rw [Int.tdiv_eq_ediv_of_nonneg (by omega)]; unfold wrap64; omega
  rw [e]
  obtain ⟨s, hs, h⟩ := filled_l c (281474976710656 - c / 2) k (c / 2) (by omega) (by omega) (Nat.le_trans (cnt_le _) (by omega))
  rw [h, hr.unique hs]
theorem count_top : tlog_count.f 281474976710656 = some 562949953421311 := by
  obtain ⟨M, hM⟩ : ∃ M : Nat, M = 281474976710656 := ⟨_, rfl⟩
  have hM2 : (281474976710656 : Int) = (M : Int) := by omega
  have ht := cnt_top
  rw [← hM] at ht
  rw [hM2, count_f M (by omega), ht]
  congr 1
theorem Count_f (n : Nat) (h : n ≤ 281474976710656) : tlog_Count.f (n : Int) = some ((cnt n : Int), 0) := by
  unfold tlog_Count.f
  rw [if_neg (by omega), if_neg (by omega), count_f n (by omega)]
  rfl
theorem records_no (a : Int) (h : a < 0 ∨ 562949953421311 < a) (k : Nat) : tlog_Records.f (k + 1) a = some (0, 80) := by
  unfold tlog_Records.f
  by_cases h1 : a < 0
  · rw [if_pos h1]; simp only [tlog_Records.j0, if_true]
  · rw [if_neg h1, count_top, Option.bind_some, decide_eq_true (by omega)]
    simp only [tlog_Records.j0, if_true]
theorem records_f (c r : Nat) (hc : c ≤ 562949953421311) (hr : IsFil c r) (k : Nat) (hk : 281474976710656 < k) :
    tlog_Records.f (k + 1) (c : Int) = if cnt r = c then some ((r : Int), 0) else some (0, 80) := by
  unfold tlog_Records.f
  rw [if_neg (by omega), count_top, Option.bind_some, decide_eq_false (by omega)]
  simp only [tlog_Records.j0]
  rw [if_neg (by decide), filled_f c r hc hr k hk, Option.bind_some, count_f r (by have := hr.1; omega), Option.bind_some]
  by_cases h : cnt r = c
  · rw [if_pos h, if_pos (by omega)]
  · rw [if_neg h, if_neg (by omega)]
theorem fil_exists (c : Nat) (hc : c ≤ 562949953421311) : ∃ r, IsFil c r := by
  obtain ⟨r, hr, _⟩ := filled_l c (281474976710656 - 0) 281474976710657 0 (by omega) (by omega) (by rw [cnt_zero]; omega)
  exact ⟨r, hr⟩
theorem info2 : (Tryd.prog.info? 2).map (fun i => (i.zero, i.size, i.bytes)) = some (some (.int .i64 0), 1, 8) := by kernel_rfl
theorem bit_test (n m : Nat) (hn : n ≤ 281474976710656) : Go.bits .and .i64 ((n : Int) / 2 ^ m) 1 = ((n / 2 ^ m % 2 : Nat) : Int) := by
  have e : ((n : Int) / 2 ^ m) = ((n / 2 ^ m : Nat) : Int) := by rw [Int.natCast_ediv, Int.natCast_pow]; rfl
  have h : n / 2 ^ m ≤ n := Nat.div_le_self _ _
  rw [e, show (1 : Int) = ((1 : Nat) : Int) from rfl, and_i64 _ _ (by omega) (by decide), Nat.and_one_is_mod]
/-- the places of the peaks of the levels below L; ahead: how many records stand ahead of them -/
def pks (n : Nat) : Nat → Nat → List Int
  | 0, _ => []
  | L + 1, ahead => if n / 2 ^ L % 2 = 1 then ((cnt ((ahead / 2 ^ L + 1) * 2 ^ L - 1) + L : Nat) : Int) :: pks n L (ahead + 2 ^ L) else pks n L ahead
theorem pks_zero (n a : Nat) : pks n 0 a = [] := rfl
theorem pks_yes (n ahead m : Nat) (h : n / 2 ^ m % 2 = 1) : pks n (m + 1) ahead = ((cnt ((ahead / 2 ^ m + 1) * 2 ^ m - 1) + m : Nat) : Int) :: pks n m (ahead + 2 ^ m) := by
  simp only [pks]; rw [if_pos h]
theorem pks_no (n ahead m : Nat) (h : ¬ n / 2 ^ m % 2 = 1) : pks n (m + 1) ahead = pks n m ahead := by
  simp only [pks]; rw [if_neg h]
theorem ahead_next (n ahead m : Nat) (h : ahead = n / 2 ^ (m + 1) * 2 ^ (m + 1)) :
    (n / 2 ^ m % 2 = 1 → ahead + 2 ^ m = n / 2 ^ m * 2 ^ m ∧ (ahead / 2 ^ m + 1) * 2 ^ m = ahead + 2 ^ m) ∧ (¬ n / 2 ^ m % 2 = 1 → ahead = n / 2 ^ m * 2 ^ m) := by
  have e : n / 2 ^ (m + 1) = n / 2 ^ m / 2 := by rw [Nat.pow_succ, Nat.div_div_eq_div_mul]
  have hp : 0 < 2 ^ m := Nat.two_pow_pos m
  rw [e, Nat.pow_succ] at h
  generalize n / 2 ^ m = d at *
  generalize 2 ^ m = P at *
  have h2 : ahead = (2 * (d / 2)) * P := by rw [h]; ac_rfl
  refine ⟨fun hb => ⟨?_, ?_⟩, fun hb => ?_⟩
  · have : d = 2 * (d / 2) + 1 := by omega
    conv => rhs; rw [this]
    rw [Nat.add_mul, Nat.one_mul, h2]
  · rw [h2, Nat.mul_div_cancel _ hp, Nat.add_mul, Nat.one_mul]
  · have : 2 * (d / 2) = d := by omega
    rw [h2, this]
theorem ones_calls (n : Nat) (hn : n ≤ 281474976710656) (w : World) : Calls Tryd.prog 103 #[.int .u64 n] w fun e w' => e = .returned (.int .i64 (pop n)) ∧ Drawn0 w w' :=
  bits_OnesCount64.calls n _ w (ones_f n (by omega))

set_option maxHeartbeats 1000000 in
set_option maxRecDepth 100000 in
theorem peaks_calls (n : Nat) (hn : n ≤ 281474976710656) (w : World) :
    Calls Tryd.prog 92 #[.int .i64 n] w fun e w' => ∃ v, e = .returned v ∧ Kd.R (Kd.int .i64) 2 w' w.heap.size (fun _ => True) v (pks n 49 0) ∧ Below w.heap.size w w' := by
  obtain ⟨i0, hi, hz0, hz1, hz2⟩ := info_parts info2
  have hpl : pop n ≤ 49 := pop_lt_pow 49 n (by omega)
  go_enter Tryd.func92, Tryd.ntmps92
  go_wp2_with fail
  refine (ones_calls n hn _).mono ?_
  rintro e w1 ⟨rfl, ⟨nd, rfl⟩⟩
  go_wp2_with (first | (at_make; refine wpList_make_own _ rfl _ _ 55 rfl w.heap.size 2 i0 (.int .i64 0) 1 Tryd.underlying55 hi hz0 hz1 _ _ (pop n : Int) (pop n) rfl rfl rfl (by rw [hz2]; omega) (by unfold maxLen; omega) (by simp) ?_; intro w1 hown hgr))
  have HB : Aside0 (Below w.heap.size w w1) := ⟨(pw_below_drewN (Below.refl _ _) nd).grown hgr (by simp) (by intro k hk; cases hk)⟩
  have HO : Aside0 (Kd.R (Kd.int .i64) 2 w1 w.heap.size (fun _ => True) (.slice (some ⟨w.heap.size, 0, none⟩) 0 (pop n)) []) := ⟨Kd.R_of_own hown (fun _ _ => trivial)⟩
  clear hown hgr hi hz0 hz1 hz2 hpl
  go_loopw [3, 4, 5] (fun v a l wr => ∃ (L ahead : Nat) (lv : Int) (done : List Int), a = .int .i64 ahead ∧ l = .int .i64 lv ∧ Aside0 (lv = (L : Int) - 1) ∧ Aside0 (L ≤ 49) ∧ Aside0 (ahead = n / 2 ^ L * 2 ^ L) ∧ Aside0 (done ++ pks n L ahead = pks n 49 0) ∧ Aside0 (done.length + L ≤ 49) ∧ Aside0 (Kd.R (Kd.int .i64) 2 wr w.heap.size (fun _ => True) v done) ∧ Aside0 (Below w.heap.size w wr)) (fun _ _ l _ => (intOf l + 1).toNat)
  case atStart => exact ⟨49, 0, 48, [], rfl, rfl, ⟨rfl⟩, ⟨by omega⟩, ⟨by omega⟩, ⟨rfl⟩, ⟨by simp⟩, HO, HB⟩
  case round =>
    clear HO HB
    obtain ⟨L, ahead, lv, done, rfl, rfl, A1, A2, A3, A4, A5, HO, HB⟩ := hrel
    cases L with
    | zero =>
      obtain rfl : lv = -1 := A1.out
      go_wp2
      go_ret
      refine ⟨_, rfl, ?_, HB.out⟩
      have h := A4.out
      rw [pks_zero, List.append_nil] at h
      rw [← h]
      exact HO.out
    | succ m =>
      obtain rfl : lv = (m : Int) := by have := A1.out; omega
      have hm : m ≤ 48 := by have := A2.out; omega
      have hp48 := pow_le48 m hm
      have hah : ahead ≤ 281474976710656 := by have := A3.out; have := Nat.div_mul_le_self n (2 ^ (m + 1)); omega
      have hnext := ahead_next n ahead m A3.out
      by_cases hb : n / 2 ^ m % 2 = 1
      · have hbit : (Go.bits .and .i64 ((n : Int) / 2 ^ m) 1 == 1) = true := by rw [bit_test n m hn, hb]; rfl
        have hstep := pks_yes n ahead m hb
        have hfit : (ahead / 2 ^ m + 1) * 2 ^ m ≤ 281474976710656 := by have := hnext.1 hb; have := Nat.div_mul_le_self n (2 ^ m); omega
        have hpl := place_f m (ahead / 2 ^ m) hm hfit
        obtain ⟨P, hP⟩ : ∃ P : Int, P = ((cnt ((ahead / 2 ^ m + 1) * 2 ^ m - 1) + m : Nat) : Int) := ⟨_, rfl⟩
        rw [← hP] at hpl hstep
        have ed : ((ahead : Int) / 2 ^ m) = ((ahead / 2 ^ m : Nat) : Int) := by rw [Int.natCast_ediv, Int.natCast_pow]; rfl
        rw [← ed] at hpl
        have HPL := Aside0.mk hpl
        have HST := Aside0.mk hstep
        have HNX := Aside0.mk (hnext.1 hb)
        have hpe : ((2 ^ m : Nat) : Int) = (2 : Int) ^ m := by rw [Int.natCast_pow]; rfl
        have hpi0 : (0 : Int) ≤ 2 ^ m := Int.pow_nonneg (by decide)
        have hpi1 : (2 : Int) ^ m ≤ 281474976710656 := by rw [← hpe]; exact Int.ofNat_le.mpr hp48
        have HPE := Aside0.mk hpe
        clear hpe
        have hsum : ahead + 2 ^ m ≤ 281474976710656 := by have := hnext.1 hb; have := Nat.div_mul_le_self n (2 ^ m); omega
        clear hpl hstep hnext ed hfit hP hb
        go_wp2_with (first | (go_at_call 102; (with_reducible refine (tlog_place.calls (m : Int) ((ahead : Int) / 2 ^ m) P _ HPL.out).mono ?_); rintro e w2 ⟨rfl, ⟨nd2, rfl⟩⟩) | ((with_reducible refine gate_builtin (b := .append) (xs := #[.tmp 19, .tmp 25]) rfl ?_); at_builtin; refine Kd.R_append (Kd.int .i64) (w0 := w) w.heap.size rfl (.tmp 19) (.tmp 25) 55 2 (.int .i64 0) 8 rfl Tryd.underlying55 info2 rfl (by decide) (by omega) u3 done P [.int .i64 P] (fun _ => True) (fun _ => False) rfl rfl rfl (fun _ hk => hk.elim) (fun _ _ => trivial) (by with_reducible repeat (first | exact HO.out | apply Kd.R_drewN)) (by repeat (first | exact HB.out | apply pw_below_drewN)) (by have := HB.out.size; simpa using this) (by have := A5.out; omega) ?_; intro v1 w3 ho hb hg hat; have n1 := Aside0.mk hb; have n2 := Aside0.mk ho; clear HB HO; have HB := n1; have HO := n2; clear n1 n2 ho hb hg hat))
        go_roundw
        case rel => exact ⟨m, ahead + 2 ^ m, (m : Int) - 1, done ++ [P], (by congr 1), rfl, ⟨rfl⟩, ⟨by omega⟩, ⟨HNX.out.1⟩, ⟨by rw [List.append_assoc, ← A4.out, HST.out]; rfl⟩, ⟨by have := A5.out; rw [List.length_append, List.length_singleton]; omega⟩, HO, HB⟩
        case measure => simp [intOf]
      · have hbit : (Go.bits .and .i64 ((n : Int) / 2 ^ m) 1 == 1) = false := by rw [bit_test n m hn]; rw [beq_eq_false_iff_ne]; omega
        have hstep := pks_no n ahead m hb
        have HST := Aside0.mk hstep
        have HNX := Aside0.mk (hnext.2 hb)
        clear hstep hnext hb
        go_wp2
        go_roundw
        case rel => exact ⟨m, ahead, (m : Int) - 1, done, rfl, rfl, ⟨rfl⟩, ⟨by omega⟩, ⟨HNX.out⟩, ⟨by rw [← HST.out]; exact A4.out⟩, ⟨by have := A5.out; omega⟩, HO, HB⟩
        case measure => simp [intOf]
end Go.Proofs.YtjcmgpiapbeodaaDoor.Wk
