/-
  Over numbers alone: the document's places, counts and peaks are the program's. No memory.
-/
import Derived.Test.YtjbhaopocabfaaaPlacesB
import Derived.Test.YtjbhaopocabfaaaPlain
import Derived.Test.YtjbhaopocabfaaaPeaks
namespace Go.Proofs.Ytjbhaopocabfaaa.PlPure
open Go.RowKit Go.Proofs.Ytjbhaopocabfaaa.PTlogPlaces Go.Proofs.YtjbhaopocabfaaaW.PrintWords Go.Proofs.YtjbhaopocabfaaaW.PrintLast Go.Proofs.YtjbhaopocabfaaaW.PrintMore Go.Proofs.Ytjbhaopocabfaaa.Pl
theorem two62 (n : Nat) (h : n ≤ 562949953421312) : IntKind.u64.wrap (n : Int) = n := by rw [wrap_u64]; omega
theorem ones_f (n : Nat) (h : n ≤ 562949953421312) : bits_OnesCount64.f (n : Int) = some (pop n : Int) := by
  unfold bits_OnesCount64.f
  exact congrArg some (ones n (by omega) _ _ _ rfl rfl rfl)
theorem count_f (n : Nat) (h : n ≤ 562949953421312) : tlog_count.f (n : Int) = some (cnt n : Int) := by
  unfold tlog_count.f
  rw [two62 n h, ones_f n h]
  simp only [Option.bind_some]
  have := pop_le n
  congr 1
  unfold wrap64 cnt
  omega
theorem pow_le48 (l : Nat) (h : l ≤ 48) : 2 ^ l ≤ 281474976710656 := by
  have : 2 ^ l ≤ 2 ^ 48 := Nat.pow_le_pow_right (by decide) h
  omega
theorem fits_iff (l q : Nat) (_ : l ≤ 48) : (q : Int) < 281474976710656 / 2 ^ l ↔ (q + 1) * 2 ^ l ≤ 281474976710656 := by
  have hp : 0 < 2 ^ l := Nat.two_pow_pos l
  obtain ⟨M, hM⟩ : ∃ M : Nat, M = 281474976710656 := ⟨_, rfl⟩
  have hM2 : (281474976710656 : Int) = (M : Int) := by omega
  have e : ((M : Int) / 2 ^ l) = ((M / 2 ^ l : Nat) : Int) := by rw [Int.natCast_ediv, Int.natCast_pow]; rfl
  rw [hM2, e, ← hM]
  have := @Nat.le_div_iff_mul_le (2 ^ l) (q + 1) M hp
  omega
theorem place_f (l q : Nat) (hl : l ≤ 48) (h : (q + 1) * 2 ^ l ≤ 281474976710656) : tlog_place.f (l : Int) (q : Int) = some ((cnt ((q + 1) * 2 ^ l - 1) + l : Nat) : Int) := by
  unfold tlog_place.f
  rw [if_pos (by omega)]
  have hp : 0 < 2 ^ l := Nat.two_pow_pos l
  have hq : (q + 1) * 1 ≤ (q + 1) * 2 ^ l := Nat.mul_le_mul_left _ hp
  have e1 : wrap64 ((q : Int) + 1) = ((q + 1 : Nat) : Int) := by unfold wrap64; omega
  have e2 : shl .i64 ((q + 1 : Nat) : Int) (l : Int) = (((q + 1) * 2 ^ l : Nat) : Int) := by
    unfold shl
    rw [show min (l : Int).toNat IntKind.i64.bits = l by simp [IntKind.bits]; omega]
    have : ((q + 1 : Nat) : Int) * 2 ^ l = (((q + 1) * 2 ^ l : Nat) : Int) := by push_cast; rfl
    rw [this, IntKind.wrap_i64]
    omega
  rw [e1, e2]
  have e3 : wrap64 ((((q + 1) * 2 ^ l : Nat) : Int) - 1) = (((q + 1) * 2 ^ l - 1 : Nat) : Int) := by unfold wrap64; omega
  rw [e3, count_f _ (by omega)]
  simp only [Option.bind_some]
  have := cnt_le ((q + 1) * 2 ^ l - 1)
  congr 1
  unfold wrap64
  omega
theorem shr48 (l : Nat) (hl : l ≤ 48) : shr .i64 281474976710656 (l : Int) = 281474976710656 / 2 ^ l := by
  unfold shr
  rw [show min (l : Int).toNat IntKind.i64.bits = l by simp [IntKind.bits]; omega]
theorem index_f (l q : Nat) (hl : l ≤ 48) (h : (q + 1) * 2 ^ l ≤ 281474976710656) : tlog_Index.f (l : Int) (q : Int) = some (((cnt ((q + 1) * 2 ^ l - 1) + l : Nat) : Int), 0) := by
  unfold tlog_Index.f
  have := (fits_iff l q hl).2 h
  rw [if_neg (by omega), if_neg (by omega), if_neg (by omega), if_pos (by omega), shr48 l hl, if_neg (by omega), place_f l q hl h]
  rfl
theorem index_no (a b : Int) (h : ¬ (0 ≤ a ∧ a ≤ 48 ∧ 0 ≤ b ∧ b < 281474976710656 / 2 ^ a.toNat)) : tlog_Index.f a b = some (0, 1) := by
  unfold tlog_Index.f
  by_cases h1 : a < 0
  · rw [if_pos h1]
  · rw [if_neg h1]
    by_cases h2 : a > 48
    · rw [if_pos h2]
    · rw [if_neg h2]
      by_cases h3 : b < 0
      · rw [if_pos h3]
      · rw [if_neg h3, if_pos (by omega)]
        obtain ⟨l, rfl⟩ := Int.eq_ofNat_of_zero_le (show 0 ≤ a by omega)
        rw [shr48 l (by omega)]
        rw [Int.toNat_natCast] at h
        rw [if_pos (by omega)]
theorem filled_l (c : Nat) (d : Nat) : ∀ (k n : Nat), n + d = 281474976710656 → d < k → cnt n ≤ c →
    ∃ r : Nat, IsFil c r ∧ tlog_filled.l0 k (c : Int) (n : Int) = some (r : Int) := by
  induction d with
  | zero =>
    intro k n hn hk h
    obtain ⟨k, rfl⟩ : ∃ m, k = m + 1 := ⟨k - 1, by omega⟩
    refine ⟨n, ⟨by omega, h, .inl (by omega)⟩, ?_⟩
    simp only [tlog_filled.l0]
    rw [if_neg (by omega)]
  | succ d ih =>
    intro k n hn hk h
    obtain ⟨k, rfl⟩ : ∃ m, k = m + 1 := ⟨k - 1, by omega⟩
    have ew : wrap64 ((n : Int) + 1) = ((n + 1 : Nat) : Int) := by unfold wrap64; omega
    simp only [tlog_filled.l0]
    rw [if_pos (by omega), ew, count_f _ (by omega)]
    simp only [Option.bind_some]
    by_cases h2 : cnt (n + 1) ≤ c
    · rw [if_pos (by omega)]
      exact ih k (n + 1) (by omega) (by omega) h2
    · rw [if_neg (by omega)]
      exact ⟨n, ⟨by omega, h, .inr (by omega)⟩, rfl⟩
theorem filled_f (c r : Nat) (hc : c ≤ 562949953421311) (hr : IsFil c r) (k : Nat) (hk : 281474976710656 < k) : tlog_filled.f k (c : Int) = some (r : Int) := by
  unfold tlog_filled.f
  have e : wrap64 (Int.tdiv (c : Int) 2) = ((c / 2 : Nat) : Int) := by
    rw [Int.tdiv_eq_ediv_of_nonneg (by omega)]; unfold wrap64; omega
  rw [e]
  obtain ⟨s, hs, h⟩ := filled_l c (281474976710656 - c / 2) k (c / 2) (by omega) (by omega) (Nat.le_trans (cnt_le _) (by omega))
  rw [h, hr.unique hs]
theorem count_top : tlog_count.f 281474976710656 = some 562949953421311 := by
  obtain ⟨M, hM⟩ : ∃ M : Nat, M = 281474976710656 := ⟨_, rfl⟩
  have hM2 : (281474976710656 : Int) = (M : Int) := by omega
  have ht := cnt_top
  rw [← hM] at ht
  rw [hM2, count_f M (by omega), ht]
  congr 1
theorem split_no (a : Int) (h : a < 0 ∨ 562949953421311 ≤ a) (k : Nat) (hk : 0 < k) : tlog_SplitIndex.f k a = some (0, 0, 1) := by
  obtain ⟨k, rfl⟩ : ∃ m, k = m + 1 := ⟨k - 1, by omega⟩
  unfold tlog_SplitIndex.f
  by_cases h1 : a < 0
  · rw [if_pos h1]; simp only [tlog_SplitIndex.j0, if_true]
  · rw [if_neg h1, count_top]
    simp only [Option.bind_some]
    rw [decide_eq_true (by omega)]
    simp only [tlog_SplitIndex.j0, if_true]
theorem split_tail (q l : Nat) (hl : l ≤ 48) (h : (q + 1) * 2 ^ l ≤ 281474976710656) :
    wrap64 ((shr .i64 (((q + 1) * 2 ^ l : Nat) : Int) (l : Int)) - 1) = (q : Int) := by
  have hp : 0 < 2 ^ l := Nat.two_pow_pos l
  have hq : (q + 1) * 1 ≤ (q + 1) * 2 ^ l := Nat.mul_le_mul_left _ hp
  have e3 : shr .i64 (((q + 1) * 2 ^ l : Nat) : Int) (l : Int) = ((q + 1 : Nat) : Int) := by
    unfold shr
    rw [show min (l : Int).toNat IntKind.i64.bits = l by simp [IntKind.bits]; omega]
    have : (((q + 1) * 2 ^ l : Nat) : Int) / 2 ^ l = (((q + 1) * 2 ^ l / 2 ^ l : Nat) : Int) := by rw [Int.natCast_ediv, Int.natCast_pow]; rfl
    rw [this, Nat.mul_div_cancel _ hp]
  rw [e3]
  unfold wrap64; omega
theorem split_f (r l q : Nat) (hc : cnt r + l < 562949953421311) (hr : IsFil (cnt r + l) r) (hl : l ≤ 48) (e : r + 1 = (q + 1) * 2 ^ l) (hr2 : r < 281474976710656) (k : Nat) (hk : 281474976710656 < k) :
    tlog_SplitIndex.f (k + 1) ((cnt r + l : Nat) : Int) = some ((l : Int), (q : Int), 0) := by
  unfold tlog_SplitIndex.f
  rw [if_neg (by omega), count_top]
  rw [Option.bind_some]
  rw [decide_eq_false (by omega)]
  simp only [tlog_SplitIndex.j0]
  rw [if_neg (by decide), filled_f (cnt r + l) r (by omega) hr k hk]
  rw [Option.bind_some]
  rw [count_f r (by omega)]
  rw [Option.bind_some]
  have e1 : wrap64 (((cnt r + l : Nat) : Int) - (cnt r : Int)) = (l : Int) := by unfold wrap64; omega
  rw [e1, if_pos (by omega)]
  have e2 : wrap64 ((r : Int) + 1) = (((q + 1) * 2 ^ l : Nat) : Int) := by rw [← e]; unfold wrap64; omega
  rw [e2, split_tail q l hl (by omega)]
theorem split_place (l q : Nat) (hl : l ≤ 48) (h : (q + 1) * 2 ^ l ≤ 281474976710656) (k : Nat) (hk : 281474976710656 < k) :
    tlog_SplitIndex.f (k + 1) ((cnt ((q + 1) * 2 ^ l - 1) + l : Nat) : Int) = some ((l : Int), (q : Int), 0) := by
  have hp : 0 < 2 ^ l := Nat.two_pow_pos l
  have hq : 0 < (q + 1) * 2 ^ l := Nat.mul_pos (by omega) hp
  have hs := cnt_step_le q l
  have ht : cnt ((q + 1) * 2 ^ l) ≤ 562949953421311 := by rw [← cnt_top]; exact cnt_mono h
  exact split_f ((q + 1) * 2 ^ l - 1) l q (by omega) (isFil_place q l h) hl (by omega) (by omega) k hk
theorem Count_f (n : Nat) (h : n ≤ 281474976710656) : tlog_Count.f (n : Int) = some ((cnt n : Int), 0) := by
  unfold tlog_Count.f
  rw [if_neg (by omega), if_neg (by omega), count_f n (by omega)]
  rfl
theorem records_no (a : Int) (h : a < 0 ∨ 562949953421311 < a) (k : Nat) : tlog_Records.f (k + 1) a = some (0, 80) := by
  unfold tlog_Records.f
  by_cases h1 : a < 0
  · rw [if_pos h1]; simp only [tlog_Records.j0, if_true]
  · rw [if_neg h1, count_top, Option.bind_some, decide_eq_true (by omega)]
    simp only [tlog_Records.j0, if_true]
theorem records_f (c r : Nat) (hc : c ≤ 562949953421311) (hr : IsFil c r) (k : Nat) (hk : 281474976710656 < k) :
    tlog_Records.f (k + 1) (c : Int) = if cnt r = c then some ((r : Int), 0) else some (0, 80) := by
  unfold tlog_Records.f
  rw [if_neg (by omega), count_top, Option.bind_some, decide_eq_false (by omega)]
  simp only [tlog_Records.j0]
  rw [if_neg (by decide), filled_f c r hc hr k hk, Option.bind_some, count_f r (by have := hr.1; omega), Option.bind_some]
  by_cases h : cnt r = c
  · rw [if_pos h, if_pos (by omega)]
  · rw [if_neg h, if_neg (by omega)]
theorem fil_exists (c : Nat) (hc : c ≤ 562949953421311) : ∃ r, IsFil c r := by
  obtain ⟨r, hr, _⟩ := filled_l c (281474976710656 - 0) 281474976710657 0 (by omega) (by omega) (by rw [cnt_zero]; omega)
  exact ⟨r, hr⟩
theorem power_l (d : Nat) : ∀ (l i k : Nat), i + d = l → l ≤ 62 → d < k → ledgerref08_power.l0 k (l : Int) ((2 ^ i : Nat) : Int) (i : Int) = some ((2 ^ l : Nat) : Int) := by
  induction d with
  | zero =>
    intro l i k h hl hk
    obtain ⟨k, rfl⟩ : ∃ m, k = m + 1 := ⟨k - 1, by omega⟩
    obtain rfl : i = l := by omega
    simp only [ledgerref08_power.l0]
    rw [if_neg (by omega)]
  | succ d ih =>
    intro l i k h hl hk
    obtain ⟨k, rfl⟩ : ∃ m, k = m + 1 := ⟨k - 1, by omega⟩
    simp only [ledgerref08_power.l0]
    have hp : 2 ^ i ≤ 2 ^ 61 := Nat.pow_le_pow_right (by decide) (by omega)
    have e1 : wrap64 (2 * ((2 ^ i : Nat) : Int)) = ((2 ^ (i + 1) : Nat) : Int) := by rw [Nat.pow_succ]; unfold wrap64; omega
    have e2 : wrap64 ((i : Int) + 1) = ((i + 1 : Nat) : Int) := by unfold wrap64; omega
    rw [if_pos (by omega), e1, e2]
    exact ih l (i + 1) k (by omega) hl (by omega)
theorem power_f (l k : Nat) (hl : l ≤ 62) (hk : l < k) : ledgerref08_power.f k (l : Int) = some ((2 ^ l : Nat) : Int) := by
  unfold ledgerref08_power.f
  exact power_l l l 0 k (by omega) hl hk
theorem laid_l (j : Nat) : ∀ (n s k : Nat), n < 2 ^ j → j < k → s + 2 * n < 2 ^ 62 → ledgerref08_laid.l0 k (n : Int) (s : Int) = some ((s + cnt n : Nat) : Int) := by
  induction j with
  | zero =>
    intro n s k h hk hs
    obtain ⟨k, rfl⟩ : ∃ m, k = m + 1 := ⟨k - 1, by omega⟩
    obtain rfl : n = 0 := by simpa using h
    simp only [ledgerref08_laid.l0]
    rw [if_neg (by omega), cnt_zero]; rfl
  | succ j ih =>
    intro n s k h hk hs
    obtain ⟨k, rfl⟩ : ∃ m, k = m + 1 := ⟨k - 1, by omega⟩
    simp only [ledgerref08_laid.l0]
    by_cases hn : n = 0
    · subst hn; rw [if_neg (by omega), cnt_zero]; rfl
    · have e1 : wrap64 (Int.tdiv (n : Int) 2) = ((n / 2 : Nat) : Int) := by rw [Int.tdiv_eq_ediv_of_nonneg (by omega)]; unfold wrap64; omega
      have e2 : wrap64 ((s : Int) + (n : Int)) = ((s + n : Nat) : Int) := by unfold wrap64; omega
      rw [if_pos (by omega), e1, e2, ih (n / 2) (s + n) k (by rw [Nat.pow_succ] at h; omega) (by omega) (by omega), cnt_half n, Nat.add_assoc]
theorem laid_f (n k : Nat) (hn : n < 562949953421312) (hk : 60 < k) : ledgerref08_laid.f k (n : Int) = some (cnt n : Int) := by
  unfold ledgerref08_laid.f
  have := laid_l 49 n 0 k (by omega) (by omega) (by omega)
  rw [Nat.zero_add] at this
  exact this
theorem pow_ne (l : Nat) : ¬ (((2 ^ l : Nat) : Int) = 0) := by have := Nat.two_pow_pos l; omega
theorem pred_small (z : Nat) (h0 : 0 < z) (h : z ≤ 281474976710656) : wrap64 (wrap64 (z : Int) - 1) = ((z - 1 : Nat) : Int) := by unfold wrap64; omega
theorem wrap_div (P : Nat) : wrap64 ((281474976710656 : Int) / (P : Int)) = ((281474976710656 / P : Nat) : Int) := by
  obtain ⟨M, hM⟩ : ∃ M : Nat, M = 281474976710656 := ⟨_, rfl⟩
  have hM2 : (281474976710656 : Int) = (M : Int) := by omega
  rw [hM2, ← hM, ← Int.natCast_ediv]
  have : M / P ≤ M := Nat.div_le_self _ _
  generalize M / P = z at *
  unfold wrap64; omega
theorem add_small' (a l : Nat) (h : a ≤ 562949953421312) (hl : l ≤ 48) : wrap64 ((a : Int) + (l : Int)) = ((a + l : Nat) : Int) := by unfold wrap64; omega
theorem succ_small (q : Nat) (h : q < 281474976710656) : wrap64 ((q : Int) + 1) = ((q + 1 : Nat) : Int) := by unfold wrap64; omega
theorem pred_wrap (m : Nat) (h : m ≤ 48) : wrap64 ((m : Int) - 1) = (m : Int) - 1 := by unfold wrap64; omega
theorem sub_small2 (n a : Nat) (h : a ≤ n) (hn : n ≤ 281474976710656) : wrap64 ((n : Int) - (a : Int)) = ((n - a : Nat) : Int) := by unfold wrap64; omega
theorem small_wrap (n : Nat) (hn : n ≤ 281474976710656) : wrap64 (n : Int) = (n : Int) := by unfold wrap64; omega
theorem bit_ge (n ahead m : Nat) (h : ahead = n / 2 ^ (m + 1) * 2 ^ (m + 1)) : 2 ^ m ≤ n - ahead ↔ n / 2 ^ m % 2 = 1 := by
  have e : n - ahead = n % 2 ^ (m + 1) := by rw [h, Nat.mod_eq_sub_div_mul]
  rw [e, Nat.mod_pow_succ]
  have hp : 0 < 2 ^ m := Nat.two_pow_pos m
  have h1 : n % 2 ^ m < 2 ^ m := Nat.mod_lt _ hp
  have h2 : n / 2 ^ m % 2 < 2 := Nat.mod_lt _ (by decide)
  generalize n / 2 ^ m % 2 = b at *
  generalize n % 2 ^ m = r at *
  generalize 2 ^ m = P at *
  rcases (show b = 0 ∨ b = 1 by omega) with rfl | rfl
  · rw [Nat.mul_zero]; omega
  · rw [Nat.mul_one]; omega
theorem rIndex_f (l q k : Nat) (hl : l ≤ 48) (h : (q + 1) * 2 ^ l ≤ 281474976710656) (hk : 100 < k) : ledgerref08_Index.f (k + 1) (l : Int) (q : Int) = some (((cnt ((q + 1) * 2 ^ l - 1) + l : Nat) : Int), 0) := by
  have hp : 0 < 2 ^ l := Nat.two_pow_pos l
  have hq : q + 1 ≤ 281474976710656 := Nat.le_trans (Nat.le_mul_of_pos_right _ hp) h
  have e3 : q + 1 ≤ 281474976710656 / 2 ^ l := (Nat.le_div_iff_mul_le hp).2 h
  have hpos : 0 < (q + 1) * 2 ^ l := Nat.mul_pos (by omega) hp
  have hle : cnt ((q + 1) * 2 ^ l - 1) ≤ 562949953421312 := Nat.le_trans (cnt_le _) (Nat.le_trans (Nat.mul_le_mul_left 2 (Nat.le_trans (Nat.sub_le _ _) h)) (by decide))
  have hlaid := laid_f ((q + 1) * 2 ^ l - 1) k (Nat.lt_of_le_of_lt (Nat.le_trans (Nat.sub_le _ _) h) (by decide)) (by omega)
  have hpred := pred_small _ hpos h
  clear hpos h
  unfold ledgerref08_Index.f
  rw [if_neg (by omega), if_neg (by omega), if_neg (by omega), decide_eq_false (by omega)]
  simp only [ledgerref08_Index.j0]
  rw [if_neg (by decide), power_f l k (by omega) (by omega), Option.bind_some, if_neg (pow_ne l), succ_small q (by omega), wrap_div, if_neg (Int.not_lt.mpr (Int.ofNat_le.mpr e3)), ← Int.natCast_mul, hpred, hlaid, Option.bind_some, add_small' _ _ hle hl]
theorem rIndex_no (a b : Int) (hb : b ≤ 9223372036854775807) (h : ¬ (0 ≤ a ∧ a ≤ 48 ∧ 0 ≤ b ∧ b < 281474976710656 / 2 ^ a.toNat)) (k : Nat) (hk : 100 < k) : ledgerref08_Index.f (k + 1) a b = some (0, 1) := by
  unfold ledgerref08_Index.f
  by_cases h1 : a < 0
  · rw [if_pos h1]; simp only [ledgerref08_Index.j0, if_true]
  · rw [if_neg h1]
    by_cases h2 : a > 48
    · rw [if_pos h2]; simp only [ledgerref08_Index.j0, if_true]
    · rw [if_neg h2]
      by_cases h3 : b < 0
      · rw [if_pos h3]; simp only [ledgerref08_Index.j0, if_true]
      · rw [if_neg h3]
        by_cases h4 : b ≥ 281474976710656
        · rw [decide_eq_true h4]; simp only [ledgerref08_Index.j0, if_true]
        · rw [decide_eq_false h4]
          obtain ⟨l, rfl⟩ := Int.eq_ofNat_of_zero_le (show 0 ≤ a by omega)
          obtain ⟨q, rfl⟩ := Int.eq_ofNat_of_zero_le (show 0 ≤ b by omega)
          rw [Int.toNat_natCast] at h
          have hl : l ≤ 48 := by omega
          have hf := fits_iff l q hl
          have hp : 0 < 2 ^ l := Nat.two_pow_pos l
          have hno : ¬ (q + 1) * 2 ^ l ≤ 281474976710656 := fun h5 => h ⟨by omega, by omega, by omega, hf.2 h5⟩
          simp only [ledgerref08_Index.j0]
          rw [if_neg (by decide), power_f l k (by omega) (by omega), Option.bind_some, if_neg (by omega)]
          have e1 : wrap64 ((q : Int) + 1) = ((q + 1 : Nat) : Int) := by unfold wrap64; omega
          have e2 : wrap64 ((281474976710656 : Int) / ((2 ^ l : Nat) : Int)) = ((281474976710656 / 2 ^ l : Nat) : Int) := by
            obtain ⟨M, hM⟩ : ∃ M : Nat, M = 281474976710656 := ⟨_, rfl⟩
            have hM2 : (281474976710656 : Int) = (M : Int) := by omega
            rw [hM2, ← hM, ← Int.natCast_ediv]
            have : M / 2 ^ l ≤ M := Nat.div_le_self _ _
            generalize M / 2 ^ l = z at *
            unfold wrap64; omega
          have e3 : ¬ q + 1 ≤ 281474976710656 / 2 ^ l := fun h6 => hno ((Nat.le_div_iff_mul_le hp).1 h6)
          rw [e1, e2, if_pos (by omega)]
theorem record_l (c r : Nat) (hr : IsFil c r) (j : Nat) : ∀ (lo hi k : Nat), lo ≤ r → r ≤ hi → hi ≤ 281474976710656 → hi - lo < 2 ^ j → j + 100 < k → ledgerref08_record.l0 k (c : Int) (lo : Int) (hi : Int) = some (r : Int) := by
  induction j with
  | zero =>
    intro lo hi k h1 h2 h3 h4 hk
    obtain ⟨k, rfl⟩ : ∃ m, k = m + 1 := ⟨k - 1, by omega⟩
    have : hi - lo < 1 := by simpa using h4
    simp only [ledgerref08_record.l0]
    rw [if_neg (by omega)]
    congr 1; omega
  | succ j ih =>
    intro lo hi k h1 h2 h3 h4 hk
    obtain ⟨k, rfl⟩ : ∃ m, k = m + 1 := ⟨k - 1, by omega⟩
    rw [Nat.pow_succ] at h4
    simp only [ledgerref08_record.l0]
    by_cases hlt : lo < hi
    · rw [if_pos (by omega)]
      have e1 : wrap64 (Int.tdiv (wrap64 (wrap64 ((lo : Int) + (hi : Int)) + 1)) 2) = (((lo + hi + 1) / 2 : Nat) : Int) := by
        rw [show wrap64 (wrap64 ((lo : Int) + (hi : Int)) + 1) = ((lo + hi + 1 : Nat) : Int) by unfold wrap64; omega, Int.tdiv_eq_ediv_of_nonneg (by omega)]
        unfold wrap64; omega
      rw [e1, laid_f _ k (by omega) (by omega), Option.bind_some]
      obtain ⟨mid, hmid⟩ : ∃ mid, mid = (lo + hi + 1) / 2 := ⟨_, rfl⟩
      rw [← hmid]
      by_cases hm : mid ≤ r
      · have : cnt mid ≤ c := Nat.le_trans (cnt_mono hm) hr.2.1
        rw [if_pos (by omega)]
        exact ih mid hi k hm h2 h3 (by omega) (by omega)
      · have : c < cnt mid := by
          rcases hr.2.2 with h | h
          · omega
          · exact Nat.lt_of_lt_of_le h (cnt_mono (by omega))
        rw [if_neg (by omega), show wrap64 ((mid : Int) - 1) = ((mid - 1 : Nat) : Int) by unfold wrap64; omega]
        exact ih lo (mid - 1) k h1 (by omega) (by omega) (by omega) (by omega)
    · rw [if_neg (by omega)]
      congr 1; omega
theorem record_f (c r k : Nat) (hr : IsFil c r) (hk : 160 < k) : ledgerref08_record.f k (c : Int) = some (r : Int) := by
  unfold ledgerref08_record.f
  exact record_l c r hr 49 0 281474976710656 k (Nat.zero_le _) hr.1 (Nat.le_refl _) (by omega) (by omega)
theorem rsplit_no (a : Int) (h : a < 0 ∨ 562949953421311 ≤ a) (k : Nat) : ledgerref08_SplitIndex.f (k + 1) a = some (0, 0, 1) := by
  unfold ledgerref08_SplitIndex.f
  by_cases h1 : a < 0
  · rw [if_pos h1]; simp only [ledgerref08_SplitIndex.j0, if_true]
  · rw [if_neg h1, decide_eq_true (by omega)]; simp only [ledgerref08_SplitIndex.j0, if_true]
theorem rsplit_tail (q l : Nat) (h : (q + 1) * 2 ^ l ≤ 281474976710656) : wrap64 (wrap64 (Int.tdiv (((q + 1) * 2 ^ l : Nat) : Int) ((2 ^ l : Nat) : Int)) - 1) = (q : Int) := by
  have hp : 0 < 2 ^ l := Nat.two_pow_pos l
  have hq : q + 1 ≤ 281474976710656 := Nat.le_trans (Nat.le_mul_of_pos_right _ hp) h
  have e3 : Int.tdiv (((q + 1) * 2 ^ l : Nat) : Int) ((2 ^ l : Nat) : Int) = ((q + 1 : Nat) : Int) := by
    rw [Int.tdiv_eq_ediv_of_nonneg (Int.natCast_nonneg _), ← Int.natCast_ediv, Nat.mul_div_cancel _ hp]
  rw [e3]
  clear e3 h hp
  unfold wrap64; omega
theorem sub_small (a l : Nat) (h : a + l < 562949953421311) : wrap64 (((a + l : Nat) : Int) - (a : Int)) = (l : Int) := by unfold wrap64; omega
theorem rsplit_f (r l q : Nat) (hc : cnt r + l < 562949953421311) (hr : IsFil (cnt r + l) r) (hl : l ≤ 48) (e : r + 1 = (q + 1) * 2 ^ l) (hr2 : r < 281474976710656) (k : Nat) (hk : 200 < k) :
    ledgerref08_SplitIndex.f (k + 1) ((cnt r + l : Nat) : Int) = some ((l : Int), (q : Int), 0) := by
  have htail := rsplit_tail q l (e ▸ hr2)
  rw [← e] at htail
  clear e
  unfold ledgerref08_SplitIndex.f
  rw [if_neg (by omega), decide_eq_false (by omega)]
  simp only [ledgerref08_SplitIndex.j0]
  rw [if_neg (by decide), record_f _ r k hr (by omega), Option.bind_some, laid_f r k (by omega) (by omega), Option.bind_some, sub_small _ _ hc, power_f l k (by omega) (by omega), Option.bind_some, if_neg (pow_ne l), succ_small r hr2, htail]
theorem rCount_f (n k : Nat) (h : n ≤ 281474976710656) (hk : 100 < k) : ledgerref08_Count.f k (n : Int) = some ((cnt n : Int), 0) := by
  unfold ledgerref08_Count.f
  rw [if_neg (by omega), if_neg (by omega), laid_f n k (by omega) (by omega)]
  rfl
theorem rrecords_no (a : Int) (h : a < 0 ∨ 562949953421311 < a) (k : Nat) : ledgerref08_Records.f (k + 1) a = some (0, 80) := by
  unfold ledgerref08_Records.f
  by_cases h1 : a < 0
  · rw [if_pos h1]; simp only [ledgerref08_Records.j0, if_true]
  · rw [if_neg h1, decide_eq_true (by omega)]; simp only [ledgerref08_Records.j0, if_true]
theorem rrecords_f (c r : Nat) (hc : c ≤ 562949953421311) (hr : IsFil c r) (k : Nat) (hk : 200 < k) :
    ledgerref08_Records.f (k + 1) (c : Int) = if cnt r = c then some ((r : Int), 0) else some (0, 80) := by
  unfold ledgerref08_Records.f
  rw [if_neg (by omega), decide_eq_false (by omega)]
  simp only [ledgerref08_Records.j0]
  rw [if_neg (by decide), record_f c r k hr (by omega), Option.bind_some, laid_f r k (by have := hr.1; omega) (by omega), Option.bind_some]
  by_cases h : cnt r = c
  · rw [if_pos h, if_pos (by omega)]
  · rw [if_neg h, if_neg (by omega)]
open Go.Proofs.Ytjbhaopocabfaaa.Wk (pks pks_yes pks_no pks_zero ahead_next) in
theorem rpeaks_l (n : Nat) (hn : n ≤ 281474976710656) : ∀ (L : Nat) (acc : List Int) (ahead k : Nat), L ≤ 49 → ahead = n / 2 ^ L * 2 ^ L → L + 300 < k → acc.length + L ≤ 1000 →
    ledgerref08_Peaks.l0 k (n : Int) acc (ahead : Int) ((L : Int) - 1) = some (acc ++ pks n L ahead, 0)
  | 0, acc, ahead, k, _, _, hk, _ => by
    obtain ⟨k, rfl⟩ : ∃ m, k = m + 1 := ⟨k - 1, by omega⟩
    simp only [ledgerref08_Peaks.l0]
    rw [if_neg (by omega), pks_zero, List.append_nil]
  | m + 1, acc, ahead, k, hL, ha, hk, hac => by
    obtain ⟨k, rfl⟩ : ∃ m, k = m + 1 := ⟨k - 1, by omega⟩
    have hp : 0 < 2 ^ m := Nat.two_pow_pos m
    have hx : ((m + 1 : Nat) : Int) - 1 = (m : Int) := by omega
    have hah : ahead ≤ n := by rw [ha]; exact Nat.div_mul_le_self _ _
    have hsub : wrap64 ((n : Int) - (ahead : Int)) = ((n - ahead : Nat) : Int) := sub_small2 n ahead hah hn
    have hge := bit_ge n ahead m ha
    have hnx := ahead_next n ahead m ha
    have htd : wrap64 (Int.tdiv (ahead : Int) ((2 ^ m : Nat) : Int)) = ((ahead / 2 ^ m : Nat) : Int) := by
      rw [Int.tdiv_eq_ediv_of_nonneg (Int.natCast_nonneg _), ← Int.natCast_ediv]
      exact small_wrap _ (Nat.le_trans (Nat.div_le_self _ _) (Nat.le_trans hah hn))
    have hm1 : wrap64 ((m : Int) - 1) = (m : Int) - 1 := pred_wrap m (by omega)
    rw [hx]
    simp only [ledgerref08_Peaks.l0]
    rw [if_pos (Int.natCast_nonneg m), power_f m k (by omega) (by omega), Option.bind_some, hsub, hm1]
    by_cases hb : n / 2 ^ m % 2 = 1
    · obtain ⟨h1, h2⟩ := hnx.1 hb
      have hfit : (ahead / 2 ^ m + 1) * 2 ^ m ≤ 281474976710656 := by rw [h2, h1]; exact Nat.le_trans (Nat.div_mul_le_self _ _) hn
      have hw : wrap64 ((ahead : Int) + ((2 ^ m : Nat) : Int)) = ((ahead + 2 ^ m : Nat) : Int) := by
        rw [← Int.natCast_add]
        exact small_wrap _ (by rw [h1]; exact Nat.le_trans (Nat.div_mul_le_self _ _) hn)
      obtain ⟨k, rfl⟩ : ∃ m, k = m + 1 := ⟨k - 1, by omega⟩
      rw [if_pos (Int.ofNat_le.mpr (hge.2 hb)), if_neg (pow_ne m), htd, rIndex_f m (ahead / 2 ^ m) k (by omega) hfit (by omega), Option.bind_some, if_pos (by omega), hw,
        rpeaks_l n hn m _ _ (k + 1) (by omega) h1 (by omega) (by rw [List.length_append, List.length_singleton]; omega), pks_yes n ahead m hb, List.append_assoc]
      rfl
    · rw [if_neg (fun h => hb (hge.1 (Int.ofNat_le.mp h))), rpeaks_l n hn m acc ahead k (by omega) (hnx.2 hb) (by omega) (by omega), pks_no n ahead m hb]
theorem rPeaks_f (n k : Nat) (hn : n ≤ 281474976710656) (hk : 400 < k) : ledgerref08_Peaks.f (k + 1) (n : Int) = some (Go.Proofs.Ytjbhaopocabfaaa.Wk.pks n 49 0, 0) := by
  unfold ledgerref08_Peaks.f
  rw [if_neg (by omega), decide_eq_false (by omega)]
  simp only [ledgerref08_Peaks.j0]
  rw [if_neg (by decide)]
  exact rpeaks_l n hn 49 [] 0 k (by omega) (by omega) (by omega) (by simp)
theorem rPeaks_no (a : Int) (h : a < 0 ∨ 281474976710656 < a) (k : Nat) : ledgerref08_Peaks.f (k + 1) a = some ([], 1) := by
  unfold ledgerref08_Peaks.f
  by_cases h1 : a < 0
  · rw [if_pos h1]; simp only [ledgerref08_Peaks.j0, if_true]
  · rw [if_neg h1, decide_eq_true (by omega)]; simp only [ledgerref08_Peaks.j0, if_true]
theorem sames_l (xs : List Int) (hl : xs.length ≤ 1000) (d : Nat) : ∀ (i k : Nat), i + d = xs.length → d < k → ledgerlaw08_sames.l0 k xs xs (i : Int) = some true := by
  induction d with
  | zero =>
    intro i k h hk
    obtain ⟨k, rfl⟩ : ∃ m, k = m + 1 := ⟨k - 1, by omega⟩
    simp only [ledgerlaw08_sames.l0]
    rw [if_neg (by omega)]
  | succ d ih =>
    intro i k h hk
    obtain ⟨k, rfl⟩ : ∃ m, k = m + 1 := ⟨k - 1, by omega⟩
    simp only [ledgerlaw08_sames.l0]
    rw [if_pos (by omega), if_pos (by omega), if_pos (by omega)]
    simp only [if_true]
    rw [show wrap64 ((i : Int) + 1) = ((i + 1 : Nat) : Int) by unfold wrap64; omega]
    exact ih (i + 1) k (by omega) (by omega)
theorem sames_f (xs : List Int) (hl : xs.length ≤ 1000) : ledgerlaw08_sames.f 2000 xs xs = some true := by
  unfold ledgerlaw08_sames.f
  rw [if_pos rfl]
  exact sames_l xs hl xs.length 0 2000 (by omega) (by omega)
end Go.Proofs.Ytjbhaopocabfaaa.PlPure
