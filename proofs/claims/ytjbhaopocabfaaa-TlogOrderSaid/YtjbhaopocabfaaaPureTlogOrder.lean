/-
  TlogOrder, over numbers alone: for every level and number the place that Index tells is that of the node: behind its right child by one, a leaf's at the count; taken apart it is the node again; one record more brings one hash, and one more for each time that 2 divides its number and 1. No condition.
-/
import Derived.Test.YtjbhaopocabfaaaPTlogOrderx2
import Derived.Test.YtjbhaopocabfaaaPlain
namespace Go.Proofs.Ytjbhaopocabfaaa.Pure
open Go.RowKit Go.Proofs.Ytjbhaopocabfaaa.PTlogOrder Go.Proofs.YtjbhaopocabfaaaW.PrintWords Go.Proofs.YtjbhaopocabfaaaW.PrintLast Go.Proofs.YtjbhaopocabfaaaW.PrintMore Go.Proofs.Ytjbhaopocabfaaa.Pl
set_option maxRecDepth 100000
theorem two62 (n : Nat) (h : n ≤ 562949953421312) : IntKind.u64.wrap (n : Int) = n := by rw [wrap_u64]; omega
theorem ones_f (n : Nat) (h : n ≤ 562949953421312) : bits_OnesCount64.f (n : Int) = some (pop n : Int) := by
  unfold bits_OnesCount64.f
  exact congrArg some (ones n (by omega) _ _ _ rfl rfl rfl)
theorem count_f (n : Nat) (h : n ≤ 562949953421312) : tlog_count.f (n : Int) = some (cnt n : Int) := by
  unfold tlog_count.f
  rw [two62 n h, ones_f n h]
  simp only [Option.bind_some]
  have := pop_le n
  congr 1
  unfold wrap64 cnt
  omega
theorem pow_le48 (l : Nat) (h : l ≤ 48) : 2 ^ l ≤ 281474976710656 := by
  have : 2 ^ l ≤ 2 ^ 48 := Nat.pow_le_pow_right (by decide) h
  omega
theorem fits_iff (l q : Nat) (_ : l ≤ 48) : (q : Int) < 281474976710656 / 2 ^ l ↔ (q + 1) * 2 ^ l ≤ 281474976710656 := by
  have hp : 0 < 2 ^ l := Nat.two_pow_pos l
  obtain ⟨M, hM⟩ : ∃ M : Nat, M = 281474976710656 := ⟨_, rfl⟩
  have hM2 : (281474976710656 : Int) = (M : Int) := by omega
  have e : ((M : Int) / 2 ^ l) = ((M / 2 ^ l : Nat) : Int) := by rw [Int.natCast_ediv, Int.natCast_pow]; rfl
  rw [hM2, e, ← hM]
  have := @Nat.le_div_iff_mul_le (2 ^ l) (q + 1) M hp
  omega
theorem place_f (l q : Nat) (hl : l ≤ 48) (h : (q + 1) * 2 ^ l ≤ 281474976710656) : tlog_place.f (l : Int) (q : Int) = some ((cnt ((q + 1) * 2 ^ l - 1) + l : Nat) : Int) := by
  unfold tlog_place.f
  rw [if_pos (by omega)]
  have hp : 0 < 2 ^ l := Nat.two_pow_pos l
  have hq : (q + 1) * 1 ≤ (q + 1) * 2 ^ l := Nat.mul_le_mul_left _ hp
  have e1 : wrap64 ((q : Int) + 1) = ((q + 1 : Nat) : Int) := by unfold wrap64; omega
  have e2 : shl .i64 ((q + 1 : Nat) : Int) (l : Int) = (((q + 1) * 2 ^ l : Nat) : Int) := by
    unfold shl
    rw [show min (l : Int).toNat IntKind.i64.bits = l by simp [IntKind.bits]; omega]
    have : ((q + 1 : Nat) : Int) * 2 ^ l = (((q + 1) * 2 ^ l : Nat) : Int) := by push_cast; rfl
    rw [this, IntKind.wrap_i64]
    omega
  rw [e1, e2]
  have e3 : wrap64 ((((q + 1) * 2 ^ l : Nat) : Int) - 1) = (((q + 1) * 2 ^ l - 1 : Nat) : Int) := by unfold wrap64; omega
  rw [e3, count_f _ (by omega)]
  simp only [Option.bind_some]
  have := cnt_le ((q + 1) * 2 ^ l - 1)
  congr 1
  unfold wrap64
  omega
theorem shr48 (l : Nat) (hl : l ≤ 48) : shr .i64 281474976710656 (l : Int) = 281474976710656 / 2 ^ l := by
  unfold shr
  rw [show min (l : Int).toNat IntKind.i64.bits = l by simp [IntKind.bits]; omega]
theorem index_f (l q : Nat) (hl : l ≤ 48) (h : (q + 1) * 2 ^ l ≤ 281474976710656) : tlog_Index.f (l : Int) (q : Int) = some (((cnt ((q + 1) * 2 ^ l - 1) + l : Nat) : Int), 0) := by
  unfold tlog_Index.f
  have := (fits_iff l q hl).2 h
  rw [if_neg (by omega), if_neg (by omega), if_neg (by omega), if_pos (by omega), shr48 l hl, if_neg (by omega), place_f l q hl h]
  rfl
theorem index_no (a b : Int) (h : ¬ (0 ≤ a ∧ a ≤ 48 ∧ 0 ≤ b ∧ b < 281474976710656 / 2 ^ a.toNat)) : tlog_Index.f a b = some (0, 1) := by
  unfold tlog_Index.f
  by_cases h1 : a < 0
  · rw [if_pos h1]
  · rw [if_neg h1]
    by_cases h2 : a > 48
    · rw [if_pos h2]
    · rw [if_neg h2]
      by_cases h3 : b < 0
      · rw [if_pos h3]
      · rw [if_neg h3, if_pos (by omega)]
        obtain ⟨l, rfl⟩ := Int.eq_ofNat_of_zero_le (show 0 ≤ a by omega)
        rw [shr48 l (by omega)]
        rw [Int.toNat_natCast] at h
        rw [if_pos (by omega)]
theorem filled_l (c : Nat) (d : Nat) : ∀ (k n : Nat), n + d = 281474976710656 → d < k → cnt n ≤ c →
    ∃ r : Nat, IsFil c r ∧ tlog_filled.l0 k (c : Int) (n : Int) = some (r : Int) := by
  induction d with
  | zero =>
    intro k n hn hk h
    obtain ⟨k, rfl⟩ : ∃ m, k = m + 1 := ⟨k - 1, by omega⟩
    refine ⟨n, ⟨by omega, h, .inl (by omega)⟩, ?_⟩
    simp only [tlog_filled.l0]
    rw [if_neg (by omega)]
  | succ d ih =>
    intro k n hn hk h
    obtain ⟨k, rfl⟩ : ∃ m, k = m + 1 := ⟨k - 1, by omega⟩
    have ew : wrap64 ((n : Int) + 1) = ((n + 1 : Nat) : Int) := by unfold wrap64; omega
    simp only [tlog_filled.l0]
    rw [if_pos (by omega), ew, count_f _ (by omega)]
    simp only [Option.bind_some]
    by_cases h2 : cnt (n + 1) ≤ c
    · rw [if_pos (by omega)]
      exact ih k (n + 1) (by omega) (by omega) h2
    · rw [if_neg (by omega)]
      exact ⟨n, ⟨by omega, h, .inr (by omega)⟩, rfl⟩
theorem filled_f (c r : Nat) (hc : c ≤ 562949953421311) (hr : IsFil c r) (k : Nat) (hk : 281474976710656 < k) : tlog_filled.f k (c : Int) = some (r : Int) := by
  unfold tlog_filled.f
  have e : wrap64 (Int.tdiv (c : Int) 2) = ((c / 2 : Nat) : Int) := by
    rw [Int.tdiv_eq_ediv_of_nonneg (by omega)]; unfold wrap64; omega
  rw [e]
  obtain ⟨s, hs, h⟩ := filled_l c (281474976710656 - c / 2) k (c / 2) (by omega) (by omega) (Nat.le_trans (cnt_le _) (by omega))
  rw [h, hr.unique hs]
theorem count_top : tlog_count.f 281474976710656 = some 562949953421311 := by
  obtain ⟨M, hM⟩ : ∃ M : Nat, M = 281474976710656 := ⟨_, rfl⟩
  have hM2 : (281474976710656 : Int) = (M : Int) := by omega
  have ht := cnt_top
  rw [← hM] at ht
  rw [hM2, count_f M (by omega), ht]
  congr 1
theorem split_no (a : Int) (h : a < 0 ∨ 562949953421311 ≤ a) (k : Nat) (hk : 0 < k) : tlog_SplitIndex.f k a = some (0, 0, 1) := by
  obtain ⟨k, rfl⟩ : ∃ m, k = m + 1 := ⟨k - 1, by omega⟩
  unfold tlog_SplitIndex.f
  by_cases h1 : a < 0
  · rw [if_pos h1]; simp only [tlog_SplitIndex.j0, if_true]
  · rw [if_neg h1, count_top]
    simp only [Option.bind_some]
    rw [decide_eq_true (by omega)]
    simp only [tlog_SplitIndex.j0, if_true]
theorem split_tail (q l : Nat) (hl : l ≤ 48) (h : (q + 1) * 2 ^ l ≤ 281474976710656) :
    wrap64 ((shr .i64 (((q + 1) * 2 ^ l : Nat) : Int) (l : Int)) - 1) = (q : Int) := by
  have hp : 0 < 2 ^ l := Nat.two_pow_pos l
  have hq : (q + 1) * 1 ≤ (q + 1) * 2 ^ l := Nat.mul_le_mul_left _ hp
  have e3 : shr .i64 (((q + 1) * 2 ^ l : Nat) : Int) (l : Int) = ((q + 1 : Nat) : Int) := by
    unfold shr
    rw [show min (l : Int).toNat IntKind.i64.bits = l by simp [IntKind.bits]; omega]
    have : (((q + 1) * 2 ^ l : Nat) : Int) / 2 ^ l = (((q + 1) * 2 ^ l / 2 ^ l : Nat) : Int) := by rw [Int.natCast_ediv, Int.natCast_pow]; rfl
    rw [this, Nat.mul_div_cancel _ hp]
  rw [e3]
  unfold wrap64; omega
theorem split_f (r l q : Nat) (hc : cnt r + l < 562949953421311) (hr : IsFil (cnt r + l) r) (hl : l ≤ 48) (e : r + 1 = (q + 1) * 2 ^ l) (hr2 : r < 281474976710656) (k : Nat) (hk : 281474976710656 < k) :
    tlog_SplitIndex.f (k + 1) ((cnt r + l : Nat) : Int) = some ((l : Int), (q : Int), 0) := by
  unfold tlog_SplitIndex.f
  rw [if_neg (by omega), count_top]
  rw [Option.bind_some]
  rw [decide_eq_false (by omega)]
  simp only [tlog_SplitIndex.j0]
  rw [if_neg (by decide), filled_f (cnt r + l) r (by omega) hr k hk]
  rw [Option.bind_some]
  rw [count_f r (by omega)]
  rw [Option.bind_some]
  have e1 : wrap64 (((cnt r + l : Nat) : Int) - (cnt r : Int)) = (l : Int) := by unfold wrap64; omega
  rw [e1, if_pos (by omega)]
  have e2 : wrap64 ((r : Int) + 1) = (((q + 1) * 2 ^ l : Nat) : Int) := by rw [← e]; unfold wrap64; omega
  rw [e2, split_tail q l hl (by omega)]
theorem split_place (l q : Nat) (hl : l ≤ 48) (h : (q + 1) * 2 ^ l ≤ 281474976710656) (k : Nat) (hk : 281474976710656 < k) :
    tlog_SplitIndex.f (k + 1) ((cnt ((q + 1) * 2 ^ l - 1) + l : Nat) : Int) = some ((l : Int), (q : Int), 0) := by
  have hp : 0 < 2 ^ l := Nat.two_pow_pos l
  have hq : 0 < (q + 1) * 2 ^ l := Nat.mul_pos (by omega) hp
  have hs := cnt_step_le q l
  have ht : cnt ((q + 1) * 2 ^ l) ≤ 562949953421311 := by rw [← cnt_top]; exact cnt_mono h
  exact split_f ((q + 1) * 2 ^ l - 1) l q (by omega) (isFil_place q l h) hl (by omega) (by omega) k hk
theorem Count_f (n : Nat) (h : n ≤ 281474976710656) : tlog_Count.f (n : Int) = some ((cnt n : Int), 0) := by
  unfold tlog_Count.f
  rw [if_neg (by omega), if_neg (by omega), count_f n (by omega)]
  rfl
theorem order_l (p c d : Nat) (a : Nat) (t : Nat) (hd : d < 562949953421312) (hc : c < 562949953421312) (e : p = c) : ∀ (m k s : Nat), m ≤ 281474976710656 → m = (2 * a + 1) * 2 ^ t → t < k → s + t < 1000 →
    c + s + t = d → ledgerlaw08_TlogOrder.l0 k (p : Int) (c : Int) 0 (d : Int) 0 (s : Int) (m : Int) = some true := by
  subst e
  induction t with
  | zero =>
    intro m k s hm0 hm hk hs h
    obtain ⟨k, rfl⟩ : ∃ m, k = m + 1 := ⟨k - 1, by omega⟩
    simp only [ledgerlaw08_TlogOrder.l0]
    rw [Int.tmod_eq_emod_of_nonneg (by omega), if_neg (by simp at hm; omega)]
    simp only [if_true]
    have : wrap64 ((p : Int) + (s : Int)) = (d : Int) := by unfold wrap64; omega
    rw [this]; simp
  | succ t ih =>
    intro m k s hm0 hm hk hs h
    obtain ⟨k, rfl⟩ : ∃ m, k = m + 1 := ⟨k - 1, by omega⟩
    have hm2 : m = 2 * ((2 * a + 1) * 2 ^ t) := by rw [hm, Nat.pow_succ]; ac_rfl
    simp only [ledgerlaw08_TlogOrder.l0]
    rw [Int.tmod_eq_emod_of_nonneg (by omega), Int.tdiv_eq_ediv_of_nonneg (by omega), if_pos (by omega)]
    have e1 : wrap64 ((s : Int) + 1) = ((s + 1 : Nat) : Int) := by unfold wrap64; omega
    have e2 : wrap64 ((m : Int) / 2) = (((2 * a + 1) * 2 ^ t : Nat) : Int) := by unfold wrap64; omega
    rw [e1, e2]
    exact ih _ k (s + 1) (by omega) rfl (by omega) (by omega) (by omega)
theorem mxmn (a : Int) (h0 : 0 ≤ a) (h1 : a ≤ 48) : mx 0 (mn a 48) = a := by
  unfold mx mn; split <;> split <;> omega
theorem index_two : tlog_Index.f 0 1 = some (1, 0) := by
  have h01 := index_f 0 1 (by omega) (by omega)
  have e01 : cnt ((1 + 1) * 2 ^ 0 - 1) + 0 = 1 := by
    rw [show (1 + 1) * 2 ^ 0 - 1 = 1 by decide, cnt_half, show 1 / 2 = 0 by decide, cnt_zero]
  rw [e01] at h01
  exact h01
theorem order_fits (l q K : Nat) (hK : 281474976710660 < K) (hl : l ≤ 48) (h : (q + 1) * 2 ^ l ≤ 281474976710656) : ledgerlaw08_TlogOrder.j1 (K + 1 + 1) (l : Int) (q : Int) ((cnt ((q + 1) * 2 ^ l - 1) + l : Nat) : Int) 0 true = some true := by
  have hp : 0 < 2 ^ l := Nat.two_pow_pos l
  have hq : (q + 1) * 1 ≤ (q + 1) * 2 ^ l := Nat.mul_le_mul_left _ hp
  simp only [ledgerlaw08_TlogOrder.j1]
  rw [if_pos trivial, split_place l q hl h K (by omega)]
  rw [Option.bind_some]; simp only [if_true]
  rw [show (((q : Int) != (q : Int))) = false by simp]
  simp only [ledgerlaw08_TlogOrder.j2]
  rw [if_neg (by decide)]
  by_cases hl0 : (l : Int) > 0
  · rw [if_pos hl0]
    have e1 : wrap64 ((l : Int) - 1) = ((l - 1 : Nat) : Int) := by unfold wrap64; omega
    have e2 : wrap64 (wrap64 (2 * (q : Int)) + 1) = ((2 * q + 1 : Nat) : Int) := by unfold wrap64; omega
    have e3 : (2 * q + 1 + 1) * 2 ^ (l - 1) = (q + 1) * 2 ^ l := by
      obtain ⟨j, rfl⟩ : ∃ j, l = j + 1 := ⟨l - 1, by omega⟩
      rw [show j + 1 - 1 = j by omega, Nat.pow_succ, show 2 * q + 1 + 1 = (q + 1) * 2 by omega]; ac_rfl
    rw [e1, e2, index_f (l - 1) (2 * q + 1) (by omega) (by rw [e3]; exact h), e3]
    rw [Option.bind_some]; simp only [if_true]
    have hle := cnt_le ((q + 1) * 2 ^ l - 1)
    have e4 : wrap64 (((cnt ((q + 1) * 2 ^ l - 1) + (l - 1) : Nat) : Int) + 1) = ((cnt ((q + 1) * 2 ^ l - 1) + l : Nat) : Int) := by unfold wrap64; omega
    rw [e4]
    simp
  · rw [if_neg hl0]
    obtain rfl : l = 0 := by omega
    have e1 : wrap64 ((q : Int) + 1) = ((q + 1 : Nat) : Int) := by unfold wrap64; omega
    simp only [Nat.pow_zero, Nat.mul_one] at h
    rw [Count_f q (by omega)]
    rw [Option.bind_some]
    rw [e1, Count_f (q + 1) h]
    rw [Option.bind_some]
    obtain ⟨a, t, e⟩ := odd_part (q + 1) (by omega)
    have k1 := cnt_step_odd a t
    rw [← e, show q + 1 - 1 = q by omega] at k1
    have ht : t ≤ 48 := by
      rcases Nat.lt_or_ge 48 t with h' | h'
      · exfalso
        have : 2 ^ 49 ≤ 2 ^ t := Nat.pow_le_pow_right (by decide) h'
        have : 1 * 2 ^ t ≤ (2 * a + 1) * 2 ^ t := Nat.mul_le_mul_right _ (by omega)
        omega
      · exact h'
    have := cnt_le q
    have hm : cnt (q + 1) ≤ cnt 281474976710656 := cnt_mono h
    rw [cnt_top] at hm
    exact order_l (cnt ((q + 1) * 2 ^ 0 - 1) + 0) (cnt q) (cnt (q + 1)) a t (by omega) (by omega) (by simp) (q + 1) K 1 h e (by omega) (by omega) (by omega)
theorem order_no (a0 a1 : Int) (K : Nat) : ledgerlaw08_TlogOrder.j1 (K + 1) a0 a1 0 1 false = some true := by
  simp only [ledgerlaw08_TlogOrder.j1]
  rfl
theorem order_pick (a0 a1 : Int) (p e : Int) (k : Nat) (R : Option Bool) (hT : (0 ≤ a0 ∧ a0 ≤ 48 ∧ 0 ≤ a1 ∧ a1 < 281474976710656 / 2 ^ a0.toNat) → ledgerlaw08_TlogOrder.j1 k a0 a1 p e true = R)
    (hF : ¬ (0 ≤ a0 ∧ a0 ≤ 48 ∧ 0 ≤ a1 ∧ a1 < 281474976710656 / 2 ^ a0.toNat) → ledgerlaw08_TlogOrder.j1 k a0 a1 p e false = R) :
    (if a0 ≥ 0 then (if a0 ≤ 48 then (if a1 ≥ 0 then (ledgerlaw08_TlogOrder.j1 k a0 a1 p e (decide (a1 < (281474976710656 / 2 ^ (mx 0 (mn a0 48)).toNat)))) else (ledgerlaw08_TlogOrder.j1 k a0 a1 p e false)) else (ledgerlaw08_TlogOrder.j1 k a0 a1 p e false)) else (ledgerlaw08_TlogOrder.j1 k a0 a1 p e false)) = R := by
  by_cases h1 : a0 ≥ 0
  · rw [if_pos h1]
    by_cases h2 : a0 ≤ 48
    · rw [if_pos h2]
      by_cases h3 : a1 ≥ 0
      · rw [if_pos h3, mxmn _ (by omega) h2]
        by_cases h4 : a1 < 281474976710656 / 2 ^ a0.toNat
        · rw [decide_eq_true h4]; exact hT ⟨h1, h2, h3, h4⟩
        · rw [decide_eq_false h4]; exact hF (fun h => h4 h.2.2.2)
      · rw [if_neg h3]; exact hF (fun h => h3 h.2.2.1)
    · rw [if_neg h2]; exact hF (fun h => h2 h.2.1)
  · rw [if_neg h1]; exact hF (fun h => h1 h.1)
theorem order_all (a0 a1 : Int) (k : Nat) (hk : k = 281474976710700) : ledgerlaw08_TlogOrder.f k a0 a1 = some true := by
  obtain ⟨K, hK, rfl⟩ : ∃ K : Nat, K = 281474976710697 ∧ k = K + 1 + 1 + 1 := ⟨281474976710697, rfl, by omega⟩
  clear hk
  unfold ledgerlaw08_TlogOrder.f
  rw [index_two]
  simp only [Option.bind_some, if_true]
  rw [show ((0 : Int) != 0) = false by decide]
  simp only [ledgerlaw08_TlogOrder.j0]
  rw [if_neg (by decide)]
  by_cases hf : 0 ≤ a0 ∧ a0 ≤ 48 ∧ 0 ≤ a1 ∧ a1 < 281474976710656 / 2 ^ a0.toNat
  · obtain ⟨f1, f2, f3, f4⟩ := id hf
    obtain ⟨l, rfl⟩ := Int.eq_ofNat_of_zero_le f1
    obtain ⟨q, rfl⟩ := Int.eq_ofNat_of_zero_le f3
    rw [Int.toNat_natCast] at f4
    have h := (fits_iff l q (by omega)).1 f4
    rw [index_f l q (by omega) h]
    simp only [Option.bind_some]
    exact order_pick _ _ _ _ _ _ (fun _ => order_fits l q K (by omega) (by omega) h) (fun hn => absurd hf hn)
  · rw [index_no a0 a1 hf]
    simp only [Option.bind_some]
    exact order_pick _ _ _ _ _ _ (fun hp => absurd hp hf) (fun _ => order_no a0 a1 _)

theorem TlogOrder : ledgerlaw08_TlogOrder.Pure := fun a0 a1 _ _ => ⟨_, order_all a0 a1 _ rfl⟩

end Go.Proofs.Ytjbhaopocabfaaa.Pure
