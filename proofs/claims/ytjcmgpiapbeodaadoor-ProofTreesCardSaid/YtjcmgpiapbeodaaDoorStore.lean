/-
  The walk of Write for kind 256. The walk of Write for kind 512. The walk of Write for kind 256, of nothing (a nil list). The walk of Write for kind 512, of nothing (a nil list). A list that is read, nil or not: append of it onto a list of the call's own; Write of it, for either kind. A whole digest stored into a new variable, at once.
-/
import Derived.Test.YtjcmgpiapbeodaaDoorMix64
import Derived.Deep.MidRow
namespace Go.Proofs.YtjcmgpiapbeodaaDoor.Sha.W32
open Go.RowKit Go.Proofs.YtjcmgpiapbeodaaDoor.Mem Go.Proofs.YtjcmgpiapbeodaaDoorW.PrintWords
set_option maxHeartbeats 4000000 in
set_option maxRecDepth 100000 in
theorem write_none (b cnt : Nat) (c : Chain) (rv : Value) (p : List Int) (bs os cp : Nat) (hcp : p.length ≤ cp) (hmax : cnt + p.length ≤ maxCount) (w : World) (hL : Laid w) (hD : Dg w b rv ⟨false, cnt, c, []⟩)
    (hX : Reads w bs os p) (hne : bs ≠ b) :
    Calls Tryd.prog 39 #[.pointer (some ⟨b, 0, none⟩), .slice (some ⟨bs, os, none⟩) p.length cp] w fun e w' =>
      ∃ r rv', e = .returned r ∧ Dg w' b rv' ((St.mk false cnt c []).write p) ∧ Heir w rv' rv ∧ Fr (dfoot b rv) w w' := by
  obtain ⟨A, cr, hrv, _⟩ := own_shape hD.rest
  simp only [List.length_nil] at hrv
  subst hrv
  have h0 := hD.blk.cell 0 _ rfl
  have h1 := hD.blk.cell 1 _ rfl
  have h18 := hD.blk.cell 18 (.slice A 0 cr) rfl
  have hf1 := hD.blk.free 1
  have HB := block_calls b false w h0
  have HD := Kp.mk hD
  have HL := Kp.mk hL
  have HX := Kp.mk hX
  clear hD hL hX
  simp only [kind, blk] at h0 h1 HB
  have hmax' := hmax
  unfold maxCount at hmax'
  have hdec : decide ((2305843009213693951 : Int) - (cnt : Int) < (p.length : Int)) = false := decide_eq_false (by omega)
  go_enter Tryd.func39, Tryd.ntmps39
  go_wp2_with (first | (go_at_call 66; (with_reducible refine HB.mono ?_); rintro e w' ⟨rfl, rfl⟩))
  have HD1 : Kp (Blk (w'.setCell ⟨b, 1, none⟩ (.int .i64 ((cnt : Int) + (p.length : Int)))) b 135 (dcells false (cnt + p.length) c (.slice A 0 cr))) := ⟨by
    rw [← dcells_set1 false cnt (cnt + p.length)]; exact HD.out.blk.set 1 _⟩
  have HF1 : Kp (Fr (fun k => k = b) w' (w'.setCell ⟨b, 1, none⟩ (.int .i64 ((cnt : Int) + (p.length : Int))))) := ⟨Fr.set (S := fun k => k = b) (a := ⟨b, 1, none⟩) (Fr.refl _ _) (fun _ => rfl) _⟩
  have HL1 := Kp.mk (HL.out.fr HF1.out (fun k hk => hk ▸ HD.out.low))
  have HX1 := Kp.mk (HX.out.fr HF1.out hne)
  have HOW : Kp ((w'.setCell ⟨b, 1, none⟩ (.int .i64 ((cnt : Int) + (p.length : Int)))).ownsRow low 5 1 (.slice A 0 cr) 0 (bytes [])) := ⟨own_keep HD.out.rest HF1.out (fun k hk e => own_ne HD.out.rest hk HD.out.blk (by decide) e)⟩
  clear h0 h1 h18 hf1 HB
  have HF5 : Kp (Fr (dfoot b (.slice A 0 cr)) w' (w'.setCell ⟨b, 1, none⟩ (.int .i64 ((cnt : Int) + (p.length : Int))))) := ⟨HF1.out.mono (fun k _ h => .inl h)⟩
  have HLow := Kp.mk HD.out.low
  clear HF1
  generalize w'.setCell ⟨b, 1, none⟩ (.int .i64 ((cnt : Int) + (p.length : Int))) = W5 at HD1 HF5 HL1 HX1 HOW ⊢
  have HS5 : Kp (Heir w' (.slice A 0 cr) (.slice A 0 cr)) := ⟨Heir.refl _ _⟩
  have H5 : Kp ((0 < p.length → os = os + 64 * 0) ∧ p.length = p.length - 64 * 0 ∧ p.length ≤ cp) := ⟨fun _ => rfl, rfl, hcp⟩
  have HST : Kp (∀ j, p.length / 64 = j → (St.mk false cnt c []).write p = ⟨false, cnt + p.length, runC false c p j, p.drop (64 * j)⟩) := ⟨fun j hjn => by
    unfold St.write
    rw [if_pos hmax]
    show absorb ⟨false, cnt, c, []⟩ p (cnt + p.length) = _
    unfold absorb
    simp only [blk, hjn]⟩
  go_loopw [1] (fun s1 wr => ∃ o n m : Nat, s1 = .slice (some ⟨bs, o, none⟩) n m ∧ Kp (∃ j, 64 * j ≤ p.length ∧ (0 < n → o = os + 64 * j) ∧ n = p.length - 64 * j ∧ n ≤ m ∧ Blk wr b 135 (dcells false (cnt + p.length) (runC false c p j) (.slice A 0 cr))) ∧ Kp (Fr (fun k => k = b) W5 wr)) (fun s1 _ => lenOf s1)
  case atStart => exact ⟨os, p.length, cp, rfl, ⟨0, Nat.zero_le _, H5.out.1, H5.out.2.1, H5.out.2.2, HD1.out⟩, ⟨Fr.refl _ _⟩⟩
  case round =>
    obtain ⟨o, n, m, rfl, HJ, HF⟩ := hrel
    obtain ⟨j, hj, ho, hn, hnm, hB⟩ := HJ.out
    have HBk := Kp.mk hB
    have hL1 := HL1.out.fr HF.out (fun k hk => hk ▸ HLow.out)
    have hX1 := HX1.out.fr HF.out hne
    have HL1 := Kp.mk hL1
    have HO := Kp.mk ho
    have HX1 := Kp.mk hX1
    have HN := Kp.mk hn
    have HJJ := Kp.mk hj
    clear HJ hB hL1 hX1 ho hn hj
    by_cases hlt : 64 ≤ n
    · have hlen : ((p.drop (64 * j)).take 64).length = 64 := by
        have := HN.out
        simp; omega
      have hm64 : 64 ≤ m := by omega
      have hmix := Kp.mk (M32.mix_calls b (cnt + p.length) (runC false c p j) (.slice A 0 cr) bs o 64 m ((p.drop (64 * j)).take 64) hlen (Nat.le_refl _) (by omega) wr HL1.out HBk.out (by rw [HO.out (by omega)]; exact (HX1.out.drop _).take _))
      go_wp2_with fail
      refine hmix.out.mono ?_
      rintro e w2 ⟨r2, rfl, hB2, hF2⟩
      have HB2 := Kp.mk hB2
      have HF2 := Kp.mk (HF.out.trans hF2 (fun _ _ h => h))
      clear hB2 hF2 hmix
      by_cases hme : m = 64
      · subst hme
        obtain rfl : n = 64 := by omega
        go_wp2
        go_roundw
        case rel => exact ⟨o, 0, 0, rfl, ⟨j + 1, by have := HN.out; omega, fun h => absurd h (Nat.lt_irrefl _), by have := HN.out; omega, Nat.le_refl _, HB2.out⟩, HF2⟩
        case measure => simp [lenOf] <;> omega
      · go_wp2
        go_roundw
        case rel => exact ⟨o + 64, n - 64, m - 64, rfl, ⟨j + 1, by have := HN.out; omega, fun h => by have := HO.out; omega, by have := HN.out; omega, by omega, HB2.out⟩, HF2⟩
        case measure => simp [lenOf] <;> omega
    · obtain ⟨q2, hq2⟩ : ∃ q2, q2 = p.drop (64 * j) := ⟨_, rfl⟩
      have HQ2 := Kp.mk hq2
      have hdl : Kp (n = q2.length) := ⟨by rw [hq2, List.length_drop]; exact HN.out⟩
      have hown : wr.ownsRow low 5 1 (.slice A 0 cr) ([] : List Int).length (bytes []) := own_keep HOW.out HF.out (fun k hk e => own_ne HOW.out hk HD1.out (by decide) e)
      have h18 := HBk.out.cell 18 (.slice A 0 cr) rfl
      have HOW := Kp.mk hown
      have hrd : Kp (Reads wr bs o q2) := ⟨by
        rcases Nat.eq_zero_or_pos n with h | h
        · exact ⟨HX1.out.1, fun i hi => by rw [← hdl.out, h] at hi; omega⟩
        · rw [HO.out h, hq2]; exact HX1.out.drop _⟩
      clear hown hq2
      go_wp2_with (at_builtin; refine wpList_appendB rfl _ _ rfl rfl low _ [] rfl HOW.out bs o n _ q2 hdl.out rfl hrd.out (by rw [← hdl.out]; simp only [List.length_nil]; omega) HL1.out.size ?_; intro v2 w2 hown2 hgr hat; have hF3 := hgr.cell_far ⟨b, 18, none⟩ HBk.out.lt (fun e => own_ne HOW.out e.symm HBk.out (by decide) rfl); rw [h18] at hF3; have hz3 := hgr.frozen_far ⟨b, 18, none⟩ HBk.out.lt (fun e => own_ne HOW.out e.symm HBk.out (by decide) rfl); rw [HBk.out.free 18] at hz3; obtain ⟨A9, c9, hv2, hc9⟩ := own_shape hown2; subst hv2; have HO2 := Kp.mk hown2; have HG := Kp.mk hgr; have HT := Kp.mk hat; clear hown2 hgr hat)
      go_end0
      have hB2 : Blk w2 b 135 (dcells false (cnt + p.length) (runC false c p j) (.slice A 0 cr)) := (HG.out.block b HBk.out.lt (fun e => own_ne HOW.out e.symm HBk.out (by decide) rfl)).trans HBk.out
      have hjn : p.length / 64 = j := by have := HN.out; have := HJJ.out; omega
      have hst := HST.out j hjn
      rw [← HQ2.out] at hst
      rw [hst]
      simp only [List.nil_append] at HO2 HT
      first | refine ⟨_, .slice A9 q2.length c9, rfl, ⟨?_, ?_, HLow.out⟩, ?_, ?_⟩ | refine ⟨⟨_, rfl⟩, .slice A9 q2.length c9, ⟨?_, ?_, HLow.out⟩, ?_, ?_⟩
      · rw [← dcells_set18 false _ _ (.slice A 0 cr)]
        exact hB2.set 18 _
      · exact own_keep HO2.out (Fr.set (S := fun k => k = b) (a := ⟨b, 18, none⟩) (Fr.refl _ _) (fun _ => rfl) _) (fun k hk e => own_ne HO2.out hk hB2 (by decide) e)
      · exact (Heir.of HT.out).trans HS5.out (Nat.le_trans HF5.out.size HF.out.size)
      · exact Fr.set (Fr.grown (HF5.out.trans HF.out (fun k _ h => .inl h)) HG.out (fun k hk h => .inr (HS5.out.not_old h hk))) (a := ⟨b, 18, none⟩) (fun _ => .inl rfl) _
set_option maxHeartbeats 4000000 in
set_option maxRecDepth 100000 in
theorem write_short (b cnt : Nat) (c : Chain) (rv : Value) (rs p : List Int) (hrs : 0 < rs.length) (hsh : rs.length + p.length < 64) (bs os cp : Nat) (hcp : p.length ≤ cp) (hmax : cnt + p.length ≤ maxCount) (w : World) (hL : Laid w) (hD : Dg w b rv ⟨false, cnt, c, rs⟩)
    (hX : Reads w bs os p) (hne : bs ≠ b) :
    Calls Tryd.prog 39 #[.pointer (some ⟨b, 0, none⟩), .slice (some ⟨bs, os, none⟩) p.length cp] w fun e w' =>
      ∃ r rv', e = .returned r ∧ Dg w' b rv' ((St.mk false cnt c rs).write p) ∧ Heir w rv' rv ∧ Fr (dfoot b rv) w w' := by
  obtain ⟨A, cr, hrv, _⟩ := own_shape hD.rest
  simp only at hrv
  subst hrv
  have h0 := hD.blk.cell 0 _ rfl
  have h1 := hD.blk.cell 1 _ rfl
  have h18 := hD.blk.cell 18 (.slice A rs.length cr) rfl
  have hf1 := hD.blk.free 1
  have hf18 := hD.blk.free 18
  have HB := block_calls b false w h0
  have HD := Kp.mk hD
  have HL := Kp.mk hL
  have HX := Kp.mk hX
  clear hD hL hX
  simp only [kind, blk] at h0 h1 HB
  have hmax' := hmax
  unfold maxCount at hmax'
  have hdec : decide ((2305843009213693951 : Int) - (cnt : Int) < (p.length : Int)) = false := decide_eq_false (by omega)
  go_enter Tryd.func39, Tryd.ntmps39
  go_wp2_with (first | (go_at_call 66; (with_reducible refine HB.mono ?_); rintro e w' ⟨rfl, rfl⟩))
  have HD1 : Kp (Blk (w'.setCell ⟨b, 1, none⟩ (.int .i64 ((cnt : Int) + (p.length : Int)))) b 135 (dcells false (cnt + p.length) c (.slice A rs.length cr))) := ⟨by
    rw [← dcells_set1 false cnt (cnt + p.length)]; exact HD.out.blk.set 1 _⟩
  have HF1 : Kp (Fr (fun k => k = b) w' (w'.setCell ⟨b, 1, none⟩ (.int .i64 ((cnt : Int) + (p.length : Int))))) := ⟨Fr.set (S := fun k => k = b) (a := ⟨b, 1, none⟩) (Fr.refl _ _) (fun _ => rfl) _⟩
  have HL1 := Kp.mk (HL.out.fr HF1.out (fun k hk => hk ▸ HD.out.low))
  have HX1 := Kp.mk (HX.out.fr HF1.out hne)
  have HOW : Kp ((w'.setCell ⟨b, 1, none⟩ (.int .i64 ((cnt : Int) + (p.length : Int)))).ownsRow low 5 1 (.slice A rs.length cr) rs.length (bytes rs)) := ⟨own_keep HD.out.rest HF1.out (fun k hk e => own_ne HD.out.rest hk HD.out.blk (by decide) e)⟩
  clear h0 h1 h18 hf1 hf18 HB
  generalize w'.setCell ⟨b, 1, none⟩ (.int .i64 ((cnt : Int) + (p.length : Int))) = W1 at HD1 HF1 HL1 HX1 HOW ⊢
  have h18 := HD1.out.cell 18 (.slice A rs.length cr) rfl
  have hf18 := HD1.out.free 18
  have hlb := Kp.mk HD1.out.lt
  go_region_law ((refine step_appendB (by rfl) _ _ (by rfl) (by rfl) low (.slice A rs.length cr) rs (by rfl) (by exact HOW.out) bs os p.length _ p rfl (by rfl) (by exact HX1.out) (by omega) (by exact HL1.out.size) ?_; intro v2 w2 hown2 hgr hat; have hF3 : w2.cell? ⟨b, 18, none⟩ = some (.slice A rs.length cr) := (hgr.cell_far ⟨b, 18, none⟩ hlb.out (fun e => own_ne HOW.out e.symm HD1.out (by decide) rfl)).trans h18; have hz3 : w2.frozen? ⟨b, 18, none⟩ = false := (hgr.frozen_far ⟨b, 18, none⟩ hlb.out (fun e => own_ne HOW.out e.symm HD1.out (by decide) rfl)).trans hf18; obtain ⟨A2, c2, hv2, hc2⟩ := own_shape hown2; subst hv2; have HO2 := Kp.mk hown2; have HG := Kp.mk hgr; have HT := Kp.mk hat; clear hown2 hgr hat))
  have hB2 : Kp (Blk w2 b 135 (dcells false (cnt + p.length) c (.slice A rs.length cr))) := ⟨(HG.out.block b hlb.out (fun e => own_ne HOW.out e.symm HD1.out (by decide) rfl)).trans HD1.out⟩
  by_cases hcpe : cp = p.length
  all_goals
    go_wp2
    (try simp only [Exit.inBlock, Exit.then])
    refine bodyPost_ret (results_none rfl _ _ _) rfl ?_
    have hst : (St.mk false cnt c rs).write p = ⟨false, cnt + p.length, c, rs ++ p⟩ := by
      unfold St.write
      rw [if_pos hmax]
      unfold absorb
      have hz : (rs ++ p).length / 64 = 0 := by rw [List.length_append]; omega
      simp only [blk, hz, runC, Nat.mul_zero, List.drop_zero]
    rw [hst]
    simp only [List.length_append] at HO2 HT
    refine ⟨_, .slice A2 (rs.length + p.length) c2, rfl, ⟨?_, ?_, HD.out.low⟩, ?_, ?_⟩
    · rw [← dcells_set18 false _ _ (.slice A rs.length cr)]
      exact hB2.out.set 18 _
    · show World.ownsRow _ low _ 1 _ (rs ++ p).length (bytes (rs ++ p))
      rw [List.length_append]
      exact own_keep HO2.out (Fr.set (S := fun k => k = b) (a := ⟨b, 18, none⟩) (Fr.refl _ _) (fun _ => rfl) _) (fun k hk e => own_ne HO2.out hk hB2.out (by decide) e)
    · exact (Heir.of HT.out).trans (Heir.refl w' _) HF1.out.size
    · exact Fr.set (Fr.grown (HF1.out.drew.mono (fun k _ h => .inl h)) HG.out (fun k _ h => .inr h)) (a := ⟨b, 18, none⟩) (fun _ => .inl rfl) _
set_option maxHeartbeats 4000000 in
set_option maxRecDepth 100000 in
theorem write_long (b cnt : Nat) (c : Chain) (rv : Value) (rs p : List Int) (k : Nat) (hrs : 0 < rs.length) (hk0 : 0 < k) (hk : rs.length + k = 64) (hkp : k ≤ p.length) (bs os cp : Nat) (hcp : p.length ≤ cp) (hmax : cnt + p.length ≤ maxCount) (w : World) (hL : Laid w) (hD : Dg w b rv ⟨false, cnt, c, rs⟩)
    (hX : Reads w bs os p) (hne : bs ≠ b) (hnr : rv.ownBlock ≠ some bs) :
    Calls Tryd.prog 39 #[.pointer (some ⟨b, 0, none⟩), .slice (some ⟨bs, os, none⟩) p.length cp] w fun e w' =>
      ∃ r rv', e = .returned r ∧ Dg w' b rv' ((St.mk false cnt c rs).write p) ∧ Heir w rv' rv ∧ Fr (dfoot b rv) w w' := by
  obtain ⟨A, cr, hrv, _⟩ := own_shape hD.rest
  simp only at hrv
  subst hrv
  have hkcp : k ≤ cp := Nat.le_trans hkp hcp
  have hki : (64 : Int) - (rs.length : Int) = (k : Int) := by omega
  have hpt : (p.take k).length = k := by simp; omega
  have HPT := Kp.mk hpt
  clear hpt
  have h0 := hD.blk.cell 0 _ rfl
  have h1 := hD.blk.cell 1 _ rfl
  have h18 := hD.blk.cell 18 (.slice A rs.length cr) rfl
  have hf1 := hD.blk.free 1
  have HB := block_calls b false w h0
  have HD := Kp.mk hD
  have HL := Kp.mk hL
  have HX := Kp.mk hX
  clear hD hL hX
  simp only [kind, blk] at h0 h1 HB
  have hmax' := hmax
  unfold maxCount at hmax'
  have hdec : decide ((2305843009213693951 : Int) - (cnt : Int) < (p.length : Int)) = false := decide_eq_false (by omega)
  go_enter Tryd.func39, Tryd.ntmps39
  go_wp2_with (first | (go_at_call 66; (with_reducible refine HB.mono ?_); rintro e w' ⟨rfl, rfl⟩))
  have HD1 : Kp (Blk (w'.setCell ⟨b, 1, none⟩ (.int .i64 ((cnt : Int) + (p.length : Int)))) b 135 (dcells false (cnt + p.length) c (.slice A rs.length cr))) := ⟨by
    rw [← dcells_set1 false cnt (cnt + p.length)]; exact HD.out.blk.set 1 _⟩
  have HF1 : Kp (Fr (fun k => k = b) w' (w'.setCell ⟨b, 1, none⟩ (.int .i64 ((cnt : Int) + (p.length : Int))))) := ⟨Fr.set (S := fun k => k = b) (a := ⟨b, 1, none⟩) (Fr.refl _ _) (fun _ => rfl) _⟩
  have HL1 := Kp.mk (HL.out.fr HF1.out (fun k hk => hk ▸ HD.out.low))
  have HX1 := Kp.mk (HX.out.fr HF1.out hne)
  have HOW : Kp ((w'.setCell ⟨b, 1, none⟩ (.int .i64 ((cnt : Int) + (p.length : Int)))).ownsRow low 5 1 (.slice A rs.length cr) rs.length (bytes rs)) := ⟨own_keep HD.out.rest HF1.out (fun k hk e => own_ne HD.out.rest hk HD.out.blk (by decide) e)⟩
  clear h0 h1 h18 hf1 HB
  generalize w'.setCell ⟨b, 1, none⟩ (.int .i64 ((cnt : Int) + (p.length : Int))) = W1 at HD1 HF1 HL1 HX1 HOW ⊢
  have h18 := HD1.out.cell 18 (.slice A rs.length cr) rfl
  have hf18 := HD1.out.free 18
  have hlb := Kp.mk HD1.out.lt
  go_region_law ((refine step_appendB (by rfl) _ _ (by rfl) (by rfl) low (.slice A rs.length cr) rs (by rfl) (by exact HOW.out) bs os k _ (p.take k) HPT.out.symm (by rfl) (by exact HX1.out.take k) (by rw [HPT.out]; omega) (by exact HL1.out.size) ?_; intro v2 w2 hown2 hgr hat; have hF3 : w2.cell? ⟨b, 18, none⟩ = some (.slice A rs.length cr) := (hgr.cell_far ⟨b, 18, none⟩ hlb.out (fun e => own_ne HOW.out e.symm HD1.out (by decide) rfl)).trans h18; have hz3 : w2.frozen? ⟨b, 18, none⟩ = false := (hgr.frozen_far ⟨b, 18, none⟩ hlb.out (fun e => own_ne HOW.out e.symm HD1.out (by decide) rfl)).trans hf18; obtain ⟨g, c2, hv2, hgl, hgt, hc2, hrd2⟩ := own_form hown2 (by rw [List.length_append, HPT.out]; omega); subst hv2; have HO2 := Kp.mk hown2; have HG := Kp.mk hgr; have HT := Kp.mk hat; have HR2 := Kp.mk hrd2; have HGT := Kp.mk hgt; clear hown2 hgr hat hrd2 hgt))
  have hB2 : Kp (Blk w2 b 135 (dcells false (cnt + p.length) c (.slice A rs.length cr))) := ⟨(HG.out.block b hlb.out (fun e => own_ne HOW.out e.symm HD1.out (by decide) rfl)).trans HD1.out⟩
  have hlen2 : (rs ++ p.take k).length = 64 := by rw [List.length_append, HPT.out]; exact hk
  rw [hlen2] at HO2 hc2
  have hgb : Kp (g ≠ b) := ⟨own_ne HO2.out rfl hB2.out (by decide)⟩
  have hB3 : Kp (Blk (w2.setCell ⟨b, 18, none⟩ (.slice (some ⟨g, 0, none⟩) 64 c2)) b 135 (dcells false (cnt + p.length) c (.slice (some ⟨g, 0, none⟩) 64 c2))) := ⟨by
    rw [← dcells_set18 false _ _ (.slice A rs.length cr)]; exact hB2.out.set 18 _⟩
  have hF3 : Kp (Fr (fun k => k = b) w2 (w2.setCell ⟨b, 18, none⟩ (.slice (some ⟨g, 0, none⟩) 64 c2))) := ⟨Fr.set (S := fun k => k = b) (a := ⟨b, 18, none⟩) (Fr.refl _ _) (fun _ => rfl) _⟩
  have HFW2 : Kp (Fr (dfoot b (.slice A rs.length cr)) W1 w2) := ⟨Fr.grown ((Fr.refl (dfoot b (.slice A rs.length cr)) W1).drew) HG.out (fun k _ h => .inr h)⟩
  have hlowA : ∀ k, dfoot b (.slice A rs.length cr) k → low ≤ k := fun k h => h.elim (fun e => e ▸ HD.out.low) (fun e => (own_lt HOW.out e).2)
  have HL2 := Kp.mk (HL1.out.fr HFW2.out hlowA)
  have HX2 := Kp.mk (HX1.out.fr HFW2.out (fun h => h.elim hne hnr))
  have HL3 := Kp.mk (HL2.out.fr hF3.out (fun k hk => hk ▸ HD.out.low))
  have HX3 := Kp.mk (HX2.out.fr hF3.out hne)
  have HR3 := Kp.mk (HR2.out.fr hF3.out hgb.out)
  have HO3 : Kp ((w2.setCell ⟨b, 18, none⟩ (.slice (some ⟨g, 0, none⟩) 64 c2)).ownsRow low 5 1 (.slice (some ⟨g, 0, none⟩) 64 c2) 64 (bytes (rs ++ p.take k))) := ⟨own_keep HO2.out hF3.out (fun k hk e => own_ne HO2.out hk hB2.out (by decide) e)⟩
  have HFW : Kp (Fr (dfoot b (.slice A rs.length cr)) w' (w2.setCell ⟨b, 18, none⟩ (.slice (some ⟨g, 0, none⟩) 64 c2))) := ⟨((HF1.out.mono (fun k _ h => .inl h)).trans HFW2.out (fun _ _ h => h)).trans hF3.out (fun _ _ h => .inl h)⟩
  have HS5 : Kp (Heir w' (.slice (some ⟨g, 0, none⟩) 0 c2) (.slice A rs.length cr)) := ⟨(Heir.of HT.out).trans (Heir.refl w' _) HF1.out.size⟩
  have HLow := Kp.mk HD.out.low
  have HP5 : Kp (∀ j, (p.drop k).length / 64 = j → (St.mk false cnt c rs).write p = ⟨false, cnt + p.length, runC false (mixC false c (rs ++ p.take k)) (p.drop k) j, (p.drop k).drop (64 * j)⟩) := ⟨fun j hjn => by
    have e1 : rs ++ p = (rs ++ p.take k) ++ p.drop k := by rw [List.append_assoc, List.take_append_drop]
    have hl : (rs ++ p).length = 64 + (p.drop k).length := by rw [e1, List.length_append, hlen2]
    have e2 : (rs ++ p).length / 64 = 1 + j := by rw [hl, ← hjn]; omega
    unfold St.write
    rw [if_pos hmax]
    unfold absorb
    simp only [blk, e2]
    have e3 : (rs ++ p).drop (64 * 1) = p.drop k := by rw [e1, List.drop_append_of_le_length (by rw [hlen2]; exact Nat.le_refl _), List.drop_eq_nil_of_le (by rw [hlen2]; exact Nat.le_refl _)]; rfl
    have e4 : runC false c (rs ++ p) 1 = mixC false c (rs ++ p.take k) := by
      show mixC false c (((rs ++ p).drop (64 * 0)).take 64) = _
      rw [Nat.mul_zero, List.drop_zero, e1, List.take_append_of_le_length (by rw [hlen2]; exact Nat.le_refl _), List.take_of_length_le (by rw [hlen2]; exact Nat.le_refl _)]
    have e5 := runC_add false c (rs ++ p) 1 j
    rw [e4] at e5
    have e6 : (rs ++ p).drop (64 * (1 + j)) = (p.drop k).drop (64 * j) := by rw [Nat.mul_add, ← List.drop_drop, e3]
    rw [e5, e6]
    show (St.mk false _ (runC false _ ((rs ++ p).drop (64 * 1)) j) _) = _
    rw [e3]⟩
  have HQ : Kp ((p.drop k).length = p.length - k) := ⟨List.length_drop⟩
  have hkk := HL3.out.size
  clear hkk
  have HQX := Kp.mk (HX3.out.drop k)
  have HL2n := Kp.mk hlen2
  generalize hW3 : w2.setCell ⟨b, 18, none⟩ (.slice (some ⟨g, 0, none⟩) 64 c2) = W3 at hB3 hF3 HL3 HX3 HR3 HO3 HFW HQX ⊢
  clear hW3 HFW2 hlowA HL2 HX2 HR2 HO2 hB2 hF3 HX1 HL1 HOW HD1 HF1 HT HG hlb h18 hf18 hlen2 HL HX
  have h18 := hB3.out.cell 18 (.slice (some ⟨g, 0, none⟩) 64 c2) rfl
  have hmix := Kp.mk (M32.mix_calls b (cnt + p.length) c (.slice (some ⟨g, 0, none⟩) 64 c2) g 0 64 c2 (rs ++ p.take k) HL2n.out (Nat.le_refl _) hc2 W3 HL3.out hB3.out HR3.out)
  by_cases hme : cp = k
  · have hkp' : p.length = k := by omega
    go_wp2_with fail
    refine hmix.out.mono ?_
    rintro e w4 ⟨r4, rfl, hB4, hF4⟩
    have HB4 := Kp.mk hB4
    have HF4 := Kp.mk hF4
    clear hB4 hF4 hmix h18
    have h18 := HB4.out.cell 18 (.slice (some ⟨g, 0, none⟩) 64 c2) rfl
    have hf18 := HB4.out.free 18
    go_wp2
    have HD5 : Kp (Blk (w4.setCell ⟨b, 18, none⟩ (.slice (some ⟨g, 0, none⟩) 0 c2)) b 135 (dcells false (cnt + p.length) (runC false (mixC false c (rs ++ p.take k)) (p.drop k) 0) (.slice (some ⟨g, 0, none⟩) 0 c2))) := ⟨by
      rw [← dcells_set18 false _ _ (.slice (some ⟨g, 0, none⟩) 64 c2)]; exact HB4.out.set 18 _⟩
    have HF45 : Kp (Fr (fun k => k = b) W3 (w4.setCell ⟨b, 18, none⟩ (.slice (some ⟨g, 0, none⟩) 0 c2))) := ⟨HF4.out.set (a := ⟨b, 18, none⟩) (fun _ => rfl) _⟩
    have HF5 : Kp (Fr (dfoot b (.slice A rs.length cr)) w' (w4.setCell ⟨b, 18, none⟩ (.slice (some ⟨g, 0, none⟩) 0 c2))) := ⟨HFW.out.trans HF45.out (fun _ _ h => .inl h)⟩
    have HL5 := Kp.mk (HL3.out.fr HF45.out (fun k hk => hk ▸ HLow.out))
    have HX5 := Kp.mk (HQX.out.fr HF45.out hne)
    have HOW5 : Kp ((w4.setCell ⟨b, 18, none⟩ (.slice (some ⟨g, 0, none⟩) 0 c2)).ownsRow low 5 1 (.slice (some ⟨g, 0, none⟩) 0 c2) 0 []) := ⟨own_keep (own_cut HO3.out) HF45.out (fun k hk e => hgb.out ((Option.some.inj hk).trans e))⟩
    have H5 : Kp ((0 < 0 → os = (os + k) + 64 * 0) ∧ 0 = (p.drop k).length - 64 * 0 ∧ 0 ≤ 0) := ⟨by rw [HQ.out]; refine ⟨fun h => ?_, ?_, ?_⟩ <;> omega⟩
    have HST := HP5
    clear h18 hf18 HF45 HB4 HF4 HL3 HX3 HR3 HO3 HFW HQX hB3 HP5 HQ
    generalize p.drop k = q at HD5 HX5 H5 HST
    generalize w4.setCell ⟨b, 18, none⟩ (.slice (some ⟨g, 0, none⟩) 0 c2) = W5 at HD5 HF5 HL5 HX5 HOW5 ⊢
    go_loopw [1] (fun s1 wr => ∃ o n m : Nat, s1 = .slice (some ⟨bs, o, none⟩) n m ∧ Kp (∃ j, 64 * j ≤ q.length ∧ (0 < n → o = (os + k) + 64 * j) ∧ n = q.length - 64 * j ∧ n ≤ m ∧ Blk wr b 135 (dcells false (cnt + p.length) (runC false (mixC false c (rs ++ p.take k)) q j) (.slice (some ⟨g, 0, none⟩) 0 c2))) ∧ Kp (Fr (fun k => k = b) W5 wr)) (fun s1 _ => lenOf s1)
    case atStart => exact ⟨os, 0, 0, rfl, ⟨0, Nat.zero_le _, H5.out.1, H5.out.2.1, H5.out.2.2, HD5.out⟩, ⟨Fr.refl _ _⟩⟩
    case round =>
      obtain ⟨o, n, m, rfl, HJ, HF⟩ := hrel
      obtain ⟨j, hj, ho, hn, hnm, hB⟩ := HJ.out
      have HBk := Kp.mk hB
      have hL1 := HL5.out.fr HF.out (fun k hk => hk ▸ HLow.out)
      have hX1 := HX5.out.fr HF.out hne
      have HL1 := Kp.mk hL1
      have HO := Kp.mk ho
      have HX1 := Kp.mk hX1
      have HN := Kp.mk hn
      have HJJ := Kp.mk hj
      clear HJ hB hL1 hX1 ho hn hj
      by_cases hlt : 64 ≤ n
      · have hlen : ((q.drop (64 * j)).take 64).length = 64 := by
          have := HN.out
          simp; omega
        have hm64 : 64 ≤ m := by omega
        have hmix := Kp.mk (M32.mix_calls b (cnt + p.length) (runC false (mixC false c (rs ++ p.take k)) q j) (.slice (some ⟨g, 0, none⟩) 0 c2) bs o 64 m ((q.drop (64 * j)).take 64) hlen (Nat.le_refl _) (by omega) wr HL1.out HBk.out (by rw [HO.out (by omega)]; exact (HX1.out.drop _).take _))
        go_wp2_with fail
        refine hmix.out.mono ?_
        rintro e w2 ⟨r2, rfl, hB2, hF2⟩
        have HB2 := Kp.mk hB2
        have HF2 := Kp.mk (HF.out.trans hF2 (fun _ _ h => h))
        clear hB2 hF2 hmix
        by_cases hme : m = 64
        · subst hme
          obtain rfl : n = 64 := by omega
          go_wp2
          go_roundw
          case rel => exact ⟨o, 0, 0, rfl, ⟨j + 1, by have := HN.out; omega, fun h => absurd h (Nat.lt_irrefl _), by have := HN.out; omega, Nat.le_refl _, HB2.out⟩, HF2⟩
          case measure => simp [lenOf] <;> omega
        · go_wp2
          go_roundw
          case rel => exact ⟨o + 64, n - 64, m - 64, rfl, ⟨j + 1, by have := HN.out; omega, fun h => by have := HO.out; omega, by have := HN.out; omega, by omega, HB2.out⟩, HF2⟩
          case measure => simp [lenOf] <;> omega
      · obtain ⟨q2, hq2⟩ : ∃ q2, q2 = q.drop (64 * j) := ⟨_, rfl⟩
        have HQ2 := Kp.mk hq2
        have hdl : Kp (n = q2.length) := ⟨by rw [hq2, List.length_drop]; exact HN.out⟩
        have hown : wr.ownsRow low 5 1 (.slice (some ⟨g, 0, none⟩) 0 c2) ([] : List Int).length (bytes []) := own_keep HOW5.out HF.out (fun k hk e => own_ne HOW5.out hk HD5.out (by decide) e)
        have h18 := HBk.out.cell 18 (.slice (some ⟨g, 0, none⟩) 0 c2) rfl
        have HOW := Kp.mk hown
        have hrd : Kp (Reads wr bs o q2) := ⟨by
          rcases Nat.eq_zero_or_pos n with h | h
          · exact ⟨HX1.out.1, fun i hi => by rw [← hdl.out, h] at hi; omega⟩
          · rw [HO.out h, hq2]; exact HX1.out.drop _⟩
        clear hown hq2
        go_wp2_with (at_builtin; refine wpList_appendB rfl _ _ rfl rfl low _ [] rfl HOW.out bs o n _ q2 hdl.out rfl hrd.out (by rw [← hdl.out]; simp only [List.length_nil]; omega) HL1.out.size ?_; intro v2 w2 hown2 hgr hat; have hF3 := hgr.cell_far ⟨b, 18, none⟩ HBk.out.lt (fun e => own_ne HOW.out e.symm HBk.out (by decide) rfl); rw [h18] at hF3; have hz3 := hgr.frozen_far ⟨b, 18, none⟩ HBk.out.lt (fun e => own_ne HOW.out e.symm HBk.out (by decide) rfl); rw [HBk.out.free 18] at hz3; obtain ⟨A9, c9, hv2, hc9⟩ := own_shape hown2; subst hv2; have HO2 := Kp.mk hown2; have HG := Kp.mk hgr; have HT := Kp.mk hat; clear hown2 hgr hat)
        go_end0
        have hB2 : Blk w2 b 135 (dcells false (cnt + p.length) (runC false (mixC false c (rs ++ p.take k)) q j) (.slice (some ⟨g, 0, none⟩) 0 c2)) := (HG.out.block b HBk.out.lt (fun e => own_ne HOW.out e.symm HBk.out (by decide) rfl)).trans HBk.out
        have hjn : q.length / 64 = j := by have := HN.out; have := HJJ.out; omega
        have hst := HST.out j hjn
        rw [← HQ2.out] at hst
        rw [hst]
        simp only [List.nil_append] at HO2 HT
        first | refine ⟨_, .slice A9 q2.length c9, rfl, ⟨?_, ?_, HLow.out⟩, ?_, ?_⟩ | refine ⟨⟨_, rfl⟩, .slice A9 q2.length c9, ⟨?_, ?_, HLow.out⟩, ?_, ?_⟩
        · rw [← dcells_set18 false _ _ (.slice (some ⟨g, 0, none⟩) 0 c2)]
          exact hB2.set 18 _
        · exact own_keep HO2.out (Fr.set (S := fun k => k = b) (a := ⟨b, 18, none⟩) (Fr.refl _ _) (fun _ => rfl) _) (fun k hk e => own_ne HO2.out hk hB2 (by decide) e)
        · exact (Heir.of HT.out).trans HS5.out (Nat.le_trans HF5.out.size HF.out.size)
        · exact Fr.set (Fr.grown (HF5.out.trans HF.out (fun k _ h => .inl h)) HG.out (fun k hk h => .inr (HS5.out.not_old h hk))) (a := ⟨b, 18, none⟩) (fun _ => .inl rfl) _
  · go_wp2_with fail
    refine hmix.out.mono ?_
    rintro e w4 ⟨r4, rfl, hB4, hF4⟩
    have HB4 := Kp.mk hB4
    have HF4 := Kp.mk hF4
    clear hB4 hF4 hmix h18
    have h18 := HB4.out.cell 18 (.slice (some ⟨g, 0, none⟩) 64 c2) rfl
    have hf18 := HB4.out.free 18
    go_wp2
    have HD5 : Kp (Blk (w4.setCell ⟨b, 18, none⟩ (.slice (some ⟨g, 0, none⟩) 0 c2)) b 135 (dcells false (cnt + p.length) (runC false (mixC false c (rs ++ p.take k)) (p.drop k) 0) (.slice (some ⟨g, 0, none⟩) 0 c2))) := ⟨by
      rw [← dcells_set18 false _ _ (.slice (some ⟨g, 0, none⟩) 64 c2)]; exact HB4.out.set 18 _⟩
    have HF45 : Kp (Fr (fun k => k = b) W3 (w4.setCell ⟨b, 18, none⟩ (.slice (some ⟨g, 0, none⟩) 0 c2))) := ⟨HF4.out.set (a := ⟨b, 18, none⟩) (fun _ => rfl) _⟩
    have HF5 : Kp (Fr (dfoot b (.slice A rs.length cr)) w' (w4.setCell ⟨b, 18, none⟩ (.slice (some ⟨g, 0, none⟩) 0 c2))) := ⟨HFW.out.trans HF45.out (fun _ _ h => .inl h)⟩
    have HL5 := Kp.mk (HL3.out.fr HF45.out (fun k hk => hk ▸ HLow.out))
    have HX5 := Kp.mk (HQX.out.fr HF45.out hne)
    have HOW5 : Kp ((w4.setCell ⟨b, 18, none⟩ (.slice (some ⟨g, 0, none⟩) 0 c2)).ownsRow low 5 1 (.slice (some ⟨g, 0, none⟩) 0 c2) 0 []) := ⟨own_keep (own_cut HO3.out) HF45.out (fun k hk e => hgb.out ((Option.some.inj hk).trans e))⟩
    have H5 : Kp ((0 < (p.length - k) → (os + k) = (os + k) + 64 * 0) ∧ (p.length - k) = (p.drop k).length - 64 * 0 ∧ (p.length - k) ≤ (cp - k)) := ⟨by rw [HQ.out]; refine ⟨fun h => ?_, ?_, ?_⟩ <;> omega⟩
    have HST := HP5
    clear h18 hf18 HF45 HB4 HF4 HL3 HX3 HR3 HO3 HFW HQX hB3 HP5 HQ
    generalize p.drop k = q at HD5 HX5 H5 HST
    generalize w4.setCell ⟨b, 18, none⟩ (.slice (some ⟨g, 0, none⟩) 0 c2) = W5 at HD5 HF5 HL5 HX5 HOW5 ⊢
    go_loopw [1] (fun s1 wr => ∃ o n m : Nat, s1 = .slice (some ⟨bs, o, none⟩) n m ∧ Kp (∃ j, 64 * j ≤ q.length ∧ (0 < n → o = (os + k) + 64 * j) ∧ n = q.length - 64 * j ∧ n ≤ m ∧ Blk wr b 135 (dcells false (cnt + p.length) (runC false (mixC false c (rs ++ p.take k)) q j) (.slice (some ⟨g, 0, none⟩) 0 c2))) ∧ Kp (Fr (fun k => k = b) W5 wr)) (fun s1 _ => lenOf s1)
    case atStart => exact ⟨(os + k), (p.length - k), (cp - k), rfl, ⟨0, Nat.zero_le _, H5.out.1, H5.out.2.1, H5.out.2.2, HD5.out⟩, ⟨Fr.refl _ _⟩⟩
    case round =>
      obtain ⟨o, n, m, rfl, HJ, HF⟩ := hrel
      obtain ⟨j, hj, ho, hn, hnm, hB⟩ := HJ.out
      have HBk := Kp.mk hB
      have hL1 := HL5.out.fr HF.out (fun k hk => hk ▸ HLow.out)
      have hX1 := HX5.out.fr HF.out hne
      have HL1 := Kp.mk hL1
      have HO := Kp.mk ho
      have HX1 := Kp.mk hX1
      have HN := Kp.mk hn
      have HJJ := Kp.mk hj
      clear HJ hB hL1 hX1 ho hn hj
      by_cases hlt : 64 ≤ n
      · have hlen : ((q.drop (64 * j)).take 64).length = 64 := by
          have := HN.out
          simp; omega
        have hm64 : 64 ≤ m := by omega
        have hmix := Kp.mk (M32.mix_calls b (cnt + p.length) (runC false (mixC false c (rs ++ p.take k)) q j) (.slice (some ⟨g, 0, none⟩) 0 c2) bs o 64 m ((q.drop (64 * j)).take 64) hlen (Nat.le_refl _) (by omega) wr HL1.out HBk.out (by rw [HO.out (by omega)]; exact (HX1.out.drop _).take _))
        go_wp2_with fail
        refine hmix.out.mono ?_
        rintro e w2 ⟨r2, rfl, hB2, hF2⟩
        have HB2 := Kp.mk hB2
        have HF2 := Kp.mk (HF.out.trans hF2 (fun _ _ h => h))
        clear hB2 hF2 hmix
        by_cases hme : m = 64
        · subst hme
          obtain rfl : n = 64 := by omega
          go_wp2
          go_roundw
          case rel => exact ⟨o, 0, 0, rfl, ⟨j + 1, by have := HN.out; omega, fun h => absurd h (Nat.lt_irrefl _), by have := HN.out; omega, Nat.le_refl _, HB2.out⟩, HF2⟩
          case measure => simp [lenOf] <;> omega
        · go_wp2
          go_roundw
          case rel => exact ⟨o + 64, n - 64, m - 64, rfl, ⟨j + 1, by have := HN.out; omega, fun h => by have := HO.out; omega, by have := HN.out; omega, by omega, HB2.out⟩, HF2⟩
          case measure => simp [lenOf] <;> omega
      · obtain ⟨q2, hq2⟩ : ∃ q2, q2 = q.drop (64 * j) := ⟨_, rfl⟩
        have HQ2 := Kp.mk hq2
        have hdl : Kp (n = q2.length) := ⟨by rw [hq2, List.length_drop]; exact HN.out⟩
        have hown : wr.ownsRow low 5 1 (.slice (some ⟨g, 0, none⟩) 0 c2) ([] : List Int).length (bytes []) := own_keep HOW5.out HF.out (fun k hk e => own_ne HOW5.out hk HD5.out (by decide) e)
        have h18 := HBk.out.cell 18 (.slice (some ⟨g, 0, none⟩) 0 c2) rfl
        have HOW := Kp.mk hown
        have hrd : Kp (Reads wr bs o q2) := ⟨by
          rcases Nat.eq_zero_or_pos n with h | h
          · exact ⟨HX1.out.1, fun i hi => by rw [← hdl.out, h] at hi; omega⟩
          · rw [HO.out h, hq2]; exact HX1.out.drop _⟩
        clear hown hq2
        go_wp2_with (at_builtin; refine wpList_appendB rfl _ _ rfl rfl low _ [] rfl HOW.out bs o n _ q2 hdl.out rfl hrd.out (by rw [← hdl.out]; simp only [List.length_nil]; omega) HL1.out.size ?_; intro v2 w2 hown2 hgr hat; have hF3 := hgr.cell_far ⟨b, 18, none⟩ HBk.out.lt (fun e => own_ne HOW.out e.symm HBk.out (by decide) rfl); rw [h18] at hF3; have hz3 := hgr.frozen_far ⟨b, 18, none⟩ HBk.out.lt (fun e => own_ne HOW.out e.symm HBk.out (by decide) rfl); rw [HBk.out.free 18] at hz3; obtain ⟨A9, c9, hv2, hc9⟩ := own_shape hown2; subst hv2; have HO2 := Kp.mk hown2; have HG := Kp.mk hgr; have HT := Kp.mk hat; clear hown2 hgr hat)
        go_end0
        have hB2 : Blk w2 b 135 (dcells false (cnt + p.length) (runC false (mixC false c (rs ++ p.take k)) q j) (.slice (some ⟨g, 0, none⟩) 0 c2)) := (HG.out.block b HBk.out.lt (fun e => own_ne HOW.out e.symm HBk.out (by decide) rfl)).trans HBk.out
        have hjn : q.length / 64 = j := by have := HN.out; have := HJJ.out; omega
        have hst := HST.out j hjn
        rw [← HQ2.out] at hst
        rw [hst]
        simp only [List.nil_append] at HO2 HT
        first | refine ⟨_, .slice A9 q2.length c9, rfl, ⟨?_, ?_, HLow.out⟩, ?_, ?_⟩ | refine ⟨⟨_, rfl⟩, .slice A9 q2.length c9, ⟨?_, ?_, HLow.out⟩, ?_, ?_⟩
        · rw [← dcells_set18 false _ _ (.slice (some ⟨g, 0, none⟩) 0 c2)]
          exact hB2.set 18 _
        · exact own_keep HO2.out (Fr.set (S := fun k => k = b) (a := ⟨b, 18, none⟩) (Fr.refl _ _) (fun _ => rfl) _) (fun k hk e => own_ne HO2.out hk hB2 (by decide) e)
        · exact (Heir.of HT.out).trans HS5.out (Nat.le_trans HF5.out.size HF.out.size)
        · exact Fr.set (Fr.grown (HF5.out.trans HF.out (fun k _ h => .inl h)) HG.out (fun k hk h => .inr (HS5.out.not_old h hk))) (a := ⟨b, 18, none⟩) (fun _ => .inl rfl) _
end Go.Proofs.YtjcmgpiapbeodaaDoor.Sha.W32
namespace Go.Proofs.YtjcmgpiapbeodaaDoor.Sha.W64
open Go.RowKit Go.Proofs.YtjcmgpiapbeodaaDoor.Mem Go.Proofs.YtjcmgpiapbeodaaDoorW.PrintWords
set_option maxHeartbeats 4000000 in
set_option maxRecDepth 100000 in
theorem write_none (b cnt : Nat) (c : Chain) (rv : Value) (p : List Int) (bs os cp : Nat) (hcp : p.length ≤ cp) (hmax : cnt + p.length ≤ maxCount) (w : World) (hL : Laid w) (hD : Dg w b rv ⟨true, cnt, c, []⟩)
    (hX : Reads w bs os p) (hne : bs ≠ b) :
    Calls Tryd.prog 39 #[.pointer (some ⟨b, 0, none⟩), .slice (some ⟨bs, os, none⟩) p.length cp] w fun e w' =>
      ∃ r rv', e = .returned r ∧ Dg w' b rv' ((St.mk true cnt c []).write p) ∧ Heir w rv' rv ∧ Fr (dfoot b rv) w w' := by
  obtain ⟨A, cr, hrv, _⟩ := own_shape hD.rest
  simp only [List.length_nil] at hrv
  subst hrv
  have h0 := hD.blk.cell 0 _ rfl
  have h1 := hD.blk.cell 1 _ rfl
  have h18 := hD.blk.cell 18 (.slice A 0 cr) rfl
  have hf1 := hD.blk.free 1
  have HB := block_calls b true w h0
  have HD := Kp.mk hD
  have HL := Kp.mk hL
  have HX := Kp.mk hX
  clear hD hL hX
  simp only [kind, blk] at h0 h1 HB
  have hmax' := hmax
  unfold maxCount at hmax'
  have hdec : decide ((2305843009213693951 : Int) - (cnt : Int) < (p.length : Int)) = false := decide_eq_false (by omega)
  go_enter Tryd.func39, Tryd.ntmps39
  go_wp2_with (first | (go_at_call 66; (with_reducible refine HB.mono ?_); rintro e w' ⟨rfl, rfl⟩))
  have HD1 : Kp (Blk (w'.setCell ⟨b, 1, none⟩ (.int .i64 ((cnt : Int) + (p.length : Int)))) b 135 (dcells true (cnt + p.length) c (.slice A 0 cr))) := ⟨by
    rw [← dcells_set1 true cnt (cnt + p.length)]; exact HD.out.blk.set 1 _⟩
  have HF1 : Kp (Fr (fun k => k = b) w' (w'.setCell ⟨b, 1, none⟩ (.int .i64 ((cnt : Int) + (p.length : Int))))) := ⟨Fr.set (S := fun k => k = b) (a := ⟨b, 1, none⟩) (Fr.refl _ _) (fun _ => rfl) _⟩
  have HL1 := Kp.mk (HL.out.fr HF1.out (fun k hk => hk ▸ HD.out.low))
  have HX1 := Kp.mk (HX.out.fr HF1.out hne)
  have HOW : Kp ((w'.setCell ⟨b, 1, none⟩ (.int .i64 ((cnt : Int) + (p.length : Int)))).ownsRow low 5 1 (.slice A 0 cr) 0 (bytes [])) := ⟨own_keep HD.out.rest HF1.out (fun k hk e => own_ne HD.out.rest hk HD.out.blk (by decide) e)⟩
  clear h0 h1 h18 hf1 HB
  have HF5 : Kp (Fr (dfoot b (.slice A 0 cr)) w' (w'.setCell ⟨b, 1, none⟩ (.int .i64 ((cnt : Int) + (p.length : Int))))) := ⟨HF1.out.mono (fun k _ h => .inl h)⟩
  have HLow := Kp.mk HD.out.low
  clear HF1
  generalize w'.setCell ⟨b, 1, none⟩ (.int .i64 ((cnt : Int) + (p.length : Int))) = W5 at HD1 HF5 HL1 HX1 HOW ⊢
  have HS5 : Kp (Heir w' (.slice A 0 cr) (.slice A 0 cr)) := ⟨Heir.refl _ _⟩
  have H5 : Kp ((0 < p.length → os = os + 128 * 0) ∧ p.length = p.length - 128 * 0 ∧ p.length ≤ cp) := ⟨fun _ => rfl, rfl, hcp⟩
  have HST : Kp (∀ j, p.length / 128 = j → (St.mk true cnt c []).write p = ⟨true, cnt + p.length, runC true c p j, p.drop (128 * j)⟩) := ⟨fun j hjn => by
    unfold St.write
    rw [if_pos hmax]
    show absorb ⟨true, cnt, c, []⟩ p (cnt + p.length) = _
    unfold absorb
    simp only [blk, hjn]⟩
  go_loopw [1] (fun s1 wr => ∃ o n m : Nat, s1 = .slice (some ⟨bs, o, none⟩) n m ∧ Kp (∃ j, 128 * j ≤ p.length ∧ (0 < n → o = os + 128 * j) ∧ n = p.length - 128 * j ∧ n ≤ m ∧ Blk wr b 135 (dcells true (cnt + p.length) (runC true c p j) (.slice A 0 cr))) ∧ Kp (Fr (fun k => k = b) W5 wr)) (fun s1 _ => lenOf s1)
  case atStart => exact ⟨os, p.length, cp, rfl, ⟨0, Nat.zero_le _, H5.out.1, H5.out.2.1, H5.out.2.2, HD1.out⟩, ⟨Fr.refl _ _⟩⟩
  case round =>
    obtain ⟨o, n, m, rfl, HJ, HF⟩ := hrel
    obtain ⟨j, hj, ho, hn, hnm, hB⟩ := HJ.out
    have HBk := Kp.mk hB
    have hL1 := HL1.out.fr HF.out (fun k hk => hk ▸ HLow.out)
    have hX1 := HX1.out.fr HF.out hne
    have HL1 := Kp.mk hL1
    have HO := Kp.mk ho
    have HX1 := Kp.mk hX1
    have HN := Kp.mk hn
    have HJJ := Kp.mk hj
    clear HJ hB hL1 hX1 ho hn hj
    by_cases hlt : 128 ≤ n
    · have hlen : ((p.drop (128 * j)).take 128).length = 128 := by
        have := HN.out
        simp; omega
      have hm64 : 128 ≤ m := by omega
      have hmix := Kp.mk (M64.mix_calls b (cnt + p.length) (runC true c p j) (.slice A 0 cr) bs o 128 m ((p.drop (128 * j)).take 128) hlen (Nat.le_refl _) (by omega) wr HL1.out HBk.out (by rw [HO.out (by omega)]; exact (HX1.out.drop _).take _))
      go_wp2_with fail
      refine hmix.out.mono ?_
      rintro e w2 ⟨r2, rfl, hB2, hF2⟩
      have HB2 := Kp.mk hB2
      have HF2 := Kp.mk (HF.out.trans hF2 (fun _ _ h => h))
      clear hB2 hF2 hmix
      by_cases hme : m = 128
      · subst hme
        obtain rfl : n = 128 := by omega
        go_wp2
        go_roundw
        case rel => exact ⟨o, 0, 0, rfl, ⟨j + 1, by have := HN.out; omega, fun h => absurd h (Nat.lt_irrefl _), by have := HN.out; omega, Nat.le_refl _, HB2.out⟩, HF2⟩
        case measure => simp [lenOf] <;> omega
      · go_wp2
        go_roundw
        case rel => exact ⟨o + 128, n - 128, m - 128, rfl, ⟨j + 1, by have := HN.out; omega, fun h => by have := HO.out; omega, by have := HN.out; omega, by omega, HB2.out⟩, HF2⟩
        case measure => simp [lenOf] <;> omega
    · obtain ⟨q2, hq2⟩ : ∃ q2, q2 = p.drop (128 * j) := ⟨_, rfl⟩
      have HQ2 := Kp.mk hq2
      have hdl : Kp (n = q2.length) := ⟨by rw [hq2, List.length_drop]; exact HN.out⟩
      have hown : wr.ownsRow low 5 1 (.slice A 0 cr) ([] : List Int).length (bytes []) := own_keep HOW.out HF.out (fun k hk e => own_ne HOW.out hk HD1.out (by decide) e)
      have h18 := HBk.out.cell 18 (.slice A 0 cr) rfl
      have HOW := Kp.mk hown
      have hrd : Kp (Reads wr bs o q2) := ⟨by
        rcases Nat.eq_zero_or_pos n with h | h
        · exact ⟨HX1.out.1, fun i hi => by rw [← hdl.out, h] at hi; omega⟩
        · rw [HO.out h, hq2]; exact HX1.out.drop _⟩
      clear hown hq2
      go_wp2_with (at_builtin; refine wpList_appendB rfl _ _ rfl rfl low _ [] rfl HOW.out bs o n _ q2 hdl.out rfl hrd.out (by rw [← hdl.out]; simp only [List.length_nil]; omega) HL1.out.size ?_; intro v2 w2 hown2 hgr hat; have hF3 := hgr.cell_far ⟨b, 18, none⟩ HBk.out.lt (fun e => own_ne HOW.out e.symm HBk.out (by decide) rfl); rw [h18] at hF3; have hz3 := hgr.frozen_far ⟨b, 18, none⟩ HBk.out.lt (fun e => own_ne HOW.out e.symm HBk.out (by decide) rfl); rw [HBk.out.free 18] at hz3; obtain ⟨A9, c9, hv2, hc9⟩ := own_shape hown2; subst hv2; have HO2 := Kp.mk hown2; have HG := Kp.mk hgr; have HT := Kp.mk hat; clear hown2 hgr hat)
      go_end0
      have hB2 : Blk w2 b 135 (dcells true (cnt + p.length) (runC true c p j) (.slice A 0 cr)) := (HG.out.block b HBk.out.lt (fun e => own_ne HOW.out e.symm HBk.out (by decide) rfl)).trans HBk.out
      have hjn : p.length / 128 = j := by have := HN.out; have := HJJ.out; omega
      have hst := HST.out j hjn
      rw [← HQ2.out] at hst
      rw [hst]
      simp only [List.nil_append] at HO2 HT
      first | refine ⟨_, .slice A9 q2.length c9, rfl, ⟨?_, ?_, HLow.out⟩, ?_, ?_⟩ | refine ⟨⟨_, rfl⟩, .slice A9 q2.length c9, ⟨?_, ?_, HLow.out⟩, ?_, ?_⟩
      · rw [← dcells_set18 true _ _ (.slice A 0 cr)]
        exact hB2.set 18 _
      · exact own_keep HO2.out (Fr.set (S := fun k => k = b) (a := ⟨b, 18, none⟩) (Fr.refl _ _) (fun _ => rfl) _) (fun k hk e => own_ne HO2.out hk hB2 (by decide) e)
      · exact (Heir.of HT.out).trans HS5.out (Nat.le_trans HF5.out.size HF.out.size)
      · exact Fr.set (Fr.grown (HF5.out.trans HF.out (fun k _ h => .inl h)) HG.out (fun k hk h => .inr (HS5.out.not_old h hk))) (a := ⟨b, 18, none⟩) (fun _ => .inl rfl) _
set_option maxHeartbeats 4000000 in
set_option maxRecDepth 100000 in
theorem write_short (b cnt : Nat) (c : Chain) (rv : Value) (rs p : List Int) (hrs : 0 < rs.length) (hsh : rs.length + p.length < 128) (bs os cp : Nat) (hcp : p.length ≤ cp) (hmax : cnt + p.length ≤ maxCount) (w : World) (hL : Laid w) (hD : Dg w b rv ⟨true, cnt, c, rs⟩)
    (hX : Reads w bs os p) (hne : bs ≠ b) :
    Calls Tryd.prog 39 #[.pointer (some ⟨b, 0, none⟩), .slice (some ⟨bs, os, none⟩) p.length cp] w fun e w' =>
      ∃ r rv', e = .returned r ∧ Dg w' b rv' ((St.mk true cnt c rs).write p) ∧ Heir w rv' rv ∧ Fr (dfoot b rv) w w' := by
  obtain ⟨A, cr, hrv, _⟩ := own_shape hD.rest
  simp only at hrv
  subst hrv
  have h0 := hD.blk.cell 0 _ rfl
  have h1 := hD.blk.cell 1 _ rfl
  have h18 := hD.blk.cell 18 (.slice A rs.length cr) rfl
  have hf1 := hD.blk.free 1
  have hf18 := hD.blk.free 18
  have HB := block_calls b true w h0
  have HD := Kp.mk hD
  have HL := Kp.mk hL
  have HX := Kp.mk hX
  clear hD hL hX
  simp only [kind, blk] at h0 h1 HB
  have hmax' := hmax
  unfold maxCount at hmax'
  have hdec : decide ((2305843009213693951 : Int) - (cnt : Int) < (p.length : Int)) = false := decide_eq_false (by omega)
  go_enter Tryd.func39, Tryd.ntmps39
  go_wp2_with (first | (go_at_call 66; (with_reducible refine HB.mono ?_); rintro e w' ⟨rfl, rfl⟩))
  have HD1 : Kp (Blk (w'.setCell ⟨b, 1, none⟩ (.int .i64 ((cnt : Int) + (p.length : Int)))) b 135 (dcells true (cnt + p.length) c (.slice A rs.length cr))) := ⟨by
    rw [← dcells_set1 true cnt (cnt + p.length)]; exact HD.out.blk.set 1 _⟩
  have HF1 : Kp (Fr (fun k => k = b) w' (w'.setCell ⟨b, 1, none⟩ (.int .i64 ((cnt : Int) + (p.length : Int))))) := ⟨Fr.set (S := fun k => k = b) (a := ⟨b, 1, none⟩) (Fr.refl _ _) (fun _ => rfl) _⟩
  have HL1 := Kp.mk (HL.out.fr HF1.out (fun k hk => hk ▸ HD.out.low))
  have HX1 := Kp.mk (HX.out.fr HF1.out hne)
  have HOW : Kp ((w'.setCell ⟨b, 1, none⟩ (.int .i64 ((cnt : Int) + (p.length : Int)))).ownsRow low 5 1 (.slice A rs.length cr) rs.length (bytes rs)) := ⟨own_keep HD.out.rest HF1.out (fun k hk e => own_ne HD.out.rest hk HD.out.blk (by decide) e)⟩
  clear h0 h1 h18 hf1 hf18 HB
  generalize w'.setCell ⟨b, 1, none⟩ (.int .i64 ((cnt : Int) + (p.length : Int))) = W1 at HD1 HF1 HL1 HX1 HOW ⊢
  have h18 := HD1.out.cell 18 (.slice A rs.length cr) rfl
  have hf18 := HD1.out.free 18
  have hlb := Kp.mk HD1.out.lt
  go_region_law ((refine step_appendB (by rfl) _ _ (by rfl) (by rfl) low (.slice A rs.length cr) rs (by rfl) (by exact HOW.out) bs os p.length _ p rfl (by rfl) (by exact HX1.out) (by omega) (by exact HL1.out.size) ?_; intro v2 w2 hown2 hgr hat; have hF3 : w2.cell? ⟨b, 18, none⟩ = some (.slice A rs.length cr) := (hgr.cell_far ⟨b, 18, none⟩ hlb.out (fun e => own_ne HOW.out e.symm HD1.out (by decide) rfl)).trans h18; have hz3 : w2.frozen? ⟨b, 18, none⟩ = false := (hgr.frozen_far ⟨b, 18, none⟩ hlb.out (fun e => own_ne HOW.out e.symm HD1.out (by decide) rfl)).trans hf18; obtain ⟨A2, c2, hv2, hc2⟩ := own_shape hown2; subst hv2; have HO2 := Kp.mk hown2; have HG := Kp.mk hgr; have HT := Kp.mk hat; clear hown2 hgr hat))
  have hB2 : Kp (Blk w2 b 135 (dcells true (cnt + p.length) c (.slice A rs.length cr))) := ⟨(HG.out.block b hlb.out (fun e => own_ne HOW.out e.symm HD1.out (by decide) rfl)).trans HD1.out⟩
  by_cases hcpe : cp = p.length
  all_goals
    go_wp2
    (try simp only [Exit.inBlock, Exit.then])
    refine bodyPost_ret (results_none rfl _ _ _) rfl ?_
    have hst : (St.mk true cnt c rs).write p = ⟨true, cnt + p.length, c, rs ++ p⟩ := by
      unfold St.write
      rw [if_pos hmax]
      unfold absorb
      have hz : (rs ++ p).length / 128 = 0 := by rw [List.length_append]; omega
      simp only [blk, hz, runC, Nat.mul_zero, List.drop_zero]
    rw [hst]
    simp only [List.length_append] at HO2 HT
    refine ⟨_, .slice A2 (rs.length + p.length) c2, rfl, ⟨?_, ?_, HD.out.low⟩, ?_, ?_⟩
    · rw [← dcells_set18 true _ _ (.slice A rs.length cr)]
      exact hB2.out.set 18 _
    · show World.ownsRow _ low _ 1 _ (rs ++ p).length (bytes (rs ++ p))
      rw [List.length_append]
      exact own_keep HO2.out (Fr.set (S := fun k => k = b) (a := ⟨b, 18, none⟩) (Fr.refl _ _) (fun _ => rfl) _) (fun k hk e => own_ne HO2.out hk hB2.out (by decide) e)
    · exact (Heir.of HT.out).trans (Heir.refl w' _) HF1.out.size
    · exact Fr.set (Fr.grown (HF1.out.drew.mono (fun k _ h => .inl h)) HG.out (fun k _ h => .inr h)) (a := ⟨b, 18, none⟩) (fun _ => .inl rfl) _
set_option maxHeartbeats 4000000 in
set_option maxRecDepth 100000 in
theorem write_long (b cnt : Nat) (c : Chain) (rv : Value) (rs p : List Int) (k : Nat) (hrs : 0 < rs.length) (hk0 : 0 < k) (hk : rs.length + k = 128) (hkp : k ≤ p.length) (bs os cp : Nat) (hcp : p.length ≤ cp) (hmax : cnt + p.length ≤ maxCount) (w : World) (hL : Laid w) (hD : Dg w b rv ⟨true, cnt, c, rs⟩)
    (hX : Reads w bs os p) (hne : bs ≠ b) (hnr : rv.ownBlock ≠ some bs) :
    Calls Tryd.prog 39 #[.pointer (some ⟨b, 0, none⟩), .slice (some ⟨bs, os, none⟩) p.length cp] w fun e w' =>
      ∃ r rv', e = .returned r ∧ Dg w' b rv' ((St.mk true cnt c rs).write p) ∧ Heir w rv' rv ∧ Fr (dfoot b rv) w w' := by
  obtain ⟨A, cr, hrv, _⟩ := own_shape hD.rest
  simp only at hrv
  subst hrv
  have hkcp : k ≤ cp := Nat.le_trans hkp hcp
  have hki : (128 : Int) - (rs.length : Int) = (k : Int) := by omega
  have hpt : (p.take k).length = k := by simp; omega
  have HPT := Kp.mk hpt
  clear hpt
  have h0 := hD.blk.cell 0 _ rfl
  have h1 := hD.blk.cell 1 _ rfl
  have h18 := hD.blk.cell 18 (.slice A rs.length cr) rfl
  have hf1 := hD.blk.free 1
  have HB := block_calls b true w h0
  have HD := Kp.mk hD
  have HL := Kp.mk hL
  have HX := Kp.mk hX
  clear hD hL hX
  simp only [kind, blk] at h0 h1 HB
  have hmax' := hmax
  unfold maxCount at hmax'
  have hdec : decide ((2305843009213693951 : Int) - (cnt : Int) < (p.length : Int)) = false := decide_eq_false (by omega)
  go_enter Tryd.func39, Tryd.ntmps39
  go_wp2_with (first | (go_at_call 66; (with_reducible refine HB.mono ?_); rintro e w' ⟨rfl, rfl⟩))
  have HD1 : Kp (Blk (w'.setCell ⟨b, 1, none⟩ (.int .i64 ((cnt : Int) + (p.length : Int)))) b 135 (dcells true (cnt + p.length) c (.slice A rs.length cr))) := ⟨by
    rw [← dcells_set1 true cnt (cnt + p.length)]; exact HD.out.blk.set 1 _⟩
  have HF1 : Kp (Fr (fun k => k = b) w' (w'.setCell ⟨b, 1, none⟩ (.int .i64 ((cnt : Int) + (p.length : Int))))) := ⟨Fr.set (S := fun k => k = b) (a := ⟨b, 1, none⟩) (Fr.refl _ _) (fun _ => rfl) _⟩
  have HL1 := Kp.mk (HL.out.fr HF1.out (fun k hk => hk ▸ HD.out.low))
  have HX1 := Kp.mk (HX.out.fr HF1.out hne)
  have HOW : Kp ((w'.setCell ⟨b, 1, none⟩ (.int .i64 ((cnt : Int) + (p.length : Int)))).ownsRow low 5 1 (.slice A rs.length cr) rs.length (bytes rs)) := ⟨own_keep HD.out.rest HF1.out (fun k hk e => own_ne HD.out.rest hk HD.out.blk (by decide) e)⟩
  clear h0 h1 h18 hf1 HB
  generalize w'.setCell ⟨b, 1, none⟩ (.int .i64 ((cnt : Int) + (p.length : Int))) = W1 at HD1 HF1 HL1 HX1 HOW ⊢
  have h18 := HD1.out.cell 18 (.slice A rs.length cr) rfl
  have hf18 := HD1.out.free 18
  have hlb := Kp.mk HD1.out.lt
  go_region_law ((refine step_appendB (by rfl) _ _ (by rfl) (by rfl) low (.slice A rs.length cr) rs (by rfl) (by exact HOW.out) bs os k _ (p.take k) HPT.out.symm (by rfl) (by exact HX1.out.take k) (by rw [HPT.out]; omega) (by exact HL1.out.size) ?_; intro v2 w2 hown2 hgr hat; have hF3 : w2.cell? ⟨b, 18, none⟩ = some (.slice A rs.length cr) := (hgr.cell_far ⟨b, 18, none⟩ hlb.out (fun e => own_ne HOW.out e.symm HD1.out (by decide) rfl)).trans h18; have hz3 : w2.frozen? ⟨b, 18, none⟩ = false := (hgr.frozen_far ⟨b, 18, none⟩ hlb.out (fun e => own_ne HOW.out e.symm HD1.out (by decide) rfl)).trans hf18; obtain ⟨g, c2, hv2, hgl, hgt, hc2, hrd2⟩ := own_form hown2 (by rw [List.length_append, HPT.out]; omega); subst hv2; have HO2 := Kp.mk hown2; have HG := Kp.mk hgr; have HT := Kp.mk hat; have HR2 := Kp.mk hrd2; have HGT := Kp.mk hgt; clear hown2 hgr hat hrd2 hgt))
  have hB2 : Kp (Blk w2 b 135 (dcells true (cnt + p.length) c (.slice A rs.length cr))) := ⟨(HG.out.block b hlb.out (fun e => own_ne HOW.out e.symm HD1.out (by decide) rfl)).trans HD1.out⟩
  have hlen2 : (rs ++ p.take k).length = 128 := by rw [List.length_append, HPT.out]; exact hk
  rw [hlen2] at HO2 hc2
  have hgb : Kp (g ≠ b) := ⟨own_ne HO2.out rfl hB2.out (by decide)⟩
  have hB3 : Kp (Blk (w2.setCell ⟨b, 18, none⟩ (.slice (some ⟨g, 0, none⟩) 128 c2)) b 135 (dcells true (cnt + p.length) c (.slice (some ⟨g, 0, none⟩) 128 c2))) := ⟨by
    rw [← dcells_set18 true _ _ (.slice A rs.length cr)]; exact hB2.out.set 18 _⟩
  have hF3 : Kp (Fr (fun k => k = b) w2 (w2.setCell ⟨b, 18, none⟩ (.slice (some ⟨g, 0, none⟩) 128 c2))) := ⟨Fr.set (S := fun k => k = b) (a := ⟨b, 18, none⟩) (Fr.refl _ _) (fun _ => rfl) _⟩
  have HFW2 : Kp (Fr (dfoot b (.slice A rs.length cr)) W1 w2) := ⟨Fr.grown ((Fr.refl (dfoot b (.slice A rs.length cr)) W1).drew) HG.out (fun k _ h => .inr h)⟩
  have hlowA : ∀ k, dfoot b (.slice A rs.length cr) k → low ≤ k := fun k h => h.elim (fun e => e ▸ HD.out.low) (fun e => (own_lt HOW.out e).2)
  have HL2 := Kp.mk (HL1.out.fr HFW2.out hlowA)
  have HX2 := Kp.mk (HX1.out.fr HFW2.out (fun h => h.elim hne hnr))
  have HL3 := Kp.mk (HL2.out.fr hF3.out (fun k hk => hk ▸ HD.out.low))
  have HX3 := Kp.mk (HX2.out.fr hF3.out hne)
  have HR3 := Kp.mk (HR2.out.fr hF3.out hgb.out)
  have HO3 : Kp ((w2.setCell ⟨b, 18, none⟩ (.slice (some ⟨g, 0, none⟩) 128 c2)).ownsRow low 5 1 (.slice (some ⟨g, 0, none⟩) 128 c2) 128 (bytes (rs ++ p.take k))) := ⟨own_keep HO2.out hF3.out (fun k hk e => own_ne HO2.out hk hB2.out (by decide) e)⟩
  have HFW : Kp (Fr (dfoot b (.slice A rs.length cr)) w' (w2.setCell ⟨b, 18, none⟩ (.slice (some ⟨g, 0, none⟩) 128 c2))) := ⟨((HF1.out.mono (fun k _ h => .inl h)).trans HFW2.out (fun _ _ h => h)).trans hF3.out (fun _ _ h => .inl h)⟩
  have HS5 : Kp (Heir w' (.slice (some ⟨g, 0, none⟩) 0 c2) (.slice A rs.length cr)) := ⟨(Heir.of HT.out).trans (Heir.refl w' _) HF1.out.size⟩
  have HLow := Kp.mk HD.out.low
  have HP5 : Kp (∀ j, (p.drop k).length / 128 = j → (St.mk true cnt c rs).write p = ⟨true, cnt + p.length, runC true (mixC true c (rs ++ p.take k)) (p.drop k) j, (p.drop k).drop (128 * j)⟩) := ⟨fun j hjn => by
    have e1 : rs ++ p = (rs ++ p.take k) ++ p.drop k := by rw [List.append_assoc, List.take_append_drop]
    have hl : (rs ++ p).length = 128 + (p.drop k).length := by rw [e1, List.length_append, hlen2]
    have e2 : (rs ++ p).length / 128 = 1 + j := by rw [hl, ← hjn]; omega
    unfold St.write
    rw [if_pos hmax]
    unfold absorb
    simp only [blk, e2]
    have e3 : (rs ++ p).drop (128 * 1) = p.drop k := by rw [e1, List.drop_append_of_le_length (by rw [hlen2]; exact Nat.le_refl _), List.drop_eq_nil_of_le (by rw [hlen2]; exact Nat.le_refl _)]; rfl
    have e4 : runC true c (rs ++ p) 1 = mixC true c (rs ++ p.take k) := by
      show mixC true c (((rs ++ p).drop (128 * 0)).take 128) = _
      rw [Nat.mul_zero, List.drop_zero, e1, List.take_append_of_le_length (by rw [hlen2]; exact Nat.le_refl _), List.take_of_length_le (by rw [hlen2]; exact Nat.le_refl _)]
    have e5 := runC_add true c (rs ++ p) 1 j
    rw [e4] at e5
    have e6 : (rs ++ p).drop (128 * (1 + j)) = (p.drop k).drop (128 * j) := by rw [Nat.mul_add, ← List.drop_drop, e3]
    rw [e5, e6]
    show (St.mk true _ (runC true _ ((rs ++ p).drop (128 * 1)) j) _) = _
    rw [e3]⟩
  have HQ : Kp ((p.drop k).length = p.length - k) := ⟨List.length_drop⟩
  have hkk := HL3.out.size
  clear hkk
  have HQX := Kp.mk (HX3.out.drop k)
  have HL2n := Kp.mk hlen2
  generalize hW3 : w2.setCell ⟨b, 18, none⟩ (.slice (some ⟨g, 0, none⟩) 128 c2) = W3 at hB3 hF3 HL3 HX3 HR3 HO3 HFW HQX ⊢
  clear hW3 HFW2 hlowA HL2 HX2 HR2 HO2 hB2 hF3 HX1 HL1 HOW HD1 HF1 HT HG hlb h18 hf18 hlen2 HL HX
  have h18 := hB3.out.cell 18 (.slice (some ⟨g, 0, none⟩) 128 c2) rfl
  have hmix := Kp.mk (M64.mix_calls b (cnt + p.length) c (.slice (some ⟨g, 0, none⟩) 128 c2) g 0 128 c2 (rs ++ p.take k) HL2n.out (Nat.le_refl _) hc2 W3 HL3.out hB3.out HR3.out)
  by_cases hme : cp = k
  · have hkp' : p.length = k := by omega
    go_wp2_with fail
    refine hmix.out.mono ?_
    rintro e w4 ⟨r4, rfl, hB4, hF4⟩
    have HB4 := Kp.mk hB4
    have HF4 := Kp.mk hF4
    clear hB4 hF4 hmix h18
    have h18 := HB4.out.cell 18 (.slice (some ⟨g, 0, none⟩) 128 c2) rfl
    have hf18 := HB4.out.free 18
    go_wp2
    have HD5 : Kp (Blk (w4.setCell ⟨b, 18, none⟩ (.slice (some ⟨g, 0, none⟩) 0 c2)) b 135 (dcells true (cnt + p.length) (runC true (mixC true c (rs ++ p.take k)) (p.drop k) 0) (.slice (some ⟨g, 0, none⟩) 0 c2))) := ⟨by
      rw [← dcells_set18 true _ _ (.slice (some ⟨g, 0, none⟩) 128 c2)]; exact HB4.out.set 18 _⟩
    have HF45 : Kp (Fr (fun k => k = b) W3 (w4.setCell ⟨b, 18, none⟩ (.slice (some ⟨g, 0, none⟩) 0 c2))) := ⟨HF4.out.set (a := ⟨b, 18, none⟩) (fun _ => rfl) _⟩
    have HF5 : Kp (Fr (dfoot b (.slice A rs.length cr)) w' (w4.setCell ⟨b, 18, none⟩ (.slice (some ⟨g, 0, none⟩) 0 c2))) := ⟨HFW.out.trans HF45.out (fun _ _ h => .inl h)⟩
    have HL5 := Kp.mk (HL3.out.fr HF45.out (fun k hk => hk ▸ HLow.out))
    have HX5 := Kp.mk (HQX.out.fr HF45.out hne)
    have HOW5 : Kp ((w4.setCell ⟨b, 18, none⟩ (.slice (some ⟨g, 0, none⟩) 0 c2)).ownsRow low 5 1 (.slice (some ⟨g, 0, none⟩) 0 c2) 0 []) := ⟨own_keep (own_cut HO3.out) HF45.out (fun k hk e => hgb.out ((Option.some.inj hk).trans e))⟩
    have H5 : Kp ((0 < 0 → os = (os + k) + 128 * 0) ∧ 0 = (p.drop k).length - 128 * 0 ∧ 0 ≤ 0) := ⟨by rw [HQ.out]; refine ⟨fun h => ?_, ?_, ?_⟩ <;> omega⟩
    have HST := HP5
    clear h18 hf18 HF45 HB4 HF4 HL3 HX3 HR3 HO3 HFW HQX hB3 HP5 HQ
    generalize p.drop k = q at HD5 HX5 H5 HST
    generalize w4.setCell ⟨b, 18, none⟩ (.slice (some ⟨g, 0, none⟩) 0 c2) = W5 at HD5 HF5 HL5 HX5 HOW5 ⊢
    go_loopw [1] (fun s1 wr => ∃ o n m : Nat, s1 = .slice (some ⟨bs, o, none⟩) n m ∧ Kp (∃ j, 128 * j ≤ q.length ∧ (0 < n → o = (os + k) + 128 * j) ∧ n = q.length - 128 * j ∧ n ≤ m ∧ Blk wr b 135 (dcells true (cnt + p.length) (runC true (mixC true c (rs ++ p.take k)) q j) (.slice (some ⟨g, 0, none⟩) 0 c2))) ∧ Kp (Fr (fun k => k = b) W5 wr)) (fun s1 _ => lenOf s1)
    case atStart => exact ⟨os, 0, 0, rfl, ⟨0, Nat.zero_le _, H5.out.1, H5.out.2.1, H5.out.2.2, HD5.out⟩, ⟨Fr.refl _ _⟩⟩
    case round =>
      obtain ⟨o, n, m, rfl, HJ, HF⟩ := hrel
      obtain ⟨j, hj, ho, hn, hnm, hB⟩ := HJ.out
      have HBk := Kp.mk hB
      have hL1 := HL5.out.fr HF.out (fun k hk => hk ▸ HLow.out)
      have hX1 := HX5.out.fr HF.out hne
      have HL1 := Kp.mk hL1
      have HO := Kp.mk ho
      have HX1 := Kp.mk hX1
      have HN := Kp.mk hn
      have HJJ := Kp.mk hj
      clear HJ hB hL1 hX1 ho hn hj
      by_cases hlt : 128 ≤ n
      · have hlen : ((q.drop (128 * j)).take 128).length = 128 := by
          have := HN.out
          simp; omega
        have hm64 : 128 ≤ m := by omega
        have hmix := Kp.mk (M64.mix_calls b (cnt + p.length) (runC true (mixC true c (rs ++ p.take k)) q j) (.slice (some ⟨g, 0, none⟩) 0 c2) bs o 128 m ((q.drop (128 * j)).take 128) hlen (Nat.le_refl _) (by omega) wr HL1.out HBk.out (by rw [HO.out (by omega)]; exact (HX1.out.drop _).take _))
        go_wp2_with fail
        refine hmix.out.mono ?_
        rintro e w2 ⟨r2, rfl, hB2, hF2⟩
        have HB2 := Kp.mk hB2
        have HF2 := Kp.mk (HF.out.trans hF2 (fun _ _ h => h))
        clear hB2 hF2 hmix
        by_cases hme : m = 128
        · subst hme
          obtain rfl : n = 128 := by omega
          go_wp2
          go_roundw
          case rel => exact ⟨o, 0, 0, rfl, ⟨j + 1, by have := HN.out; omega, fun h => absurd h (Nat.lt_irrefl _), by have := HN.out; omega, Nat.le_refl _, HB2.out⟩, HF2⟩
          case measure => simp [lenOf] <;> omega
        · go_wp2
          go_roundw
          case rel => exact ⟨o + 128, n - 128, m - 128, rfl, ⟨j + 1, by have := HN.out; omega, fun h => by have := HO.out; omega, by have := HN.out; omega, by omega, HB2.out⟩, HF2⟩
          case measure => simp [lenOf] <;> omega
      · obtain ⟨q2, hq2⟩ : ∃ q2, q2 = q.drop (128 * j) := ⟨_, rfl⟩
        have HQ2 := Kp.mk hq2
        have hdl : Kp (n = q2.length) := ⟨by rw [hq2, List.length_drop]; exact HN.out⟩
        have hown : wr.ownsRow low 5 1 (.slice (some ⟨g, 0, none⟩) 0 c2) ([] : List Int).length (bytes []) := own_keep HOW5.out HF.out (fun k hk e => own_ne HOW5.out hk HD5.out (by decide) e)
        have h18 := HBk.out.cell 18 (.slice (some ⟨g, 0, none⟩) 0 c2) rfl
        have HOW := Kp.mk hown
        have hrd : Kp (Reads wr bs o q2) := ⟨by
          rcases Nat.eq_zero_or_pos n with h | h
          · exact ⟨HX1.out.1, fun i hi => by rw [← hdl.out, h] at hi; omega⟩
          · rw [HO.out h, hq2]; exact HX1.out.drop _⟩
        clear hown hq2
        go_wp2_with (at_builtin; refine wpList_appendB rfl _ _ rfl rfl low _ [] rfl HOW.out bs o n _ q2 hdl.out rfl hrd.out (by rw [← hdl.out]; simp only [List.length_nil]; omega) HL1.out.size ?_; intro v2 w2 hown2 hgr hat; have hF3 := hgr.cell_far ⟨b, 18, none⟩ HBk.out.lt (fun e => own_ne HOW.out e.symm HBk.out (by decide) rfl); rw [h18] at hF3; have hz3 := hgr.frozen_far ⟨b, 18, none⟩ HBk.out.lt (fun e => own_ne HOW.out e.symm HBk.out (by decide) rfl); rw [HBk.out.free 18] at hz3; obtain ⟨A9, c9, hv2, hc9⟩ := own_shape hown2; subst hv2; have HO2 := Kp.mk hown2; have HG := Kp.mk hgr; have HT := Kp.mk hat; clear hown2 hgr hat)
        go_end0
        have hB2 : Blk w2 b 135 (dcells true (cnt + p.length) (runC true (mixC true c (rs ++ p.take k)) q j) (.slice (some ⟨g, 0, none⟩) 0 c2)) := (HG.out.block b HBk.out.lt (fun e => own_ne HOW.out e.symm HBk.out (by decide) rfl)).trans HBk.out
        have hjn : q.length / 128 = j := by have := HN.out; have := HJJ.out; omega
        have hst := HST.out j hjn
        rw [← HQ2.out] at hst
        rw [hst]
        simp only [List.nil_append] at HO2 HT
        first | refine ⟨_, .slice A9 q2.length c9, rfl, ⟨?_, ?_, HLow.out⟩, ?_, ?_⟩ | refine ⟨⟨_, rfl⟩, .slice A9 q2.length c9, ⟨?_, ?_, HLow.out⟩, ?_, ?_⟩
        · rw [← dcells_set18 true _ _ (.slice (some ⟨g, 0, none⟩) 0 c2)]
          exact hB2.set 18 _
        · exact own_keep HO2.out (Fr.set (S := fun k => k = b) (a := ⟨b, 18, none⟩) (Fr.refl _ _) (fun _ => rfl) _) (fun k hk e => own_ne HO2.out hk hB2 (by decide) e)
        · exact (Heir.of HT.out).trans HS5.out (Nat.le_trans HF5.out.size HF.out.size)
        · exact Fr.set (Fr.grown (HF5.out.trans HF.out (fun k _ h => .inl h)) HG.out (fun k hk h => .inr (HS5.out.not_old h hk))) (a := ⟨b, 18, none⟩) (fun _ => .inl rfl) _
  · go_wp2_with fail
    refine hmix.out.mono ?_
    rintro e w4 ⟨r4, rfl, hB4, hF4⟩
    have HB4 := Kp.mk hB4
    have HF4 := Kp.mk hF4
    clear hB4 hF4 hmix h18
    have h18 := HB4.out.cell 18 (.slice (some ⟨g, 0, none⟩) 128 c2) rfl
    have hf18 := HB4.out.free 18
    go_wp2
    have HD5 : Kp (Blk (w4.setCell ⟨b, 18, none⟩ (.slice (some ⟨g, 0, none⟩) 0 c2)) b 135 (dcells true (cnt + p.length) (runC true (mixC true c (rs ++ p.take k)) (p.drop k) 0) (.slice (some ⟨g, 0, none⟩) 0 c2))) := ⟨by
      rw [← dcells_set18 true _ _ (.slice (some ⟨g, 0, none⟩) 128 c2)]; exact HB4.out.set 18 _⟩
    have HF45 : Kp (Fr (fun k => k = b) W3 (w4.setCell ⟨b, 18, none⟩ (.slice (some ⟨g, 0, none⟩) 0 c2))) := ⟨HF4.out.set (a := ⟨b, 18, none⟩) (fun _ => rfl) _⟩
    have HF5 : Kp (Fr (dfoot b (.slice A rs.length cr)) w' (w4.setCell ⟨b, 18, none⟩ (.slice (some ⟨g, 0, none⟩) 0 c2))) := ⟨HFW.out.trans HF45.out (fun _ _ h => .inl h)⟩
    have HL5 := Kp.mk (HL3.out.fr HF45.out (fun k hk => hk ▸ HLow.out))
    have HX5 := Kp.mk (HQX.out.fr HF45.out hne)
    have HOW5 : Kp ((w4.setCell ⟨b, 18, none⟩ (.slice (some ⟨g, 0, none⟩) 0 c2)).ownsRow low 5 1 (.slice (some ⟨g, 0, none⟩) 0 c2) 0 []) := ⟨own_keep (own_cut HO3.out) HF45.out (fun k hk e => hgb.out ((Option.some.inj hk).trans e))⟩
    have H5 : Kp ((0 < (p.length - k) → (os + k) = (os + k) + 128 * 0) ∧ (p.length - k) = (p.drop k).length - 128 * 0 ∧ (p.length - k) ≤ (cp - k)) := ⟨by rw [HQ.out]; refine ⟨fun h => ?_, ?_, ?_⟩ <;> omega⟩
    have HST := HP5
    clear h18 hf18 HF45 HB4 HF4 HL3 HX3 HR3 HO3 HFW HQX hB3 HP5 HQ
    generalize p.drop k = q at HD5 HX5 H5 HST
    generalize w4.setCell ⟨b, 18, none⟩ (.slice (some ⟨g, 0, none⟩) 0 c2) = W5 at HD5 HF5 HL5 HX5 HOW5 ⊢
    go_loopw [1] (fun s1 wr => ∃ o n m : Nat, s1 = .slice (some ⟨bs, o, none⟩) n m ∧ Kp (∃ j, 128 * j ≤ q.length ∧ (0 < n → o = (os + k) + 128 * j) ∧ n = q.length - 128 * j ∧ n ≤ m ∧ Blk wr b 135 (dcells true (cnt + p.length) (runC true (mixC true c (rs ++ p.take k)) q j) (.slice (some ⟨g, 0, none⟩) 0 c2))) ∧ Kp (Fr (fun k => k = b) W5 wr)) (fun s1 _ => lenOf s1)
    case atStart => exact ⟨(os + k), (p.length - k), (cp - k), rfl, ⟨0, Nat.zero_le _, H5.out.1, H5.out.2.1, H5.out.2.2, HD5.out⟩, ⟨Fr.refl _ _⟩⟩
    case round =>
      obtain ⟨o, n, m, rfl, HJ, HF⟩ := hrel
      obtain ⟨j, hj, ho, hn, hnm, hB⟩ := HJ.out
      have HBk := Kp.mk hB
      have hL1 := HL5.out.fr HF.out (fun k hk => hk ▸ HLow.out)
      have hX1 := HX5.out.fr HF.out hne
      have HL1 := Kp.mk hL1
      have HO := Kp.mk ho
      have HX1 := Kp.mk hX1
      have HN := Kp.mk hn
      have HJJ := Kp.mk hj
      clear HJ hB hL1 hX1 ho hn hj
      by_cases hlt : 128 ≤ n
      · have hlen : ((q.drop (128 * j)).take 128).length = 128 := by
          have := HN.out
          simp; omega
        have hm64 : 128 ≤ m := by omega
        have hmix := Kp.mk (M64.mix_calls b (cnt + p.length) (runC true (mixC true c (rs ++ p.take k)) q j) (.slice (some ⟨g, 0, none⟩) 0 c2) bs o 128 m ((q.drop (128 * j)).take 128) hlen (Nat.le_refl _) (by omega) wr HL1.out HBk.out (by rw [HO.out (by omega)]; exact (HX1.out.drop _).take _))
        go_wp2_with fail
        refine hmix.out.mono ?_
        rintro e w2 ⟨r2, rfl, hB2, hF2⟩
        have HB2 := Kp.mk hB2
        have HF2 := Kp.mk (HF.out.trans hF2 (fun _ _ h => h))
        clear hB2 hF2 hmix
        by_cases hme : m = 128
        · subst hme
          obtain rfl : n = 128 := by omega
          go_wp2
          go_roundw
          case rel => exact ⟨o, 0, 0, rfl, ⟨j + 1, by have := HN.out; omega, fun h => absurd h (Nat.lt_irrefl _), by have := HN.out; omega, Nat.le_refl _, HB2.out⟩, HF2⟩
          case measure => simp [lenOf] <;> omega
        · go_wp2
          go_roundw
          case rel => exact ⟨o + 128, n - 128, m - 128, rfl, ⟨j + 1, by have := HN.out; omega, fun h => by have := HO.out; omega, by have := HN.out; omega, by omega, HB2.out⟩, HF2⟩
          case measure => simp [lenOf] <;> omega
      · obtain ⟨q2, hq2⟩ : ∃ q2, q2 = q.drop (128 * j) := ⟨_, rfl⟩
        have HQ2 := Kp.mk hq2
        have hdl : Kp (n = q2.length) := ⟨by rw [hq2, List.length_drop]; exact HN.out⟩
        have hown : wr.ownsRow low 5 1 (.slice (some ⟨g, 0, none⟩) 0 c2) ([] : List Int).length (bytes []) := own_keep HOW5.out HF.out (fun k hk e => own_ne HOW5.out hk HD5.out (by decide) e)
        have h18 := HBk.out.cell 18 (.slice (some ⟨g, 0, none⟩) 0 c2) rfl
        have HOW := Kp.mk hown
        have hrd : Kp (Reads wr bs o q2) := ⟨by
          rcases Nat.eq_zero_or_pos n with h | h
          · exact ⟨HX1.out.1, fun i hi => by rw [← hdl.out, h] at hi; omega⟩
          · rw [HO.out h, hq2]; exact HX1.out.drop _⟩
        clear hown hq2
        go_wp2_with (at_builtin; refine wpList_appendB rfl _ _ rfl rfl low _ [] rfl HOW.out bs o n _ q2 hdl.out rfl hrd.out (by rw [← hdl.out]; simp only [List.length_nil]; omega) HL1.out.size ?_; intro v2 w2 hown2 hgr hat; have hF3 := hgr.cell_far ⟨b, 18, none⟩ HBk.out.lt (fun e => own_ne HOW.out e.symm HBk.out (by decide) rfl); rw [h18] at hF3; have hz3 := hgr.frozen_far ⟨b, 18, none⟩ HBk.out.lt (fun e => own_ne HOW.out e.symm HBk.out (by decide) rfl); rw [HBk.out.free 18] at hz3; obtain ⟨A9, c9, hv2, hc9⟩ := own_shape hown2; subst hv2; have HO2 := Kp.mk hown2; have HG := Kp.mk hgr; have HT := Kp.mk hat; clear hown2 hgr hat)
        go_end0
        have hB2 : Blk w2 b 135 (dcells true (cnt + p.length) (runC true (mixC true c (rs ++ p.take k)) q j) (.slice (some ⟨g, 0, none⟩) 0 c2)) := (HG.out.block b HBk.out.lt (fun e => own_ne HOW.out e.symm HBk.out (by decide) rfl)).trans HBk.out
        have hjn : q.length / 128 = j := by have := HN.out; have := HJJ.out; omega
        have hst := HST.out j hjn
        rw [← HQ2.out] at hst
        rw [hst]
        simp only [List.nil_append] at HO2 HT
        first | refine ⟨_, .slice A9 q2.length c9, rfl, ⟨?_, ?_, HLow.out⟩, ?_, ?_⟩ | refine ⟨⟨_, rfl⟩, .slice A9 q2.length c9, ⟨?_, ?_, HLow.out⟩, ?_, ?_⟩
        · rw [← dcells_set18 true _ _ (.slice (some ⟨g, 0, none⟩) 0 c2)]
          exact hB2.set 18 _
        · exact own_keep HO2.out (Fr.set (S := fun k => k = b) (a := ⟨b, 18, none⟩) (Fr.refl _ _) (fun _ => rfl) _) (fun k hk e => own_ne HO2.out hk hB2 (by decide) e)
        · exact (Heir.of HT.out).trans HS5.out (Nat.le_trans HF5.out.size HF.out.size)
        · exact Fr.set (Fr.grown (HF5.out.trans HF.out (fun k _ h => .inl h)) HG.out (fun k hk h => .inr (HS5.out.not_old h hk))) (a := ⟨b, 18, none⟩) (fun _ => .inl rfl) _
end Go.Proofs.YtjcmgpiapbeodaaDoor.Sha.W64
namespace Go.Proofs.YtjcmgpiapbeodaaDoor.Sha.N32
open Go.RowKit Go.Proofs.YtjcmgpiapbeodaaDoor.Mem Go.Proofs.YtjcmgpiapbeodaaDoorW.PrintWords
theorem run_append_emptyB (w : World) (base : Nat) (v : Value) (n : Nat) (xs : List Value) (ad : Addr) (c : Nat) (hown : w.ownsRow base 5 1 v n xs) : (Builtin.append_ #[22, 22] 22 #[v, .slice (some ad) 0 c]).run Tryd.prog w = .ok v w := by
  obtain ⟨i0, hi, hz0, hz1, hz2⟩ := info_parts Wk.info_u8
  rcases hown.2 with ⟨rfl, rfl⟩ | ⟨g, cap, cur, rfl, _, _, hnc, _⟩
  · simp [Builtin.append_, run_underlying Tryd.underlying22, sizeOf, typeInfo, hi, Builtin.lenOf, Builtin.firstCells, loadCells, loadCellsFrom]
  · simp [Builtin.append_, run_underlying Tryd.underlying22, sizeOf, typeInfo, hi, Builtin.lenOf, Builtin.firstCells, hnc, storeCells, loadCells, loadCellsFrom]
set_option maxHeartbeats 4000000 in
set_option maxRecDepth 100000 in
theorem write_nil0 (b cnt : Nat) (c : Chain) (A : Option Addr) (cr : Nat) (hmax : cnt ≤ maxCount) (w : World) (hD : Dg w b (.slice A 0 cr) ⟨false, cnt, c, []⟩) :
    Calls Tryd.prog 39 #[.pointer (some ⟨b, 0, none⟩), .slice none 0 0] w fun e w' =>
      ∃ r, e = .returned r ∧ Dg w' b (.slice A 0 cr) ⟨false, cnt, c, []⟩ ∧ Fr (fun k => k = b) w w' := by
  have h0 := hD.blk.cell 0 _ rfl
  have h1 := hD.blk.cell 1 _ rfl
  have h18 := hD.blk.cell 18 (.slice A 0 cr) rfl
  have hf1 := hD.blk.free 1
  have hf18 := hD.blk.free 18
  have HB := block_calls b false w h0
  have HD := Kp.mk hD
  clear hD
  simp only [kind, blk] at h0 h1 HB
  have hmax' := hmax
  unfold maxCount at hmax'
  have hdec : decide ((2305843009213693951 : Int) - (cnt : Int) < 0) = false := decide_eq_false (by omega)
  go_enter Tryd.func39, Tryd.ntmps39
  go_wp2_with (first | (go_at_call 66; (with_reducible refine HB.mono ?_); rintro e w' ⟨rfl, rfl⟩))
  have HD1 : Kp (Blk (w'.setCell ⟨b, 1, none⟩ (.int .i64 (cnt : Int))) b 135 (dcells false cnt c (.slice A 0 cr))) := ⟨by
    rw [← dcells_set1 false cnt cnt]; exact HD.out.blk.set 1 _⟩
  have HF1 : Kp (Fr (fun k => k = b) w' (w'.setCell ⟨b, 1, none⟩ (.int .i64 (cnt : Int)))) := ⟨Fr.set (S := fun k => k = b) (a := ⟨b, 1, none⟩) (Fr.refl _ _) (fun _ => rfl) _⟩
  have HOW : Kp ((w'.setCell ⟨b, 1, none⟩ (.int .i64 (cnt : Int))).ownsRow low 5 1 (.slice A 0 cr) 0 (bytes [])) := ⟨own_keep HD.out.rest HF1.out (fun k hk e => own_ne HD.out.rest hk HD.out.blk (by decide) e)⟩
  clear h0 h1 h18 hf1 hf18 HB
  generalize w'.setCell ⟨b, 1, none⟩ (.int .i64 (cnt : Int)) = W1 at HD1 HF1 HOW ⊢
  have h18 := HD1.out.cell 18 (.slice A 0 cr) rfl
  have hf18 := HD1.out.free 18
  have happ := run_append_nilB W1 low _ _ _ HOW.out
  go_loopw [1] (fun s1 wr => s1 = .slice none 0 0 ∧ wr = W1) (fun s1 _ => lenOf s1)
  case atStart => exact ⟨rfl, rfl⟩
  case round =>
    obtain ⟨rfl, rfl⟩ := hrel
    cases A
    all_goals
      go_wp2
      go_end0
      refine ⟨_, rfl, ⟨?_, ?_, HD.out.low⟩, HF1.out.set (a := ⟨b, 18, none⟩) (fun _ => rfl) _⟩
      · exact HD1.out.set 18 _
      · exact own_keep HOW.out (Fr.set (S := fun k => k = b) (a := ⟨b, 18, none⟩) (Fr.refl _ _) (fun _ => rfl) _) (fun k hk e => own_ne HOW.out hk HD1.out (by decide) e)
set_option maxHeartbeats 4000000 in
set_option maxRecDepth 100000 in
theorem write_nil1 (b cnt : Nat) (c : Chain) (g cr : Nat) (rs : List Int) (hr0 : 0 < rs.length) (hrs : rs.length < 64) (hcr : rs.length ≤ cr) (hmax : cnt ≤ maxCount) (w : World) (hD : Dg w b (.slice (some ⟨g, 0, none⟩) rs.length cr) ⟨false, cnt, c, rs⟩) :
    Calls Tryd.prog 39 #[.pointer (some ⟨b, 0, none⟩), .slice none 0 0] w fun e w' =>
      ∃ r, e = .returned r ∧ Dg w' b (.slice (some ⟨g, 0, none⟩) rs.length cr) ⟨false, cnt, c, rs⟩ ∧ Fr (fun k => k = b) w w' := by
  have h0 := hD.blk.cell 0 _ rfl
  have h1 := hD.blk.cell 1 _ rfl
  have h18 := hD.blk.cell 18 (.slice (some ⟨g, 0, none⟩) rs.length cr) rfl
  have hf1 := hD.blk.free 1
  have hf18 := hD.blk.free 18
  have HB := block_calls b false w h0
  have HD := Kp.mk hD
  clear hD
  simp only [kind, blk] at h0 h1 HB
  have hmax' := hmax
  unfold maxCount at hmax'
  have hdec : decide ((2305843009213693951 : Int) - (cnt : Int) < 0) = false := decide_eq_false (by omega)
  go_enter Tryd.func39, Tryd.ntmps39
  go_wp2_with (first | (go_at_call 66; (with_reducible refine HB.mono ?_); rintro e w' ⟨rfl, rfl⟩))
  have HD1 : Kp (Blk (w'.setCell ⟨b, 1, none⟩ (.int .i64 (cnt : Int))) b 135 (dcells false cnt c (.slice (some ⟨g, 0, none⟩) rs.length cr))) := ⟨by
    rw [← dcells_set1 false cnt cnt]; exact HD.out.blk.set 1 _⟩
  have HF1 : Kp (Fr (fun k => k = b) w' (w'.setCell ⟨b, 1, none⟩ (.int .i64 (cnt : Int)))) := ⟨Fr.set (S := fun k => k = b) (a := ⟨b, 1, none⟩) (Fr.refl _ _) (fun _ => rfl) _⟩
  have HOW : Kp ((w'.setCell ⟨b, 1, none⟩ (.int .i64 (cnt : Int))).ownsRow low 5 1 (.slice (some ⟨g, 0, none⟩) rs.length cr) rs.length (bytes rs)) := ⟨own_keep HD.out.rest HF1.out (fun k hk e => own_ne HD.out.rest hk HD.out.blk (by decide) e)⟩
  clear h0 h1 h18 hf1 hf18 HB
  generalize w'.setCell ⟨b, 1, none⟩ (.int .i64 (cnt : Int)) = W1 at HD1 HF1 HOW ⊢
  have h18 := HD1.out.cell 18 (.slice (some ⟨g, 0, none⟩) rs.length cr) rfl
  have hf18 := HD1.out.free 18
  have hown' : W1.drew.ownsRow low 5 1 (.slice (some ⟨g, 0, none⟩) rs.length cr) rs.length (bytes rs) := HOW.out
  have happ := run_append_nilB W1.drew low _ _ _ hown'
  clear hown'
  go_region
  go_wp2
  (try simp only [Exit.inBlock, Exit.then])
  refine bodyPost_ret (results_none rfl _ _ _) rfl ?_
  refine ⟨_, rfl, ⟨?_, ?_, HD.out.low⟩, HF1.out.drew.set (a := ⟨b, 18, none⟩) (fun _ => rfl) _⟩
  · rw [← dcells_set18 false _ _ (.slice (some ⟨g, 0, none⟩) rs.length cr)]
    exact HD1.out.drew.set 18 _
  · exact own_keep HOW.out (Fr.set (S := fun k => k = b) (a := ⟨b, 18, none⟩) (Fr.drew (Fr.refl _ _)) (fun _ => rfl) _) (fun k hk e => own_ne HOW.out hk HD1.out (by decide) e)
set_option maxHeartbeats 4000000 in
set_option maxRecDepth 100000 in
theorem write_e0 (b cnt : Nat) (c : Chain) (ad : Addr) (ca : Nat) (A : Option Addr) (cr : Nat) (hmax : cnt ≤ maxCount) (w : World) (hD : Dg w b (.slice A 0 cr) ⟨false, cnt, c, []⟩) :
    Calls Tryd.prog 39 #[.pointer (some ⟨b, 0, none⟩), .slice (some ad) 0 ca] w fun e w' =>
      ∃ r, e = .returned r ∧ Dg w' b (.slice A 0 cr) ⟨false, cnt, c, []⟩ ∧ Fr (fun k => k = b) w w' := by
  have h0 := hD.blk.cell 0 _ rfl
  have h1 := hD.blk.cell 1 _ rfl
  have h18 := hD.blk.cell 18 (.slice A 0 cr) rfl
  have hf1 := hD.blk.free 1
  have hf18 := hD.blk.free 18
  have HB := block_calls b false w h0
  have HD := Kp.mk hD
  clear hD
  simp only [kind, blk] at h0 h1 HB
  have hmax' := hmax
  unfold maxCount at hmax'
  have hdec : decide ((2305843009213693951 : Int) - (cnt : Int) < 0) = false := decide_eq_false (by omega)
  go_enter Tryd.func39, Tryd.ntmps39
  go_wp2_with (first | (go_at_call 66; (with_reducible refine HB.mono ?_); rintro e w' ⟨rfl, rfl⟩))
  have HD1 : Kp (Blk (w'.setCell ⟨b, 1, none⟩ (.int .i64 (cnt : Int))) b 135 (dcells false cnt c (.slice A 0 cr))) := ⟨by
    rw [← dcells_set1 false cnt cnt]; exact HD.out.blk.set 1 _⟩
  have HF1 : Kp (Fr (fun k => k = b) w' (w'.setCell ⟨b, 1, none⟩ (.int .i64 (cnt : Int)))) := ⟨Fr.set (S := fun k => k = b) (a := ⟨b, 1, none⟩) (Fr.refl _ _) (fun _ => rfl) _⟩
  have HOW : Kp ((w'.setCell ⟨b, 1, none⟩ (.int .i64 (cnt : Int))).ownsRow low 5 1 (.slice A 0 cr) 0 (bytes [])) := ⟨own_keep HD.out.rest HF1.out (fun k hk e => own_ne HD.out.rest hk HD.out.blk (by decide) e)⟩
  clear h0 h1 h18 hf1 hf18 HB
  generalize w'.setCell ⟨b, 1, none⟩ (.int .i64 (cnt : Int)) = W1 at HD1 HF1 HOW ⊢
  have h18 := HD1.out.cell 18 (.slice A 0 cr) rfl
  have hf18 := HD1.out.free 18
  have happ := run_append_emptyB W1 low _ _ _ ad ca HOW.out
  go_loopw [1] (fun s1 wr => s1 = .slice (some ad) 0 ca ∧ wr = W1) (fun s1 _ => lenOf s1)
  case atStart => exact ⟨rfl, rfl⟩
  case round =>
    obtain ⟨rfl, rfl⟩ := hrel
    cases A
    all_goals
      go_wp2
      go_end0
      refine ⟨_, rfl, ⟨?_, ?_, HD.out.low⟩, HF1.out.set (a := ⟨b, 18, none⟩) (fun _ => rfl) _⟩
      · exact HD1.out.set 18 _
      · exact own_keep HOW.out (Fr.set (S := fun k => k = b) (a := ⟨b, 18, none⟩) (Fr.refl _ _) (fun _ => rfl) _) (fun k hk e => own_ne HOW.out hk HD1.out (by decide) e)
set_option maxHeartbeats 4000000 in
set_option maxRecDepth 100000 in
theorem write_e1 (b cnt : Nat) (c : Chain) (ad : Addr) (ca : Nat) (g cr : Nat) (rs : List Int) (hr0 : 0 < rs.length) (hrs : rs.length < 64) (hcr : rs.length ≤ cr) (hmax : cnt ≤ maxCount) (w : World) (hD : Dg w b (.slice (some ⟨g, 0, none⟩) rs.length cr) ⟨false, cnt, c, rs⟩) :
    Calls Tryd.prog 39 #[.pointer (some ⟨b, 0, none⟩), .slice (some ad) 0 ca] w fun e w' =>
      ∃ r, e = .returned r ∧ Dg w' b (.slice (some ⟨g, 0, none⟩) rs.length cr) ⟨false, cnt, c, rs⟩ ∧ Fr (fun k => k = b) w w' := by
  have h0 := hD.blk.cell 0 _ rfl
  have h1 := hD.blk.cell 1 _ rfl
  have h18 := hD.blk.cell 18 (.slice (some ⟨g, 0, none⟩) rs.length cr) rfl
  have hf1 := hD.blk.free 1
  have hf18 := hD.blk.free 18
  have HB := block_calls b false w h0
  have HD := Kp.mk hD
  clear hD
  simp only [kind, blk] at h0 h1 HB
  have hmax' := hmax
  unfold maxCount at hmax'
  have hdec : decide ((2305843009213693951 : Int) - (cnt : Int) < 0) = false := decide_eq_false (by omega)
  go_enter Tryd.func39, Tryd.ntmps39
  go_wp2_with (first | (go_at_call 66; (with_reducible refine HB.mono ?_); rintro e w' ⟨rfl, rfl⟩))
  have HD1 : Kp (Blk (w'.setCell ⟨b, 1, none⟩ (.int .i64 (cnt : Int))) b 135 (dcells false cnt c (.slice (some ⟨g, 0, none⟩) rs.length cr))) := ⟨by
    rw [← dcells_set1 false cnt cnt]; exact HD.out.blk.set 1 _⟩
  have HF1 : Kp (Fr (fun k => k = b) w' (w'.setCell ⟨b, 1, none⟩ (.int .i64 (cnt : Int)))) := ⟨Fr.set (S := fun k => k = b) (a := ⟨b, 1, none⟩) (Fr.refl _ _) (fun _ => rfl) _⟩
  have HOW : Kp ((w'.setCell ⟨b, 1, none⟩ (.int .i64 (cnt : Int))).ownsRow low 5 1 (.slice (some ⟨g, 0, none⟩) rs.length cr) rs.length (bytes rs)) := ⟨own_keep HD.out.rest HF1.out (fun k hk e => own_ne HD.out.rest hk HD.out.blk (by decide) e)⟩
  clear h0 h1 h18 hf1 hf18 HB
  generalize w'.setCell ⟨b, 1, none⟩ (.int .i64 (cnt : Int)) = W1 at HD1 HF1 HOW ⊢
  have h18 := HD1.out.cell 18 (.slice (some ⟨g, 0, none⟩) rs.length cr) rfl
  have hf18 := HD1.out.free 18
  have hown' : W1.drew.ownsRow low 5 1 (.slice (some ⟨g, 0, none⟩) rs.length cr) rs.length (bytes rs) := HOW.out
  have happ := run_append_emptyB W1.drew low _ _ _ ad ca hown'
  clear hown'
  by_cases hca : ca = 0
  all_goals
    go_region
    go_wp2
    (try simp only [Exit.inBlock, Exit.then])
    refine bodyPost_ret (results_none rfl _ _ _) rfl ?_
    refine ⟨_, rfl, ⟨?_, ?_, HD.out.low⟩, HF1.out.drew.set (a := ⟨b, 18, none⟩) (fun _ => rfl) _⟩
    · rw [← dcells_set18 false _ _ (.slice (some ⟨g, 0, none⟩) rs.length cr)]
      exact HD1.out.drew.set 18 _
    · exact own_keep HOW.out (Fr.set (S := fun k => k = b) (a := ⟨b, 18, none⟩) (Fr.drew (Fr.refl _ _)) (fun _ => rfl) _) (fun k hk e => own_ne HOW.out hk HD1.out (by decide) e)
theorem write_empty (b cnt : Nat) (c : Chain) (ad : Addr) (ca : Nat) (rv : Value) (rs : List Int) (hrs : rs.length < 64) (hmax : cnt ≤ maxCount) (w : World) (hD : Dg w b rv ⟨false, cnt, c, rs⟩) :
    Calls Tryd.prog 39 #[.pointer (some ⟨b, 0, none⟩), .slice (some ad) 0 ca] w fun e w' =>
      ∃ r, e = .returned r ∧ Dg w' b rv ⟨false, cnt, c, rs⟩ ∧ Fr (fun k => k = b) w w' := by
  rcases Nat.eq_zero_or_pos rs.length with h | h
  · obtain rfl := List.eq_nil_of_length_eq_zero h
    obtain ⟨A, cr, rfl, _⟩ := own_shape hD.rest
    exact write_e0 b cnt c ad ca A cr hmax w hD
  · obtain ⟨g, cr, rfl, _, _, hcr, _⟩ := own_form hD.rest h
    exact write_e1 b cnt c ad ca g cr rs h hrs hcr hmax w hD
theorem write_nil (b cnt : Nat) (c : Chain) (rv : Value) (rs : List Int) (hrs : rs.length < 64) (hmax : cnt ≤ maxCount) (w : World) (hD : Dg w b rv ⟨false, cnt, c, rs⟩) :
    Calls Tryd.prog 39 #[.pointer (some ⟨b, 0, none⟩), .slice none 0 0] w fun e w' =>
      ∃ r, e = .returned r ∧ Dg w' b rv ⟨false, cnt, c, rs⟩ ∧ Fr (fun k => k = b) w w' := by
  rcases Nat.eq_zero_or_pos rs.length with h | h
  · obtain rfl := List.eq_nil_of_length_eq_zero h
    obtain ⟨A, cr, rfl, _⟩ := own_shape hD.rest
    exact write_nil0 b cnt c A cr hmax w hD
  · obtain ⟨g, cr, rfl, _, _, hcr, _⟩ := own_form hD.rest h
    exact write_nil1 b cnt c g cr rs h hrs hcr hmax w hD
end Go.Proofs.YtjcmgpiapbeodaaDoor.Sha.N32
namespace Go.Proofs.YtjcmgpiapbeodaaDoor.Sha.N64
open Go.RowKit Go.Proofs.YtjcmgpiapbeodaaDoor.Mem Go.Proofs.YtjcmgpiapbeodaaDoorW.PrintWords
theorem run_append_emptyB (w : World) (base : Nat) (v : Value) (n : Nat) (xs : List Value) (ad : Addr) (c : Nat) (hown : w.ownsRow base 5 1 v n xs) : (Builtin.append_ #[22, 22] 22 #[v, .slice (some ad) 0 c]).run Tryd.prog w = .ok v w := by
  obtain ⟨i0, hi, hz0, hz1, hz2⟩ := info_parts Wk.info_u8
  rcases hown.2 with ⟨rfl, rfl⟩ | ⟨g, cap, cur, rfl, _, _, hnc, _⟩
  · simp [Builtin.append_, run_underlying Tryd.underlying22, sizeOf, typeInfo, hi, Builtin.lenOf, Builtin.firstCells, loadCells, loadCellsFrom]
  · simp [Builtin.append_, run_underlying Tryd.underlying22, sizeOf, typeInfo, hi, Builtin.lenOf, Builtin.firstCells, hnc, storeCells, loadCells, loadCellsFrom]
set_option maxHeartbeats 4000000 in
set_option maxRecDepth 100000 in
theorem write_nil0 (b cnt : Nat) (c : Chain) (A : Option Addr) (cr : Nat) (hmax : cnt ≤ maxCount) (w : World) (hD : Dg w b (.slice A 0 cr) ⟨true, cnt, c, []⟩) :
    Calls Tryd.prog 39 #[.pointer (some ⟨b, 0, none⟩), .slice none 0 0] w fun e w' =>
      ∃ r, e = .returned r ∧ Dg w' b (.slice A 0 cr) ⟨true, cnt, c, []⟩ ∧ Fr (fun k => k = b) w w' := by
  have h0 := hD.blk.cell 0 _ rfl
  have h1 := hD.blk.cell 1 _ rfl
  have h18 := hD.blk.cell 18 (.slice A 0 cr) rfl
  have hf1 := hD.blk.free 1
  have hf18 := hD.blk.free 18
  have HB := block_calls b true w h0
  have HD := Kp.mk hD
  clear hD
  simp only [kind, blk] at h0 h1 HB
  have hmax' := hmax
  unfold maxCount at hmax'
  have hdec : decide ((2305843009213693951 : Int) - (cnt : Int) < 0) = false := decide_eq_false (by omega)
  go_enter Tryd.func39, Tryd.ntmps39
  go_wp2_with (first | (go_at_call 66; (with_reducible refine HB.mono ?_); rintro e w' ⟨rfl, rfl⟩))
  have HD1 : Kp (Blk (w'.setCell ⟨b, 1, none⟩ (.int .i64 (cnt : Int))) b 135 (dcells true cnt c (.slice A 0 cr))) := ⟨by
    rw [← dcells_set1 true cnt cnt]; exact HD.out.blk.set 1 _⟩
  have HF1 : Kp (Fr (fun k => k = b) w' (w'.setCell ⟨b, 1, none⟩ (.int .i64 (cnt : Int)))) := ⟨Fr.set (S := fun k => k = b) (a := ⟨b, 1, none⟩) (Fr.refl _ _) (fun _ => rfl) _⟩
  have HOW : Kp ((w'.setCell ⟨b, 1, none⟩ (.int .i64 (cnt : Int))).ownsRow low 5 1 (.slice A 0 cr) 0 (bytes [])) := ⟨own_keep HD.out.rest HF1.out (fun k hk e => own_ne HD.out.rest hk HD.out.blk (by decide) e)⟩
  clear h0 h1 h18 hf1 hf18 HB
  generalize w'.setCell ⟨b, 1, none⟩ (.int .i64 (cnt : Int)) = W1 at HD1 HF1 HOW ⊢
  have h18 := HD1.out.cell 18 (.slice A 0 cr) rfl
  have hf18 := HD1.out.free 18
  have happ := run_append_nilB W1 low _ _ _ HOW.out
  go_loopw [1] (fun s1 wr => s1 = .slice none 0 0 ∧ wr = W1) (fun s1 _ => lenOf s1)
  case atStart => exact ⟨rfl, rfl⟩
  case round =>
    obtain ⟨rfl, rfl⟩ := hrel
    cases A
    all_goals
      go_wp2
      go_end0
      refine ⟨_, rfl, ⟨?_, ?_, HD.out.low⟩, HF1.out.set (a := ⟨b, 18, none⟩) (fun _ => rfl) _⟩
      · exact HD1.out.set 18 _
      · exact own_keep HOW.out (Fr.set (S := fun k => k = b) (a := ⟨b, 18, none⟩) (Fr.refl _ _) (fun _ => rfl) _) (fun k hk e => own_ne HOW.out hk HD1.out (by decide) e)
set_option maxHeartbeats 4000000 in
set_option maxRecDepth 100000 in
theorem write_nil1 (b cnt : Nat) (c : Chain) (g cr : Nat) (rs : List Int) (hr0 : 0 < rs.length) (hrs : rs.length < 128) (hcr : rs.length ≤ cr) (hmax : cnt ≤ maxCount) (w : World) (hD : Dg w b (.slice (some ⟨g, 0, none⟩) rs.length cr) ⟨true, cnt, c, rs⟩) :
    Calls Tryd.prog 39 #[.pointer (some ⟨b, 0, none⟩), .slice none 0 0] w fun e w' =>
      ∃ r, e = .returned r ∧ Dg w' b (.slice (some ⟨g, 0, none⟩) rs.length cr) ⟨true, cnt, c, rs⟩ ∧ Fr (fun k => k = b) w w' := by
  have h0 := hD.blk.cell 0 _ rfl
  have h1 := hD.blk.cell 1 _ rfl
  have h18 := hD.blk.cell 18 (.slice (some ⟨g, 0, none⟩) rs.length cr) rfl
  have hf1 := hD.blk.free 1
  have hf18 := hD.blk.free 18
  have HB := block_calls b true w h0
  have HD := Kp.mk hD
  clear hD
  simp only [kind, blk] at h0 h1 HB
  have hmax' := hmax
  unfold maxCount at hmax'
  have hdec : decide ((2305843009213693951 : Int) - (cnt : Int) < 0) = false := decide_eq_false (by omega)
  go_enter Tryd.func39, Tryd.ntmps39
  go_wp2_with (first | (go_at_call 66; (with_reducible refine HB.mono ?_); rintro e w' ⟨rfl, rfl⟩))
  have HD1 : Kp (Blk (w'.setCell ⟨b, 1, none⟩ (.int .i64 (cnt : Int))) b 135 (dcells true cnt c (.slice (some ⟨g, 0, none⟩) rs.length cr))) := ⟨by
    rw [← dcells_set1 true cnt cnt]; exact HD.out.blk.set 1 _⟩
  have HF1 : Kp (Fr (fun k => k = b) w' (w'.setCell ⟨b, 1, none⟩ (.int .i64 (cnt : Int)))) := ⟨Fr.set (S := fun k => k = b) (a := ⟨b, 1, none⟩) (Fr.refl _ _) (fun _ => rfl) _⟩
  have HOW : Kp ((w'.setCell ⟨b, 1, none⟩ (.int .i64 (cnt : Int))).ownsRow low 5 1 (.slice (some ⟨g, 0, none⟩) rs.length cr) rs.length (bytes rs)) := ⟨own_keep HD.out.rest HF1.out (fun k hk e => own_ne HD.out.rest hk HD.out.blk (by decide) e)⟩
  clear h0 h1 h18 hf1 hf18 HB
  generalize w'.setCell ⟨b, 1, none⟩ (.int .i64 (cnt : Int)) = W1 at HD1 HF1 HOW ⊢
  have h18 := HD1.out.cell 18 (.slice (some ⟨g, 0, none⟩) rs.length cr) rfl
  have hf18 := HD1.out.free 18
  have hown' : W1.drew.ownsRow low 5 1 (.slice (some ⟨g, 0, none⟩) rs.length cr) rs.length (bytes rs) := HOW.out
  have happ := run_append_nilB W1.drew low _ _ _ hown'
  clear hown'
  go_region
  go_wp2
  (try simp only [Exit.inBlock, Exit.then])
  refine bodyPost_ret (results_none rfl _ _ _) rfl ?_
  refine ⟨_, rfl, ⟨?_, ?_, HD.out.low⟩, HF1.out.drew.set (a := ⟨b, 18, none⟩) (fun _ => rfl) _⟩
  · rw [← dcells_set18 true _ _ (.slice (some ⟨g, 0, none⟩) rs.length cr)]
    exact HD1.out.drew.set 18 _
  · exact own_keep HOW.out (Fr.set (S := fun k => k = b) (a := ⟨b, 18, none⟩) (Fr.drew (Fr.refl _ _)) (fun _ => rfl) _) (fun k hk e => own_ne HOW.out hk HD1.out (by decide) e)
set_option maxHeartbeats 4000000 in
set_option maxRecDepth 100000 in
theorem write_e0 (b cnt : Nat) (c : Chain) (ad : Addr) (ca : Nat) (A : Option Addr) (cr : Nat) (hmax : cnt ≤ maxCount) (w : World) (hD : Dg w b (.slice A 0 cr) ⟨true, cnt, c, []⟩) :
    Calls Tryd.prog 39 #[.pointer (some ⟨b, 0, none⟩), .slice (some ad) 0 ca] w fun e w' =>
      ∃ r, e = .returned r ∧ Dg w' b (.slice A 0 cr) ⟨true, cnt, c, []⟩ ∧ Fr (fun k => k = b) w w' := by
  have h0 := hD.blk.cell 0 _ rfl
  have h1 := hD.blk.cell 1 _ rfl
  have h18 := hD.blk.cell 18 (.slice A 0 cr) rfl
  have hf1 := hD.blk.free 1
  have hf18 := hD.blk.free 18
  have HB := block_calls b true w h0
  have HD := Kp.mk hD
  clear hD
  simp only [kind, blk] at h0 h1 HB
  have hmax' := hmax
  unfold maxCount at hmax'
  have hdec : decide ((2305843009213693951 : Int) - (cnt : Int) < 0) = false := decide_eq_false (by omega)
  go_enter Tryd.func39, Tryd.ntmps39
  go_wp2_with (first | (go_at_call 66; (with_reducible refine HB.mono ?_); rintro e w' ⟨rfl, rfl⟩))
  have HD1 : Kp (Blk (w'.setCell ⟨b, 1, none⟩ (.int .i64 (cnt : Int))) b 135 (dcells true cnt c (.slice A 0 cr))) := ⟨by
    rw [← dcells_set1 true cnt cnt]; exact HD.out.blk.set 1 _⟩
  have HF1 : Kp (Fr (fun k => k = b) w' (w'.setCell ⟨b, 1, none⟩ (.int .i64 (cnt : Int)))) := ⟨Fr.set (S := fun k => k = b) (a := ⟨b, 1, none⟩) (Fr.refl _ _) (fun _ => rfl) _⟩
  have HOW : Kp ((w'.setCell ⟨b, 1, none⟩ (.int .i64 (cnt : Int))).ownsRow low 5 1 (.slice A 0 cr) 0 (bytes [])) := ⟨own_keep HD.out.rest HF1.out (fun k hk e => own_ne HD.out.rest hk HD.out.blk (by decide) e)⟩
  clear h0 h1 h18 hf1 hf18 HB
  generalize w'.setCell ⟨b, 1, none⟩ (.int .i64 (cnt : Int)) = W1 at HD1 HF1 HOW ⊢
  have h18 := HD1.out.cell 18 (.slice A 0 cr) rfl
  have hf18 := HD1.out.free 18
  have happ := run_append_emptyB W1 low _ _ _ ad ca HOW.out
  go_loopw [1] (fun s1 wr => s1 = .slice (some ad) 0 ca ∧ wr = W1) (fun s1 _ => lenOf s1)
  case atStart => exact ⟨rfl, rfl⟩
  case round =>
    obtain ⟨rfl, rfl⟩ := hrel
    cases A
    all_goals
      go_wp2
      go_end0
      refine ⟨_, rfl, ⟨?_, ?_, HD.out.low⟩, HF1.out.set (a := ⟨b, 18, none⟩) (fun _ => rfl) _⟩
      · exact HD1.out.set 18 _
      · exact own_keep HOW.out (Fr.set (S := fun k => k = b) (a := ⟨b, 18, none⟩) (Fr.refl _ _) (fun _ => rfl) _) (fun k hk e => own_ne HOW.out hk HD1.out (by decide) e)
set_option maxHeartbeats 4000000 in
set_option maxRecDepth 100000 in
theorem write_e1 (b cnt : Nat) (c : Chain) (ad : Addr) (ca : Nat) (g cr : Nat) (rs : List Int) (hr0 : 0 < rs.length) (hrs : rs.length < 128) (hcr : rs.length ≤ cr) (hmax : cnt ≤ maxCount) (w : World) (hD : Dg w b (.slice (some ⟨g, 0, none⟩) rs.length cr) ⟨true, cnt, c, rs⟩) :
    Calls Tryd.prog 39 #[.pointer (some ⟨b, 0, none⟩), .slice (some ad) 0 ca] w fun e w' =>
      ∃ r, e = .returned r ∧ Dg w' b (.slice (some ⟨g, 0, none⟩) rs.length cr) ⟨true, cnt, c, rs⟩ ∧ Fr (fun k => k = b) w w' := by
  have h0 := hD.blk.cell 0 _ rfl
  have h1 := hD.blk.cell 1 _ rfl
  have h18 := hD.blk.cell 18 (.slice (some ⟨g, 0, none⟩) rs.length cr) rfl
  have hf1 := hD.blk.free 1
  have hf18 := hD.blk.free 18
  have HB := block_calls b true w h0
  have HD := Kp.mk hD
  clear hD
  simp only [kind, blk] at h0 h1 HB
  have hmax' := hmax
  unfold maxCount at hmax'
  have hdec : decide ((2305843009213693951 : Int) - (cnt : Int) < 0) = false := decide_eq_false (by omega)
  go_enter Tryd.func39, Tryd.ntmps39
  go_wp2_with (first | (go_at_call 66; (with_reducible refine HB.mono ?_); rintro e w' ⟨rfl, rfl⟩))
  have HD1 : Kp (Blk (w'.setCell ⟨b, 1, none⟩ (.int .i64 (cnt : Int))) b 135 (dcells true cnt c (.slice (some ⟨g, 0, none⟩) rs.length cr))) := ⟨by
    rw [← dcells_set1 true cnt cnt]; exact HD.out.blk.set 1 _⟩
  have HF1 : Kp (Fr (fun k => k = b) w' (w'.setCell ⟨b, 1, none⟩ (.int .i64 (cnt : Int)))) := ⟨Fr.set (S := fun k => k = b) (a := ⟨b, 1, none⟩) (Fr.refl _ _) (fun _ => rfl) _⟩
  have HOW : Kp ((w'.setCell ⟨b, 1, none⟩ (.int .i64 (cnt : Int))).ownsRow low 5 1 (.slice (some ⟨g, 0, none⟩) rs.length cr) rs.length (bytes rs)) := ⟨own_keep HD.out.rest HF1.out (fun k hk e => own_ne HD.out.rest hk HD.out.blk (by decide) e)⟩
  clear h0 h1 h18 hf1 hf18 HB
  generalize w'.setCell ⟨b, 1, none⟩ (.int .i64 (cnt : Int)) = W1 at HD1 HF1 HOW ⊢
  have h18 := HD1.out.cell 18 (.slice (some ⟨g, 0, none⟩) rs.length cr) rfl
  have hf18 := HD1.out.free 18
  have hown' : W1.drew.ownsRow low 5 1 (.slice (some ⟨g, 0, none⟩) rs.length cr) rs.length (bytes rs) := HOW.out
  have happ := run_append_emptyB W1.drew low _ _ _ ad ca hown'
  clear hown'
  by_cases hca : ca = 0
  all_goals
    go_region
    go_wp2
    (try simp only [Exit.inBlock, Exit.then])
    refine bodyPost_ret (results_none rfl _ _ _) rfl ?_
    refine ⟨_, rfl, ⟨?_, ?_, HD.out.low⟩, HF1.out.drew.set (a := ⟨b, 18, none⟩) (fun _ => rfl) _⟩
    · rw [← dcells_set18 true _ _ (.slice (some ⟨g, 0, none⟩) rs.length cr)]
      exact HD1.out.drew.set 18 _
    · exact own_keep HOW.out (Fr.set (S := fun k => k = b) (a := ⟨b, 18, none⟩) (Fr.drew (Fr.refl _ _)) (fun _ => rfl) _) (fun k hk e => own_ne HOW.out hk HD1.out (by decide) e)
theorem write_empty (b cnt : Nat) (c : Chain) (ad : Addr) (ca : Nat) (rv : Value) (rs : List Int) (hrs : rs.length < 128) (hmax : cnt ≤ maxCount) (w : World) (hD : Dg w b rv ⟨true, cnt, c, rs⟩) :
    Calls Tryd.prog 39 #[.pointer (some ⟨b, 0, none⟩), .slice (some ad) 0 ca] w fun e w' =>
      ∃ r, e = .returned r ∧ Dg w' b rv ⟨true, cnt, c, rs⟩ ∧ Fr (fun k => k = b) w w' := by
  rcases Nat.eq_zero_or_pos rs.length with h | h
  · obtain rfl := List.eq_nil_of_length_eq_zero h
    obtain ⟨A, cr, rfl, _⟩ := own_shape hD.rest
    exact write_e0 b cnt c ad ca A cr hmax w hD
  · obtain ⟨g, cr, rfl, _, _, hcr, _⟩ := own_form hD.rest h
    exact write_e1 b cnt c ad ca g cr rs h hrs hcr hmax w hD
theorem write_nil (b cnt : Nat) (c : Chain) (rv : Value) (rs : List Int) (hrs : rs.length < 128) (hmax : cnt ≤ maxCount) (w : World) (hD : Dg w b rv ⟨true, cnt, c, rs⟩) :
    Calls Tryd.prog 39 #[.pointer (some ⟨b, 0, none⟩), .slice none 0 0] w fun e w' =>
      ∃ r, e = .returned r ∧ Dg w' b rv ⟨true, cnt, c, rs⟩ ∧ Fr (fun k => k = b) w w' := by
  rcases Nat.eq_zero_or_pos rs.length with h | h
  · obtain rfl := List.eq_nil_of_length_eq_zero h
    obtain ⟨A, cr, rfl, _⟩ := own_shape hD.rest
    exact write_nil0 b cnt c A cr hmax w hD
  · obtain ⟨g, cr, rfl, _, _, hcr, _⟩ := own_form hD.rest h
    exact write_nil1 b cnt c g cr rs h hrs hcr hmax w hD
end Go.Proofs.YtjcmgpiapbeodaaDoor.Sha.N64
namespace Go.Proofs.YtjcmgpiapbeodaaDoor.Sha
open Go.RowKit Go.Proofs.YtjcmgpiapbeodaaDoor.Mem Go.Proofs.YtjcmgpiapbeodaaDoorW.PrintWords
/-- The slice value (A, length, c) reads p; what it reads lies outside of S. -/
def Src (w : World) (S : Nat → Prop) (A : Option Addr) (c : Nat) (p : List Int) : Prop :=
  p.length ≤ c ∧ ((A = none ∧ c = 0 ∧ p = []) ∨ (p = [] ∧ ∃ ad, A = some ad) ∨ ∃ bs os, A = some ⟨bs, os, none⟩ ∧ Reads w bs os p ∧ ¬ S bs)
theorem Src.fr {w w1 : World} {S : Nat → Prop} {A : Option Addr} {c : Nat} {p : List Int} (h : Src w S A c p) (hf : Fr S w w1) : Src w1 S A c p := by
  refine ⟨h.1, ?_⟩
  rcases h.2 with h' | h' | ⟨bs, os, h1, h2, h3⟩
  · exact .inl h'
  · exact .inr (.inl h')
  · exact .inr (.inr ⟨bs, os, h1, h2.fr hf h3, h3⟩)
theorem Src.mono {w : World} {S S' : Nat → Prop} {A : Option Addr} {c : Nat} {p : List Int} (h : Src w S A c p) (hs : ∀ k, k < w.heap.size → S' k → S k) : Src w S' A c p := by
  refine ⟨h.1, ?_⟩
  rcases h.2 with h' | h' | ⟨bs, os, h1, h2, h3⟩
  · exact .inl h'
  · exact .inr (.inl h')
  · exact .inr (.inr ⟨bs, os, h1, h2, fun hk => h3 (hs bs h2.1 hk)⟩)
theorem Src.of_own {w : World} {base : Nat} {v : Value} {xs : List Int} (h : w.ownsRow base 5 1 v xs.length (bytes xs)) (S : Nat → Prop) (hs : ∀ k, v.ownBlock = some k → ¬ S k) : ∃ A c, v = .slice A xs.length c ∧ Src w S A c xs := by
  rcases Nat.eq_zero_or_pos xs.length with h0 | h0
  · obtain rfl := List.eq_nil_of_length_eq_zero h0
    rcases h.2 with ⟨rfl, _⟩ | ⟨g, cap, cur, rfl, hb, hg, hnc, _⟩
    · exact ⟨none, 0, rfl, Nat.zero_le _, .inl ⟨rfl, rfl, rfl⟩⟩
    · refine ⟨_, cap, rfl, Nat.zero_le _, .inr (.inr ⟨g, 0, rfl, ⟨?_, fun i hi => absurd hi (Nat.not_lt_zero _)⟩, hs g rfl⟩)⟩
      rcases Nat.lt_or_ge g w.heap.size with h | h
      · exact h
      · rw [Array.getElem?_eq_none h] at hg; cases hg
  · obtain ⟨g, cap, rfl, _, _, h4, h5⟩ := own_form h h0
    exact ⟨_, cap, rfl, h4, .inr (.inr ⟨g, 0, rfl, h5, hs g rfl⟩)⟩
theorem run_appendS (w : World) (base : Nat) (v : Value) (xs : List Int) (hown : w.ownsRow base 5 1 v xs.length (bytes xs)) (A : Option Addr) (m c : Nat) (p : List Int) (hm : m = p.length) {S : Nat → Prop} (hr : Src w S A c p)
    (hb : xs.length + p.length ≤ 140737488355328) (hbase : base ≤ w.heap.size) :
    ∃ v' w', (Builtin.append_ #[22, 22] 22 #[v, .slice A m c]).run Tryd.prog w = .ok v' w' ∧ w'.ownsRow base 5 1 v' (xs ++ p).length (bytes (xs ++ p)) ∧ w.grownBy w' v.ownBlock ∧ (v'.ownBlock = v.ownBlock ∨ v'.ownBlock = some w.heap.size) := by
  subst hm
  rcases hr.2 with ⟨rfl, rfl, rfl⟩ | ⟨rfl, ad, rfl⟩ | ⟨bs, os, rfl, h2, _⟩
  · rw [List.append_nil]
    exact ⟨v, w, run_append_nilB w base v _ _ hown, hown, ⟨rfl, rfl, rfl, Nat.le_refl _, fun _ _ _ => rfl⟩, .inl rfl⟩
  · rw [List.append_nil]
    exact ⟨v, w, N32.run_append_emptyB w base v _ _ ad c hown, hown, ⟨rfl, rfl, rfl, Nat.le_refl _, fun _ _ _ => rfl⟩, .inl rfl⟩
  · exact run_appendB w base v xs hown bs os _ c p rfl h2 hb hbase
theorem wpList_appendS {ops : Array Oper} {rest : List Oper} {o : Oper} {a : Act} {w : World} {Q : Exit → Act → World → Prop} (hgd : o.guard = none) (s x : Operand)
    (ho : o.op = .call { callee := .builtin .append, args := #[s, x], argTypes := #[22, 22] }) (hty : o.type = 22) (base : Nat) (v : Value) (xs : List Int) (hs : a.eval s = v) (hown : w.ownsRow base 5 1 v xs.length (bytes xs))
    (A : Option Addr) (m c : Nat) (p : List Int) (hm : m = p.length) (hx : a.eval x = .slice A m c) {S : Nat → Prop} (hr : Src w S A c p) (hb : xs.length + p.length ≤ 140737488355328) (hbase : base ≤ w.heap.size)
    (h : ∀ v' w', w'.ownsRow base 5 1 v' (xs ++ p).length (bytes (xs ++ p)) → w.grownBy w' v.ownBlock → (v'.ownBlock = v.ownBlock ∨ v'.ownBlock = some w.heap.size) → wpList Tryd.prog ops Q rest (a.put o.dst v') w') :
    wpList Tryd.prog ops Q (o :: rest) a w := by
  obtain ⟨v', w', hr', h2, h3, h4⟩ := run_appendS w base v xs hown A m c p hm hr hb hbase
  refine wpList_plain hgd fun _ hK => ?_
  unfold Oper.wp execOp
  simp only [ho, resolve, invoke, builtin, Sem.run_bind, Sem.run_pure, Result.andThen_ok, List.map_toArray, List.map_cons, List.map_nil, hs, hx, hty, hr']
  exact hK _ _ (h v' w' h2 h3 h4)
theorem step_appendS {ops : Array Oper} {o : Oper} {a : Act} {w : World} {K : Act → World → Prop} {Q : Exit → Act → World → Prop} {E : Prop} (hgd : o.guard = none) (s x : Operand)
    (ho : o.op = .call { callee := .builtin .append, args := #[s, x], argTypes := #[22, 22] }) (hty : o.type = 22) (base : Nat) (v : Value) (xs : List Int) (hs : a.eval s = v) (hown : w.ownsRow base 5 1 v xs.length (bytes xs))
    (A : Option Addr) (m c : Nat) (p : List Int) (hm : m = p.length) (hx : a.eval x = .slice A m c) {S : Nat → Prop} (hr : Src w S A c p) (hb : xs.length + p.length ≤ 140737488355328) (hbase : base ≤ w.heap.size)
    (h : ∀ v' w', w'.ownsRow base 5 1 v' (xs ++ p).length (bytes (xs ++ p)) → w.grownBy w' v.ownBlock → (v'.ownBlock = v.ownBlock ∨ v'.ownBlock = some w.heap.size) → K (a.put o.dst v') w') :
    if Region.wanted o (yielded ops a.tmps) = true then Oper.wp Tryd.prog o a w K Q else E := by
  have hw : Region.wanted o (yielded ops a.tmps) = true := by simp [Region.wanted, hgd]
  rw [if_pos hw]
  obtain ⟨v', w', hr', h2, h3, h4⟩ := run_appendS w base v xs hown A m c p hm hr hb hbase
  unfold Oper.wp execOp
  simp only [ho, resolve, invoke, builtin, Sem.run_bind, Sem.run_pure, Result.andThen_ok, List.map_toArray, List.map_cons, List.map_nil, hs, hx, hty, hr']
  exact h v' w' h2 h3 h4
theorem reads_new (w : World) (p : List Int) (e : TypeId) : Reads (w.alloc (.cells (bytes p).toArray e)) w.heap.size 0 p := by
  have hb : Blk (w.alloc (.cells (bytes p).toArray e)) w.heap.size e (bytes p) := Blk.new w _ e
  exact ⟨hb.lt, fun i hi => by rw [Nat.zero_add]; exact hb.cell i _ (bytes_get p i hi)⟩
theorem src_new (w : World) (p : List Int) (e : TypeId) (c : Nat) (hc : p.length ≤ c) : Src (w.alloc (.cells (bytes p).toArray e)) (fun _ => False) (some ⟨w.heap.size, 0, none⟩) c p := ⟨hc, .inr (.inr ⟨_, _, rfl, reads_new w p e, fun h => h⟩)⟩
/-- Write, of whatever the digest does not own. -/
theorem write_calls (s : St) (hs : s.Ok) (b : Nat) (rv : Value) (A : Option Addr) (cp : Nat) (p : List Int) (hmax : s.cnt + p.length ≤ maxCount) (w : World) (hL : Laid w) (hD : Dg w b rv s) (hX : Src w (dfoot b rv) A cp p) :
    Calls Tryd.prog 39 #[.pointer (some ⟨b, 0, none⟩), .slice A p.length cp] w fun e w' =>
      ∃ r rv', e = .returned r ∧ Dg w' b rv' (s.write p) ∧ Heir w rv' rv ∧ Fr (dfoot b rv) w w' := by
  obtain ⟨B, cnt, c, rs⟩ := s
  have hrb : rs.length < blk B := by have := hs.rest; simp only at this; rw [this]; exact Nat.mod_lt _ (blk_pos B)
  have hw : p = [] → (St.mk B cnt c rs).write p = ⟨B, cnt, c, rs⟩ := by
    rintro rfl
    unfold St.write
    rw [if_pos hmax]
    unfold absorb
    simp only [List.append_nil, List.length_nil, Nat.add_zero, Nat.div_eq_of_lt hrb, runC, Nat.mul_zero, List.drop_zero]
  rcases hX.2 with ⟨rfl, rfl, hp⟩ | ⟨hp, ad, rfl⟩ | ⟨bs, os, rfl, hR, hS⟩
  · rw [hw hp]
    subst hp
    have hm : cnt ≤ maxCount := hmax
    cases B
    · refine (N32.write_nil b cnt c rv rs hrb hm w hD).mono ?_
      rintro e w' ⟨r, rfl, h1, h2⟩
      exact ⟨r, rv, rfl, h1, Heir.refl _ _, h2.mono (fun _ _ h => .inl h)⟩
    · refine (N64.write_nil b cnt c rv rs hrb hm w hD).mono ?_
      rintro e w' ⟨r, rfl, h1, h2⟩
      exact ⟨r, rv, rfl, h1, Heir.refl _ _, h2.mono (fun _ _ h => .inl h)⟩
  · rw [hw hp]
    subst hp
    have hm : cnt ≤ maxCount := hmax
    cases B
    · refine (N32.write_empty b cnt c ad cp rv rs hrb hm w hD).mono ?_
      rintro e w' ⟨r, rfl, h1, h2⟩
      exact ⟨r, rv, rfl, h1, Heir.refl _ _, h2.mono (fun _ _ h => .inl h)⟩
    · refine (N64.write_empty b cnt c ad cp rv rs hrb hm w hD).mono ?_
      rintro e w' ⟨r, rfl, h1, h2⟩
      exact ⟨r, rv, rfl, h1, Heir.refl _ _, h2.mono (fun _ _ h => .inl h)⟩
  · have hne : bs ≠ b := fun h => hS (.inl h)
    have hnr : rv.ownBlock ≠ some bs := fun h => hS (.inr h)
    rcases Nat.eq_zero_or_pos rs.length with h0 | h0
    · obtain rfl := List.eq_nil_of_length_eq_zero h0
      cases B
      · exact W32.write_none b cnt c rv p bs os cp hX.1 hmax w hL hD hR hne
      · exact W64.write_none b cnt c rv p bs os cp hX.1 hmax w hL hD hR hne
    · by_cases hsh : rs.length + p.length < blk B
      · cases B
        · exact W32.write_short b cnt c rv rs p h0 hsh bs os cp hX.1 hmax w hL hD hR hne
        · exact W64.write_short b cnt c rv rs p h0 hsh bs os cp hX.1 hmax w hL hD hR hne
      · cases B
        · simp only [blk] at hrb hsh
          exact W32.write_long b cnt c rv rs p (64 - rs.length) h0 (by omega) (by omega) (by omega) bs os cp hX.1 hmax w hL hD hR hne hnr
        · simp only [blk] at hrb hsh
          exact W64.write_long b cnt c rv rs p (128 - rs.length) h0 (by omega) (by omega) (by omega) bs os cp hX.1 hmax w hL hD hR hne hnr
end Go.Proofs.YtjcmgpiapbeodaaDoor.Sha
namespace Go.Proofs.YtjcmgpiapbeodaaDoor.Sha
open Go.RowKit Go.Proofs.YtjcmgpiapbeodaaDoor.Mem
theorem setCell_alloc (W : World) (t : TypeId) (pre rest : List Value) (z v : Value) : (W.alloc (.cells (pre ++ z :: rest).toArray t)).setCell ⟨W.heap.size, pre.length, none⟩ v = W.alloc (.cells (pre ++ v :: rest).toArray t) := by
  unfold World.setCell World.alloc
  congr 1
  apply Array.ext_getElem?
  intro i
  rw [Array.getElem?_modify]
  by_cases h : W.heap.size = i
  · subst h
    simp
  · rw [if_neg h]
    rcases Nat.lt_or_ge i W.heap.size with h1 | h1
    · simp [Array.getElem?_push, Nat.ne_of_lt h1]
    · rw [Array.getElem?_eq_none (by simp; omega), Array.getElem?_eq_none (by simp; omega)]
theorem setCells_alloc (W : World) (t : TypeId) : ∀ (vs pre rest : List Value), rest.length = vs.length → (W.alloc (.cells (pre ++ rest).toArray t)).setCells W.heap.size pre.length vs = W.alloc (.cells (pre ++ vs).toArray t)
  | [], pre, rest, h => by
    obtain rfl := List.eq_nil_of_length_eq_zero h
    rfl
  | v :: vs, pre, [], h => by simp at h
  | v :: vs, pre, z :: rest, h => by
    rw [World.setCells, setCell_alloc, show pre ++ v :: rest = (pre ++ [v]) ++ rest by simp, show pre.length + 1 = (pre ++ [v]).length by simp, setCells_alloc W t vs (pre ++ [v]) rest (by simpa using h)]
    simp
theorem setCells_drew (b : Nat) : ∀ (vs : List Value) (o : Nat) (W : World), W.drew.setCells b o vs = (W.setCells b o vs).drew
  | [], _, _ => rfl
  | v :: vs, o, W => by rw [World.setCells, World.setCells, ← setCells_drew b vs (o + 1)]; rfl
theorem store_list (W : World) (zs vs : List Value) (hz : zs.length = 19) (hv : vs.length = 19) (h1 : vs.toArray.all (fun x => x.oneCell') = true) :
    (Instr.storeAt 135 (.pointer (some ⟨W.heap.size, 0, none⟩)) (.agg vs.toArray)).run Tryd.prog (W.alloc (.cells zs.toArray 135)).drew = .ok () (W.alloc (.cells vs.toArray 135)).drew := by
  have hi : (Tryd.prog.info? 135).map (·.size) = some 19 := by kernel_rfl
  rw [run_storeAt_mid (P := Tryd.prog) _ W.heap.size 0 135 vs.toArray (fun j hj => ?_) (by rw [hi, List.size_toArray, hv]) h1]
  · rw [setCells_drew]
    have e := setCells_alloc W 135 vs [] zs (hz.trans hv.symm)
    rw [List.nil_append, List.nil_append, List.length_nil] at e
    rw [e]
  · have hb : Blk (W.alloc (.cells zs.toArray 135)).drew W.heap.size 135 zs := Blk.new W _ _
    rw [Nat.zero_add]
    refine ⟨?_, hb.free j⟩
    rw [hb.cell? j]
    rw [List.size_toArray, hv, ← hz] at hj
    simp [hj]
def aggCells : Value → Array Value
  | .agg cs => cs
  | _ => #[]
def good19 : Value → Bool
  | .agg cs => cs.size == 19 && cs.all (fun x => x.oneCell')
  | _ => false
theorem good19_agg (cs : Array Value) : good19 (.agg cs) = (cs.size == 19 && cs.all (fun x => x.oneCell')) := rfl
theorem aggCells_agg (cs : Array Value) : aggCells (.agg cs) = cs := rfl
/-- at the operation: for the walk's simp -/
theorem wp_store_new (W : World) (zs : Array Value) (a : Act) (K : Act → World → Prop) (Q : Exit → Act → World → Prop) (x y : Operand) (ty : TypeId) (pos : String) (af)
    (hx : a.eval x = .pointer (some ⟨W.heap.size, 0, none⟩)) (hy : good19 (a.eval y) = true) (hz : zs.size = 19) :
    Oper.wp Tryd.prog { dst := none, op := .store 135 x y, type := ty, pos := pos, after := af, guard := none } a (W.alloc (.cells zs 135)).drew K Q = K a (W.alloc (.cells (aggCells (a.eval y)) 135)).drew := by
  cases hv : a.eval y <;> rw [hv] at hy <;> simp only [good19, Bool.false_eq_true] at hy
  rename_i cs
  simp only [Bool.and_eq_true, beq_iff_eq] at hy
  have h := store_list W zs.toList cs.toList (by simpa using hz) (by simpa using hy.1) (by simpa using hy.2)
  simp only [Array.toArray_toList] at h
  have e : (execOp a.eval { dst := none, op := .store 135 x y, type := ty, pos := pos, after := af, guard := none }).run Tryd.prog (W.alloc (.cells zs 135)).drew = .ok .skip (W.alloc (.cells cs 135)).drew := by
    unfold execOp
    simp only [hx, hv, Sem.run_bind, h, Result.andThen_ok, Sem.run_pure]
  unfold Oper.wp
  rw [e]
  rfl
theorem be8_list (n : Nat) (h : n < 18446744073709551616) : be8 n = [(n : Int) / 72057594037927936 % 256, (n : Int) / 281474976710656 % 256, (n : Int) / 1099511627776 % 256, (n : Int) / 4294967296 % 256, (n : Int) / 16777216 % 256, (n : Int) / 65536 % 256, (n : Int) / 256 % 256, (n : Int) % 256] := by
  simp [be8, layWord, List.range_succ, List.range_zero, BitVec.toNat_ushiftRight, Nat.shiftRight_eq_div_pow, Nat.mod_eq_of_lt h]
theorem own_reads {w : World} {base g n cap : Nat} {xs : List Int} (h : w.ownsRow base 5 1 (.slice (some ⟨g, 0, none⟩) n cap) n (bytes xs)) (hn : n = xs.length) : n ≤ cap ∧ Reads w g 0 xs := by
  subst hn
  obtain ⟨g', cap', h1, h2, h3⟩ : ∃ g' cap', (Value.slice (some ⟨g, 0, none⟩) xs.length cap) = .slice (some ⟨g', 0, none⟩) xs.length cap' ∧ g' < w.heap.size ∧ xs.length ≤ cap' := by
    rcases h.2 with ⟨h', _⟩ | ⟨g', cap', cur, h', _, hg, hnc, _⟩
    · simp at h'
    · refine ⟨g', cap', h', ?_, hnc⟩
      rcases Nat.lt_or_ge g' w.heap.size with h | h
      · exact h
      · rw [Array.getElem?_eq_none h] at hg; cases hg
  simp only [Value.slice.injEq, Option.some.injEq, Addr.mk.injEq, and_true, true_and] at h1
  obtain ⟨rfl, rfl⟩ := h1
  exact ⟨h3, h2, fun i hi => by rw [Nat.zero_add, h.cellAt i (by omega), bytes_get xs i hi]⟩
theorem be8_length (n : Nat) : (be8 n).length = 8 := by simp [be8, layWord]
theorem own_base {w : World} {base base' n : Nat} {v : Value} {xs : List Value} (h : w.ownsRow base 5 1 v n xs) (hb : base' ≤ base) : w.ownsRow base' 5 1 v n xs := by
  refine ⟨h.1, ?_⟩
  rcases h.2 with h' | ⟨g, cap, cur, h1, h2, h3⟩
  · exact .inl h'
  · exact .inr ⟨g, cap, cur, h1, Nat.le_trans hb h2, h3⟩
/-- an append onto memory of the call's own: old memory stays, and a variable of the call's too -/
theorem app_step {w W W' : World} {v : Value} {n be : Nat} {xs vs : List Value} {T : TypeId} (hF : Fr (fun _ => False) w W) (hO : W.ownsRow w.heap.size 5 1 v n xs) (hE : Blk W be T vs) (hT : T ≠ 5) (hg : W.grownBy W' v.ownBlock) :
    Fr (fun _ => False) w W' ∧ Blk W' be T vs :=
  ⟨Fr.grown hF hg (fun _ hk hr => absurd (own_lt hO hr).2 (Nat.not_le_of_lt hk)), (hg.block be hE.lt (fun h => own_ne hO h.symm hE hT rfl)).trans hE⟩
def chainAt (W : World) : Value → List Value
  | .pointer (some ⟨b, o, none⟩) => [(W.cell? ⟨b, o + 0, none⟩).getD undef, (W.cell? ⟨b, o + 1, none⟩).getD undef, (W.cell? ⟨b, o + 2, none⟩).getD undef, (W.cell? ⟨b, o + 3, none⟩).getD undef, (W.cell? ⟨b, o + 4, none⟩).getD undef, (W.cell? ⟨b, o + 5, none⟩).getD undef, (W.cell? ⟨b, o + 6, none⟩).getD undef, (W.cell? ⟨b, o + 7, none⟩).getD undef, (W.cell? ⟨b, o + 8, none⟩).getD undef, (W.cell? ⟨b, o + 9, none⟩).getD undef, (W.cell? ⟨b, o + 10, none⟩).getD undef, (W.cell? ⟨b, o + 11, none⟩).getD undef, (W.cell? ⟨b, o + 12, none⟩).getD undef, (W.cell? ⟨b, o + 13, none⟩).getD undef, (W.cell? ⟨b, o + 14, none⟩).getD undef, (W.cell? ⟨b, o + 15, none⟩).getD undef]
  | _ => []
def chainOk (W : World) : Value → Bool
  | .pointer (some ⟨b, o, none⟩) => (W.cell? ⟨b, o + 0, none⟩).isSome && (W.cell? ⟨b, o + 1, none⟩).isSome && (W.cell? ⟨b, o + 2, none⟩).isSome && (W.cell? ⟨b, o + 3, none⟩).isSome && (W.cell? ⟨b, o + 4, none⟩).isSome && (W.cell? ⟨b, o + 5, none⟩).isSome && (W.cell? ⟨b, o + 6, none⟩).isSome && (W.cell? ⟨b, o + 7, none⟩).isSome && (W.cell? ⟨b, o + 8, none⟩).isSome && (W.cell? ⟨b, o + 9, none⟩).isSome && (W.cell? ⟨b, o + 10, none⟩).isSome && (W.cell? ⟨b, o + 11, none⟩).isSome && (W.cell? ⟨b, o + 12, none⟩).isSome && (W.cell? ⟨b, o + 13, none⟩).isSome && (W.cell? ⟨b, o + 14, none⟩).isSome && (W.cell? ⟨b, o + 15, none⟩).isSome
  | _ => false
theorem chainAt_ptr (W : World) (b o : Nat) : chainAt W (.pointer (some ⟨b, o, none⟩)) = [(W.cell? ⟨b, o + 0, none⟩).getD undef, (W.cell? ⟨b, o + 1, none⟩).getD undef, (W.cell? ⟨b, o + 2, none⟩).getD undef, (W.cell? ⟨b, o + 3, none⟩).getD undef, (W.cell? ⟨b, o + 4, none⟩).getD undef, (W.cell? ⟨b, o + 5, none⟩).getD undef, (W.cell? ⟨b, o + 6, none⟩).getD undef, (W.cell? ⟨b, o + 7, none⟩).getD undef, (W.cell? ⟨b, o + 8, none⟩).getD undef, (W.cell? ⟨b, o + 9, none⟩).getD undef, (W.cell? ⟨b, o + 10, none⟩).getD undef, (W.cell? ⟨b, o + 11, none⟩).getD undef, (W.cell? ⟨b, o + 12, none⟩).getD undef, (W.cell? ⟨b, o + 13, none⟩).getD undef, (W.cell? ⟨b, o + 14, none⟩).getD undef, (W.cell? ⟨b, o + 15, none⟩).getD undef] := rfl
theorem chainOk_ptr (W : World) (b o : Nat) : chainOk W (.pointer (some ⟨b, o, none⟩)) = ((W.cell? ⟨b, o + 0, none⟩).isSome && (W.cell? ⟨b, o + 1, none⟩).isSome && (W.cell? ⟨b, o + 2, none⟩).isSome && (W.cell? ⟨b, o + 3, none⟩).isSome && (W.cell? ⟨b, o + 4, none⟩).isSome && (W.cell? ⟨b, o + 5, none⟩).isSome && (W.cell? ⟨b, o + 6, none⟩).isSome && (W.cell? ⟨b, o + 7, none⟩).isSome && (W.cell? ⟨b, o + 8, none⟩).isSome && (W.cell? ⟨b, o + 9, none⟩).isSome && (W.cell? ⟨b, o + 10, none⟩).isSome && (W.cell? ⟨b, o + 11, none⟩).isSome && (W.cell? ⟨b, o + 12, none⟩).isSome && (W.cell? ⟨b, o + 13, none⟩).isSome && (W.cell? ⟨b, o + 14, none⟩).isSome && (W.cell? ⟨b, o + 15, none⟩).isSome) := rfl
theorem chain_range (W : World) (b o : Nat) (h : chainOk W (.pointer (some ⟨b, o, none⟩)) = true) : W.rangeAt b o (chainAt W (.pointer (some ⟨b, o, none⟩))) := by
  rw [chainOk_ptr] at h
  simp only [Bool.and_eq_true, Option.isSome_iff_exists] at h
  obtain ⟨⟨⟨⟨⟨⟨⟨⟨⟨⟨⟨⟨⟨⟨⟨⟨v0, h0⟩, ⟨v1, h1⟩⟩, ⟨v2, h2⟩⟩, ⟨v3, h3⟩⟩, ⟨v4, h4⟩⟩, ⟨v5, h5⟩⟩, ⟨v6, h6⟩⟩, ⟨v7, h7⟩⟩, ⟨v8, h8⟩⟩, ⟨v9, h9⟩⟩, ⟨v10, h10⟩⟩, ⟨v11, h11⟩⟩, ⟨v12, h12⟩⟩, ⟨v13, h13⟩⟩, ⟨v14, h14⟩⟩, ⟨v15, h15⟩⟩ := h
  rw [chainAt_ptr, h0, h1, h2, h3, h4, h5, h6, h7, h8, h9, h10, h11, h12, h13, h14, h15]
  intro j v hv
  have hj : j = 0 ∨ j = 1 ∨ j = 2 ∨ j = 3 ∨ j = 4 ∨ j = 5 ∨ j = 6 ∨ j = 7 ∨ j = 8 ∨ j = 9 ∨ j = 10 ∨ j = 11 ∨ j = 12 ∨ j = 13 ∨ j = 14 ∨ j = 15 := by
    rcases Nat.lt_or_ge j 16 with h | h
    · omega
    · rw [List.getElem?_eq_none (by simpa using h)] at hv; cases hv
  rcases hj with rfl | rfl | rfl | rfl | rfl | rfl | rfl | rfl | rfl | rfl | rfl | rfl | rfl | rfl | rfl | rfl <;> (cases hv; assumption)
/-- at the operation: for the walk's simp -/
theorem wp_load_chain (W : World) (a : Act) (K : Act → World → Prop) (Q : Exit → Act → World → Prop) (x : Operand) (d : Tmp) (ty : TypeId) (pos : String) (af)
    (hx : chainOk W (a.eval x) = true) :
    Oper.wp Tryd.prog { dst := some d, op := .load 132 x, type := ty, pos := pos, after := af, guard := none } a W K Q = K (a.put (some d) (.agg (chainAt W (a.eval x)).toArray)) W := by
  obtain ⟨b, o, hv⟩ : ∃ b o, a.eval x = .pointer (some ⟨b, o, none⟩) := by
    cases hv : a.eval x <;> rw [hv] at hx <;> try (simp only [chainOk, Bool.false_eq_true] at hx)
    rename_i p
    cases p with
    | none => simp only [Bool.false_eq_true] at hx
    | some p =>
      obtain ⟨b, o, s⟩ := p
      cases s with
      | none => exact ⟨b, o, rfl⟩
      | some s => simp only [Bool.false_eq_true] at hx
  rw [hv] at hx ⊢
  have hl : (chainAt W (.pointer (some ⟨b, o, none⟩))).length = 16 := rfl
  have hi : (Tryd.prog.info? 132).map (·.size) = some 16 := by kernel_rfl
  have h := run_loadAt_mid (P := Tryd.prog) W b o 132 (chainAt W (.pointer (some ⟨b, o, none⟩))) _ (chain_range W b o hx) Tryd.underlying132 rfl (by rw [hi, hl])
  have e : (execOp a.eval { dst := some d, op := .load 132 x, type := ty, pos := pos, after := af, guard := none }).run Tryd.prog W = .ok (.value (.agg (chainAt W (.pointer (some ⟨b, o, none⟩))).toArray)) W := by
    unfold execOp
    simp only [hv, Sem.run_bind, h, Result.andThen_ok, Sem.run_pure]
  unfold Oper.wp
  rw [e]
  rfl
end Go.Proofs.YtjcmgpiapbeodaaDoor.Sha
