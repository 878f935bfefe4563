/-
  The walk of Write for kind 256. The walk of Write for kind 512.
-/
import Derived.Test.YtjcmgpiapbeodaaDoorApp
import Derived.Test.YtjcmgpiapbeodaaDoorMix64
namespace Go.Proofs.YtjcmgpiapbeodaaDoor.Sha.W32
open Go.RowKit Go.Proofs.YtjcmgpiapbeodaaDoor.Mem Go.Proofs.YtjcmgpiapbeodaaDoorW.PrintWords
set_option maxHeartbeats 4000000 in
set_option maxRecDepth 100000 in
theorem write_none (b cnt : Nat) (c : Chain) (rv : Value) (p : List Int) (bs os cp : Nat) (hcp : p.length ≤ cp) (hmax : cnt + p.length ≤ maxCount) (w : World) (hL : Laid w) (hD : Dg w b rv ⟨false, cnt, c, []⟩)
    (hX : Reads w bs os p) (hne : bs ≠ b) :
    Calls Tryd.prog 39 #[.pointer (some ⟨b, 0, none⟩), .slice (some ⟨bs, os, none⟩) p.length cp] w fun e w' =>
      ∃ r rv', e = .returned r ∧ Dg w' b rv' ((St.mk false cnt c []).write p) ∧ Heir w rv' rv ∧ Fr (dfoot b rv) w w' := by
  obtain ⟨A, cr, hrv, _⟩ := own_shape hD.rest
  simp only [List.length_nil] at hrv
  subst hrv
  have h0 := hD.blk.cell 0 _ rfl
  have h1 := hD.blk.cell 1 _ rfl
  have h18 := hD.blk.cell 18 (.slice A 0 cr) rfl
  have hf1 := hD.blk.free 1
  have HB := block_calls b false w h0
  have HD := Kp.mk hD
  have HL := Kp.mk hL
  have HX := Kp.mk hX
  clear hD hL hX
  simp only [kind, blk] at h0 h1 HB
  have hmax' := hmax
  unfold maxCount at hmax'
  have hdec : decide ((2305843009213693951 : Int) - (cnt : Int) < (p.length : Int)) = false := decide_eq_false (by omega)
  go_enter Tryd.func39, Tryd.ntmps39
  go_wp2_with (first | (go_at_call 66; (with_reducible refine HB.mono ?_); rintro e w' ⟨rfl, rfl⟩))
  have HD1 : Kp (Blk (w'.setCell ⟨b, 1, none⟩ (.int .i64 ((cnt : Int) + (p.length : Int)))) b 135 (dcells false (cnt + p.length) c (.slice A 0 cr))) := ⟨by
    rw [← dcells_set1 false cnt (cnt + p.length)]; exact HD.out.blk.set 1 _⟩
  have HF1 : Kp (Fr (fun k => k = b) w' (w'.setCell ⟨b, 1, none⟩ (.int .i64 ((cnt : Int) + (p.length : Int))))) := ⟨Fr.set (S := fun k => k = b) (a := ⟨b, 1, none⟩) (Fr.refl _ _) (fun _ => rfl) _⟩
  have HL1 := Kp.mk (HL.out.fr HF1.out (fun k hk => hk ▸ HD.out.low))
  have HX1 := Kp.mk (HX.out.fr HF1.out hne)
  have HOW : Kp ((w'.setCell ⟨b, 1, none⟩ (.int .i64 ((cnt : Int) + (p.length : Int)))).ownsRow low 5 1 (.slice A 0 cr) 0 (bytes [])) := ⟨own_keep HD.out.rest HF1.out (fun k hk e => own_ne HD.out.rest hk HD.out.blk (by decide) e)⟩
  clear h0 h1 h18 hf1 HB
  have HF5 : Kp (Fr (dfoot b (.slice A 0 cr)) w' (w'.setCell ⟨b, 1, none⟩ (.int .i64 ((cnt : Int) + (p.length : Int))))) := ⟨HF1.out.mono (fun k _ h => .inl h)⟩
  have HLow := Kp.mk HD.out.low
  clear HF1
  generalize w'.setCell ⟨b, 1, none⟩ (.int .i64 ((cnt : Int) + (p.length : Int))) = W5 at HD1 HF5 HL1 HX1 HOW ⊢
  have HS5 : Kp (Heir w' (.slice A 0 cr) (.slice A 0 cr)) := ⟨Heir.refl _ _⟩
  have H5 : Kp ((0 < p.length → os = os + 64 * 0) ∧ p.length = p.length - 64 * 0 ∧ p.length ≤ cp) := ⟨fun _ => rfl, rfl, hcp⟩
  have HST : Kp (∀ j, p.length / 64 = j → (St.mk false cnt c []).write p = ⟨false, cnt + p.length, runC false c p j, p.drop (64 * j)⟩) := ⟨fun j hjn => by
    unfold St.write
    rw [if_pos hmax]
    show absorb ⟨false, cnt, c, []⟩ p (cnt + p.length) = _
    unfold absorb
    simp only [blk, hjn]⟩
  go_loopw [1] (fun s1 wr => ∃ o n m : Nat, s1 = .slice (some ⟨bs, o, none⟩) n m ∧ Kp (∃ j, 64 * j ≤ p.length ∧ (0 < n → o = os + 64 * j) ∧ n = p.length - 64 * j ∧ n ≤ m ∧ Blk wr b 135 (dcells false (cnt + p.length) (runC false c p j) (.slice A 0 cr))) ∧ Kp (Fr (fun k => k = b) W5 wr)) (fun s1 _ => lenOf s1)
  case atStart => exact ⟨os, p.length, cp, rfl, ⟨0, Nat.zero_le _, H5.out.1, H5.out.2.1, H5.out.2.2, HD1.out⟩, ⟨Fr.refl _ _⟩⟩
  case round =>
    obtain ⟨o, n, m, rfl, HJ, HF⟩ := hrel
    obtain ⟨j, hj, ho, hn, hnm, hB⟩ := HJ.out
    have HBk := Kp.mk hB
    have hL1 := HL1.out.fr HF.out (fun k hk => hk ▸ HLow.out)
    have hX1 := HX1.out.fr HF.out hne
    have HL1 := Kp.mk hL1
    have HO := Kp.mk ho
    have HX1 := Kp.mk hX1
    have HN := Kp.mk hn
    have HJJ := Kp.mk hj
    clear HJ hB hL1 hX1 ho hn hj
    by_cases hlt : 64 ≤ n
    · have hlen : ((p.drop (64 * j)).take 64).length = 64 := by
        have := HN.out
        simp; omega
      have hm64 : 64 ≤ m := by omega
      have hmix := Kp.mk (M32.mix_calls b (cnt + p.length) (runC false c p j) (.slice A 0 cr) bs o 64 m ((p.drop (64 * j)).take 64) hlen (Nat.le_refl _) (by omega) wr HL1.out HBk.out (by rw [HO.out (by omega)]; exact (HX1.out.drop _).take _))
      go_wp2_with fail
      refine hmix.out.mono ?_
      rintro e w2 ⟨r2, rfl, hB2, hF2⟩
      have HB2 := Kp.mk hB2
      have HF2 := Kp.mk (HF.out.trans hF2 (fun _ _ h => h))
      clear hB2 hF2 hmix
      by_cases hme : m = 64
      · subst hme
        obtain rfl : n = 64 := by omega
        go_wp2
        go_roundw
        case rel => exact ⟨o, 0, 0, rfl, ⟨j + 1, by have := HN.out; omega, fun h => absurd h (Nat.lt_irrefl _), by have := HN.out; omega, Nat.le_refl _, HB2.out⟩, HF2⟩
        case measure => simp [lenOf] <;> omega
      · go_wp2
        go_roundw
        case rel => exact ⟨o + 64, n - 64, m - 64, rfl, ⟨j + 1, by have := HN.out; omega, fun h => by have := HO.out; omega, by have := HN.out; omega, by omega, HB2.out⟩, HF2⟩
        case measure => simp [lenOf] <;> omega
    · obtain ⟨q2, hq2⟩ : ∃ q2, q2 = p.drop (64 * j) := ⟨_, rfl⟩
      have HQ2 := Kp.mk hq2
      have hdl : Kp (n = q2.length) := ⟨by rw [hq2, List.length_drop]; exact HN.out⟩
      have hown : wr.ownsRow low 5 1 (.slice A 0 cr) ([] : List Int).length (bytes []) := own_keep HOW.out HF.out (fun k hk e => own_ne HOW.out hk HD1.out (by decide) e)
      have h18 := HBk.out.cell 18 (.slice A 0 cr) rfl
      have HOW := Kp.mk hown
      have hrd : Kp (Reads wr bs o q2) := ⟨by
        rcases Nat.eq_zero_or_pos n with h | h
        · exact ⟨HX1.out.1, fun i hi => by rw [← hdl.out, h] at hi; omega⟩
        · rw [HO.out h, hq2]; exact HX1.out.drop _⟩
      clear hown hq2
      go_wp2_with (at_builtin; refine wpList_appendB rfl _ _ rfl rfl low _ [] rfl HOW.out bs o n _ q2 hdl.out rfl hrd.out (by rw [← hdl.out]; simp only [List.length_nil]; omega) HL1.out.size ?_; intro v2 w2 hown2 hgr hat; have hF3 := hgr.cell_far ⟨b, 18, none⟩ HBk.out.lt (fun e => own_ne HOW.out e.symm HBk.out (by decide) rfl); rw [h18] at hF3; have hz3 := hgr.frozen_far ⟨b, 18, none⟩ HBk.out.lt (fun e => own_ne HOW.out e.symm HBk.out (by decide) rfl); rw [HBk.out.free 18] at hz3; obtain ⟨A9, c9, hv2, hc9⟩ := own_shape hown2; subst hv2; have HO2 := Kp.mk hown2; have HG := Kp.mk hgr; have HT := Kp.mk hat; clear hown2 hgr hat)
      go_end0
      have hB2 : Blk w2 b 135 (dcells false (cnt + p.length) (runC false c p j) (.slice A 0 cr)) := (HG.out.block b HBk.out.lt (fun e => own_ne HOW.out e.symm HBk.out (by decide) rfl)).trans HBk.out
      have hjn : p.length / 64 = j := by have := HN.out; have := HJJ.out; omega
      have hst := HST.out j hjn
      rw [← HQ2.out] at hst
      rw [hst]
      simp only [List.nil_append] at HO2 HT
      first | refine ⟨_, .slice A9 q2.length c9, rfl, ⟨?_, ?_, HLow.out⟩, ?_, ?_⟩ | refine ⟨⟨_, rfl⟩, .slice A9 q2.length c9, ⟨?_, ?_, HLow.out⟩, ?_, ?_⟩
      · rw [← dcells_set18 false _ _ (.slice A 0 cr)]
        exact hB2.set 18 _
      · exact own_keep HO2.out (Fr.set (S := fun k => k = b) (a := ⟨b, 18, none⟩) (Fr.refl _ _) (fun _ => rfl) _) (fun k hk e => own_ne HO2.out hk hB2 (by decide) e)
      · exact (Heir.of HT.out).trans HS5.out (Nat.le_trans HF5.out.size HF.out.size)
      · exact Fr.set (Fr.grown (HF5.out.trans HF.out (fun k _ h => .inl h)) HG.out (fun k hk h => .inr (HS5.out.not_old h hk))) (a := ⟨b, 18, none⟩) (fun _ => .inl rfl) _
set_option maxHeartbeats 4000000 in
set_option maxRecDepth 100000 in
theorem write_short (b cnt : Nat) (c : Chain) (rv : Value) (rs p : List Int) (hrs : 0 < rs.length) (hsh : rs.length + p.length < 64) (bs os cp : Nat) (hcp : p.length ≤ cp) (hmax : cnt + p.length ≤ maxCount) (w : World) (hL : Laid w) (hD : Dg w b rv ⟨false, cnt, c, rs⟩)
    (hX : Reads w bs os p) (hne : bs ≠ b) :
    Calls Tryd.prog 39 #[.pointer (some ⟨b, 0, none⟩), .slice (some ⟨bs, os, none⟩) p.length cp] w fun e w' =>
      ∃ r rv', e = .returned r ∧ Dg w' b rv' ((St.mk false cnt c rs).write p) ∧ Heir w rv' rv ∧ Fr (dfoot b rv) w w' := by
  obtain ⟨A, cr, hrv, _⟩ := own_shape hD.rest
  simp only at hrv
  subst hrv
  have h0 := hD.blk.cell 0 _ rfl
  have h1 := hD.blk.cell 1 _ rfl
  have h18 := hD.blk.cell 18 (.slice A rs.length cr) rfl
  have hf1 := hD.blk.free 1
  have hf18 := hD.blk.free 18
  have HB := block_calls b false w h0
  have HD := Kp.mk hD
  have HL := Kp.mk hL
  have HX := Kp.mk hX
  clear hD hL hX
  simp only [kind, blk] at h0 h1 HB
  have hmax' := hmax
  unfold maxCount at hmax'
  have hdec : decide ((2305843009213693951 : Int) - (cnt : Int) < (p.length : Int)) = false := decide_eq_false (by omega)
  go_enter Tryd.func39, Tryd.ntmps39
  go_wp2_with (first | (go_at_call 66; (with_reducible refine HB.mono ?_); rintro e w' ⟨rfl, rfl⟩))
  have HD1 : Kp (Blk (w'.setCell ⟨b, 1, none⟩ (.int .i64 ((cnt : Int) + (p.length : Int)))) b 135 (dcells false (cnt + p.length) c (.slice A rs.length cr))) := ⟨by
    rw [← dcells_set1 false cnt (cnt + p.length)]; exact HD.out.blk.set 1 _⟩
  have HF1 : Kp (Fr (fun k => k = b) w' (w'.setCell ⟨b, 1, none⟩ (.int .i64 ((cnt : Int) + (p.length : Int))))) := ⟨Fr.set (S := fun k => k = b) (a := ⟨b, 1, none⟩) (Fr.refl _ _) (fun _ => rfl) _⟩
  have HL1 := Kp.mk (HL.out.fr HF1.out (fun k hk => hk ▸ HD.out.low))
  have HX1 := Kp.mk (HX.out.fr HF1.out hne)
  have HOW : Kp ((w'.setCell ⟨b, 1, none⟩ (.int .i64 ((cnt : Int) + (p.length : Int)))).ownsRow low 5 1 (.slice A rs.length cr) rs.length (bytes rs)) := ⟨own_keep HD.out.rest HF1.out (fun k hk e => own_ne HD.out.rest hk HD.out.blk (by decide) e)⟩
  clear h0 h1 h18 hf1 hf18 HB
  generalize w'.setCell ⟨b, 1, none⟩ (.int .i64 ((cnt : Int) + (p.length : Int))) = W1 at HD1 HF1 HL1 HX1 HOW ⊢
  have h18 := HD1.out.cell 18 (.slice A rs.length cr) rfl
  have hf18 := HD1.out.free 18
  have hlb := Kp.mk HD1.out.lt
  go_region_law ((refine step_appendB (by rfl) _ _ (by rfl) (by rfl) low (.slice A rs.length cr) rs (by rfl) (by exact HOW.out) bs os p.length _ p rfl (by rfl) (by exact HX1.out) (by omega) (by exact HL1.out.size) ?_; intro v2 w2 hown2 hgr hat; have hF3 : w2.cell? ⟨b, 18, none⟩ = some (.slice A rs.length cr) := (hgr.cell_far ⟨b, 18, none⟩ hlb.out (fun e => own_ne HOW.out e.symm HD1.out (by decide) rfl)).trans h18; have hz3 : w2.frozen? ⟨b, 18, none⟩ = false := (hgr.frozen_far ⟨b, 18, none⟩ hlb.out (fun e => own_ne HOW.out e.symm HD1.out (by decide) rfl)).trans hf18; obtain ⟨A2, c2, hv2, hc2⟩ := own_shape hown2; subst hv2; have HO2 := Kp.mk hown2; have HG := Kp.mk hgr; have HT := Kp.mk hat; clear hown2 hgr hat))
  have hB2 : Kp (Blk w2 b 135 (dcells false (cnt + p.length) c (.slice A rs.length cr))) := ⟨(HG.out.block b hlb.out (fun e => own_ne HOW.out e.symm HD1.out (by decide) rfl)).trans HD1.out⟩
  by_cases hcpe : cp = p.length
  all_goals
    go_wp2
    (try simp only [Exit.inBlock, Exit.then])
    refine bodyPost_ret (results_none rfl _ _ _) rfl ?_
    have hst : (St.mk false cnt c rs).write p = ⟨false, cnt + p.length, c, rs ++ p⟩ := by
      unfold St.write
      rw [if_pos hmax]
      unfold absorb
      have hz : (rs ++ p).length / 64 = 0 := by rw [List.length_append]; omega
      simp only [blk, hz, runC, Nat.mul_zero, List.drop_zero]
    rw [hst]
    simp only [List.length_append] at HO2 HT
    refine ⟨_, .slice A2 (rs.length + p.length) c2, rfl, ⟨?_, ?_, HD.out.low⟩, ?_, ?_⟩
    · rw [← dcells_set18 false _ _ (.slice A rs.length cr)]
      exact hB2.out.set 18 _
    · show World.ownsRow _ low _ 1 _ (rs ++ p).length (bytes (rs ++ p))
      rw [List.length_append]
      exact own_keep HO2.out (Fr.set (S := fun k => k = b) (a := ⟨b, 18, none⟩) (Fr.refl _ _) (fun _ => rfl) _) (fun k hk e => own_ne HO2.out hk hB2.out (by decide) e)
    · exact (Heir.of HT.out).trans (Heir.refl w' _) HF1.out.size
    · exact Fr.set (Fr.grown (HF1.out.drew.mono (fun k _ h => .inl h)) HG.out (fun k _ h => .inr h)) (a := ⟨b, 18, none⟩) (fun _ => .inl rfl) _
set_option maxHeartbeats 4000000 in
set_option maxRecDepth 100000 in
theorem write_long (b cnt : Nat) (c : Chain) (rv : Value) (rs p : List Int) (k : Nat) (hrs : 0 < rs.length) (hk0 : 0 < k) (hk : rs.length + k = 64) (hkp : k ≤ p.length) (bs os cp : Nat) (hcp : p.length ≤ cp) (hmax : cnt + p.length ≤ maxCount) (w : World) (hL : Laid w) (hD : Dg w b rv ⟨false, cnt, c, rs⟩)
    (hX : Reads w bs os p) (hne : bs ≠ b) (hnr : rv.ownBlock ≠ some bs) :
    Calls Tryd.prog 39 #[.pointer (some ⟨b, 0, none⟩), .slice (some ⟨bs, os, none⟩) p.length cp] w fun e w' =>
      ∃ r rv', e = .returned r ∧ Dg w' b rv' ((St.mk false cnt c rs).write p) ∧ Heir w rv' rv ∧ Fr (dfoot b rv) w w' := by
  obtain ⟨A, cr, hrv, _⟩ := own_shape hD.rest
  simp only at hrv
  subst hrv
  have hkcp : k ≤ cp := Nat.le_trans hkp hcp
  have hki : (64 : Int) - (rs.length : Int) = (k : Int) := by omega
  have hpt : (p.take k).length = k := by simp; omega
  have HPT := Kp.mk hpt
  clear hpt
  have h0 := hD.blk.cell 0 _ rfl
  have h1 := hD.blk.cell 1 _ rfl
  have h18 := hD.blk.cell 18 (.slice A rs.length cr) rfl
  have hf1 := hD.blk.free 1
  have HB := block_calls b false w h0
  have HD := Kp.mk hD
  have HL := Kp.mk hL
  have HX := Kp.mk hX
  clear hD hL hX
  simp only [kind, blk] at h0 h1 HB
  have hmax' := hmax
  unfold maxCount at hmax'
  have hdec : decide ((2305843009213693951 : Int) - (cnt : Int) < (p.length : Int)) = false := decide_eq_false (by omega)
  go_enter Tryd.func39, Tryd.ntmps39
  go_wp2_with (first | (go_at_call 66; (with_reducible refine HB.mono ?_); rintro e w' ⟨rfl, rfl⟩))
  have HD1 : Kp (Blk (w'.setCell ⟨b, 1, none⟩ (.int .i64 ((cnt : Int) + (p.length : Int)))) b 135 (dcells false (cnt + p.length) c (.slice A rs.length cr))) := ⟨by
    rw [← dcells_set1 false cnt (cnt + p.length)]; exact HD.out.blk.set 1 _⟩
  have HF1 : Kp (Fr (fun k => k = b) w' (w'.setCell ⟨b, 1, none⟩ (.int .i64 ((cnt : Int) + (p.length : Int))))) := ⟨Fr.set (S := fun k => k = b) (a := ⟨b, 1, none⟩) (Fr.refl _ _) (fun _ => rfl) _⟩
  have HL1 := Kp.mk (HL.out.fr HF1.out (fun k hk => hk ▸ HD.out.low))
  have HX1 := Kp.mk (HX.out.fr HF1.out hne)
  have HOW : Kp ((w'.setCell ⟨b, 1, none⟩ (.int .i64 ((cnt : Int) + (p.length : Int)))).ownsRow low 5 1 (.slice A rs.length cr) rs.length (bytes rs)) := ⟨own_keep HD.out.rest HF1.out (fun k hk e => own_ne HD.out.rest hk HD.out.blk (by decide) e)⟩
  clear h0 h1 h18 hf1 HB
  generalize w'.setCell ⟨b, 1, none⟩ (.int .i64 ((cnt : Int) + (p.length : Int))) = W1 at HD1 HF1 HL1 HX1 HOW ⊢
  have h18 := HD1.out.cell 18 (.slice A rs.length cr) rfl
  have hf18 := HD1.out.free 18
  have hlb := Kp.mk HD1.out.lt
  go_region_law ((refine step_appendB (by rfl) _ _ (by rfl) (by rfl) low (.slice A rs.length cr) rs (by rfl) (by exact HOW.out) bs os k _ (p.take k) HPT.out.symm (by rfl) (by exact HX1.out.take k) (by rw [HPT.out]; omega) (by exact HL1.out.size) ?_; intro v2 w2 hown2 hgr hat; have hF3 : w2.cell? ⟨b, 18, none⟩ = some (.slice A rs.length cr) := (hgr.cell_far ⟨b, 18, none⟩ hlb.out (fun e => own_ne HOW.out e.symm HD1.out (by decide) rfl)).trans h18; have hz3 : w2.frozen? ⟨b, 18, none⟩ = false := (hgr.frozen_far ⟨b, 18, none⟩ hlb.out (fun e => own_ne HOW.out e.symm HD1.out (by decide) rfl)).trans hf18; obtain ⟨g, c2, hv2, hgl, hgt, hc2, hrd2⟩ := own_form hown2 (by rw [List.length_append, HPT.out]; omega); subst hv2; have HO2 := Kp.mk hown2; have HG := Kp.mk hgr; have HT := Kp.mk hat; have HR2 := Kp.mk hrd2; have HGT := Kp.mk hgt; clear hown2 hgr hat hrd2 hgt))
  have hB2 : Kp (Blk w2 b 135 (dcells false (cnt + p.length) c (.slice A rs.length cr))) := ⟨(HG.out.block b hlb.out (fun e => own_ne HOW.out e.symm HD1.out (by decide) rfl)).trans HD1.out⟩
  have hlen2 : (rs ++ p.take k).length = 64 := by rw [List.length_append, HPT.out]; exact hk
  rw [hlen2] at HO2 hc2
  have hgb : Kp (g ≠ b) := ⟨own_ne HO2.out rfl hB2.out (by decide)⟩
  have hB3 : Kp (Blk (w2.setCell ⟨b, 18, none⟩ (.slice (some ⟨g, 0, none⟩) 64 c2)) b 135 (dcells false (cnt + p.length) c (.slice (some ⟨g, 0, none⟩) 64 c2))) := ⟨by
    rw [← dcells_set18 false _ _ (.slice A rs.length cr)]; exact hB2.out.set 18 _⟩
  have hF3 : Kp (Fr (fun k => k = b) w2 (w2.setCell ⟨b, 18, none⟩ (.slice (some ⟨g, 0, none⟩) 64 c2))) := ⟨Fr.set (S := fun k => k = b) (a := ⟨b, 18, none⟩) (Fr.refl _ _) (fun _ => rfl) _⟩
  have HFW2 : Kp (Fr (dfoot b (.slice A rs.length cr)) W1 w2) := ⟨Fr.grown ((Fr.refl (dfoot b (.slice A rs.length cr)) W1).drew) HG.out (fun k _ h => .inr h)⟩
  have hlowA : ∀ k, dfoot b (.slice A rs.length cr) k → low ≤ k := fun k h => h.elim (fun e => e ▸ HD.out.low) (fun e => (own_lt HOW.out e).2)
  have HL2 := Kp.mk (HL1.out.fr HFW2.out hlowA)
  have HX2 := Kp.mk (HX1.out.fr HFW2.out (fun h => h.elim hne hnr))
  have HL3 := Kp.mk (HL2.out.fr hF3.out (fun k hk => hk ▸ HD.out.low))
  have HX3 := Kp.mk (HX2.out.fr hF3.out hne)
  have HR3 := Kp.mk (HR2.out.fr hF3.out hgb.out)
  have HO3 : Kp ((w2.setCell ⟨b, 18, none⟩ (.slice (some ⟨g, 0, none⟩) 64 c2)).ownsRow low 5 1 (.slice (some ⟨g, 0, none⟩) 64 c2) 64 (bytes (rs ++ p.take k))) := ⟨own_keep HO2.out hF3.out (fun k hk e => own_ne HO2.out hk hB2.out (by decide) e)⟩
  have HFW : Kp (Fr (dfoot b (.slice A rs.length cr)) w' (w2.setCell ⟨b, 18, none⟩ (.slice (some ⟨g, 0, none⟩) 64 c2))) := ⟨((HF1.out.mono (fun k _ h => .inl h)).trans HFW2.out (fun _ _ h => h)).trans hF3.out (fun _ _ h => .inl h)⟩
  have HS5 : Kp (Heir w' (.slice (some ⟨g, 0, none⟩) 0 c2) (.slice A rs.length cr)) := ⟨(Heir.of HT.out).trans (Heir.refl w' _) HF1.out.size⟩
  have HLow := Kp.mk HD.out.low
  have HP5 : Kp (∀ j, (p.drop k).length / 64 = j → (St.mk false cnt c rs).write p = ⟨false, cnt + p.length, runC false (mixC false c (rs ++ p.take k)) (p.drop k) j, (p.drop k).drop (64 * j)⟩) := ⟨fun j hjn => by
    have e1 : rs ++ p = (rs ++ p.take k) ++ p.drop k := by rw [List.append_assoc, List.take_append_drop]
    have hl : (rs ++ p).length = 64 + (p.drop k).length := by rw [e1, List.length_append, hlen2]
    have e2 : (rs ++ p).length / 64 = 1 + j := by rw [hl, ← hjn]; omega
    unfold St.write
    rw [if_pos hmax]
    unfold absorb
    simp only [blk, e2]
    have e3 : (rs ++ p).drop (64 * 1) = p.drop k := by rw [e1, List.drop_append_of_le_length (by rw [hlen2]; exact Nat.le_refl _), List.drop_eq_nil_of_le (by rw [hlen2]; exact Nat.le_refl _)]; rfl
    have e4 : runC false c (rs ++ p) 1 = mixC false c (rs ++ p.take k) := by
      show mixC false c (((rs ++ p).drop (64 * 0)).take 64) = _
      rw [Nat.mul_zero, List.drop_zero, e1, List.take_append_of_le_length (by rw [hlen2]; exact Nat.le_refl _), List.take_of_length_le (by rw [hlen2]; exact Nat.le_refl _)]
    have e5 := runC_add false c (rs ++ p) 1 j
    rw [e4] at e5
    have e6 : (rs ++ p).drop (64 * (1 + j)) = (p.drop k).drop (64 * j) := by rw [Nat.mul_add, ← List.drop_drop, e3]
    rw [e5, e6]
    show (St.mk false _ (runC false _ ((rs ++ p).drop (64 * 1)) j) _) = _
    rw [e3]⟩
  have HQ : Kp ((p.drop k).length = p.length - k) := ⟨List.length_drop⟩
  have hkk := HL3.out.size
  clear hkk
  have HQX := Kp.mk (HX3.out.drop k)
  have HL2n := Kp.mk hlen2
  generalize hW3 : w2.setCell ⟨b, 18, none⟩ (.slice (some ⟨g, 0, none⟩) 64 c2) = W3 at hB3 hF3 HL3 HX3 HR3 HO3 HFW HQX ⊢
  clear hW3 HFW2 hlowA HL2 HX2 HR2 HO2 hB2 hF3 HX1 HL1 HOW HD1 HF1 HT HG hlb h18 hf18 hlen2 HL HX
  have h18 := hB3.out.cell 18 (.slice (some ⟨g, 0, none⟩) 64 c2) rfl
  have hmix := Kp.mk (M32.mix_calls b (cnt + p.length) c (.slice (some ⟨g, 0, none⟩) 64 c2) g 0 64 c2 (rs ++ p.take k) HL2n.out (Nat.le_refl _) hc2 W3 HL3.out hB3.out HR3.out)
  by_cases hme : cp = k
  · have hkp' : p.length = k := by omega
    go_wp2_with fail
    refine hmix.out.mono ?_
    rintro e w4 ⟨r4, rfl, hB4, hF4⟩
    have HB4 := Kp.mk hB4
    have HF4 := Kp.mk hF4
    clear hB4 hF4 hmix h18
    have h18 := HB4.out.cell 18 (.slice (some ⟨g, 0, none⟩) 64 c2) rfl
    have hf18 := HB4.out.free 18
    go_wp2
    have HD5 : Kp (Blk (w4.setCell ⟨b, 18, none⟩ (.slice (some ⟨g, 0, none⟩) 0 c2)) b 135 (dcells false (cnt + p.length) (runC false (mixC false c (rs ++ p.take k)) (p.drop k) 0) (.slice (some ⟨g, 0, none⟩) 0 c2))) := ⟨by
      rw [← dcells_set18 false _ _ (.slice (some ⟨g, 0, none⟩) 64 c2)]; exact HB4.out.set 18 _⟩
    have HF45 : Kp (Fr (fun k => k = b) W3 (w4.setCell ⟨b, 18, none⟩ (.slice (some ⟨g, 0, none⟩) 0 c2))) := ⟨HF4.out.set (a := ⟨b, 18, none⟩) (fun _ => rfl) _⟩
    have HF5 : Kp (Fr (dfoot b (.slice A rs.length cr)) w' (w4.setCell ⟨b, 18, none⟩ (.slice (some ⟨g, 0, none⟩) 0 c2))) := ⟨HFW.out.trans HF45.out (fun _ _ h => .inl h)⟩
    have HL5 := Kp.mk (HL3.out.fr HF45.out (fun k hk => hk ▸ HLow.out))
    have HX5 := Kp.mk (HQX.out.fr HF45.out hne)
    have HOW5 : Kp ((w4.setCell ⟨b, 18, none⟩ (.slice (some ⟨g, 0, none⟩) 0 c2)).ownsRow low 5 1 (.slice (some ⟨g, 0, none⟩) 0 c2) 0 []) := ⟨own_keep (own_cut HO3.out) HF45.out (fun k hk e => hgb.out ((Option.some.inj hk).trans e))⟩
    have H5 : Kp ((0 < 0 → os = (os + k) + 64 * 0) ∧ 0 = (p.drop k).length - 64 * 0 ∧ 0 ≤ 0) := ⟨by rw [HQ.out]; refine ⟨fun h => ?_, ?_, ?_⟩ <;> omega⟩
    have HST := HP5
    clear h18 hf18 HF45 HB4 HF4 HL3 HX3 HR3 HO3 HFW HQX hB3 HP5 HQ
    generalize p.drop k = q at HD5 HX5 H5 HST
    generalize w4.setCell ⟨b, 18, none⟩ (.slice (some ⟨g, 0, none⟩) 0 c2) = W5 at HD5 HF5 HL5 HX5 HOW5 ⊢
    go_loopw [1] (fun s1 wr => ∃ o n m : Nat, s1 = .slice (some ⟨bs, o, none⟩) n m ∧ Kp (∃ j, 64 * j ≤ q.length ∧ (0 < n → o = (os + k) + 64 * j) ∧ n = q.length - 64 * j ∧ n ≤ m ∧ Blk wr b 135 (dcells false (cnt + p.length) (runC false (mixC false c (rs ++ p.take k)) q j) (.slice (some ⟨g, 0, none⟩) 0 c2))) ∧ Kp (Fr (fun k => k = b) W5 wr)) (fun s1 _ => lenOf s1)
    case atStart => exact ⟨os, 0, 0, rfl, ⟨0, Nat.zero_le _, H5.out.1, H5.out.2.1, H5.out.2.2, HD5.out⟩, ⟨Fr.refl _ _⟩⟩
    case round =>
      obtain ⟨o, n, m, rfl, HJ, HF⟩ := hrel
      obtain ⟨j, hj, ho, hn, hnm, hB⟩ := HJ.out
      have HBk := Kp.mk hB
      have hL1 := HL5.out.fr HF.out (fun k hk => hk ▸ HLow.out)
      have hX1 := HX5.out.fr HF.out hne
      have HL1 := Kp.mk hL1
      have HO := Kp.mk ho
      have HX1 := Kp.mk hX1
      have HN := Kp.mk hn
      have HJJ := Kp.mk hj
      clear HJ hB hL1 hX1 ho hn hj
      by_cases hlt : 64 ≤ n
      · have hlen : ((q.drop (64 * j)).take 64).length = 64 := by
          have := HN.out
          simp; omega
        have hm64 : 64 ≤ m := by omega
        have hmix := Kp.mk (M32.mix_calls b (cnt + p.length) (runC false (mixC false c (rs ++ p.take k)) q j) (.slice (some ⟨g, 0, none⟩) 0 c2) bs o 64 m ((q.drop (64 * j)).take 64) hlen (Nat.le_refl _) (by omega) wr HL1.out HBk.out (by rw [HO.out (by omega)]; exact (HX1.out.drop _).take _))
        go_wp2_with fail
        refine hmix.out.mono ?_
        rintro e w2 ⟨r2, rfl, hB2, hF2⟩
        have HB2 := Kp.mk hB2
        have HF2 := Kp.mk (HF.out.trans hF2 (fun _ _ h => h))
        clear hB2 hF2 hmix
        by_cases hme : m = 64
        · subst hme
          obtain rfl : n = 64 := by omega
          go_wp2
          go_roundw
          case rel => exact ⟨o, 0, 0, rfl, ⟨j + 1, by have := HN.out; omega, fun h => absurd h (Nat.lt_irrefl _), by have := HN.out; omega, Nat.le_refl _, HB2.out⟩, HF2⟩
          case measure => simp [lenOf] <;> omega
        · go_wp2
          go_roundw
          case rel => exact ⟨o + 64, n - 64, m - 64, rfl, ⟨j + 1, by have := HN.out; omega, fun h => by have := HO.out; omega, by have := HN.out; omega, by omega, HB2.out⟩, HF2⟩
          case measure => simp [lenOf] <;> omega
      · obtain ⟨q2, hq2⟩ : ∃ q2, q2 = q.drop (64 * j) := ⟨_, rfl⟩
        have HQ2 := Kp.mk hq2
        have hdl : Kp (n = q2.length) := ⟨by rw [hq2, List.length_drop]; exact HN.out⟩
        have hown : wr.ownsRow low 5 1 (.slice (some ⟨g, 0, none⟩) 0 c2) ([] : List Int).length (bytes []) := own_keep HOW5.out HF.out (fun k hk e => own_ne HOW5.out hk HD5.out (by decide) e)
        have h18 := HBk.out.cell 18 (.slice (some ⟨g, 0, none⟩) 0 c2) rfl
        have HOW := Kp.mk hown
        have hrd : Kp (Reads wr bs o q2) := ⟨by
          rcases Nat.eq_zero_or_pos n with h | h
          · exact ⟨HX1.out.1, fun i hi => by rw [← hdl.out, h] at hi; omega⟩
          · rw [HO.out h, hq2]; exact HX1.out.drop _⟩
        clear hown hq2
        go_wp2_with (at_builtin; refine wpList_appendB rfl _ _ rfl rfl low _ [] rfl HOW.out bs o n _ q2 hdl.out rfl hrd.out (by rw [← hdl.out]; simp only [List.length_nil]; omega) HL1.out.size ?_; intro v2 w2 hown2 hgr hat; have hF3 := hgr.cell_far ⟨b, 18, none⟩ HBk.out.lt (fun e => own_ne HOW.out e.symm HBk.out (by decide) rfl); rw [h18] at hF3; have hz3 := hgr.frozen_far ⟨b, 18, none⟩ HBk.out.lt (fun e => own_ne HOW.out e.symm HBk.out (by decide) rfl); rw [HBk.out.free 18] at hz3; obtain ⟨A9, c9, hv2, hc9⟩ := own_shape hown2; subst hv2; have HO2 := Kp.mk hown2; have HG := Kp.mk hgr; have HT := Kp.mk hat; clear hown2 hgr hat)
        go_end0
        have hB2 : Blk w2 b 135 (dcells false (cnt + p.length) (runC false (mixC false c (rs ++ p.take k)) q j) (.slice (some ⟨g, 0, none⟩) 0 c2)) := (HG.out.block b HBk.out.lt (fun e => own_ne HOW.out e.symm HBk.out (by decide) rfl)).trans HBk.out
        have hjn : q.length / 64 = j := by have := HN.out; have := HJJ.out; omega
        have hst := HST.out j hjn
        rw [← HQ2.out] at hst
        rw [hst]
        simp only [List.nil_append] at HO2 HT
        first | refine ⟨_, .slice A9 q2.length c9, rfl, ⟨?_, ?_, HLow.out⟩, ?_, ?_⟩ | refine ⟨⟨_, rfl⟩, .slice A9 q2.length c9, ⟨?_, ?_, HLow.out⟩, ?_, ?_⟩
        · rw [← dcells_set18 false _ _ (.slice (some ⟨g, 0, none⟩) 0 c2)]
          exact hB2.set 18 _
        · exact own_keep HO2.out (Fr.set (S := fun k => k = b) (a := ⟨b, 18, none⟩) (Fr.refl _ _) (fun _ => rfl) _) (fun k hk e => own_ne HO2.out hk hB2 (by decide) e)
        · exact (Heir.of HT.out).trans HS5.out (Nat.le_trans HF5.out.size HF.out.size)
        · exact Fr.set (Fr.grown (HF5.out.trans HF.out (fun k _ h => .inl h)) HG.out (fun k hk h => .inr (HS5.out.not_old h hk))) (a := ⟨b, 18, none⟩) (fun _ => .inl rfl) _
  · go_wp2_with fail
    refine hmix.out.mono ?_
    rintro e w4 ⟨r4, rfl, hB4, hF4⟩
    have HB4 := Kp.mk hB4
    have HF4 := Kp.mk hF4
    clear hB4 hF4 hmix h18
    have h18 := HB4.out.cell 18 (.slice (some ⟨g, 0, none⟩) 64 c2) rfl
    have hf18 := HB4.out.free 18
    go_wp2
    have HD5 : Kp (Blk (w4.setCell ⟨b, 18, none⟩ (.slice (some ⟨g, 0, none⟩) 0 c2)) b 135 (dcells false (cnt + p.length) (runC false (mixC false c (rs ++ p.take k)) (p.drop k) 0) (.slice (some ⟨g, 0, none⟩) 0 c2))) := ⟨by
      rw [← dcells_set18 false _ _ (.slice (some ⟨g, 0, none⟩) 64 c2)]; exact HB4.out.set 18 _⟩
    have HF45 : Kp (Fr (fun k => k = b) W3 (w4.setCell ⟨b, 18, none⟩ (.slice (some ⟨g, 0, none⟩) 0 c2))) := ⟨HF4.out.set (a := ⟨b, 18, none⟩) (fun _ => rfl) _⟩
    have HF5 : Kp (Fr (dfoot b (.slice A rs.length cr)) w' (w4.setCell ⟨b, 18, none⟩ (.slice (some ⟨g, 0, none⟩) 0 c2))) := ⟨HFW.out.trans HF45.out (fun _ _ h => .inl h)⟩
    have HL5 := Kp.mk (HL3.out.fr HF45.out (fun k hk => hk ▸ HLow.out))
    have HX5 := Kp.mk (HQX.out.fr HF45.out hne)
    have HOW5 : Kp ((w4.setCell ⟨b, 18, none⟩ (.slice (some ⟨g, 0, none⟩) 0 c2)).ownsRow low 5 1 (.slice (some ⟨g, 0, none⟩) 0 c2) 0 []) := ⟨own_keep (own_cut HO3.out) HF45.out (fun k hk e => hgb.out ((Option.some.inj hk).trans e))⟩
    have H5 : Kp ((0 < (p.length - k) → (os + k) = (os + k) + 64 * 0) ∧ (p.length - k) = (p.drop k).length - 64 * 0 ∧ (p.length - k) ≤ (cp - k)) := ⟨by rw [HQ.out]; refine ⟨fun h => ?_, ?_, ?_⟩ <;> omega⟩
    have HST := HP5
    clear h18 hf18 HF45 HB4 HF4 HL3 HX3 HR3 HO3 HFW HQX hB3 HP5 HQ
    generalize p.drop k = q at HD5 HX5 H5 HST
    generalize w4.setCell ⟨b, 18, none⟩ (.slice (some ⟨g, 0, none⟩) 0 c2) = W5 at HD5 HF5 HL5 HX5 HOW5 ⊢
    go_loopw [1] (fun s1 wr => ∃ o n m : Nat, s1 = .slice (some ⟨bs, o, none⟩) n m ∧ Kp (∃ j, 64 * j ≤ q.length ∧ (0 < n → o = (os + k) + 64 * j) ∧ n = q.length - 64 * j ∧ n ≤ m ∧ Blk wr b 135 (dcells false (cnt + p.length) (runC false (mixC false c (rs ++ p.take k)) q j) (.slice (some ⟨g, 0, none⟩) 0 c2))) ∧ Kp (Fr (fun k => k = b) W5 wr)) (fun s1 _ => lenOf s1)
    case atStart => exact ⟨(os + k), (p.length - k), (cp - k), rfl, ⟨0, Nat.zero_le _, H5.out.1, H5.out.2.1, H5.out.2.2, HD5.out⟩, ⟨Fr.refl _ _⟩⟩
    case round =>
      obtain ⟨o, n, m, rfl, HJ, HF⟩ := hrel
      obtain ⟨j, hj, ho, hn, hnm, hB⟩ := HJ.out
      have HBk := Kp.mk hB
      have hL1 := HL5.out.fr HF.out (fun k hk => hk ▸ HLow.out)
      have hX1 := HX5.out.fr HF.out hne
      have HL1 := Kp.mk hL1
      have HO := Kp.mk ho
      have HX1 := Kp.mk hX1
      have HN := Kp.mk hn
      have HJJ := Kp.mk hj
      clear HJ hB hL1 hX1 ho hn hj
      by_cases hlt : 64 ≤ n
      · have hlen : ((q.drop (64 * j)).take 64).length = 64 := by
          have := HN.out
          simp; omega
        have hm64 : 64 ≤ m := by omega
        have hmix := Kp.mk (M32.mix_calls b (cnt + p.length) (runC false (mixC false c (rs ++ p.take k)) q j) (.slice (some ⟨g, 0, none⟩) 0 c2) bs o 64 m ((q.drop (64 * j)).take 64) hlen (Nat.le_refl _) (by omega) wr HL1.out HBk.out (by rw [HO.out (by omega)]; exact (HX1.out.drop _).take _))
        go_wp2_with fail
        refine hmix.out.mono ?_
        rintro e w2 ⟨r2, rfl, hB2, hF2⟩
        have HB2 := Kp.mk hB2
        have HF2 := Kp.mk (HF.out.trans hF2 (fun _ _ h => h))
        clear hB2 hF2 hmix
        by_cases hme : m = 64
        · subst hme
          obtain rfl : n = 64 := by omega
          go_wp2
          go_roundw
          case rel => exact ⟨o, 0, 0, rfl, ⟨j + 1, by have := HN.out; omega, fun h => absurd h (Nat.lt_irrefl _), by have := HN.out; omega, Nat.le_refl _, HB2.out⟩, HF2⟩
          case measure => simp [lenOf] <;> omega
        · go_wp2
          go_roundw
          case rel => exact ⟨o + 64, n - 64, m - 64, rfl, ⟨j + 1, by have := HN.out; omega, fun h => by have := HO.out; omega, by have := HN.out; omega, by omega, HB2.out⟩, HF2⟩
          case measure => simp [lenOf] <;> omega
      · obtain ⟨q2, hq2⟩ : ∃ q2, q2 = q.drop (64 * j) := ⟨_, rfl⟩
        have HQ2 := Kp.mk hq2
        have hdl : Kp (n = q2.length) := ⟨by rw [hq2, List.length_drop]; exact HN.out⟩
        have hown : wr.ownsRow low 5 1 (.slice (some ⟨g, 0, none⟩) 0 c2) ([] : List Int).length (bytes []) := own_keep HOW5.out HF.out (fun k hk e => own_ne HOW5.out hk HD5.out (by decide) e)
        have h18 := HBk.out.cell 18 (.slice (some ⟨g, 0, none⟩) 0 c2) rfl
        have HOW := Kp.mk hown
        have hrd : Kp (Reads wr bs o q2) := ⟨by
          rcases Nat.eq_zero_or_pos n with h | h
          · exact ⟨HX1.out.1, fun i hi => by rw [← hdl.out, h] at hi; omega⟩
          · rw [HO.out h, hq2]; exact HX1.out.drop _⟩
        clear hown hq2
        go_wp2_with (at_builtin; refine wpList_appendB rfl _ _ rfl rfl low _ [] rfl HOW.out bs o n _ q2 hdl.out rfl hrd.out (by rw [← hdl.out]; simp only [List.length_nil]; omega) HL1.out.size ?_; intro v2 w2 hown2 hgr hat; have hF3 := hgr.cell_far ⟨b, 18, none⟩ HBk.out.lt (fun e => own_ne HOW.out e.symm HBk.out (by decide) rfl); rw [h18] at hF3; have hz3 := hgr.frozen_far ⟨b, 18, none⟩ HBk.out.lt (fun e => own_ne HOW.out e.symm HBk.out (by decide) rfl); rw [HBk.out.free 18] at hz3; obtain ⟨A9, c9, hv2, hc9⟩ := own_shape hown2; subst hv2; have HO2 := Kp.mk hown2; have HG := Kp.mk hgr; have HT := Kp.mk hat; clear hown2 hgr hat)
        go_end0
        have hB2 : Blk w2 b 135 (dcells false (cnt + p.length) (runC false (mixC false c (rs ++ p.take k)) q j) (.slice (some ⟨g, 0, none⟩) 0 c2)) := (HG.out.block b HBk.out.lt (fun e => own_ne HOW.out e.symm HBk.out (by decide) rfl)).trans HBk.out
        have hjn : q.length / 64 = j := by have := HN.out; have := HJJ.out; omega
        have hst := HST.out j hjn
        rw [← HQ2.out] at hst
        rw [hst]
        simp only [List.nil_append] at HO2 HT
        first | refine ⟨_, .slice A9 q2.length c9, rfl, ⟨?_, ?_, HLow.out⟩, ?_, ?_⟩ | refine ⟨⟨_, rfl⟩, .slice A9 q2.length c9, ⟨?_, ?_, HLow.out⟩, ?_, ?_⟩
        · rw [← dcells_set18 false _ _ (.slice (some ⟨g, 0, none⟩) 0 c2)]
          exact hB2.set 18 _
        · exact own_keep HO2.out (Fr.set (S := fun k => k = b) (a := ⟨b, 18, none⟩) (Fr.refl _ _) (fun _ => rfl) _) (fun k hk e => own_ne HO2.out hk hB2 (by decide) e)
        · exact (Heir.of HT.out).trans HS5.out (Nat.le_trans HF5.out.size HF.out.size)
        · exact Fr.set (Fr.grown (HF5.out.trans HF.out (fun k _ h => .inl h)) HG.out (fun k hk h => .inr (HS5.out.not_old h hk))) (a := ⟨b, 18, none⟩) (fun _ => .inl rfl) _
end Go.Proofs.YtjcmgpiapbeodaaDoor.Sha.W32
namespace Go.Proofs.YtjcmgpiapbeodaaDoor.Sha.W64
open Go.RowKit Go.Proofs.YtjcmgpiapbeodaaDoor.Mem Go.Proofs.YtjcmgpiapbeodaaDoorW.PrintWords
set_option maxHeartbeats 4000000 in
set_option maxRecDepth 100000 in
theorem write_none (b cnt : Nat) (c : Chain) (rv : Value) (p : List Int) (bs os cp : Nat) (hcp : p.length ≤ cp) (hmax : cnt + p.length ≤ maxCount) (w : World) (hL : Laid w) (hD : Dg w b rv ⟨true, cnt, c, []⟩)
    (hX : Reads w bs os p) (hne : bs ≠ b) :
    Calls Tryd.prog 39 #[.pointer (some ⟨b, 0, none⟩), .slice (some ⟨bs, os, none⟩) p.length cp] w fun e w' =>
      ∃ r rv', e = .returned r ∧ Dg w' b rv' ((St.mk true cnt c []).write p) ∧ Heir w rv' rv ∧ Fr (dfoot b rv) w w' := by
  obtain ⟨A, cr, hrv, _⟩ := own_shape hD.rest
  simp only [List.length_nil] at hrv
  subst hrv
  have h0 := hD.blk.cell 0 _ rfl
  have h1 := hD.blk.cell 1 _ rfl
  have h18 := hD.blk.cell 18 (.slice A 0 cr) rfl
  have hf1 := hD.blk.free 1
  have HB := block_calls b true w h0
  have HD := Kp.mk hD
  have HL := Kp.mk hL
  have HX := Kp.mk hX
  clear hD hL hX
  simp only [kind, blk] at h0 h1 HB
  have hmax' := hmax
  unfold maxCount at hmax'
  have hdec : decide ((2305843009213693951 : Int) - (cnt : Int) < (p.length : Int)) = false := decide_eq_false (by omega)
  go_enter Tryd.func39, Tryd.ntmps39
  go_wp2_with (first | (go_at_call 66; (with_reducible refine HB.mono ?_); rintro e w' ⟨rfl, rfl⟩))
  have HD1 : Kp (Blk (w'.setCell ⟨b, 1, none⟩ (.int .i64 ((cnt : Int) + (p.length : Int)))) b 135 (dcells true (cnt + p.length) c (.slice A 0 cr))) := ⟨by
    rw [← dcells_set1 true cnt (cnt + p.length)]; exact HD.out.blk.set 1 _⟩
  have HF1 : Kp (Fr (fun k => k = b) w' (w'.setCell ⟨b, 1, none⟩ (.int .i64 ((cnt : Int) + (p.length : Int))))) := ⟨Fr.set (S := fun k => k = b) (a := ⟨b, 1, none⟩) (Fr.refl _ _) (fun _ => rfl) _⟩
  have HL1 := Kp.mk (HL.out.fr HF1.out (fun k hk => hk ▸ HD.out.low))
  have HX1 := Kp.mk (HX.out.fr HF1.out hne)
  have HOW : Kp ((w'.setCell ⟨b, 1, none⟩ (.int .i64 ((cnt : Int) + (p.length : Int)))).ownsRow low 5 1 (.slice A 0 cr) 0 (bytes [])) := ⟨own_keep HD.out.rest HF1.out (fun k hk e => own_ne HD.out.rest hk HD.out.blk (by decide) e)⟩
  clear h0 h1 h18 hf1 HB
  have HF5 : Kp (Fr (dfoot b (.slice A 0 cr)) w' (w'.setCell ⟨b, 1, none⟩ (.int .i64 ((cnt : Int) + (p.length : Int))))) := ⟨HF1.out.mono (fun k _ h => .inl h)⟩
  have HLow := Kp.mk HD.out.low
  clear HF1
  generalize w'.setCell ⟨b, 1, none⟩ (.int .i64 ((cnt : Int) + (p.length : Int))) = W5 at HD1 HF5 HL1 HX1 HOW ⊢
  have HS5 : Kp (Heir w' (.slice A 0 cr) (.slice A 0 cr)) := ⟨Heir.refl _ _⟩
  have H5 : Kp ((0 < p.length → os = os + 128 * 0) ∧ p.length = p.length - 128 * 0 ∧ p.length ≤ cp) := ⟨fun _ => rfl, rfl, hcp⟩
  have HST : Kp (∀ j, p.length / 128 = j → (St.mk true cnt c []).write p = ⟨true, cnt + p.length, runC true c p j, p.drop (128 * j)⟩) := ⟨fun j hjn => by
    unfold St.write
    rw [if_pos hmax]
    show absorb ⟨true, cnt, c, []⟩ p (cnt + p.length) = _
    unfold absorb
    simp only [blk, hjn]⟩
  go_loopw [1] (fun s1 wr => ∃ o n m : Nat, s1 = .slice (some ⟨bs, o, none⟩) n m ∧ Kp (∃ j, 128 * j ≤ p.length ∧ (0 < n → o = os + 128 * j) ∧ n = p.length - 128 * j ∧ n ≤ m ∧ Blk wr b 135 (dcells true (cnt + p.length) (runC true c p j) (.slice A 0 cr))) ∧ Kp (Fr (fun k => k = b) W5 wr)) (fun s1 _ => lenOf s1)
  case atStart => exact ⟨os, p.length, cp, rfl, ⟨0, Nat.zero_le _, H5.out.1, H5.out.2.1, H5.out.2.2, HD1.out⟩, ⟨Fr.refl _ _⟩⟩
  case round =>
    obtain ⟨o, n, m, rfl, HJ, HF⟩ := hrel
    obtain ⟨j, hj, ho, hn, hnm, hB⟩ := HJ.out
    have HBk := Kp.mk hB
    have hL1 := HL1.out.fr HF.out (fun k hk => hk ▸ HLow.out)
    have hX1 := HX1.out.fr HF.out hne
    have HL1 := Kp.mk hL1
    have HO := Kp.mk ho
    have HX1 := Kp.mk hX1
    have HN := Kp.mk hn
    have HJJ := Kp.mk hj
    clear HJ hB hL1 hX1 ho hn hj
    by_cases hlt : 128 ≤ n
    · have hlen : ((p.drop (128 * j)).take 128).length = 128 := by
        have := HN.out
        simp; omega
      have hm64 : 128 ≤ m := by omega
      have hmix := Kp.mk (M64.mix_calls b (cnt + p.length) (runC true c p j) (.slice A 0 cr) bs o 128 m ((p.drop (128 * j)).take 128) hlen (Nat.le_refl _) (by omega) wr HL1.out HBk.out (by rw [HO.out (by omega)]; exact (HX1.out.drop _).take _))
      go_wp2_with fail
      refine hmix.out.mono ?_
      rintro e w2 ⟨r2, rfl, hB2, hF2⟩
      have HB2 := Kp.mk hB2
      have HF2 := Kp.mk (HF.out.trans hF2 (fun _ _ h => h))
      clear hB2 hF2 hmix
      by_cases hme : m = 128
      · subst hme
        obtain rfl : n = 128 := by omega
        go_wp2
        go_roundw
        case rel => exact ⟨o, 0, 0, rfl, ⟨j + 1, by have := HN.out; omega, fun h => absurd h (Nat.lt_irrefl _), by have := HN.out; omega, Nat.le_refl _, HB2.out⟩, HF2⟩
        case measure => simp [lenOf] <;> omega
      · go_wp2
        go_roundw
        case rel => exact ⟨o + 128, n - 128, m - 128, rfl, ⟨j + 1, by have := HN.out; omega, fun h => by have := HO.out; omega, by have := HN.out; omega, by omega, HB2.out⟩, HF2⟩
        case measure => simp [lenOf] <;> omega
    · obtain ⟨q2, hq2⟩ : ∃ q2, q2 = p.drop (128 * j) := ⟨_, rfl⟩
      have HQ2 := Kp.mk hq2
      have hdl : Kp (n = q2.length) := ⟨by rw [hq2, List.length_drop]; exact HN.out⟩
      have hown : wr.ownsRow low 5 1 (.slice A 0 cr) ([] : List Int).length (bytes []) := own_keep HOW.out HF.out (fun k hk e => own_ne HOW.out hk HD1.out (by decide) e)
      have h18 := HBk.out.cell 18 (.slice A 0 cr) rfl
      have HOW := Kp.mk hown
      have hrd : Kp (Reads wr bs o q2) := ⟨by
        rcases Nat.eq_zero_or_pos n with h | h
        · exact ⟨HX1.out.1, fun i hi => by rw [← hdl.out, h] at hi; omega⟩
        · rw [HO.out h, hq2]; exact HX1.out.drop _⟩
      clear hown hq2
      go_wp2_with (at_builtin; refine wpList_appendB rfl _ _ rfl rfl low _ [] rfl HOW.out bs o n _ q2 hdl.out rfl hrd.out (by rw [← hdl.out]; simp only [List.length_nil]; omega) HL1.out.size ?_; intro v2 w2 hown2 hgr hat; have hF3 := hgr.cell_far ⟨b, 18, none⟩ HBk.out.lt (fun e => own_ne HOW.out e.symm HBk.out (by decide) rfl); rw [h18] at hF3; have hz3 := hgr.frozen_far ⟨b, 18, none⟩ HBk.out.lt (fun e => own_ne HOW.out e.symm HBk.out (by decide) rfl); rw [HBk.out.free 18] at hz3; obtain ⟨A9, c9, hv2, hc9⟩ := own_shape hown2; subst hv2; have HO2 := Kp.mk hown2; have HG := Kp.mk hgr; have HT := Kp.mk hat; clear hown2 hgr hat)
      go_end0
      have hB2 : Blk w2 b 135 (dcells true (cnt + p.length) (runC true c p j) (.slice A 0 cr)) := (HG.out.block b HBk.out.lt (fun e => own_ne HOW.out e.symm HBk.out (by decide) rfl)).trans HBk.out
      have hjn : p.length / 128 = j := by have := HN.out; have := HJJ.out; omega
      have hst := HST.out j hjn
      rw [← HQ2.out] at hst
      rw [hst]
      simp only [List.nil_append] at HO2 HT
      first | refine ⟨_, .slice A9 q2.length c9, rfl, ⟨?_, ?_, HLow.out⟩, ?_, ?_⟩ | refine ⟨⟨_, rfl⟩, .slice A9 q2.length c9, ⟨?_, ?_, HLow.out⟩, ?_, ?_⟩
      · rw [← dcells_set18 true _ _ (.slice A 0 cr)]
        exact hB2.set 18 _
      · exact own_keep HO2.out (Fr.set (S := fun k => k = b) (a := ⟨b, 18, none⟩) (Fr.refl _ _) (fun _ => rfl) _) (fun k hk e => own_ne HO2.out hk hB2 (by decide) e)
      · exact (Heir.of HT.out).trans HS5.out (Nat.le_trans HF5.out.size HF.out.size)
      · exact Fr.set (Fr.grown (HF5.out.trans HF.out (fun k _ h => .inl h)) HG.out (fun k hk h => .inr (HS5.out.not_old h hk))) (a := ⟨b, 18, none⟩) (fun _ => .inl rfl) _
set_option maxHeartbeats 4000000 in
set_option maxRecDepth 100000 in
theorem write_short (b cnt : Nat) (c : Chain) (rv : Value) (rs p : List Int) (hrs : 0 < rs.length) (hsh : rs.length + p.length < 128) (bs os cp : Nat) (hcp : p.length ≤ cp) (hmax : cnt + p.length ≤ maxCount) (w : World) (hL : Laid w) (hD : Dg w b rv ⟨true, cnt, c, rs⟩)
    (hX : Reads w bs os p) (hne : bs ≠ b) :
    Calls Tryd.prog 39 #[.pointer (some ⟨b, 0, none⟩), .slice (some ⟨bs, os, none⟩) p.length cp] w fun e w' =>
      ∃ r rv', e = .returned r ∧ Dg w' b rv' ((St.mk true cnt c rs).write p) ∧ Heir w rv' rv ∧ Fr (dfoot b rv) w w' := by
  obtain ⟨A, cr, hrv, _⟩ := own_shape hD.rest
  simp only at hrv
  subst hrv
  have h0 := hD.blk.cell 0 _ rfl
  have h1 := hD.blk.cell 1 _ rfl
  have h18 := hD.blk.cell 18 (.slice A rs.length cr) rfl
  have hf1 := hD.blk.free 1
  have hf18 := hD.blk.free 18
  have HB := block_calls b true w h0
  have HD := Kp.mk hD
  have HL := Kp.mk hL
  have HX := Kp.mk hX
  clear hD hL hX
  simp only [kind, blk] at h0 h1 HB
  have hmax' := hmax
  unfold maxCount at hmax'
  have hdec : decide ((2305843009213693951 : Int) - (cnt : Int) < (p.length : Int)) = false := decide_eq_false (by omega)
  go_enter Tryd.func39, Tryd.ntmps39
  go_wp2_with (first | (go_at_call 66; (with_reducible refine HB.mono ?_); rintro e w' ⟨rfl, rfl⟩))
  have HD1 : Kp (Blk (w'.setCell ⟨b, 1, none⟩ (.int .i64 ((cnt : Int) + (p.length : Int)))) b 135 (dcells true (cnt + p.length) c (.slice A rs.length cr))) := ⟨by
    rw [← dcells_set1 true cnt (cnt + p.length)]; exact HD.out.blk.set 1 _⟩
  have HF1 : Kp (Fr (fun k => k = b) w' (w'.setCell ⟨b, 1, none⟩ (.int .i64 ((cnt : Int) + (p.length : Int))))) := ⟨Fr.set (S := fun k => k = b) (a := ⟨b, 1, none⟩) (Fr.refl _ _) (fun _ => rfl) _⟩
  have HL1 := Kp.mk (HL.out.fr HF1.out (fun k hk => hk ▸ HD.out.low))
  have HX1 := Kp.mk (HX.out.fr HF1.out hne)
  have HOW : Kp ((w'.setCell ⟨b, 1, none⟩ (.int .i64 ((cnt : Int) + (p.length : Int)))).ownsRow low 5 1 (.slice A rs.length cr) rs.length (bytes rs)) := ⟨own_keep HD.out.rest HF1.out (fun k hk e => own_ne HD.out.rest hk HD.out.blk (by decide) e)⟩
  clear h0 h1 h18 hf1 hf18 HB
  generalize w'.setCell ⟨b, 1, none⟩ (.int .i64 ((cnt : Int) + (p.length : Int))) = W1 at HD1 HF1 HL1 HX1 HOW ⊢
  have h18 := HD1.out.cell 18 (.slice A rs.length cr) rfl
  have hf18 := HD1.out.free 18
  have hlb := Kp.mk HD1.out.lt
  go_region_law ((refine step_appendB (by rfl) _ _ (by rfl) (by rfl) low (.slice A rs.length cr) rs (by rfl) (by exact HOW.out) bs os p.length _ p rfl (by rfl) (by exact HX1.out) (by omega) (by exact HL1.out.size) ?_; intro v2 w2 hown2 hgr hat; have hF3 : w2.cell? ⟨b, 18, none⟩ = some (.slice A rs.length cr) := (hgr.cell_far ⟨b, 18, none⟩ hlb.out (fun e => own_ne HOW.out e.symm HD1.out (by decide) rfl)).trans h18; have hz3 : w2.frozen? ⟨b, 18, none⟩ = false := (hgr.frozen_far ⟨b, 18, none⟩ hlb.out (fun e => own_ne HOW.out e.symm HD1.out (by decide) rfl)).trans hf18; obtain ⟨A2, c2, hv2, hc2⟩ := own_shape hown2; subst hv2; have HO2 := Kp.mk hown2; have HG := Kp.mk hgr; have HT := Kp.mk hat; clear hown2 hgr hat))
  have hB2 : Kp (Blk w2 b 135 (dcells true (cnt + p.length) c (.slice A rs.length cr))) := ⟨(HG.out.block b hlb.out (fun e => own_ne HOW.out e.symm HD1.out (by decide) rfl)).trans HD1.out⟩
  by_cases hcpe : cp = p.length
  all_goals
    go_wp2
    (try simp only [Exit.inBlock, Exit.then])
    refine bodyPost_ret (results_none rfl _ _ _) rfl ?_
    have hst : (St.mk true cnt c rs).write p = ⟨true, cnt + p.length, c, rs ++ p⟩ := by
      unfold St.write
      rw [if_pos hmax]
      unfold absorb
      have hz : (rs ++ p).length / 128 = 0 := by rw [List.length_append]; omega
      simp only [blk, hz, runC, Nat.mul_zero, List.drop_zero]
    rw [hst]
    simp only [List.length_append] at HO2 HT
    refine ⟨_, .slice A2 (rs.length + p.length) c2, rfl, ⟨?_, ?_, HD.out.low⟩, ?_, ?_⟩
    · rw [← dcells_set18 true _ _ (.slice A rs.length cr)]
      exact hB2.out.set 18 _
    · show World.ownsRow _ low _ 1 _ (rs ++ p).length (bytes (rs ++ p))
      rw [List.length_append]
      exact own_keep HO2.out (Fr.set (S := fun k => k = b) (a := ⟨b, 18, none⟩) (Fr.refl _ _) (fun _ => rfl) _) (fun k hk e => own_ne HO2.out hk hB2.out (by decide) e)
    · exact (Heir.of HT.out).trans (Heir.refl w' _) HF1.out.size
    · exact Fr.set (Fr.grown (HF1.out.drew.mono (fun k _ h => .inl h)) HG.out (fun k _ h => .inr h)) (a := ⟨b, 18, none⟩) (fun _ => .inl rfl) _
set_option maxHeartbeats 4000000 in
set_option maxRecDepth 100000 in
theorem write_long (b cnt : Nat) (c : Chain) (rv : Value) (rs p : List Int) (k : Nat) (hrs : 0 < rs.length) (hk0 : 0 < k) (hk : rs.length + k = 128) (hkp : k ≤ p.length) (bs os cp : Nat) (hcp : p.length ≤ cp) (hmax : cnt + p.length ≤ maxCount) (w : World) (hL : Laid w) (hD : Dg w b rv ⟨true, cnt, c, rs⟩)
    (hX : Reads w bs os p) (hne : bs ≠ b) (hnr : rv.ownBlock ≠ some bs) :
    Calls Tryd.prog 39 #[.pointer (some ⟨b, 0, none⟩), .slice (some ⟨bs, os, none⟩) p.length cp] w fun e w' =>
      ∃ r rv', e = .returned r ∧ Dg w' b rv' ((St.mk true cnt c rs).write p) ∧ Heir w rv' rv ∧ Fr (dfoot b rv) w w' := by
  obtain ⟨A, cr, hrv, _⟩ := own_shape hD.rest
  simp only at hrv
  subst hrv
  have hkcp : k ≤ cp := Nat.le_trans hkp hcp
  have hki : (128 : Int) - (rs.length : Int) = (k : Int) := by omega
  have hpt : (p.take k).length = k := by simp; omega
  have HPT := Kp.mk hpt
  clear hpt
  have h0 := hD.blk.cell 0 _ rfl
  have h1 := hD.blk.cell 1 _ rfl
  have h18 := hD.blk.cell 18 (.slice A rs.length cr) rfl
  have hf1 := hD.blk.free 1
  have HB := block_calls b true w h0
  have HD := Kp.mk hD
  have HL := Kp.mk hL
  have HX := Kp.mk hX
  clear hD hL hX
  simp only [kind, blk] at h0 h1 HB
  have hmax' := hmax
  unfold maxCount at hmax'
  have hdec : decide ((2305843009213693951 : Int) - (cnt : Int) < (p.length : Int)) = false := decide_eq_false (by omega)
  go_enter Tryd.func39, Tryd.ntmps39
  go_wp2_with (first | (go_at_call 66; (with_reducible refine HB.mono ?_); rintro e w' ⟨rfl, rfl⟩))
  have HD1 : Kp (Blk (w'.setCell ⟨b, 1, none⟩ (.int .i64 ((cnt : Int) + (p.length : Int)))) b 135 (dcells true (cnt + p.length) c (.slice A rs.length cr))) := ⟨by
    rw [← dcells_set1 true cnt (cnt + p.length)]; exact HD.out.blk.set 1 _⟩
  have HF1 : Kp (Fr (fun k => k = b) w' (w'.setCell ⟨b, 1, none⟩ (.int .i64 ((cnt : Int) + (p.length : Int))))) := ⟨Fr.set (S := fun k => k = b) (a := ⟨b, 1, none⟩) (Fr.refl _ _) (fun _ => rfl) _⟩
  have HL1 := Kp.mk (HL.out.fr HF1.out (fun k hk => hk ▸ HD.out.low))
  have HX1 := Kp.mk (HX.out.fr HF1.out hne)
  have HOW : Kp ((w'.setCell ⟨b, 1, none⟩ (.int .i64 ((cnt : Int) + (p.length : Int)))).ownsRow low 5 1 (.slice A rs.length cr) rs.length (bytes rs)) := ⟨own_keep HD.out.rest HF1.out (fun k hk e => own_ne HD.out.rest hk HD.out.blk (by decide) e)⟩
  clear h0 h1 h18 hf1 HB
  generalize w'.setCell ⟨b, 1, none⟩ (.int .i64 ((cnt : Int) + (p.length : Int))) = W1 at HD1 HF1 HL1 HX1 HOW ⊢
  have h18 := HD1.out.cell 18 (.slice A rs.length cr) rfl
  have hf18 := HD1.out.free 18
  have hlb := Kp.mk HD1.out.lt
  go_region_law ((refine step_appendB (by rfl) _ _ (by rfl) (by rfl) low (.slice A rs.length cr) rs (by rfl) (by exact HOW.out) bs os k _ (p.take k) HPT.out.symm (by rfl) (by exact HX1.out.take k) (by rw [HPT.out]; omega) (by exact HL1.out.size) ?_; intro v2 w2 hown2 hgr hat; have hF3 : w2.cell? ⟨b, 18, none⟩ = some (.slice A rs.length cr) := (hgr.cell_far ⟨b, 18, none⟩ hlb.out (fun e => own_ne HOW.out e.symm HD1.out (by decide) rfl)).trans h18; have hz3 : w2.frozen? ⟨b, 18, none⟩ = false := (hgr.frozen_far ⟨b, 18, none⟩ hlb.out (fun e => own_ne HOW.out e.symm HD1.out (by decide) rfl)).trans hf18; obtain ⟨g, c2, hv2, hgl, hgt, hc2, hrd2⟩ := own_form hown2 (by rw [List.length_append, HPT.out]; omega); subst hv2; have HO2 := Kp.mk hown2; have HG := Kp.mk hgr; have HT := Kp.mk hat; have HR2 := Kp.mk hrd2; have HGT := Kp.mk hgt; clear hown2 hgr hat hrd2 hgt))
  have hB2 : Kp (Blk w2 b 135 (dcells true (cnt + p.length) c (.slice A rs.length cr))) := ⟨(HG.out.block b hlb.out (fun e => own_ne HOW.out e.symm HD1.out (by decide) rfl)).trans HD1.out⟩
  have hlen2 : (rs ++ p.take k).length = 128 := by rw [List.length_append, HPT.out]; exact hk
  rw [hlen2] at HO2 hc2
  have hgb : Kp (g ≠ b) := ⟨own_ne HO2.out rfl hB2.out (by decide)⟩
  have hB3 : Kp (Blk (w2.setCell ⟨b, 18, none⟩ (.slice (some ⟨g, 0, none⟩) 128 c2)) b 135 (dcells true (cnt + p.length) c (.slice (some ⟨g, 0, none⟩) 128 c2))) := ⟨by
    rw [← dcells_set18 true _ _ (.slice A rs.length cr)]; exact hB2.out.set 18 _⟩
  have hF3 : Kp (Fr (fun k => k = b) w2 (w2.setCell ⟨b, 18, none⟩ (.slice (some ⟨g, 0, none⟩) 128 c2))) := ⟨Fr.set (S := fun k => k = b) (a := ⟨b, 18, none⟩) (Fr.refl _ _) (fun _ => rfl) _⟩
  have HFW2 : Kp (Fr (dfoot b (.slice A rs.length cr)) W1 w2) := ⟨Fr.grown ((Fr.refl (dfoot b (.slice A rs.length cr)) W1).drew) HG.out (fun k _ h => .inr h)⟩
  have hlowA : ∀ k, dfoot b (.slice A rs.length cr) k → low ≤ k := fun k h => h.elim (fun e => e ▸ HD.out.low) (fun e => (own_lt HOW.out e).2)
  have HL2 := Kp.mk (HL1.out.fr HFW2.out hlowA)
  have HX2 := Kp.mk (HX1.out.fr HFW2.out (fun h => h.elim hne hnr))
  have HL3 := Kp.mk (HL2.out.fr hF3.out (fun k hk => hk ▸ HD.out.low))
  have HX3 := Kp.mk (HX2.out.fr hF3.out hne)
  have HR3 := Kp.mk (HR2.out.fr hF3.out hgb.out)
  have HO3 : Kp ((w2.setCell ⟨b, 18, none⟩ (.slice (some ⟨g, 0, none⟩) 128 c2)).ownsRow low 5 1 (.slice (some ⟨g, 0, none⟩) 128 c2) 128 (bytes (rs ++ p.take k))) := ⟨own_keep HO2.out hF3.out (fun k hk e => own_ne HO2.out hk hB2.out (by decide) e)⟩
  have HFW : Kp (Fr (dfoot b (.slice A rs.length cr)) w' (w2.setCell ⟨b, 18, none⟩ (.slice (some ⟨g, 0, none⟩) 128 c2))) := ⟨((HF1.out.mono (fun k _ h => .inl h)).trans HFW2.out (fun _ _ h => h)).trans hF3.out (fun _ _ h => .inl h)⟩
  have HS5 : Kp (Heir w' (.slice (some ⟨g, 0, none⟩) 0 c2) (.slice A rs.length cr)) := ⟨(Heir.of HT.out).trans (Heir.refl w' _) HF1.out.size⟩
  have HLow := Kp.mk HD.out.low
  have HP5 : Kp (∀ j, (p.drop k).length / 128 = j → (St.mk true cnt c rs).write p = ⟨true, cnt + p.length, runC true (mixC true c (rs ++ p.take k)) (p.drop k) j, (p.drop k).drop (128 * j)⟩) := ⟨fun j hjn => by
    have e1 : rs ++ p = (rs ++ p.take k) ++ p.drop k := by rw [List.append_assoc, List.take_append_drop]
    have hl : (rs ++ p).length = 128 + (p.drop k).length := by rw [e1, List.length_append, hlen2]
    have e2 : (rs ++ p).length / 128 = 1 + j := by rw [hl, ← hjn]; omega
    unfold St.write
    rw [if_pos hmax]
    unfold absorb
    simp only [blk, e2]
    have e3 : (rs ++ p).drop (128 * 1) = p.drop k := by rw [e1, List.drop_append_of_le_length (by rw [hlen2]; exact Nat.le_refl _), List.drop_eq_nil_of_le (by rw [hlen2]; exact Nat.le_refl _)]; rfl
    have e4 : runC true c (rs ++ p) 1 = mixC true c (rs ++ p.take k) := by
      show mixC true c (((rs ++ p).drop (128 * 0)).take 128) = _
      rw [Nat.mul_zero, List.drop_zero, e1, List.take_append_of_le_length (by rw [hlen2]; exact Nat.le_refl _), List.take_of_length_le (by rw [hlen2]; exact Nat.le_refl _)]
    have e5 := runC_add true c (rs ++ p) 1 j
    rw [e4] at e5
    have e6 : (rs ++ p).drop (128 * (1 + j)) = (p.drop k).drop (128 * j) := by rw [Nat.mul_add, ← List.drop_drop, e3]
    rw [e5, e6]
    show (St.mk true _ (runC true _ ((rs ++ p).drop (128 * 1)) j) _) = _
    rw [e3]⟩
  have HQ : Kp ((p.drop k).length = p.length - k) := ⟨List.length_drop⟩
  have hkk := HL3.out.size
  clear hkk
  have HQX := Kp.mk (HX3.out.drop k)
  have HL2n := Kp.mk hlen2
  generalize hW3 : w2.setCell ⟨b, 18, none⟩ (.slice (some ⟨g, 0, none⟩) 128 c2) = W3 at hB3 hF3 HL3 HX3 HR3 HO3 HFW HQX ⊢
  clear hW3 HFW2 hlowA HL2 HX2 HR2 HO2 hB2 hF3 HX1 HL1 HOW HD1 HF1 HT HG hlb h18 hf18 hlen2 HL HX
  have h18 := hB3.out.cell 18 (.slice (some ⟨g, 0, none⟩) 128 c2) rfl
  have hmix := Kp.mk (M64.mix_calls b (cnt + p.length) c (.slice (some ⟨g, 0, none⟩) 128 c2) g 0 128 c2 (rs ++ p.take k) HL2n.out (Nat.le_refl _) hc2 W3 HL3.out hB3.out HR3.out)
  by_cases hme : cp = k
  · have hkp' : p.length = k := by omega
    go_wp2_with fail
    refine hmix.out.mono ?_
    rintro e w4 ⟨r4, rfl, hB4, hF4⟩
    have HB4 := Kp.mk hB4
    have HF4 := Kp.mk hF4
    clear hB4 hF4 hmix h18
    have h18 := HB4.out.cell 18 (.slice (some ⟨g, 0, none⟩) 128 c2) rfl
    have hf18 := HB4.out.free 18
    go_wp2
    have HD5 : Kp (Blk (w4.setCell ⟨b, 18, none⟩ (.slice (some ⟨g, 0, none⟩) 0 c2)) b 135 (dcells true (cnt + p.length) (runC true (mixC true c (rs ++ p.take k)) (p.drop k) 0) (.slice (some ⟨g, 0, none⟩) 0 c2))) := ⟨by
      rw [← dcells_set18 true _ _ (.slice (some ⟨g, 0, none⟩) 128 c2)]; exact HB4.out.set 18 _⟩
    have HF45 : Kp (Fr (fun k => k = b) W3 (w4.setCell ⟨b, 18, none⟩ (.slice (some ⟨g, 0, none⟩) 0 c2))) := ⟨HF4.out.set (a := ⟨b, 18, none⟩) (fun _ => rfl) _⟩
    have HF5 : Kp (Fr (dfoot b (.slice A rs.length cr)) w' (w4.setCell ⟨b, 18, none⟩ (.slice (some ⟨g, 0, none⟩) 0 c2))) := ⟨HFW.out.trans HF45.out (fun _ _ h => .inl h)⟩
    have HL5 := Kp.mk (HL3.out.fr HF45.out (fun k hk => hk ▸ HLow.out))
    have HX5 := Kp.mk (HQX.out.fr HF45.out hne)
    have HOW5 : Kp ((w4.setCell ⟨b, 18, none⟩ (.slice (some ⟨g, 0, none⟩) 0 c2)).ownsRow low 5 1 (.slice (some ⟨g, 0, none⟩) 0 c2) 0 []) := ⟨own_keep (own_cut HO3.out) HF45.out (fun k hk e => hgb.out ((Option.some.inj hk).trans e))⟩
    have H5 : Kp ((0 < 0 → os = (os + k) + 128 * 0) ∧ 0 = (p.drop k).length - 128 * 0 ∧ 0 ≤ 0) := ⟨by rw [HQ.out]; refine ⟨fun h => ?_, ?_, ?_⟩ <;> omega⟩
    have HST := HP5
    clear h18 hf18 HF45 HB4 HF4 HL3 HX3 HR3 HO3 HFW HQX hB3 HP5 HQ
    generalize p.drop k = q at HD5 HX5 H5 HST
    generalize w4.setCell ⟨b, 18, none⟩ (.slice (some ⟨g, 0, none⟩) 0 c2) = W5 at HD5 HF5 HL5 HX5 HOW5 ⊢
    go_loopw [1] (fun s1 wr => ∃ o n m : Nat, s1 = .slice (some ⟨bs, o, none⟩) n m ∧ Kp (∃ j, 128 * j ≤ q.length ∧ (0 < n → o = (os + k) + 128 * j) ∧ n = q.length - 128 * j ∧ n ≤ m ∧ Blk wr b 135 (dcells true (cnt + p.length) (runC true (mixC true c (rs ++ p.take k)) q j) (.slice (some ⟨g, 0, none⟩) 0 c2))) ∧ Kp (Fr (fun k => k = b) W5 wr)) (fun s1 _ => lenOf s1)
    case atStart => exact ⟨os, 0, 0, rfl, ⟨0, Nat.zero_le _, H5.out.1, H5.out.2.1, H5.out.2.2, HD5.out⟩, ⟨Fr.refl _ _⟩⟩
    case round =>
      obtain ⟨o, n, m, rfl, HJ, HF⟩ := hrel
      obtain ⟨j, hj, ho, hn, hnm, hB⟩ := HJ.out
      have HBk := Kp.mk hB
      have hL1 := HL5.out.fr HF.out (fun k hk => hk ▸ HLow.out)
      have hX1 := HX5.out.fr HF.out hne
      have HL1 := Kp.mk hL1
      have HO := Kp.mk ho
      have HX1 := Kp.mk hX1
      have HN := Kp.mk hn
      have HJJ := Kp.mk hj
      clear HJ hB hL1 hX1 ho hn hj
      by_cases hlt : 128 ≤ n
      · have hlen : ((q.drop (128 * j)).take 128).length = 128 := by
          have := HN.out
          simp; omega
        have hm64 : 128 ≤ m := by omega
        have hmix := Kp.mk (M64.mix_calls b (cnt + p.length) (runC true (mixC true c (rs ++ p.take k)) q j) (.slice (some ⟨g, 0, none⟩) 0 c2) bs o 128 m ((q.drop (128 * j)).take 128) hlen (Nat.le_refl _) (by omega) wr HL1.out HBk.out (by rw [HO.out (by omega)]; exact (HX1.out.drop _).take _))
        go_wp2_with fail
        refine hmix.out.mono ?_
        rintro e w2 ⟨r2, rfl, hB2, hF2⟩
        have HB2 := Kp.mk hB2
        have HF2 := Kp.mk (HF.out.trans hF2 (fun _ _ h => h))
        clear hB2 hF2 hmix
        by_cases hme : m = 128
        · subst hme
          obtain rfl : n = 128 := by omega
          go_wp2
          go_roundw
          case rel => exact ⟨o, 0, 0, rfl, ⟨j + 1, by have := HN.out; omega, fun h => absurd h (Nat.lt_irrefl _), by have := HN.out; omega, Nat.le_refl _, HB2.out⟩, HF2⟩
          case measure => simp [lenOf] <;> omega
        · go_wp2
          go_roundw
          case rel => exact ⟨o + 128, n - 128, m - 128, rfl, ⟨j + 1, by have := HN.out; omega, fun h => by have := HO.out; omega, by have := HN.out; omega, by omega, HB2.out⟩, HF2⟩
          case measure => simp [lenOf] <;> omega
      · obtain ⟨q2, hq2⟩ : ∃ q2, q2 = q.drop (128 * j) := ⟨_, rfl⟩
        have HQ2 := Kp.mk hq2
        have hdl : Kp (n = q2.length) := ⟨by rw [hq2, List.length_drop]; exact HN.out⟩
        have hown : wr.ownsRow low 5 1 (.slice (some ⟨g, 0, none⟩) 0 c2) ([] : List Int).length (bytes []) := own_keep HOW5.out HF.out (fun k hk e => own_ne HOW5.out hk HD5.out (by decide) e)
        have h18 := HBk.out.cell 18 (.slice (some ⟨g, 0, none⟩) 0 c2) rfl
        have HOW := Kp.mk hown
        have hrd : Kp (Reads wr bs o q2) := ⟨by
          rcases Nat.eq_zero_or_pos n with h | h
          · exact ⟨HX1.out.1, fun i hi => by rw [← hdl.out, h] at hi; omega⟩
          · rw [HO.out h, hq2]; exact HX1.out.drop _⟩
        clear hown hq2
        go_wp2_with (at_builtin; refine wpList_appendB rfl _ _ rfl rfl low _ [] rfl HOW.out bs o n _ q2 hdl.out rfl hrd.out (by rw [← hdl.out]; simp only [List.length_nil]; omega) HL1.out.size ?_; intro v2 w2 hown2 hgr hat; have hF3 := hgr.cell_far ⟨b, 18, none⟩ HBk.out.lt (fun e => own_ne HOW.out e.symm HBk.out (by decide) rfl); rw [h18] at hF3; have hz3 := hgr.frozen_far ⟨b, 18, none⟩ HBk.out.lt (fun e => own_ne HOW.out e.symm HBk.out (by decide) rfl); rw [HBk.out.free 18] at hz3; obtain ⟨A9, c9, hv2, hc9⟩ := own_shape hown2; subst hv2; have HO2 := Kp.mk hown2; have HG := Kp.mk hgr; have HT := Kp.mk hat; clear hown2 hgr hat)
        go_end0
        have hB2 : Blk w2 b 135 (dcells true (cnt + p.length) (runC true (mixC true c (rs ++ p.take k)) q j) (.slice (some ⟨g, 0, none⟩) 0 c2)) := (HG.out.block b HBk.out.lt (fun e => own_ne HOW.out e.symm HBk.out (by decide) rfl)).trans HBk.out
        have hjn : q.length / 128 = j := by have := HN.out; have := HJJ.out; omega
        have hst := HST.out j hjn
        rw [← HQ2.out] at hst
        rw [hst]
        simp only [List.nil_append] at HO2 HT
        first | refine ⟨_, .slice A9 q2.length c9, rfl, ⟨?_, ?_, HLow.out⟩, ?_, ?_⟩ | refine ⟨⟨_, rfl⟩, .slice A9 q2.length c9, ⟨?_, ?_, HLow.out⟩, ?_, ?_⟩
        · rw [← dcells_set18 true _ _ (.slice (some ⟨g, 0, none⟩) 0 c2)]
          exact hB2.set 18 _
        · exact own_keep HO2.out (Fr.set (S := fun k => k = b) (a := ⟨b, 18, none⟩) (Fr.refl _ _) (fun _ => rfl) _) (fun k hk e => own_ne HO2.out hk hB2 (by decide) e)
        · exact (Heir.of HT.out).trans HS5.out (Nat.le_trans HF5.out.size HF.out.size)
        · exact Fr.set (Fr.grown (HF5.out.trans HF.out (fun k _ h => .inl h)) HG.out (fun k hk h => .inr (HS5.out.not_old h hk))) (a := ⟨b, 18, none⟩) (fun _ => .inl rfl) _
  · go_wp2_with fail
    refine hmix.out.mono ?_
    rintro e w4 ⟨r4, rfl, hB4, hF4⟩
    have HB4 := Kp.mk hB4
    have HF4 := Kp.mk hF4
    clear hB4 hF4 hmix h18
    have h18 := HB4.out.cell 18 (.slice (some ⟨g, 0, none⟩) 128 c2) rfl
    have hf18 := HB4.out.free 18
    go_wp2
    have HD5 : Kp (Blk (w4.setCell ⟨b, 18, none⟩ (.slice (some ⟨g, 0, none⟩) 0 c2)) b 135 (dcells true (cnt + p.length) (runC true (mixC true c (rs ++ p.take k)) (p.drop k) 0) (.slice (some ⟨g, 0, none⟩) 0 c2))) := ⟨by
      rw [← dcells_set18 true _ _ (.slice (some ⟨g, 0, none⟩) 128 c2)]; exact HB4.out.set 18 _⟩
    have HF45 : Kp (Fr (fun k => k = b) W3 (w4.setCell ⟨b, 18, none⟩ (.slice (some ⟨g, 0, none⟩) 0 c2))) := ⟨HF4.out.set (a := ⟨b, 18, none⟩) (fun _ => rfl) _⟩
    have HF5 : Kp (Fr (dfoot b (.slice A rs.length cr)) w' (w4.setCell ⟨b, 18, none⟩ (.slice (some ⟨g, 0, none⟩) 0 c2))) := ⟨HFW.out.trans HF45.out (fun _ _ h => .inl h)⟩
    have HL5 := Kp.mk (HL3.out.fr HF45.out (fun k hk => hk ▸ HLow.out))
    have HX5 := Kp.mk (HQX.out.fr HF45.out hne)
    have HOW5 : Kp ((w4.setCell ⟨b, 18, none⟩ (.slice (some ⟨g, 0, none⟩) 0 c2)).ownsRow low 5 1 (.slice (some ⟨g, 0, none⟩) 0 c2) 0 []) := ⟨own_keep (own_cut HO3.out) HF45.out (fun k hk e => hgb.out ((Option.some.inj hk).trans e))⟩
    have H5 : Kp ((0 < (p.length - k) → (os + k) = (os + k) + 128 * 0) ∧ (p.length - k) = (p.drop k).length - 128 * 0 ∧ (p.length - k) ≤ (cp - k)) := ⟨by rw [HQ.out]; refine ⟨fun h => ?_, ?_, ?_⟩ <;> omega⟩
    have HST := HP5
    clear h18 hf18 HF45 HB4 HF4 HL3 HX3 HR3 HO3 HFW HQX hB3 HP5 HQ
    generalize p.drop k = q at HD5 HX5 H5 HST
    generalize w4.setCell ⟨b, 18, none⟩ (.slice (some ⟨g, 0, none⟩) 0 c2) = W5 at HD5 HF5 HL5 HX5 HOW5 ⊢
    go_loopw [1] (fun s1 wr => ∃ o n m : Nat, s1 = .slice (some ⟨bs, o, none⟩) n m ∧ Kp (∃ j, 128 * j ≤ q.length ∧ (0 < n → o = (os + k) + 128 * j) ∧ n = q.length - 128 * j ∧ n ≤ m ∧ Blk wr b 135 (dcells true (cnt + p.length) (runC true (mixC true c (rs ++ p.take k)) q j) (.slice (some ⟨g, 0, none⟩) 0 c2))) ∧ Kp (Fr (fun k => k = b) W5 wr)) (fun s1 _ => lenOf s1)
    case atStart => exact ⟨(os + k), (p.length - k), (cp - k), rfl, ⟨0, Nat.zero_le _, H5.out.1, H5.out.2.1, H5.out.2.2, HD5.out⟩, ⟨Fr.refl _ _⟩⟩
    case round =>
      obtain ⟨o, n, m, rfl, HJ, HF⟩ := hrel
      obtain ⟨j, hj, ho, hn, hnm, hB⟩ := HJ.out
      have HBk := Kp.mk hB
      have hL1 := HL5.out.fr HF.out (fun k hk => hk ▸ HLow.out)
      have hX1 := HX5.out.fr HF.out hne
      have HL1 := Kp.mk hL1
      have HO := Kp.mk ho
      have HX1 := Kp.mk hX1
      have HN := Kp.mk hn
      have HJJ := Kp.mk hj
      clear HJ hB hL1 hX1 ho hn hj
      by_cases hlt : 128 ≤ n
      · have hlen : ((q.drop (128 * j)).take 128).length = 128 := by
          have := HN.out
          simp; omega
        have hm64 : 128 ≤ m := by omega
        have hmix := Kp.mk (M64.mix_calls b (cnt + p.length) (runC true (mixC true c (rs ++ p.take k)) q j) (.slice (some ⟨g, 0, none⟩) 0 c2) bs o 128 m ((q.drop (128 * j)).take 128) hlen (Nat.le_refl _) (by omega) wr HL1.out HBk.out (by rw [HO.out (by omega)]; exact (HX1.out.drop _).take _))
        go_wp2_with fail
        refine hmix.out.mono ?_
        rintro e w2 ⟨r2, rfl, hB2, hF2⟩
        have HB2 := Kp.mk hB2
        have HF2 := Kp.mk (HF.out.trans hF2 (fun _ _ h => h))
        clear hB2 hF2 hmix
        by_cases hme : m = 128
        · subst hme
          obtain rfl : n = 128 := by omega
          go_wp2
          go_roundw
          case rel => exact ⟨o, 0, 0, rfl, ⟨j + 1, by have := HN.out; omega, fun h => absurd h (Nat.lt_irrefl _), by have := HN.out; omega, Nat.le_refl _, HB2.out⟩, HF2⟩
          case measure => simp [lenOf] <;> omega
        · go_wp2
          go_roundw
          case rel => exact ⟨o + 128, n - 128, m - 128, rfl, ⟨j + 1, by have := HN.out; omega, fun h => by have := HO.out; omega, by have := HN.out; omega, by omega, HB2.out⟩, HF2⟩
          case measure => simp [lenOf] <;> omega
      · obtain ⟨q2, hq2⟩ : ∃ q2, q2 = q.drop (128 * j) := ⟨_, rfl⟩
        have HQ2 := Kp.mk hq2
        have hdl : Kp (n = q2.length) := ⟨by rw [hq2, List.length_drop]; exact HN.out⟩
        have hown : wr.ownsRow low 5 1 (.slice (some ⟨g, 0, none⟩) 0 c2) ([] : List Int).length (bytes []) := own_keep HOW5.out HF.out (fun k hk e => own_ne HOW5.out hk HD5.out (by decide) e)
        have h18 := HBk.out.cell 18 (.slice (some ⟨g, 0, none⟩) 0 c2) rfl
        have HOW := Kp.mk hown
        have hrd : Kp (Reads wr bs o q2) := ⟨by
          rcases Nat.eq_zero_or_pos n with h | h
          · exact ⟨HX1.out.1, fun i hi => by rw [← hdl.out, h] at hi; omega⟩
          · rw [HO.out h, hq2]; exact HX1.out.drop _⟩
        clear hown hq2
        go_wp2_with (at_builtin; refine wpList_appendB rfl _ _ rfl rfl low _ [] rfl HOW.out bs o n _ q2 hdl.out rfl hrd.out (by rw [← hdl.out]; simp only [List.length_nil]; omega) HL1.out.size ?_; intro v2 w2 hown2 hgr hat; have hF3 := hgr.cell_far ⟨b, 18, none⟩ HBk.out.lt (fun e => own_ne HOW.out e.symm HBk.out (by decide) rfl); rw [h18] at hF3; have hz3 := hgr.frozen_far ⟨b, 18, none⟩ HBk.out.lt (fun e => own_ne HOW.out e.symm HBk.out (by decide) rfl); rw [HBk.out.free 18] at hz3; obtain ⟨A9, c9, hv2, hc9⟩ := own_shape hown2; subst hv2; have HO2 := Kp.mk hown2; have HG := Kp.mk hgr; have HT := Kp.mk hat; clear hown2 hgr hat)
        go_end0
        have hB2 : Blk w2 b 135 (dcells true (cnt + p.length) (runC true (mixC true c (rs ++ p.take k)) q j) (.slice (some ⟨g, 0, none⟩) 0 c2)) := (HG.out.block b HBk.out.lt (fun e => own_ne HOW.out e.symm HBk.out (by decide) rfl)).trans HBk.out
        have hjn : q.length / 128 = j := by have := HN.out; have := HJJ.out; omega
        have hst := HST.out j hjn
        rw [← HQ2.out] at hst
        rw [hst]
        simp only [List.nil_append] at HO2 HT
        first | refine ⟨_, .slice A9 q2.length c9, rfl, ⟨?_, ?_, HLow.out⟩, ?_, ?_⟩ | refine ⟨⟨_, rfl⟩, .slice A9 q2.length c9, ⟨?_, ?_, HLow.out⟩, ?_, ?_⟩
        · rw [← dcells_set18 true _ _ (.slice (some ⟨g, 0, none⟩) 0 c2)]
          exact hB2.set 18 _
        · exact own_keep HO2.out (Fr.set (S := fun k => k = b) (a := ⟨b, 18, none⟩) (Fr.refl _ _) (fun _ => rfl) _) (fun k hk e => own_ne HO2.out hk hB2 (by decide) e)
        · exact (Heir.of HT.out).trans HS5.out (Nat.le_trans HF5.out.size HF.out.size)
        · exact Fr.set (Fr.grown (HF5.out.trans HF.out (fun k _ h => .inl h)) HG.out (fun k hk h => .inr (HS5.out.not_old h hk))) (a := ⟨b, 18, none⟩) (fun _ => .inl rfl) _
end Go.Proofs.YtjcmgpiapbeodaaDoor.Sha.W64
