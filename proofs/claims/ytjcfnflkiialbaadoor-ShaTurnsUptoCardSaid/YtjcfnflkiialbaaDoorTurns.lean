/-
  The walk of ShaTurns.
-/
import Derived.Test.YtjcfnflkiialbaaDoorTurnsDo
namespace Go.Proofs.YtjcfnflkiialbaaDoor.Sha
open Go.RowKit Go.Proofs.YtjcfnflkiialbaaDoor.Mem Go.Proofs.YtjcfnflkiialbaaDoorW.PrintWords
/-- the first n pieces, one behind another -/
def catP (P : Nat → List Int) (n : Nat) : List Int := (List.range n).flatMap P
theorem catP_succ (P : Nat → List Int) (n : Nat) : catP P (n + 1) = catP P n ++ P n := by simp [catP, List.range_succ]
theorem catP_mono (P : Nat → List Int) {n m : Nat} (h : n ≤ m) : (catP P n).length ≤ (catP P m).length := by
  induction m with
  | zero => obtain rfl : n = 0 := by omega
            exact Nat.le_refl _
  | succ m ih =>
    rcases Nat.lt_or_ge n (m + 1) with h' | h'
    · exact Nat.le_trans (ih (by omega)) (by rw [catP_succ, List.length_append]; omega)
    · obtain rfl : n = m + 1 := by omega
      exact Nat.le_refl _
theorem St.write_nil' (B : Bool) : (St.new B).write [] = St.new B := by
  cases B <;> simp [St.write, St.new, absorb, runC, maxCount, blk]
set_option maxHeartbeats 8000000 in
set_option maxRecDepth 100000 in
theorem turns_calls (A : Option Addr) (n cp : Nat) (Ar : Nat → Option Addr) (C : Nat → Nat) (P : Nat → List Int) (w : World) (hL : Laid w) (hn : n ≤ 1000000000000) (hcat : (catP P n).length ≤ 10000000000000)
    (hX : n = 0 ∨ ∃ bp op, A = some ⟨bp, op, none⟩ ∧ bp < w.heap.size ∧ ∀ r, r < n → w.cell? ⟨bp, op + r, none⟩ = some (.slice (Ar r) (P r).length (C r)) ∧ Src w (fun _ => False) (Ar r) (C r) (P r)) :
    Calls Tryd.prog 7 #[.slice A n cp] w fun e w' => e = .returned (.bool true) ∧ Below w.heap.size w w' := by
  have HL := Kp.mk hL
  have HLw := Kp.mk hL.size
  have HX := Kp.mk hX
  have HC := Kp.mk hcat
  clear hL hX hcat
  go_enter Tryd.func7, Tryd.ntmps7
  go_wp2_with fail
  refine (abc_calls w HL.out).mono ?_
  rintro e w1 ⟨rfl, B1⟩
  have F1 : Kp (Fr (fun _ => False) w w1) := ⟨Fr.of_below B1 _⟩
  clear B1
  go_wp2_with fail
  refine (new_calls false w1 (HL.out.fr F1.out (fun _ h => h.elim))).mono ?_
  rintro e w2 ⟨ba, rfl, hba, hDa, B2⟩
  have F2 := Kp.mk (F1.out.then_below B2)
  have HDa := Kp.mk hDa
  have HBa := Kp.mk hba
  clear B2 hDa hba
  go_wp2_with fail
  refine (new_calls true w2 (HL.out.fr F2.out (fun _ h => h.elim))).mono ?_
  rintro e w3 ⟨bb, rfl, hbb, hDb, B3⟩
  have F3 := Kp.mk (F2.out.then_below B3)
  have q0 := Kp.mk HDa.out.blk.lt
  have HDa := Kp.mk (dg_fr HDa.out (Fr.of_below B3 (fun _ => False)) (fun _ _ h => h))
  have HDb := Kp.mk hDb
  have HBb := Kp.mk hbb
  have HB3 := Kp.mk B3
  clear B3 hDb hbb
  have hnum := num_calls 0
  go_wp2_with (first | (go_at_call 16; (with_reducible refine (hnum _).mono ?_); rintro e w' ⟨rfl, rfl⟩))
  obtain ⟨bk, hbk⟩ : ∃ bk, bk = w'.heap.size := ⟨_, rfl⟩
  have HT0 : Kp (TurnsAt w (w'.alloc (.cells #[.slice none 0 0, .slice none 0 0] 34)) ba bb bk (.slice none 0 0) (.slice none 0 0) (.slice none 0 0) (.slice none 0 0) (.slice none 0 0) (fun _ => False) ((St.new false).write (catP P 0)) ((St.new true).write (catP P 0)) (catP P 0) (3 * 0)) := ⟨by
    have hF : Fr (fun _ => False) w' (w'.alloc (.cells #[.slice none 0 0, .slice none 0 0] 34)) := (Fr.refl _ w').alloc _
    have q1 := HBa.out
    have q2 := HBb.out
    have q3 := HDa.out.blk.lt
    have q4 := HDb.out.blk.lt
    have q5 := F1.out.size
    have q6 := F2.out.size
    have q8 : ba < w2.heap.size := q0.out
    have q7 := F3.out.size
    have hz : (w'.alloc (.cells #[.slice none 0 0, .slice none 0 0] 34)).heap.size = w'.heap.size + 1 := by simp
    refine ⟨by show Dg _ ba _ ((St.new false).write []); rw [St.write_nil']; exact dg_fr HDa.out hF (fun _ _ h => h), by show Dg _ bb _ ((St.new true).write []); rw [St.write_nil']; exact dg_fr HDb.out hF (fun _ _ h => h), Blk.new' w' _ _ hbk, BookIn.nil _, ⟨rfl, .inl ⟨rfl, rfl⟩⟩, ⟨fun k => if k = ba then 1 else if k = bb then 2 else if k = bk then 3 else 0, fun k hk => ?_, fun k hk => ?_, fun k hk => ?_, fun k hk => ?_, fun k hk => by cases hk⟩, F3.out.alloc _⟩
    · dsimp only; rw [if_neg (by omega), if_neg (by omega), if_neg (by omega)]
    · rcases hk with rfl | hk
      · exact ⟨by omega, if_pos rfl⟩
      · cases hk
    · rcases hk with rfl | hk
      · exact ⟨by omega, by dsimp only; rw [if_neg (by omega), if_pos rfl]⟩
      · cases hk
    · rcases hk with rfl | hk
      · exact ⟨by omega, by dsimp only; rw [if_neg (by omega), if_neg (by omega), if_pos rfl]⟩
      · exact hk.elim⟩
  rw [← hbk]
  clear hbk HDa HDb HBa HBb F3 F1 F2 hnum q0
  generalize w'.alloc (.cells #[.slice none 0 0, .slice none 0 0] 34) = W0 at HT0 ⊢
  go_loopw [7, 9] (fun s7 s9 wr => ∃ (i : Nat) (rva rvb LV MV : Value) (Aa : Option Addr) (ca : Nat) (T : Nat → Prop), s7 = .slice Aa (catP P i).length ca ∧ s9 = .int .i64 (i : Int) ∧ Kp (i ≤ n) ∧ Kp (TurnsAt w wr ba bb bk rva rvb LV MV (.slice Aa (catP P i).length ca) T ((St.new false).write (catP P i)) ((St.new true).write (catP P i)) (catP P i) (3 * i))) (fun _ s9 _ => n - (intOf s9).toNat)
  case atStart => exact ⟨0, _, _, _, _, none, 0, _, rfl, rfl, ⟨Nat.zero_le _⟩, HT0⟩
  case round =>
    clear HT0
    obtain ⟨i, rva, rvb, LV, MV, Aa, ca, T, rfl, rfl, hi, HT⟩ := hrel
    have hi' := hi.out
    by_cases hlt : i < n
    · obtain ⟨bp, op, rfl, hbp, hcell⟩ := HX.out.resolve_left (by omega)
      obtain ⟨hci, hsi⟩ := hcell i hlt
      have HSi := Kp.mk hsi
      have HCi := Kp.mk hci
      have hlen : (catP P (i + 1)).length ≤ 10000000000000 := Nat.le_trans (catP_mono P (by omega)) HC.out
      have hlq : (catP P (i + 1)).length = (catP P i).length + (P i).length := by rw [catP_succ, List.length_append]
      have HM : Kp (∀ B, ((St.new B).write (catP P i)).cnt + (P i).length ≤ maxCount) := ⟨fun B => by rw [cnt_of B _ (by unfold maxCount; omega)]; unfold maxCount; omega⟩
      have HW : Kp (∀ B, ((St.new B).write (catP P i)).write (P i) = (St.new B).write (catP P (i + 1))) := ⟨fun B => by rw [write_write _ _ _ (by show 0 + _ ≤ maxCount; unfold maxCount; omega), catP_succ]⟩
      have HOk : Kp (∀ B, ((St.new B).write (catP P i)).Ok) := ⟨fun B => write_ok _ (new_ok B) _⟩
      have HOk' : Kp (∀ B, ((St.new B).write (catP P (i + 1))).Ok) := ⟨fun B => write_ok _ (new_ok B) _⟩
      have HLen : Kp ((catP P i).length + (P i).length ≤ 10000000000000) := ⟨by omega⟩
      have hc1 := (World.cell?_of_block (HT.out.fr.block bp hbp (fun h => h))).trans hci
      clear hci hsi hcell hlen hlq
      go_wp2_with fail
      refine (write_calls _ (HOk.out false) ba rva (Ar i) (C i) (P i) (HM.out false) wr (HL.out.fr HT.out.fr (fun _ h => h.elim)) HT.out.da (src_out HSi.out HT.out.fr (fun k hk => (HT.out.high.2.2 k hk).1))).mono ?_
      rintro e wa ⟨r, rva', rfl, hD, hh, hf⟩
      rw [HW.out] at hD
      have HT1 := Kp.mk (HT.out.writeA hD hh hf)
      clear hD hh hf HT hc1
      go_wp2_with fail
      refine (sumL_calls false _ ba rva' wa (HL.out.fr HT1.out.fr (fun _ h => h.elim)) HT1.out.da).mono ?_
      rintro e wb ⟨Av, cv, rfl, hO, hnew, _, hB⟩
      have HO := Kp.mk hO
      have HN := Kp.mk hnew
      have HB := Kp.mk (Fr.of_below hB (fun _ => False))
      clear hO hB hnew
      go_wp2_with fail
      refine (hold_turns HT1.out HLw.out HB.out (by omega) Av _ cv _ HO.out (by decide) HN.out).mono ?_
      rintro e wc ⟨r2, LV2, MV2, T2, rfl, hT⟩
      have HT2 := Kp.mk hT
      have hc1 := (World.cell?_of_block (HT2.out.fr.block bp hbp (fun h => h))).trans HCi.out
      clear hT HT1 HO HN HB
      go_wp2_with fail
      refine (write_calls _ (HOk.out true) bb rvb (Ar i) (C i) (P i) (HM.out true) wc (HL.out.fr HT2.out.fr (fun _ h => h.elim)) HT2.out.db (src_out HSi.out HT2.out.fr (fun k hk => (HT2.out.high.2.2 k hk).2))).mono ?_
      rintro e wd ⟨r3, rvb', rfl, hD, hh, hf⟩
      rw [HW.out] at hD
      have HT3 := Kp.mk (HT2.out.writeB hD hh hf)
      clear hD hh hf HT2 hc1
      go_wp2_with fail
      refine (saveL_calls _ (HOk'.out true) bb rvb' wd HT3.out.db).mono ?_
      rintro e we ⟨gs, ns, rfl, hns, hne, hO, hnew, _, hB⟩
      clear hne
      have HO := Kp.mk hO
      have HN := Kp.mk hnew
      have HB := Kp.mk (Fr.of_below hB (fun _ => False))
      clear hO hB hnew
      go_wp2_with fail
      refine (hold_turns HT3.out HLw.out HB.out (by omega) (some ⟨gs, 0, none⟩) ns ns _ HO.out (by omega) HN.out).mono ?_
      rintro e wf ⟨r4, LV4, MV4, T4, rfl, hT⟩
      have HT4 := Kp.mk hT
      have hc1 := (World.cell?_of_block (HT4.out.fr.block bp hbp (fun h => h))).trans HCi.out
      clear hT HT3 HO HN HB
      go_wp2_with (at_builtin; go_loud (refine wpList_appendS rfl _ _ rfl rfl low (.slice Aa (catP P i).length ca) (catP P i) rfl (by exact HT4.out.all) (Ar i) (P i).length (C i) (P i) rfl rfl (by exact HSi.out.fr HT4.out.fr) (by have := HLen.out; omega) (by exact Nat.le_trans HLw.out HT4.out.fr.size) ?_; intro vg wg hown hgr hat; obtain ⟨Ag, cg, hvg, _⟩ := own_shape hown; subst hvg; have HT5 := Kp.mk (HT4.out.append hown hgr hat); clear hown hgr hat HT4))
      go_wp2_with fail
      refine (sumL_calls true _ bb rvb' wg (HL.out.fr HT5.out.fr (fun _ h => h.elim)) HT5.out.db).mono ?_
      rintro e wh ⟨Ah, ch, rfl, hO, hnew, _, hB⟩
      have HO := Kp.mk hO
      have HN := Kp.mk hnew
      have HB := Kp.mk (Fr.of_below hB (fun _ => False))
      clear hO hB hnew
      go_wp2_with fail
      refine (hold_turns HT5.out HLw.out HB.out (by omega) Ah _ ch _ HO.out (by decide) HN.out).mono ?_
      rintro e wi ⟨r6, LV6, MV6, T6, rfl, hT⟩
      have HT6 := Kp.mk hT
      clear hT HT5 HO HN HB
      go_wp2_with fail
      refine (kept_turns HT6.out (by omega)).mono ?_
      rintro e wj ⟨rfl, hT⟩
      have HT7 := Kp.mk hT
      clear hT HT6
      have HS : Kp (catP P i ++ P i = catP P (i + 1)) := ⟨(catP_succ P i).symm⟩
      rw [HS.out] at HT7
      go_wp2
      go_roundw
      case rel => exact ⟨i + 1, _, _, _, _, _, _, _, by rw [← HS.out, List.length_append], by go_num, ⟨hlt⟩, HT7⟩
      case measure => simp [intOf] <;> omega
    · obtain rfl : i = n := by omega
      have HLen : Kp ((catP P i).length ≤ 10000000000000) := HC
      have HSr : Kp (Src wr (fun _ => False) Aa ca (catP P i)) := ⟨by
        obtain ⟨A', c', he, hs⟩ := Src.of_own HT.out.all (fun _ => False) (fun _ _ h => h)
        simp only [Value.slice.injEq] at he
        obtain ⟨rfl, _, rfl⟩ := he
        exact hs⟩
      go_wp2_with fail
      refine (sumL_calls false _ ba rva wr (HL.out.fr HT.out.fr (fun _ h => h.elim)) HT.out.da).mono ?_
      rintro e wa ⟨A1, c1, rfl, _, _, hS, hB⟩
      have H1 := Kp.mk hS
      have HT1 := Kp.mk (HT.out.below (Fr.of_below hB (fun _ => False)))
      have HS1 := Kp.mk (HSr.out.fr (Fr.of_below hB (fun _ => False)))
      clear hS hB HT HSr
      go_wp2_with fail
      refine (listL_calls false Aa ca (catP P i) wa (HL.out.fr HT1.out.fr (fun _ h => h.elim)) HS1.out (Nat.le_trans HLen.out (by decide))).mono ?_
      rintro e wb ⟨A2, c2, rfl, hS, hB⟩
      have H2 := Kp.mk hS
      have H1b := Kp.mk (H1.out.fr (Fr.of_below hB (fun _ => False)))
      have HT2 := Kp.mk (HT1.out.below (Fr.of_below hB (fun _ => False)))
      have HS2 := Kp.mk (HS1.out.fr (Fr.of_below hB (fun _ => False)))
      clear hS hB HT1 HS1 H1
      go_wp2_with fail
      refine (same_hash wb false _ H1b.out H2.out).mono ?_
      rintro e wc ⟨rfl, hB⟩
      have HT3 := Kp.mk (HT2.out.below (Fr.of_below hB (fun _ => False)))
      have HS3 := Kp.mk (HS2.out.fr (Fr.of_below hB (fun _ => False)))
      clear hB HT2 HS2 H1b H2
      go_wp2_with fail
      refine (sumL_calls true _ bb rvb wc (HL.out.fr HT3.out.fr (fun _ h => h.elim)) HT3.out.db).mono ?_
      rintro e wd ⟨A3, c3, rfl, _, _, hS, hB⟩
      have H1 := Kp.mk hS
      have HT4 := Kp.mk (HT3.out.below (Fr.of_below hB (fun _ => False)))
      have HS4 := Kp.mk (HS3.out.fr (Fr.of_below hB (fun _ => False)))
      clear hS hB HT3 HS3
      go_wp2_with fail
      refine (listL_calls true Aa ca (catP P i) wd (HL.out.fr HT4.out.fr (fun _ h => h.elim)) HS4.out (Nat.le_trans HLen.out (by decide))).mono ?_
      rintro e we ⟨A4, c4, rfl, hS, hB⟩
      have H2 := Kp.mk hS
      have H1b := Kp.mk (H1.out.fr (Fr.of_below hB (fun _ => False)))
      have HT5 := Kp.mk (HT4.out.below (Fr.of_below hB (fun _ => False)))
      clear hS hB HT4 HS4 H1
      go_wp2_with fail
      refine (same_hash we true _ H1b.out H2.out).mono ?_
      rintro e wf ⟨rfl, hB⟩
      have HT6 := Kp.mk (HT5.out.below (Fr.of_below hB (fun _ => False)))
      clear hB HT5 H1b H2
      go_wp2_with fail
      refine (kept_turns HT6.out (by omega)).mono ?_
      rintro e wg ⟨rfl, hT⟩
      have HF := Kp.mk hT.fr
      clear hT HT6
      go_wp2
      go_ret
      exact ⟨rfl, HF.out.below (fun _ _ h => h)⟩
end Go.Proofs.YtjcfnflkiialbaaDoor.Sha
