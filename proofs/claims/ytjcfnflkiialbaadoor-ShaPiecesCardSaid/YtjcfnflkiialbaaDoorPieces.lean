/-
  The walk of ShaPieces.
-/
import Derived.Test.YtjcfnflkiialbaaDoorAux2
namespace Go.Proofs.YtjcfnflkiialbaaDoor.Sha
open Go.RowKit Go.Proofs.YtjcfnflkiialbaaDoor.Mem Go.Proofs.YtjcfnflkiialbaaDoorW.PrintWords
theorem new_write_nil (B : Bool) (p : List Int) : (St.new B).write (p.take 0) = St.new B := by
  cases B <;> simp [St.write, St.new, absorb, runC, maxCount, blk]
theorem dg_keep {w w1 : World} {b : Nat} {rv : Value} {s : St} (h : Dg w b rv s) (hf : Fr (fun _ => False) w w1) : Dg w1 b rv s := ⟨h.blk.fr hf (fun h => h), own_keep h.rest hf (fun _ _ h => h), h.low⟩
theorem src_part {w : World} {S : Nat → Prop} {ad : Addr} {cp : Nat} {p : List Int} (h : Src w S (some ad) cp p) (a m : Nat) (hm : a + m ≤ p.length) :
    (cp = a → Src w S (some ad) 0 ((p.drop a).take m)) ∧ (cp ≠ a → Src w S (some (ad.add a)) (cp - a) ((p.drop a).take m)) := by
  have hl : ((p.drop a).take m).length = m := by simp; omega
  have hc := h.1
  refine ⟨fun e => ⟨by omega, .inr (.inl ⟨List.eq_nil_of_length_eq_zero (by omega), _, rfl⟩)⟩, fun _ => ⟨by omega, ?_⟩⟩
  rcases h.2 with ⟨h1, _⟩ | ⟨h1, _⟩ | ⟨bs, os, h1, h2, h3⟩
  · cases h1
  · exact .inr (.inl ⟨by rw [h1]; simp, _, rfl⟩)
  · obtain rfl := Option.some.inj h1
    exact .inr (.inr ⟨bs, os + a, by rw [Addr.add_lit], (h2.drop a).take m, h3⟩)
set_option maxHeartbeats 8000000 in
set_option maxRecDepth 100000 in
theorem pieces_some (kd : Int) (ad : Addr) (cp : Nat) (p : List Int) (A2 : Option Addr) (n2 cp2 : Nat) (zs : List Int) (hp : p.length ≤ 140737488355328) (hn2b : n2 ≤ 140737488355328) (hz0 : ∀ i, -9223372036854775808 ≤ zs.getD i 0 ∧ zs.getD i 0 ≤ 9223372036854775807) (w : World) (hL : Laid w)
    (hX : Src w (fun _ => False) (some ad) cp p) (hZ : n2 = 0 ∨ ∃ bc oc, A2 = some ⟨bc, oc, none⟩ ∧ bc < w.heap.size ∧ ∀ i, i < n2 → w.cell? ⟨bc, oc + i, none⟩ = some (.int .i64 (zs.getD i 0))) :
    Calls Tryd.prog 6 #[.int .i64 kd, .slice (some ad) p.length cp, .slice A2 n2 cp2] w fun e w' => e = .returned (.bool true) ∧ Below w.heap.size w w' := by
  have hpm : p.length ≤ maxCount := Nat.le_trans hp (by decide)
  have hcp := hX.1
  have HL := Kp.mk hL
  have HX := Kp.mk hX
  have HZ := Kp.mk hZ
  have HZ0 := Kp.mk hz0
  clear hL hX hZ hz0
  go_enter Tryd.func6, Tryd.ntmps6
  go_wp2_with fail
  refine (abc_calls w HL.out).mono ?_
  rintro e w1 ⟨rfl, B1⟩
  have F1 : Kp (Fr (fun _ => False) w w1) := ⟨Fr.of_below B1 _⟩
  clear B1
  go_wp2_with fail
  refine (kindOf_calls kd w1).mono ?_
  rintro e w1' ⟨B, rfl, rfl⟩
  go_wp2_with fail
  refine (new_calls B _ (HL.out.fr F1.out (fun _ h => h.elim))).mono ?_
  rintro e w2 ⟨b, rfl, hb, hD, B2⟩
  have F2 := Kp.mk (F1.out.then_below B2)
  have HB := Kp.mk (Nat.le_trans F1.out.size hb)
  have HD : Kp (Dg w2 b (.slice none 0 0) ((St.new B).write (p.take 0))) := ⟨by rw [new_write_nil]; exact hD⟩
  have HV : Kp (∀ k, (Value.slice none 0 0).ownBlock = some k → w.heap.size ≤ k) := ⟨fun k h => by cases h⟩
  clear B2 F1 hb hD
  have hnum := num_calls 0
  go_wp2_with (first | (go_at_call 16; (with_reducible refine (hnum _).mono ?_); rintro e w' ⟨rfl, rfl⟩))
  clear hnum
  go_loopw [10, 11] (fun s10 s11 wr => ∃ (at_ i : Nat) (rv : Value), s10 = .int .i64 (at_ : Int) ∧ s11 = .int .i64 (i : Int) ∧ Kp (at_ ≤ p.length) ∧ Kp (i ≤ n2) ∧ Kp (Dg wr b rv ((St.new B).write (p.take at_))) ∧ Kp (∀ k, rv.ownBlock = some k → w.heap.size ≤ k) ∧ Kp (Fr (fun _ => False) w wr)) (fun _ s11 _ => n2 - (intOf s11).toNat)
  case atStart => exact ⟨0, 0, _, rfl, rfl, ⟨Nat.zero_le _⟩, ⟨Nat.zero_le _⟩, HD, HV, F2⟩
  case round =>
    clear HD HV F2
    obtain ⟨at_, i, rv, rfl, rfl, A1, A3, HD, HV, HF⟩ := hrel
    have hat := A1.out
    have hi := A3.out
    have htl : Kp ((p.take at_).length = at_) := ⟨by simp <;> omega⟩
    have htm : Kp ((p.take at_).length ≤ maxCount) := ⟨by rw [htl.out]; exact Nat.le_trans hat hpm⟩
    have hok : Kp (((St.new B).write (p.take at_)).Ok) := ⟨write_ok _ (new_ok B) _⟩
    have hcnt : Kp (((St.new B).write (p.take at_)).cnt = at_) := ⟨by rw [cnt_of B _ htm.out, htl.out]⟩
    have hacp : at_ ≤ cp := Nat.le_trans hat hcp
    have HFoot : Kp (∀ k, k < w.heap.size → ¬ dfoot b rv k) := ⟨fun k hk h => h.elim (fun h => by have := HB.out; omega) (fun h => by have := HV.out k h; omega)⟩
    have HWt : Kp (∀ m, at_ + m ≤ p.length → ∀ A' c', Src w (fun _ => False) A' c' ((p.drop at_).take m) → Calls Tryd.prog 34 #[.pointer (some ⟨b, 0, none⟩), .slice A' m c'] wr fun e w' => ∃ r rv', e = .returned r ∧ Dg w' b rv' ((St.new B).write (p.take (at_ + m))) ∧ (∀ k, rv'.ownBlock = some k → w.heap.size ≤ k) ∧ Fr (fun _ => False) w w') := ⟨fun m hm1 A' c' hs => by
      have hql : ((p.drop at_).take m).length = m := by simp <;> omega
      have hws : ((St.new B).write (p.take at_)).write ((p.drop at_).take m) = (St.new B).write (p.take (at_ + m)) := by
        rw [write_write _ _ _ (by show 0 + _ ≤ maxCount; rw [htl.out, hql]; omega), List.take_add]
      have h := write_calls ((St.new B).write (p.take at_)) hok.out b rv A' c' ((p.drop at_).take m) (by rw [hcnt.out, hql]; omega) wr (HL.out.fr HF.out (fun _ h => h.elim)) HD.out (src_out hs HF.out HFoot.out)
      rw [hql] at h
      refine h.mono ?_
      rintro e w' ⟨r, rv', rfl, h1, h2, h3⟩
      rw [hws] at h1
      refine ⟨r, rv', rfl, h1, fun k hk => ?_, HF.out.trans h3 (fun k hk h => HFoot.out k hk h)⟩
      rcases h2 with h2 | ⟨g, h2, h2'⟩
      · exact HV.out k (h2.symm.trans hk)
      · have : g = k := Option.some.inj (h2.symm.trans hk)
        have := HF.out.size
        omega⟩
    by_cases hlt : i < n2
    · obtain ⟨bc, oc, rfl, hbc, hcell⟩ := HZ.out.resolve_left (by omega)
      have hci := (World.cell?_of_block (HF.out.block bc hbc (fun h => h))).trans (hcell i hlt)
      have hzr := HZ0.out i
      have HCELL := Kp.mk hcell
      clear hcell
      generalize zs.getD i 0 = z at hci hzr
      by_cases hneg : z < 0
      · have HSum : Kp (∀ W, Fr (fun _ => False) wr W → Calls Tryd.prog 31 #[.pointer (some ⟨b, 0, none⟩)] W fun e w' => ∃ v, e = .returned v ∧ Own w' W.heap.size v (hash B (p.take at_)) ∧ Below W.heap.size W w') := ⟨fun W hW =>
          sum_calls ((St.new B).write (p.take at_)) hok.out b rv W (HL.out.fr (HF.out.trans hW (fun _ _ h => h)) (fun _ h => h.elim)) (dg_keep HD.out hW)⟩
        have HLst : Kp (∀ W, Fr (fun _ => False) wr W → Calls Tryd.prog 32 #[.int .i64 (kind B : Nat), .slice (some ad) at_ cp] W fun e w' => ∃ v, e = .returned v ∧ Own w' W.heap.size v (hash B (p.take at_)) ∧ Below W.heap.size W w') := ⟨fun W hW => by
          have h := list_calls B (some ad) cp (p.take at_) W (HL.out.fr (HF.out.trans hW (fun _ _ h => h)) (fun _ h => h.elim)) ((HX.out.fr (HF.out.trans hW (fun _ _ h => h))).cut at_) htm.out
          rw [htl.out] at h
          exact h⟩
        have HWr : Kp (∀ W, Fr (fun _ => False) wr W → Calls Tryd.prog 33 #[.pointer (some ⟨b, 0, none⟩)] W fun e w' => e = .returned (.int .i64 (at_ : Int)) ∧ w' = W) := ⟨fun W hW => by
          have h := written_calls b ((St.new B).write (p.take at_)) rv W (dg_keep HD.out hW)
          rw [hcnt.out] at h
          exact h⟩
        have HSz := Kp.mk (hash_small B (p.take at_))
        clear htl htm hok hcnt HFoot
        go_wp2
        go_region_with (first
          | (go_at_call 31; (with_reducible refine (HSum.out _ (by repeat (first | exact Fr.refl _ _ | apply Fr.drew))).mono ?_); rintro e wa ⟨v1, rfl, hO1, hB1⟩; have HO1 := Kp.mk hO1; have HFa : Kp (Fr (fun _ => False) wr wa) := ⟨Fr.then_below (by repeat (first | exact Fr.refl _ _ | apply Fr.drew)) hB1⟩; clear hO1 hB1)
          | (go_at_call 32; (with_reducible refine (HLst.out _ HFa.out).mono ?_); rintro e wb ⟨v2, rfl, hO2, hB2⟩; have HO2 := Kp.mk hO2; have HO1b := Kp.mk (own_below HO1.out hB2); have HFb := Kp.mk (HFa.out.then_below hB2); clear hO2 hB2)
          | (go_at_call 17; (with_reducible refine (same_calls _ _ _ _ _ _ HSz.out HO1b.out HO2.out).mono ?_); rintro e wc ⟨rfl, hB3⟩; have HFc := Kp.mk (HFb.out.then_below hB3); clear hB3)
          | (go_at_call 33; (with_reducible refine (HWr.out _ HFc.out).mono ?_); rintro e wd ⟨rfl, rfl⟩))
        go_wp2
        go_roundw
        case rel => exact ⟨at_, i + 1, rv, rfl, by go_num, A1, ⟨hlt⟩, ⟨dg_keep HD.out HFc.out⟩, HV, ⟨HF.out.trans HFc.out (fun _ _ h => h)⟩⟩
        case measure => simp [intOf] <;> omega
      · obtain ⟨m, hm1, hm2⟩ : ∃ m : Nat, at_ + m ≤ p.length ∧ ((z ≤ (p.length : Int) - (at_ : Int) ∧ z = (m : Int)) ∨ (¬ z ≤ (p.length : Int) - (at_ : Int) ∧ (p.length : Int) - (at_ : Int) = (m : Int))) := by
          by_cases hzz : z ≤ (p.length : Int) - (at_ : Int)
          · exact ⟨z.toNat, by omega, .inl ⟨hzz, by omega⟩⟩
          · exact ⟨p.length - at_, by omega, .inr ⟨hzz, by omega⟩⟩
        clear htl htm hok hcnt HFoot
        by_cases hca : cp = at_
        · rcases hm2 with ⟨hz1, rfl⟩ | ⟨hz1, hz2⟩
          · have hdec : decide ((p.length : Int) - (at_ : Int) < (m : Int)) = false := decide_eq_false (by omega)
            have hnn : decide ((m : Int) < 0) = false := decide_eq_false (by omega)
            obtain rfl : m = 0 := by omega
            subst hca
            clear hzr hneg
            go_wp2_with fail
            refine (HWt.out 0 hm1 _ 0 ((src_part HX.out cp 0 hm1).1 rfl)).mono ?_
            rintro e wx ⟨r, rv', rfl, hD, hV, hF⟩
            have HDx := Kp.mk hD
            have HVx := Kp.mk hV
            have HFx := Kp.mk hF
            clear hD hV hF HWt
            go_wp2
            go_roundw
            case rel => exact ⟨cp + 0, i + 1, rv', by go_num, by go_num, ⟨hm1⟩, ⟨hlt⟩, HDx, HVx, HFx⟩
            case measure => simp [intOf] <;> omega
          · have hdec : decide ((p.length : Int) - (at_ : Int) < z) = true := decide_eq_true (by omega)
            have hnn : decide (z < 0) = false := decide_eq_false (by omega)
            obtain rfl : m = 0 := by omega
            subst hca
            clear hzr hneg
            go_wp2_with fail
            refine (HWt.out 0 hm1 _ 0 ((src_part HX.out cp 0 hm1).1 rfl)).mono ?_
            rintro e wx ⟨r, rv', rfl, hD, hV, hF⟩
            have HDx := Kp.mk hD
            have HVx := Kp.mk hV
            have HFx := Kp.mk hF
            clear hD hV hF HWt
            go_wp2
            go_roundw
            case rel => exact ⟨cp + 0, i + 1, rv', by go_num, by go_num, ⟨hm1⟩, ⟨hlt⟩, HDx, HVx, HFx⟩
            case measure => simp [intOf] <;> omega
        · rcases hm2 with ⟨hz1, rfl⟩ | ⟨hz1, hz2⟩
          · have hdec : decide ((p.length : Int) - (at_ : Int) < (m : Int)) = false := decide_eq_false (by omega)
            have hnn : decide ((m : Int) < 0) = false := decide_eq_false (by omega)
            have hsub : at_ + m - at_ = m := by omega
            have hmc : at_ + m ≤ cp := by omega
            have HCA := Kp.mk hca
            have hca' : at_ < cp := by omega
            clear hca hacp hzr hpm hcp hneg
            go_wp2_with fail
            refine (HWt.out m hm1 _ _ ((src_part HX.out at_ m hm1).2 HCA.out)).mono ?_
            rintro e wx ⟨r, rv', rfl, hD, hV, hF⟩
            have HDx := Kp.mk hD
            have HVx := Kp.mk hV
            have HFx := Kp.mk hF
            clear hD hV hF HWt
            go_wp2
            go_roundw
            case rel => exact ⟨at_ + m, i + 1, rv', by go_num, by go_num, ⟨hm1⟩, ⟨hlt⟩, HDx, HVx, HFx⟩
            case measure => simp [intOf] <;> omega
          · have hdec : decide ((p.length : Int) - (at_ : Int) < z) = true := decide_eq_true (by omega)
            have hnn : decide (z < 0) = false := decide_eq_false (by omega)
            have hsub : at_ + m - at_ = m := by omega
            have hmc : at_ + m ≤ cp := by omega
            have HCA := Kp.mk hca
            have hca' : at_ < cp := by omega
            clear hca hacp hzr hpm hcp hneg
            go_wp2_with fail
            refine (HWt.out m hm1 _ _ ((src_part HX.out at_ m hm1).2 HCA.out)).mono ?_
            rintro e wx ⟨r, rv', rfl, hD, hV, hF⟩
            have HDx := Kp.mk hD
            have HVx := Kp.mk hV
            have HFx := Kp.mk hF
            clear hD hV hF HWt
            go_wp2
            go_roundw
            case rel => exact ⟨at_ + m, i + 1, rv', by go_num, by go_num, ⟨hm1⟩, ⟨hlt⟩, HDx, HVx, HFx⟩
            case measure => simp [intOf] <;> omega
    · obtain rfl : i = n2 := by omega
      have hm1 : at_ + (p.length - at_) ≤ p.length := by omega
      have hall : Kp (p.take (at_ + (p.length - at_)) = p) := ⟨List.take_of_length_le (by omega)⟩
      have HWx := Kp.mk (HWt.out (p.length - at_) hm1)
      rw [hall.out] at HWx
      clear HWt hall htl htm hok hcnt HFoot
      by_cases hca : cp = at_
      · have HCA := Kp.mk hca
        have HM0 : Kp (p.length - at_ = 0) := ⟨by omega⟩
        rw [HM0.out] at HWx
        subst hca
        clear hn2b
        go_wp2_with fail
        refine (HWx.out _ 0 (by have h := (src_part HX.out cp (p.length - cp) hm1).1 rfl; rw [HM0.out] at h; exact h)).mono ?_
        rintro e wx ⟨r, rv', rfl, hD, hV, hF⟩
        have HDx := Kp.mk hD
        have HFx := Kp.mk hF
        clear hD hV hF HWx HD HV HF
        go_wp2_with fail
        refine (sum_calls ((St.new B).write p) (write_ok _ (new_ok B) p) b rv' wx (HL.out.fr HFx.out (fun _ h => h.elim)) HDx.out).mono ?_
        rintro e wy ⟨v1, rfl, hO1, hB1⟩
        have HO1 := Kp.mk (show Own wy wx.heap.size v1 (hash B p) from hO1)
        have HFy := Kp.mk (HFx.out.then_below hB1)
        have HDy := Kp.mk (dg_keep HDx.out (Fr.of_below hB1 (fun _ => False)))
        clear hO1 hB1 HDx HFx
        go_wp2_with fail
        refine (list_calls B (some ad) cp p wy (HL.out.fr HFy.out (fun _ h => h.elim)) (HX.out.fr HFy.out) hpm).mono ?_
        rintro e wz ⟨v2, rfl, hO2, hB2⟩
        have HO2 := Kp.mk hO2
        have HO1z := Kp.mk (own_below HO1.out hB2)
        have HFz := Kp.mk (HFy.out.then_below hB2)
        have HDz := Kp.mk (dg_keep HDy.out (Fr.of_below hB2 (fun _ => False)))
        clear hO2 hB2 HDy HFy HO1
        go_wp2_with fail
        refine (same_calls wz _ _ v1 v2 (hash B p) (hash_small B p) HO1z.out HO2.out).mono ?_
        rintro e wt ⟨rfl, hB3⟩
        have HFt := Kp.mk (HFz.out.then_below hB3)
        have hw := written_calls b ((St.new B).write p) rv' wt (dg_keep HDz.out (Fr.of_below hB3 (fun _ => False)))
        rw [cnt_of B p hpm] at hw
        have HW := Kp.mk hw
        clear hB3 HFz HDz hw
        go_wp2_with (first | (go_at_call 33; (with_reducible refine (HW.out).mono ?_); rintro e wd ⟨rfl, rfl⟩))
        go_ret
        exact ⟨rfl, HFt.out.below (fun _ _ h => h)⟩
      · have HCA := Kp.mk hca
        have hca' : at_ < cp := by omega
        clear hca hn2b
        go_wp2_with fail
        refine (HWx.out _ _ ((src_part HX.out at_ (p.length - at_) hm1).2 HCA.out)).mono ?_
        rintro e wx ⟨r, rv', rfl, hD, hV, hF⟩
        have HDx := Kp.mk hD
        have HFx := Kp.mk hF
        clear hD hV hF HWx HD HV HF
        go_wp2_with fail
        refine (sum_calls ((St.new B).write p) (write_ok _ (new_ok B) p) b rv' wx (HL.out.fr HFx.out (fun _ h => h.elim)) HDx.out).mono ?_
        rintro e wy ⟨v1, rfl, hO1, hB1⟩
        have HO1 := Kp.mk (show Own wy wx.heap.size v1 (hash B p) from hO1)
        have HFy := Kp.mk (HFx.out.then_below hB1)
        have HDy := Kp.mk (dg_keep HDx.out (Fr.of_below hB1 (fun _ => False)))
        clear hO1 hB1 HDx HFx
        go_wp2_with fail
        refine (list_calls B (some ad) cp p wy (HL.out.fr HFy.out (fun _ h => h.elim)) (HX.out.fr HFy.out) hpm).mono ?_
        rintro e wz ⟨v2, rfl, hO2, hB2⟩
        have HO2 := Kp.mk hO2
        have HO1z := Kp.mk (own_below HO1.out hB2)
        have HFz := Kp.mk (HFy.out.then_below hB2)
        have HDz := Kp.mk (dg_keep HDy.out (Fr.of_below hB2 (fun _ => False)))
        clear hO2 hB2 HDy HFy HO1
        go_wp2_with fail
        refine (same_calls wz _ _ v1 v2 (hash B p) (hash_small B p) HO1z.out HO2.out).mono ?_
        rintro e wt ⟨rfl, hB3⟩
        have HFt := Kp.mk (HFz.out.then_below hB3)
        have hw := written_calls b ((St.new B).write p) rv' wt (dg_keep HDz.out (Fr.of_below hB3 (fun _ => False)))
        rw [cnt_of B p hpm] at hw
        have HW := Kp.mk hw
        clear hB3 HFz HDz hw
        go_wp2_with (first | (go_at_call 33; (with_reducible refine (HW.out).mono ?_); rintro e wd ⟨rfl, rfl⟩))
        go_ret
        exact ⟨rfl, HFt.out.below (fun _ _ h => h)⟩
set_option maxHeartbeats 8000000 in
set_option maxRecDepth 100000 in
theorem pieces_none (kd : Int)  (cp : Nat) (p : List Int) (A2 : Option Addr) (n2 cp2 : Nat) (zs : List Int) (hp : p.length ≤ 140737488355328) (hn2b : n2 ≤ 140737488355328) (hz0 : ∀ i, -9223372036854775808 ≤ zs.getD i 0 ∧ zs.getD i 0 ≤ 9223372036854775807) (w : World) (hL : Laid w)
    (hX : Src w (fun _ => False) none cp p) (hZ : n2 = 0 ∨ ∃ bc oc, A2 = some ⟨bc, oc, none⟩ ∧ bc < w.heap.size ∧ ∀ i, i < n2 → w.cell? ⟨bc, oc + i, none⟩ = some (.int .i64 (zs.getD i 0))) :
    Calls Tryd.prog 6 #[.int .i64 kd, .slice none p.length cp, .slice A2 n2 cp2] w fun e w' => e = .returned (.bool true) ∧ Below w.heap.size w w' := by
  obtain ⟨rfl, rfl⟩ : cp = 0 ∧ p = [] := by
    rcases hX.2 with ⟨_, h2, h3⟩ | ⟨_, ad, h2⟩ | ⟨bs, os, h1, _⟩
    · exact ⟨h2, h3⟩
    · cases h2
    · cases h1
  have hpm : ([] : List Int).length ≤ maxCount := Nat.le_trans hp (by decide)
  have hcp := hX.1
  have HL := Kp.mk hL
  have HX := Kp.mk hX
  have HZ := Kp.mk hZ
  have HZ0 := Kp.mk hz0
  clear hL hX hZ hz0
  go_enter Tryd.func6, Tryd.ntmps6
  go_wp2_with fail
  refine (abc_calls w HL.out).mono ?_
  rintro e w1 ⟨rfl, B1⟩
  have F1 : Kp (Fr (fun _ => False) w w1) := ⟨Fr.of_below B1 _⟩
  clear B1
  go_wp2_with fail
  refine (kindOf_calls kd w1).mono ?_
  rintro e w1' ⟨B, rfl, rfl⟩
  go_wp2_with fail
  refine (new_calls B _ (HL.out.fr F1.out (fun _ h => h.elim))).mono ?_
  rintro e w2 ⟨b, rfl, hb, hD, B2⟩
  have F2 := Kp.mk (F1.out.then_below B2)
  have HB := Kp.mk (Nat.le_trans F1.out.size hb)
  have HD : Kp (Dg w2 b (.slice none 0 0) ((St.new B).write (([] : List Int).take 0))) := ⟨by rw [new_write_nil]; exact hD⟩
  have HV : Kp (∀ k, (Value.slice none 0 0).ownBlock = some k → w.heap.size ≤ k) := ⟨fun k h => by cases h⟩
  clear B2 F1 hb hD
  have hnum := num_calls 0
  go_wp2_with (first | (go_at_call 16; (with_reducible refine (hnum _).mono ?_); rintro e w' ⟨rfl, rfl⟩))
  clear hnum
  go_loopw [10, 11] (fun s10 s11 wr => ∃ (at_ i : Nat) (rv : Value), s10 = .int .i64 (at_ : Int) ∧ s11 = .int .i64 (i : Int) ∧ Kp (at_ ≤ ([] : List Int).length) ∧ Kp (i ≤ n2) ∧ Kp (Dg wr b rv ((St.new B).write (([] : List Int).take at_))) ∧ Kp (∀ k, rv.ownBlock = some k → w.heap.size ≤ k) ∧ Kp (Fr (fun _ => False) w wr)) (fun _ s11 _ => n2 - (intOf s11).toNat)
  case atStart => exact ⟨0, 0, _, rfl, rfl, ⟨Nat.zero_le _⟩, ⟨Nat.zero_le _⟩, HD, HV, F2⟩
  case round =>
    clear HD HV F2
    obtain ⟨at_, i, rv, rfl, rfl, A1, A3, HD, HV, HF⟩ := hrel
    have hat := A1.out
    simp only [List.length_nil] at hat
    obtain rfl : at_ = 0 := Nat.le_zero.1 hat
    have hi := A3.out
    have htl : Kp ((([] : List Int).take (0 : Nat)).length = (0 : Nat)) := ⟨by simp <;> omega⟩
    have htm : Kp ((([] : List Int).take (0 : Nat)).length ≤ maxCount) := ⟨by rw [htl.out]; exact Nat.le_trans hat hpm⟩
    have hok : Kp (((St.new B).write (([] : List Int).take (0 : Nat))).Ok) := ⟨write_ok _ (new_ok B) _⟩
    have hcnt : Kp (((St.new B).write (([] : List Int).take (0 : Nat))).cnt = (0 : Nat)) := ⟨by rw [cnt_of B _ htm.out, htl.out]⟩
    have hacp : (0 : Nat) ≤ (0 : Nat) := Nat.le_trans hat hcp
    have HFoot : Kp (∀ k, k < w.heap.size → ¬ dfoot b rv k) := ⟨fun k hk h => h.elim (fun h => by have := HB.out; omega) (fun h => by have := HV.out k h; omega)⟩
    have HWt : Kp (∀ m, (0 : Nat) + m ≤ ([] : List Int).length → ∀ A' c', Src w (fun _ => False) A' c' ((([] : List Int).drop (0 : Nat)).take m) → Calls Tryd.prog 34 #[.pointer (some ⟨b, 0, none⟩), .slice A' m c'] wr fun e w' => ∃ r rv', e = .returned r ∧ Dg w' b rv' ((St.new B).write (([] : List Int).take ((0 : Nat) + m))) ∧ (∀ k, rv'.ownBlock = some k → w.heap.size ≤ k) ∧ Fr (fun _ => False) w w') := ⟨fun m hm1 A' c' hs => by
      have hql : ((([] : List Int).drop (0 : Nat)).take m).length = m := by simp <;> omega
      have hws : ((St.new B).write (([] : List Int).take (0 : Nat))).write ((([] : List Int).drop (0 : Nat)).take m) = (St.new B).write (([] : List Int).take ((0 : Nat) + m)) := by
        rw [write_write _ _ _ (by show 0 + _ ≤ maxCount; rw [htl.out, hql]; omega), List.take_add]
      have h := write_calls ((St.new B).write (([] : List Int).take (0 : Nat))) hok.out b rv A' c' ((([] : List Int).drop (0 : Nat)).take m) (by rw [hcnt.out, hql]; omega) wr (HL.out.fr HF.out (fun _ h => h.elim)) HD.out (src_out hs HF.out HFoot.out)
      rw [hql] at h
      refine h.mono ?_
      rintro e w' ⟨r, rv', rfl, h1, h2, h3⟩
      rw [hws] at h1
      refine ⟨r, rv', rfl, h1, fun k hk => ?_, HF.out.trans h3 (fun k hk h => HFoot.out k hk h)⟩
      rcases h2 with h2 | ⟨g, h2, h2'⟩
      · exact HV.out k (h2.symm.trans hk)
      · have : g = k := Option.some.inj (h2.symm.trans hk)
        have := HF.out.size
        omega⟩
    by_cases hlt : i < n2
    · obtain ⟨bc, oc, rfl, hbc, hcell⟩ := HZ.out.resolve_left (by omega)
      have hci := (World.cell?_of_block (HF.out.block bc hbc (fun h => h))).trans (hcell i hlt)
      have hzr := HZ0.out i
      have HCELL := Kp.mk hcell
      clear hcell
      generalize zs.getD i 0 = z at hci hzr
      by_cases hneg : z < 0
      · have HSum : Kp (∀ W, Fr (fun _ => False) wr W → Calls Tryd.prog 31 #[.pointer (some ⟨b, 0, none⟩)] W fun e w' => ∃ v, e = .returned v ∧ Own w' W.heap.size v (hash B (([] : List Int).take (0 : Nat))) ∧ Below W.heap.size W w') := ⟨fun W hW =>
          sum_calls ((St.new B).write (([] : List Int).take (0 : Nat))) hok.out b rv W (HL.out.fr (HF.out.trans hW (fun _ _ h => h)) (fun _ h => h.elim)) (dg_keep HD.out hW)⟩
        have HLst : Kp (∀ W, Fr (fun _ => False) wr W → Calls Tryd.prog 32 #[.int .i64 (kind B : Nat), .slice none (0 : Nat) (0 : Nat)] W fun e w' => ∃ v, e = .returned v ∧ Own w' W.heap.size v (hash B (([] : List Int).take (0 : Nat))) ∧ Below W.heap.size W w') := ⟨fun W hW => by
          have h := list_calls B none (0 : Nat) (([] : List Int).take (0 : Nat)) W (HL.out.fr (HF.out.trans hW (fun _ _ h => h)) (fun _ h => h.elim)) ((HX.out.fr (HF.out.trans hW (fun _ _ h => h))).cut (0 : Nat)) htm.out
          rw [htl.out] at h
          exact h⟩
        have HWr : Kp (∀ W, Fr (fun _ => False) wr W → Calls Tryd.prog 33 #[.pointer (some ⟨b, 0, none⟩)] W fun e w' => e = .returned (.int .i64 ((0 : Nat) : Int)) ∧ w' = W) := ⟨fun W hW => by
          have h := written_calls b ((St.new B).write (([] : List Int).take (0 : Nat))) rv W (dg_keep HD.out hW)
          rw [hcnt.out] at h
          exact h⟩
        have HSz := Kp.mk (hash_small B (([] : List Int).take (0 : Nat)))
        clear htl htm hok hcnt HFoot
        go_wp2
        go_region_with (first
          | (go_at_call 31; (with_reducible refine (HSum.out _ (by repeat (first | exact Fr.refl _ _ | apply Fr.drew))).mono ?_); rintro e wa ⟨v1, rfl, hO1, hB1⟩; have HO1 := Kp.mk hO1; have HFa : Kp (Fr (fun _ => False) wr wa) := ⟨Fr.then_below (by repeat (first | exact Fr.refl _ _ | apply Fr.drew)) hB1⟩; clear hO1 hB1)
          | (go_at_call 32; (with_reducible refine (HLst.out _ HFa.out).mono ?_); rintro e wb ⟨v2, rfl, hO2, hB2⟩; have HO2 := Kp.mk hO2; have HO1b := Kp.mk (own_below HO1.out hB2); have HFb := Kp.mk (HFa.out.then_below hB2); clear hO2 hB2)
          | (go_at_call 17; (with_reducible refine (same_calls _ _ _ _ _ _ HSz.out HO1b.out HO2.out).mono ?_); rintro e wc ⟨rfl, hB3⟩; have HFc := Kp.mk (HFb.out.then_below hB3); clear hB3)
          | (go_at_call 33; (with_reducible refine (HWr.out _ HFc.out).mono ?_); rintro e wd ⟨rfl, rfl⟩))
        go_wp2
        go_roundw
        case rel => exact ⟨(0 : Nat), i + 1, rv, rfl, by go_num, A1, ⟨hlt⟩, ⟨dg_keep HD.out HFc.out⟩, HV, ⟨HF.out.trans HFc.out (fun _ _ h => h)⟩⟩
        case measure => simp [intOf] <;> omega
      · obtain ⟨m, hm1, hm2⟩ : ∃ m : Nat, (0 : Nat) + m ≤ ([] : List Int).length ∧ ((z ≤ (([] : List Int).length : Int) - ((0 : Nat) : Int) ∧ z = (m : Int)) ∨ (¬ z ≤ (([] : List Int).length : Int) - ((0 : Nat) : Int) ∧ (([] : List Int).length : Int) - ((0 : Nat) : Int) = (m : Int))) := by
          by_cases hzz : z ≤ (([] : List Int).length : Int) - ((0 : Nat) : Int)
          · exact ⟨z.toNat, by omega, .inl ⟨hzz, by omega⟩⟩
          · exact ⟨([] : List Int).length - (0 : Nat), by omega, .inr ⟨hzz, by omega⟩⟩
        clear htl htm hok hcnt HFoot
        by_cases hca : (0 : Nat) = (0 : Nat)
        · rcases hm2 with ⟨hz1, rfl⟩ | ⟨hz1, hz2⟩
          · have hdec : decide ((([] : List Int).length : Int) - ((0 : Nat) : Int) < (m : Int)) = false := decide_eq_false (by omega)
            have hnn : decide ((m : Int) < 0) = false := decide_eq_false (by omega)
            obtain rfl : m = 0 := by omega
            skip
            clear hzr hneg
            go_wp2_with fail
            refine (HWt.out 0 hm1 _ 0 (⟨Nat.zero_le _, .inl ⟨rfl, rfl, by simp⟩⟩)).mono ?_
            rintro e wx ⟨r, rv', rfl, hD, hV, hF⟩
            have HDx := Kp.mk hD
            have HVx := Kp.mk hV
            have HFx := Kp.mk hF
            clear hD hV hF HWt
            go_wp2
            go_roundw
            case rel => exact ⟨(0 : Nat) + 0, i + 1, rv', by go_num, by go_num, ⟨hm1⟩, ⟨hlt⟩, HDx, HVx, HFx⟩
            case measure => simp [intOf] <;> omega
          · have hdec : decide ((([] : List Int).length : Int) - ((0 : Nat) : Int) < z) = true := decide_eq_true (by omega)
            have hnn : decide (z < 0) = false := decide_eq_false (by omega)
            obtain rfl : m = 0 := by omega
            skip
            clear hzr hneg
            go_wp2_with fail
            refine (HWt.out 0 hm1 _ 0 (⟨Nat.zero_le _, .inl ⟨rfl, rfl, by simp⟩⟩)).mono ?_
            rintro e wx ⟨r, rv', rfl, hD, hV, hF⟩
            have HDx := Kp.mk hD
            have HVx := Kp.mk hV
            have HFx := Kp.mk hF
            clear hD hV hF HWt
            go_wp2
            go_roundw
            case rel => exact ⟨(0 : Nat) + 0, i + 1, rv', by go_num, by go_num, ⟨hm1⟩, ⟨hlt⟩, HDx, HVx, HFx⟩
            case measure => simp [intOf] <;> omega
        · exact absurd (by omega) hca
    · obtain rfl : i = n2 := by omega
      have hm1 : (0 : Nat) + (([] : List Int).length - (0 : Nat)) ≤ ([] : List Int).length := by omega
      have hall : Kp (([] : List Int).take ((0 : Nat) + (([] : List Int).length - (0 : Nat))) = ([] : List Int)) := ⟨List.take_of_length_le (by omega)⟩
      have HWx := Kp.mk (HWt.out (([] : List Int).length - (0 : Nat)) hm1)
      rw [hall.out] at HWx
      clear HWt hall htl htm hok hcnt HFoot
      by_cases hca : (0 : Nat) = (0 : Nat)
      · have HCA := Kp.mk hca
        have HM0 : Kp (([] : List Int).length - (0 : Nat) = 0) := ⟨by omega⟩
        rw [HM0.out] at HWx
        skip
        clear hn2b
        go_wp2_with fail
        refine (HWx.out _ 0 (⟨Nat.zero_le _, .inl ⟨rfl, rfl, by simp⟩⟩)).mono ?_
        rintro e wx ⟨r, rv', rfl, hD, hV, hF⟩
        have HDx := Kp.mk hD
        have HFx := Kp.mk hF
        clear hD hV hF HWx HD HV HF
        go_wp2_with fail
        refine (sum_calls ((St.new B).write ([] : List Int)) (write_ok _ (new_ok B) ([] : List Int)) b rv' wx (HL.out.fr HFx.out (fun _ h => h.elim)) HDx.out).mono ?_
        rintro e wy ⟨v1, rfl, hO1, hB1⟩
        have HO1 := Kp.mk (show Own wy wx.heap.size v1 (hash B ([] : List Int)) from hO1)
        have HFy := Kp.mk (HFx.out.then_below hB1)
        have HDy := Kp.mk (dg_keep HDx.out (Fr.of_below hB1 (fun _ => False)))
        clear hO1 hB1 HDx HFx
        go_wp2_with fail
        refine (list_calls B none (0 : Nat) ([] : List Int) wy (HL.out.fr HFy.out (fun _ h => h.elim)) (HX.out.fr HFy.out) hpm).mono ?_
        rintro e wz ⟨v2, rfl, hO2, hB2⟩
        have HO2 := Kp.mk hO2
        have HO1z := Kp.mk (own_below HO1.out hB2)
        have HFz := Kp.mk (HFy.out.then_below hB2)
        have HDz := Kp.mk (dg_keep HDy.out (Fr.of_below hB2 (fun _ => False)))
        clear hO2 hB2 HDy HFy HO1
        go_wp2_with fail
        refine (same_calls wz _ _ v1 v2 (hash B ([] : List Int)) (hash_small B ([] : List Int)) HO1z.out HO2.out).mono ?_
        rintro e wt ⟨rfl, hB3⟩
        have HFt := Kp.mk (HFz.out.then_below hB3)
        have hw := written_calls b ((St.new B).write ([] : List Int)) rv' wt (dg_keep HDz.out (Fr.of_below hB3 (fun _ => False)))
        rw [cnt_of B ([] : List Int) hpm] at hw
        have HW := Kp.mk hw
        clear hB3 HFz HDz hw
        go_wp2_with (first | (go_at_call 33; (with_reducible refine (HW.out).mono ?_); rintro e wd ⟨rfl, rfl⟩))
        go_ret
        exact ⟨rfl, HFt.out.below (fun _ _ h => h)⟩
      · exact absurd (by omega) hca
end Go.Proofs.YtjcfnflkiialbaaDoor.Sha
