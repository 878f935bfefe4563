/-
  The walk of ShaGoesOn.
-/
import Derived.Test.YtjcfnflkiialbaaDoorObsDo
import Derived.Deep.DeepCutAuto
import Derived.Deep.CutBlock
namespace Go.Proofs.YtjcfnflkiialbaaDoor.Sha
open Go.RowKit Go.Proofs.YtjcfnflkiialbaaDoor.Mem Go.Proofs.YtjcfnflkiialbaaDoorW.PrintWords
set_option maxHeartbeats 2000000 in
set_option maxRecDepth 100000 in
theorem goeson_calls (kd : Int) (A1 : Option Addr) (c1 : Nat) (p1 : List Int) (A2 : Option Addr) (c2 : Nat) (p2 : List Int) (A3 : Option Addr) (c3 : Nat) (p3 : List Int) (w : World) (hL : Laid w)
    (hX1 : Src w (fun _ => False) A1 c1 p1) (hX2 : Src w (fun _ => False) A2 c2 p2) (hX3 : Src w (fun _ => False) A3 c3 p3) (hm1 : p1.length ≤ 1048576) (hm2 : p2.length ≤ 1048576) (hm3 : p3.length ≤ 1048576) :
    Calls Tryd.prog 13 #[.int .i64 kd, .slice A1 p1.length c1, .slice A2 p2.length c2, .slice A3 p3.length c3] w fun e w' => e = .returned (.bool true) ∧ Below w.heap.size w w' := by
  have HL := Kp.mk hL
  have HLw := Kp.mk hL.size
  have H1 := Kp.mk hX1
  have H2 := Kp.mk hX2
  have H3 := Kp.mk hX3
  have h0 := num_calls 0
  clear hL hX1 hX2 hX3
  go_enter Tryd.func13, Tryd.ntmps13
  go_wp2_with fail
  refine (abc_calls w HL.out).mono ?_
  rintro e w1 ⟨rfl, B1⟩
  have O1 : Kp (Objs w w1 []) := ⟨(Objs.nil w).below (Fr.of_below B1 _)⟩
  clear B1
  go_wp2_with fail
  refine (kindOf_calls kd w1).mono ?_
  rintro e wk ⟨B, rfl, hk⟩
  obtain rfl := hk
  go_wp2_with fail
  refine (obNew_calls O1.out HL.out B).mono ?_
  rintro e w2 ⟨d, rfl, hO⟩
  have O2 := Kp.mk hO
  clear hO O1
  go_wp2_with (first | (go_at_call 16; (with_reducible refine (h0 _).mono ?_); rintro e w' ⟨rfl, rfl⟩))
  refine (obWrite_calls O2.out HL.out 0 rfl (new_ok B) (O2.out.src (i := 0) rfl H1.out) (by show 0 + _ ≤ maxCount; unfold maxCount; omega)).mono ?_
  rintro e w3 ⟨r1, rv1, rfl, hO⟩
  have O3 := Kp.mk hO
  have hls := load_write B p1 (by unfold maxCount; omega)
  have hok1 := write_ok _ (new_ok B) p1
  have HLO := Kp.mk hls.1
  have HLS := Kp.mk hls.2
  have HOK1 := Kp.mk hok1
  have HC1 : Kp (((St.new B).write p1).cnt = p1.length) := ⟨cnt_of B p1 (by unfold maxCount; omega)⟩
  clear hO O2 hls hok1
  go_wp2_with fail
  refine (obSave_calls O3.out 0 rfl HOK1.out).mono ?_
  rintro e w4 ⟨sg, rfl, hsl, hO⟩
  have O4 := Kp.mk hO
  clear hO O3
  obtain ⟨S, hS⟩ : ∃ S, S = ((St.new B).write p1).save := ⟨_, rfl⟩
  rw [← hS] at hsl O4 HLO HLS ⊢
  have HS := Kp.mk hS
  clear hS
  go_wp2_with fail
  refine (obLoad_calls O4.out HL.out (O4.out.own_src (i := 1) rfl) (by omega) HLO.out).mono ?_
  rintro e w5 ⟨g, rv2, rfl, hO⟩
  rw [HLS.out] at hO
  have O5 := Kp.mk hO
  clear hO O4
  have hSV := obSaved_calls O5.out 2 rfl HOK1.out
  rw [← HS.out] at hSV
  have HSV := Kp.mk hSV
  clear hSV
  go_wp2_with (first
    | (go_at_call 16; (with_reducible refine (h0 _).mono ?_); rintro e w' ⟨rfl, rfl⟩)
    | (go_at_call 35; (refine HSV.out.mono ?_); rintro e w6 ⟨g6, rfl, hs6, hf6⟩; have HS6 := Kp.mk hs6; have O6 := Kp.mk (O5.out.below hf6); clear hs6 hf6)
    | (go_at_call 17; (refine (same_src _ HS6.out (O6.out.own_src (i := 1) rfl) (by omega) (by omega)).mono ?_); rintro e w7 ⟨rfl, hB7⟩; rw [decide_eq_true rfl]; have O7 := Kp.mk (O6.out.below (Fr.of_below hB7 (fun _ => False))).nilrow.nilrow; clear hB7)
    | (at_builtin; refine wpList_appendS rfl (.tmp 57) (.tmp 58) rfl rfl low (.slice none 0 0) ([] : List Int) rfl (by exact (show w7.ownsRow low 5 1 (.slice none 0 0) ([] : List Int).length (bytes ([] : List Int)) from O7.out.inv 3 _ rfl)) A1 p1.length c1 p1 rfl rfl (by exact O7.out.came H1.out) (by simp only [List.length_nil]; omega) (by exact Nat.le_trans HLw.out O7.out.fr.size) ?_; intro v w8 hown hgr hat; rw [List.nil_append] at hown; obtain ⟨Aa, ca, hv, _⟩ := own_shape hown; subst hv; have O8 := Kp.mk (O7.out.append 3 rfl hown hgr hat); clear hown hgr hat)
    | (at_builtin; refine wpList_appendS rfl (.tmp 60) (.tmp 61) rfl rfl low (.slice Aa p1.length ca) p1 rfl (by exact (show w8.ownsRow low 5 1 (.slice Aa p1.length ca) p1.length (bytes p1) from O8.out.inv 3 _ rfl)) A2 p2.length c2 p2 rfl rfl (by exact O8.out.came H2.out) (by omega) (by exact Nat.le_trans HLw.out O8.out.fr.size) ?_; intro v w9 hown hgr hat; obtain ⟨Ab, cb, hv, _⟩ := own_shape hown; subst hv; have O9 := Kp.mk (O8.out.append 3 rfl hown hgr hat); clear hown hgr hat)
    | (at_builtin; refine wpList_appendS rfl (.tmp 63) (.tmp 64) rfl rfl low (.slice none 0 0) ([] : List Int) rfl (by exact (show w9.ownsRow low 5 1 (.slice none 0 0) ([] : List Int).length (bytes ([] : List Int)) from O9.out.inv 4 _ rfl)) A1 p1.length c1 p1 rfl rfl (by exact O9.out.came H1.out) (by simp only [List.length_nil]; omega) (by exact Nat.le_trans HLw.out O9.out.fr.size) ?_; intro v w10 hown hgr hat; rw [List.nil_append] at hown; obtain ⟨Ac, cc, hv, _⟩ := own_shape hown; subst hv; have O10 := Kp.mk (O9.out.append 4 rfl hown hgr hat); clear hown hgr hat)
    | (at_builtin; refine wpList_appendS rfl (.tmp 66) (.tmp 67) rfl rfl low (.slice Ac p1.length cc) p1 rfl (by exact (show w10.ownsRow low 5 1 (.slice Ac p1.length cc) p1.length (bytes p1) from O10.out.inv 4 _ rfl)) A3 p3.length c3 p3 rfl rfl (by exact O10.out.came H3.out) (by omega) (by exact Nat.le_trans HLw.out O10.out.fr.size) ?_; intro v w11 hown hgr hat; obtain ⟨Ad, cd, hv, _⟩ := own_shape hown; subst hv; have O11 := Kp.mk (O10.out.append 4 rfl hown hgr hat); clear hown hgr hat))
  have hB1 : ((St.new B).write p1).B = B := by rw [write_new B p1 (by unfold maxCount; omega)]
  have O12 : Kp (Objs w w11 [Ob.dg d rv1 ((St.new B).write p1), Ob.own (some ⟨sg, 0, none⟩) S.length S.length (bytes S), Ob.dg g rv2 ((St.new B).write p1), Ob.row (.slice Ab (p1.length + p2.length) cb) (p1 ++ p2), Ob.row (.slice Ad (p1.length + p3.length) cd) (p1 ++ p3)]) := ⟨by
    have h := O11.out
    simp only [List.length_append] at h
    exact h⟩
  have hw12 : ((St.new B).write p1).write p2 = (St.new B).write (p1 ++ p2) := write_write _ _ _ (by show 0 + _ ≤ maxCount; unfold maxCount; omega)
  have hw13 : ((St.new B).write p1).write p3 = (St.new B).write (p1 ++ p3) := write_write _ _ _ (by show 0 + _ ≤ maxCount; unfold maxCount; omega)
  have HW13 := Kp.mk hw13
  have hB13 : ((St.new B).write (p1 ++ p3)).B = B := by rw [write_new B _ (by rw [List.length_append]; unfold maxCount; omega)]
  have HB13 := Kp.mk hB13
  have HC12 : Kp (((St.new B).write (p1 ++ p2)).cnt = p1.length + p2.length) := ⟨by rw [cnt_of B _ (by rw [List.length_append]; unfold maxCount; omega), List.length_append]⟩
  have HOK12 := Kp.mk (write_ok _ (new_ok B) (p1 ++ p2))
  have LA : Kp (∀ W, Laid W → Src W (fun _ => False) Ab cb (p1 ++ p2) → Calls Tryd.prog 32 #[.int .i64 (kind B : Nat), .slice Ab (p1.length + p2.length) cb] W fun e w' => ∃ A' c, e = .returned (.slice A' (out B) c) ∧ Src w' (fun _ => False) A' c (hash B (p1 ++ p2)) ∧ Below W.heap.size W w') := ⟨fun W h1 h2 => by
    have h := listL_calls B Ab cb (p1 ++ p2) W h1 h2 (by rw [List.length_append]; unfold maxCount; omega)
    rw [List.length_append] at h
    exact h⟩
  have LB : Kp (∀ W, Laid W → Src W (fun _ => False) Ad cd (p1 ++ p3) → Calls Tryd.prog 32 #[.int .i64 (kind B : Nat), .slice Ad (p1.length + p3.length) cd] W fun e w' => ∃ A' c, e = .returned (.slice A' (out B) c) ∧ Src w' (fun _ => False) A' c (hash B (p1 ++ p3)) ∧ Below W.heap.size W w') := ⟨fun W h1 h2 => by
    have h := listL_calls B Ad cd (p1 ++ p3) W h1 h2 (by rw [List.length_append]; unfold maxCount; omega)
    rw [List.length_append] at h
    exact h⟩
  have SM : Kp (∀ (W : World) (X1 X2 : Option Addr) (y1 y2 : Nat) (p : List Int), Src W (fun _ => False) X1 y1 (hash B p) → Src W (fun _ => False) X2 y2 (hash B p) → Calls Tryd.prog 17 #[.slice X1 (out B) y1, .slice X2 (out B) y2] W fun e w' => e = .returned (.bool true) ∧ Below W.heap.size W w') := ⟨fun W X1 X2 y1 y2 p h1 h2 => by
    have hl : (hash B p).length ≤ 1000000000000000 := by rw [hash_length]; cases B <;> decide
    have h := same_src W h1 h2 hl hl
    rw [hash_length, decide_eq_true rfl] at h
    exact h⟩
  clear O11 hw13 hB13
  refine (obWrite_calls O12.out HL.out 0 rfl HOK1.out (O12.out.src (i := 0) rfl H2.out) (by rw [HC1.out]; unfold maxCount; omega)).mono ?_
  rintro e w12 ⟨r2, rv3, rfl, hO⟩
  rw [hw12] at hO
  have O13 := Kp.mk hO
  clear hO O12 hw12
  have hSV := obSaved_calls O13.out 2 rfl HOK1.out
  rw [← HS.out] at hSV
  have HSV2 := Kp.mk hSV
  clear hSV HSV
  go_wp2_with fail
  refine HSV2.out.mono ?_
  rintro e w13 ⟨g7, rfl, hs6, hf6⟩
  have HS7 := Kp.mk hs6
  have O14 := Kp.mk (O13.out.below hf6)
  clear hs6 hf6
  go_wp2_with fail
  refine (same_src _ HS7.out (O14.out.own_src (i := 1) rfl) (by omega) (by omega)).mono ?_
  rintro e w14 ⟨rfl, hB7⟩
  rw [decide_eq_true rfl]
  have O15 := Kp.mk (O14.out.below (Fr.of_below hB7 (fun _ => False)))
  clear hB7
  go_wp2_with fail
  refine (obWrite_calls O15.out HL.out 2 rfl HOK1.out (O15.out.src (i := 2) rfl H3.out) (by rw [HC1.out]; unfold maxCount; omega)).mono ?_
  rintro e w15 ⟨r3, rv4, rfl, hO⟩
  rw [HW13.out] at hO
  have O16 := Kp.mk hO
  clear hO
  go_wp2_with fail
  refine (obSum_calls O16.out HL.out 0 rfl).mono ?_
  rintro e w16 ⟨Ae, ce, rfl, hs, hf⟩
  have HSe := Kp.mk hs
  have O17 := Kp.mk (O16.out.below hf)
  clear hs hf
  go_wp2_with fail
  refine (LA.out _ (O17.out.laid HL.out) (O17.out.row_src (i := 3) rfl)).mono ?_
  rintro e w17 ⟨Af, cf, rfl, hs, hf⟩
  have HSf := Kp.mk hs
  have HSe2 := Kp.mk (HSe.out.fr (Fr.of_below hf (fun _ => False)))
  have O18 := Kp.mk (O17.out.below (Fr.of_below hf (fun _ => False)))
  clear hs hf
  go_wp2_with fail
  refine (SM.out _ _ _ _ _ _ HSe2.out HSf.out).mono ?_
  rintro e w18 ⟨rfl, hB7⟩
  have O19 := Kp.mk (O18.out.below (Fr.of_below hB7 (fun _ => False)))
  clear hB7 HSe HSe2 HSf
  go_wp2_with fail
  refine (obSum_calls O19.out HL.out 2 rfl).mono ?_
  rintro e w19 ⟨Ag, cg, rfl, hs, hf⟩
  have HSg := Kp.mk hs
  have O20 := Kp.mk (O19.out.below hf)
  clear hs hf
  go_wp2_with fail
  refine (LB.out _ (O20.out.laid HL.out) (O20.out.row_src (i := 4) rfl)).mono ?_
  rintro e w20 ⟨Ah, ch, rfl, hs, hf⟩
  have HSh := Kp.mk hs
  have HSg2 := Kp.mk (HSg.out.fr (Fr.of_below hf (fun _ => False)))
  have O21 := Kp.mk (O20.out.below (Fr.of_below hf (fun _ => False)))
  clear hs hf
  go_wp2_with fail
  refine (SM.out _ _ _ _ _ _ HSg2.out HSh.out).mono ?_
  rintro e w21 ⟨rfl, hB7⟩
  have O22 := Kp.mk (O21.out.below (Fr.of_below hB7 (fun _ => False)))
  clear hB7
  go_wp2_with fail
  refine (obReset_calls O22.out HL.out 2 rfl).mono ?_
  rintro e w22 ⟨r4, rfl, hO⟩
  rw [HB13.out] at hO
  have O23 := Kp.mk hO
  clear hO
  have hN : (St.new B).write [] = St.new B := St.write_none B
  have hwr := obWrite_calls O23.out HL.out 2 rfl (new_ok B) (O23.out.src_row (i := 3) (j := 2) rfl rfl (by decide)) (by show 0 + _ ≤ maxCount; rw [List.length_append]; unfold maxCount; omega)
  rw [List.length_append] at hwr
  have HWR := Kp.mk hwr
  clear hwr hN
  go_wp2_with fail
  refine HWR.out.mono ?_
  rintro e w23 ⟨r5, rv5, rfl, hO⟩
  have O24 := Kp.mk hO
  clear hO HWR O13 O14 O15 O16 O17 O18 O19 O20 O21 O22 O23
  go_wp2_with fail
  refine (obSaved_calls O24.out 2 rfl HOK12.out).mono ?_
  rintro e w24 ⟨gs, rfl, hs, hf⟩
  have HT1 := Kp.mk hs
  have O25 := Kp.mk (O24.out.below hf)
  clear hs hf
  go_wp2_with fail
  refine (obSaved_calls O25.out 0 rfl HOK12.out).mono ?_
  rintro e w25 ⟨ds, rfl, hs, hf⟩
  have HT2 := Kp.mk hs
  have HT3 := Kp.mk (HT1.out.fr hf)
  have O26 := Kp.mk (O25.out.below hf)
  have hsl12 : ((St.new B).write (p1 ++ p2)).save.length ≤ 1000000000000000 := Nat.le_trans (save_len _ HOK12.out) (by decide)
  clear hs hf
  go_wp2_with fail
  refine (same_src _ HT3.out HT2.out hsl12 hsl12).mono ?_
  rintro e w26 ⟨rfl, hB7⟩
  rw [decide_eq_true rfl]
  have O27 := Kp.mk (O26.out.below (Fr.of_below hB7 (fun _ => False)))
  have hWr := written_calls d ((St.new B).write (p1 ++ p2)) rv3 w26 (show Dg w26 d rv3 ((St.new B).write (p1 ++ p2)) from O27.out.inv 0 _ rfl)
  rw [HC12.out] at hWr
  clear hB7
  go_wp2_with fail
  refine hWr.mono ?_
  rintro e w27 ⟨rfl, hw⟩
  obtain rfl := hw
  go_wp2
  go_ret
  exact ⟨rfl, O27.out.fr.below (fun _ _ h => h)⟩
end Go.Proofs.YtjcfnflkiialbaaDoor.Sha
