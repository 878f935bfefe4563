/-
  The walk of ShaExtends.
-/
import Derived.Test.YtjcfnflkiialbaaDoorPadP
import Derived.Deep.DeepCutAuto
import Derived.Deep.CutBlock
namespace Go.Proofs.YtjcfnflkiialbaaDoor.Sha
open Go.RowKit Go.Proofs.YtjcfnflkiialbaaDoor.Mem Go.Proofs.YtjcfnflkiialbaaDoorW.PrintWords
theorem take_be8 (L : Nat) (m : Nat) (h : m < 8) : (be8 L).take m ++ [(be8 L).getD m 0] = (be8 L).take (m + 1) := by
  have hl := be8_length L
  rw [List.take_succ_eq_append_getElem (by omega)]
  simp [hl, h]
theorem be8_get (L : Nat) (hL : L < 18446744073709551616) (m : Nat) (h : m < 8) : (be8 L).getD m 0 = ((L / 2 ^ (8 * (7 - m)) % 256 : Nat) : Int) := by
  unfold be8 layWord
  simp only [List.getD_eq_getElem?_getD, List.getElem?_map, List.getElem?_range h, Option.map_some, Option.getD_some, BitVec.toNat_ushiftRight, BitVec.toNat_ofNat, Nat.shiftRight_eq_div_pow]
  rw [Nat.mod_eq_of_lt (a := L) hL]
theorem own_one (w : World) (x : Int) (h : low ≤ w.heap.size) : (w.alloc (.cells #[.int .u8 x] 5)).ownsRow low 5 1 (.slice (some ⟨w.heap.size, 0, none⟩) 1 1) ([x] : List Int).length (bytes [x]) :=
  ⟨rfl, .inr ⟨w.heap.size, 1, #[.int .u8 x], rfl, h, Blk.new w _ _, Nat.le_refl _, by decide, rfl, rfl⟩⟩
set_option maxHeartbeats 2000000 in
set_option maxRecDepth 100000 in
theorem extends_calls (kd : Int) (A1 : Option Addr) (c1 : Nat) (data : List Int) (A2 : Option Addr) (c2 : Nat) (more : List Int) (w : World) (hL : Laid w)
    (hX1 : Src w (fun _ => False) A1 c1 data) (hX2 : Src w (fun _ => False) A2 c2 more) (hm1 : data.length ≤ 1048576) (hm2 : more.length ≤ 1048576) :
    Calls Tryd.prog 10 #[.int .i64 kd, .slice A1 data.length c1, .slice A2 more.length c2] w fun e w' => e = .returned (.bool true) ∧ Below w.heap.size w w' := by
  have HL := Kp.mk hL
  have HLw := Kp.mk hL.size
  have H1 := Kp.mk hX1
  have H2 := Kp.mk hX2
  have h0 := num_calls 0
  clear hL hX1 hX2
  go_enter Tryd.func10, Tryd.ntmps10
  go_wp2_with fail
  refine (abc_calls w HL.out).mono ?_
  rintro e w1 ⟨rfl, B1⟩
  have O1 : Kp (Objs w w1 []) := ⟨(Objs.nil w).below (Fr.of_below B1 _)⟩
  clear B1
  go_wp2_with fail
  refine (kindOf_calls kd w1).mono ?_
  rintro e wk ⟨B, rfl, hk⟩
  obtain rfl := hk
  go_wp2_with fail
  refine (padded_calls B A1 c1 data wk (O1.out.came H1.out) (by omega) (Nat.le_trans HLw.out O1.out.fr.size)).mono ?_
  rintro e w2 ⟨v, rfl, hO, hbase, hB⟩
  obtain ⟨Ap, cp, rfl, _⟩ := own_shape hO
  have O2 : Kp (Objs w w2 ([] ++ [Ob.row (.slice Ap (padOf B data).length cp) (padOf B data)])) := ⟨O1.out.add (Fr.of_below hB _) hO hbase⟩
  have HPl : Kp ((padOf B data).length ≤ 1048800) := ⟨by
    rw [padOf_length]
    have := zeros_lt B (data.length % blk B)
    have hb : blk B ≤ 128 := by cases B <;> decide
    omega⟩
  have HT : Kp (tag B :: be8 (padOf B data).length ++ hash B data = ((St.new B).write (padOf B data)).save) := ⟨ext_text B data (by have := HPl.out; unfold maxCount; omega)⟩
  have HLO : Kp (LoadOk B ((St.new B).write (padOf B data)).save ∧ loadSt B ((St.new B).write (padOf B data)).save = (St.new B).write (padOf B data)) := ⟨load_write B _ (by have := HPl.out; unfold maxCount; omega)⟩
  generalize padOf B data = P at *
  have hq : Int.tdiv ((kind B : Nat) : Int) 256 = tag B := by cases B <;> decide
  have hw : wrap64 (tag B) = tag B := by cases B <;> (unfold wrap64; decide)
  have hu : tag B % 256 = tag B := by cases B <;> decide
  clear hO hbase hB O1
  go_wp2
  have O3 : Kp (Objs w (w2.alloc (.cells #[.int .u8 (tag B)] 5)) ([Ob.row (.slice Ap P.length cp) P] ++ [Ob.row (.slice (some ⟨w2.heap.size, 0, none⟩) 1 1) [tag B]])) := ⟨O2.out.add ((Fr.refl _ w2).alloc _) (own_one w2 _ (Nat.le_trans HLw.out O2.out.fr.size)) (fun k (hk : (Value.slice (some ⟨w2.heap.size, 0, none⟩) 1 1).ownBlock = some k) => by
    have : w2.heap.size = k := Option.some.inj hk
    omega)⟩
  have HSt : Kp ([tag B] = tag B :: (be8 P.length).take 0) := ⟨rfl⟩
  rw [HSt.out] at O3
  clear HSt O2
  go_loopw [9, 10] (fun s9 s10 wr => ∃ (m cs : Nat) (As : Option Addr), s9 = .slice As (m + 1) cs ∧ s10 = .int .i64 (56 - 8 * (m : Int)) ∧ Kp (m ≤ 8) ∧ Kp (Objs w wr [Ob.row (.slice Ap P.length cp) P, Ob.row (.slice As (m + 1) cs) (tag B :: (be8 P.length).take m)])) (fun _ s10 _ => (intOf s10 + 8).toNat)
  case atStart => exact ⟨0, 1, _, rfl, rfl, ⟨by omega⟩, O3⟩
  case round =>
    clear O3
    obtain ⟨m, cs, As, rfl, rfl, hm, HO⟩ := hrel
    have hm' := hm.out
    by_cases hlt : m < 8
    · have hge : (0 : Int) ≤ 56 - 8 * (m : Int) := by omega
      have HI : Kp (wr.ownsRow low 5 1 (.slice As (m + 1) cs) (tag B :: (be8 P.length).take m).length (bytes (tag B :: (be8 P.length).take m))) := ⟨HO.out.inv 1 _ rfl⟩
      have HZ : Kp (IntKind.u64.wrap (P.length : Int) / 2 ^ (56 - 8 * m) % 256 = (be8 P.length).getD m 0) := ⟨by
        have hP := HPl.out
        rw [be8_get P.length (by omega) m hlt, wrap64u, Int.emod_eq_of_lt (a := (P.length : Int)) (b := 18446744073709551616) (by omega) (by omega), show 8 * (7 - m) = 56 - 8 * m by omega]
        push_cast
        rfl⟩
      have HTl : Kp (((be8 P.length).take m).length = m) := ⟨by rw [List.length_take, be8_length]; omega⟩
      have HTm : Kp (((be8 P.length).take (m + 1)).length = m + 1) := ⟨by rw [List.length_take, be8_length]; omega⟩
      have HST : Kp ((tag B :: (be8 P.length).take m) ++ [(IntKind.u64.wrap (P.length : Int) / 2 ^ (56 - 8 * m) % 256)] = tag B :: (be8 P.length).take (m + 1)) := ⟨by rw [HZ.out, List.cons_append, take_be8 _ _ hlt]⟩
      go_wp2_with (at_builtin; refine wpList_appendS rfl (.tmp 29) (.tmp 37) rfl rfl low (.slice As (m + 1) cs) (tag B :: (be8 P.length).take m) rfl (by exact own_keep HI.out ((Fr.refl (fun _ => False) wr).alloc _) (fun _ _ h => h)) (some ⟨wr.heap.size, 0, none⟩) 1 1 [(IntKind.u64.wrap (P.length : Int) / 2 ^ (56 - 8 * m) % 256)] rfl rfl (by exact src_new wr [(IntKind.u64.wrap (P.length : Int) / 2 ^ (56 - 8 * m) % 256)] 5 1 (Nat.le_refl _)) (by rw [List.length_cons, HTl.out]; simp only [List.length_cons, List.length_nil]; omega) (by exact Nat.le_trans HLw.out (Nat.le_trans HO.out.fr.size (by simp))) ?_; intro v4 w4 hown hgr hat; rw [HST.out] at hown; obtain ⟨Ay, cy, hv4, _⟩ := own_shape hown; subst hv4; have HO4 := Kp.mk ((HO.out.below ((Fr.refl (fun _ => False) wr).alloc (.cells #[.int .u8 (IntKind.u64.wrap (P.length : Int) / 2 ^ (56 - 8 * m) % 256)] 5))).append 1 rfl hown hgr hat); clear hown hgr hat)
      go_roundw
      case rel =>
        refine ⟨m + 1, cy, Ay, ?_, by go_num, ⟨hlt⟩, ⟨?_⟩⟩
        · rw [be8_length, Nat.min_eq_left (by omega)]
        · have h := HO4.out
          rw [List.length_cons, HTm.out] at h
          exact h
      case measure => simp [intOf] <;> omega
    · obtain rfl : m = 8 := by omega
      have HTe : Kp ((be8 P.length).take 8 = be8 P.length) := ⟨List.take_of_length_le (by rw [be8_length]; exact Nat.le_refl _)⟩
      rw [HTe.out] at HO
      have HI : Kp (wr.ownsRow low 5 1 (.slice As 9 cs) (tag B :: be8 P.length).length (bytes (tag B :: be8 P.length))) := ⟨HO.out.inv 1 _ rfl⟩
      have H9 : Kp ((tag B :: be8 P.length).length = 9) := ⟨by rw [List.length_cons, be8_length]⟩
      obtain ⟨S, hS⟩ : ∃ S, S = ((St.new B).write P).save := ⟨_, rfl⟩
      have HT2 := HT.out
      have HLO2 := HLO.out
      rw [← hS] at HT2 HLO2
      have HS := Kp.mk HT2
      have HLd := Kp.mk HLO2
      have HSl : Kp (S.length = 9 + out B) := ⟨by rw [← HT2, List.length_append, H9.out, hash_length]⟩
      have hob : out B ≤ 64 := by cases B <;> decide
      clear HT HLO HT2 HLO2 hS HTe
      go_wp2_with fail
      refine (listL_calls B A1 c1 data _ (HO.out.laid HL.out) (HO.out.came H1.out) (by unfold maxCount; omega)).mono ?_
      rintro e w5 ⟨A5, c5, rfl, hs, hf⟩
      have HS5 := Kp.mk hs
      have HO5 := Kp.mk (HO.out.below (Fr.of_below hf (fun _ => False)))
      have HHl : Kp ((hash B data).length = out B) := ⟨hash_length B data⟩
      clear hs hf
      go_wp2_with (at_builtin; refine wpList_appendS rfl (.tmp 39) (.tmp 42) rfl rfl low (.slice As 9 cs) (tag B :: be8 P.length) rfl (by exact (show w5.ownsRow low 5 1 (.slice As 9 cs) (tag B :: be8 P.length).length (bytes (tag B :: be8 P.length)) from HO5.out.inv 1 _ rfl)) A5 (out B) c5 (hash B data) HHl.out.symm rfl (by exact HS5.out) (by rw [H9.out, HHl.out]; omega) (by exact Nat.le_trans HLw.out HO5.out.fr.size) ?_; intro v6 w6 hown hgr hat; rw [HS.out] at hown; obtain ⟨Ax, cx, hv6, _⟩ := own_shape hown; subst hv6; have HO6 := Kp.mk (HO5.out.append 1 rfl hown hgr hat); clear hown hgr hat)
      have O7 : Kp (Objs w w6 [Ob.row (.slice Ap P.length cp) P, Ob.row (.slice Ax S.length cx) S]) := ⟨HO6.out⟩
      clear HO HO5 HO6 HI
      refine (obLoad_calls O7.out HL.out (O7.out.row_src (i := 1) rfl) (by rw [HSl.out]; omega) HLd.out.1).mono ?_
      rintro e w7 ⟨d, rv, rfl, hO⟩
      rw [HLd.out.2] at hO
      have O8 := Kp.mk hO
      have hsP : P.length ≤ maxCount := by have := HPl.out; unfold maxCount; omega
      have HC : Kp (((St.new B).write P).cnt = P.length) := ⟨cnt_of B P hsP⟩
      have hww : ((St.new B).write P).write more = (St.new B).write (P ++ more) := write_write _ _ _ (by show 0 + _ ≤ maxCount; have := HPl.out; unfold maxCount; omega)
      have HWW := Kp.mk hww
      have HC2 : Kp (((St.new B).write (P ++ more)).cnt = P.length + more.length) := ⟨by rw [cnt_of B _ (by rw [List.length_append]; have := HPl.out; unfold maxCount; omega), List.length_append]⟩
      clear hO hww hsP
      go_wp2_with fail
      refine (h0 _).mono ?_
      rintro e w8 ⟨rfl, hw8⟩
      obtain rfl := hw8
      go_wp2_with fail
      refine (obWrite_calls O8.out HL.out 2 rfl (write_ok _ (new_ok B) P) (O8.out.src (i := 2) rfl H2.out) (by rw [HC.out]; have := HPl.out; unfold maxCount; omega)).mono ?_
      rintro e w9 ⟨r9, rv9, rfl, hO⟩
      rw [HWW.out] at hO
      have O9 := Kp.mk hO
      have hPl := HPl.out

      clear hO O7 O8
      go_wp2_with (at_builtin; refine wpList_appendS rfl (.tmp 64) (.tmp 65) rfl rfl low (.slice Ap P.length cp) P rfl (by exact (show w9.ownsRow low 5 1 (.slice Ap P.length cp) P.length (bytes P) from O9.out.inv 0 _ rfl)) A2 more.length c2 more rfl rfl (by exact O9.out.came H2.out) (by have := HPl.out; omega) (by exact Nat.le_trans HLw.out O9.out.fr.size) ?_; intro v10 w10 hown hgr hat; obtain ⟨Ay, cy, hv10, _⟩ := own_shape hown; subst hv10; have O10 := Kp.mk (O9.out.append 0 rfl hown hgr hat); clear hown hgr hat)
      have O11 : Kp (Objs w w10 [Ob.row (.slice Ay (P.length + more.length) cy) (P ++ more), Ob.row (.slice Ax S.length cx) S, Ob.dg d rv9 ((St.new B).write (P ++ more))]) := ⟨by
        have h := O10.out
        rw [List.length_append] at h
        exact h⟩
      clear O9 O10
      refine (obSum_calls O11.out HL.out 2 rfl).mono ?_
      rintro e w11 ⟨Ae, ce, rfl, hs, hf⟩
      have HSe := Kp.mk hs
      have O12 := Kp.mk (O11.out.below hf)
      have hla := listL_calls B Ay cy (P ++ more) w11 (O12.out.laid HL.out) (O12.out.row_src (i := 0) rfl) (by rw [List.length_append]; unfold maxCount; omega)
      rw [List.length_append] at hla
      have HLA := Kp.mk hla
      clear hs hf O11 hla
      go_wp2_with fail
      refine HLA.out.mono ?_
      rintro e w12 ⟨Af, cf, rfl, hs, hf⟩
      have HSf := Kp.mk hs
      have HSe2 := Kp.mk (HSe.out.fr (Fr.of_below hf (fun _ => False)))
      have O13 := Kp.mk (O12.out.below (Fr.of_below hf (fun _ => False)))
      have hhl : (hash B (P ++ more)).length ≤ 1000000000000000 := by rw [hash_length]; omega
      have hsm := same_src w12 HSe2.out HSf.out hhl hhl
      rw [hash_length, decide_eq_true rfl] at hsm
      have HSM := Kp.mk hsm
      clear hs hf O12 hsm hhl
      go_wp2_with fail
      refine HSM.out.mono ?_
      rintro e w13 ⟨rfl, hf⟩
      have O14 := Kp.mk (O13.out.below (Fr.of_below hf (fun _ => False)))
      have hWr := written_calls d ((St.new B).write (P ++ more)) rv9 w13 (show Dg w13 d rv9 ((St.new B).write (P ++ more)) from O14.out.inv 2 _ rfl)
      rw [HC2.out] at hWr
      clear hf O13
      go_wp2_with fail
      refine hWr.mono ?_
      rintro e w14 ⟨rfl, hw⟩
      obtain rfl := hw
      go_wp2
      go_ret
      exact ⟨rfl, O14.out.fr.below (fun _ _ h => h)⟩
end Go.Proofs.YtjcfnflkiialbaaDoor.Sha
