/-
  The walk of ShaConstants.
-/
import Derived.Test.YtjcfnflkiialbaaDoorRConst
namespace Go.Proofs.YtjcfnflkiialbaaDoor.Sha
open Go.RowKit Go.Proofs.YtjcfnflkiialbaaDoor.Mem Go.Proofs.YtjcfnflkiialbaaDoorW.PrintWords
set_option maxHeartbeats 2000000 in
set_option maxRecDepth 100000 in
theorem constants_calls (kd : Int) (w : World) (hL : CLaid w) : Calls Tryd.prog 3 #[.int .i64 kd] w fun e w' => e = .returned (.bool true) ∧ Below w.heap.size w w' := by
  have HL := Kp.mk hL
  have HLw := Kp.mk hL.size
  clear hL
  go_enter Tryd.func3, Tryd.ntmps3
  go_wp2
  have HB0 : Kp (Blk (w.alloc (.cells #[.int .i64 kd, .int .i64 256, .int .i64 512] 3)) w.heap.size 3 [.int .i64 kd, .int .i64 256, .int .i64 512]) := ⟨Blk.new w _ _⟩
  have HF0 : Kp (Fr (fun _ => False) w (w.alloc (.cells #[.int .i64 kd, .int .i64 256, .int .i64 512] 3))) := ⟨(Fr.refl _ w).alloc _⟩
  obtain ⟨gb, hgb⟩ : ∃ gb, gb = w.heap.size := ⟨_, rfl⟩
  rw [← hgb] at HB0 ⊢
  clear hgb
  go_loopw [13] (fun s13 wr => ∃ i : Nat, s13 = .int .i64 (i : Int) ∧ Kp (i ≤ 3) ∧ Kp (Blk wr gb 3 [.int .i64 kd, .int .i64 256, .int .i64 512]) ∧ Kp (Fr (fun _ => False) w wr)) (fun s13 _ => 3 - (intOf s13).toNat)
  case atStart => exact ⟨0, rfl, ⟨by omega⟩, HB0, HF0⟩
  case round =>
    clear HB0 HF0
    obtain ⟨i, rfl, hi, HB, HF⟩ := hrel
    have hi' := hi.out
    by_cases hlt : i < 3
    · obtain ⟨n, hn⟩ : ∃ n : Int, ([.int .i64 kd, .int .i64 256, .int .i64 512] : List Value)[i]? = some (.int .i64 n) := by
        rcases (show i = 0 ∨ i = 1 ∨ i = 2 by omega) with rfl | rfl | rfl
        · exact ⟨_, rfl⟩
        · exact ⟨_, rfl⟩
        · exact ⟨_, rfl⟩
      have hc := HB.out.cell i _ hn
      clear hn
      go_wp2_with fail
      refine (sconst_calls n wr (HL.out.fr HF.out)).mono ?_
      rintro e w1 ⟨v1, rfl, hO1, hb1, hf⟩
      have F1 := Kp.mk (HF.out.trans hf (fun _ _ h => h))
      have HB1 := Kp.mk (HB.out.fr hf (fun h => h))
      obtain ⟨m, hm⟩ : ∃ m, m = (cspec n).1 := ⟨_, rfl⟩
      obtain ⟨xs, hxs⟩ : ∃ xs, xs = (cspec n).2 := ⟨_, rfl⟩
      have HM := Kp.mk hm
      have HX := Kp.mk hxs
      have HXl : Kp (xs.length ≤ 640) := ⟨by
        rw [hxs]; unfold cspec
        split
        · show (K256.flatMap fun x => layWord x 4).length ≤ 640
          rw [cl_len, K256_len]; decide
        · split
          · show (K512.flatMap fun x => layWord x 8).length ≤ 640
            rw [cl_len, K512_len]; decide
          · simp⟩
      rw [← hxs] at hO1
      rw [← hm]
      have HO1 := Kp.mk hO1
      have Hb1 := Kp.mk hb1
      obtain ⟨A1, c1, hv1, _⟩ := own_shape hO1
      subst hv1
      have Hg1 : Kp (∀ k, (Value.slice A1 xs.length c1).ownBlock = some k → w.heap.size ≤ k) := ⟨fun k hk => Nat.le_trans HF.out.size (hb1 k hk)⟩
      have Hg1g : Kp (∀ k, (Value.slice A1 xs.length c1).ownBlock = some k → gb ≠ k) := ⟨fun k hk e => by have h1 := hb1 k hk; have h2 := HB.out.lt; omega⟩
      have hnum := num_calls m
      clear hO1 hb1 hf hm hxs HB HF
      go_wp2_with fail
      refine (rconst_calls n w1 (HL.out.fr F1.out)).mono ?_
      rintro e w2 ⟨v2, rfl, hO2, hb2, hf⟩
      rw [← HX.out] at hO2
      rw [← HM.out]
      have F2 := Kp.mk (F1.out.trans hf (fun _ _ h => h))
      have HB2 := Kp.mk (HB1.out.fr hf (fun h => h))
      have HO1b := Kp.mk (own_keep HO1.out hf (fun _ _ h => h))
      have HO2 := Kp.mk hO2
      have Hb2 : Kp (∀ k, v2.ownBlock = some k → ∀ j, (Value.slice A1 xs.length c1).ownBlock = some j → k ≠ j) := ⟨fun k hk j hj e => by
        have h1 := hb2 k hk
        have h2 := (own_lt HO1.out hj).1
        omega⟩
      obtain ⟨A2, c2, hv2, _⟩ := own_shape hO2
      subst hv2
      clear hO2 hb2 hf HB1 HO1
      go_wp2_with fail
      refine (hnum _).mono ?_
      rintro e w3 ⟨rfl, hw3⟩
      obtain rfl := hw3
      have hsrc1 : Src w3 (fun _ => False) A1 c1 xs := by
        obtain ⟨A', c', he, hs⟩ := Src.of_own HO1b.out (fun _ => False) (fun _ _ h => h)
        simp only [Value.slice.injEq] at he
        obtain ⟨rfl, _, rfl⟩ := he
        exact hs
      have hsrc2 : Src w3 (fun _ => False) A2 c2 xs := by
        obtain ⟨A', c', he, hs⟩ := Src.of_own HO2.out (fun _ => False) (fun _ _ h => h)
        simp only [Value.slice.injEq] at he
        obtain ⟨rfl, _, rfl⟩ := he
        exact hs
      have hsm := same_src w3 hsrc1 hsrc2 (by have := HXl.out; omega) (by have := HXl.out; omega)
      rw [decide_eq_true rfl] at hsm
      have HSM := Kp.mk hsm
      clear hsrc1 hsrc2 hsm
      go_wp2_with fail
      refine HSM.out.mono ?_
      rintro e w4 ⟨rfl, hB4⟩
      have hf : Fr (fun _ => False) w3 w4 := Fr.of_below hB4 _
      have F4 := Kp.mk (F2.out.trans hf (fun _ _ h => h))
      have HB4 := Kp.mk (HB2.out.fr hf (fun h => h))
      have HO1d := Kp.mk (own_keep HO1b.out hf (fun _ _ h => h))
      have HO2d := Kp.mk (own_keep HO2.out hf (fun _ _ h => h))
      clear hB4 hf HSM HB2 HO1b HO2
      go_wp2_with fail
      have hbk : Blk (w4.alloc (.cells #[.slice none 0 0, .slice none 0 0] 34)) w4.heap.size 34 [.slice none 0 0, .slice none 0 0] := Blk.new w4 _ _
      have hfa : Fr (fun _ => False) w4 (w4.alloc (.cells #[.slice none 0 0, .slice none 0 0] 34)) := (Fr.refl _ w4).alloc _
      obtain ⟨bk, hbk0⟩ : ∃ bk, bk = w4.heap.size := ⟨_, rfl⟩
      have Hbkge : Kp (w.heap.size ≤ bk) := ⟨by rw [hbk0]; exact F4.out.size⟩
      have Hbk1 : Kp (∀ k, (Value.slice A1 xs.length c1).ownBlock = some k → k ≠ bk) := ⟨fun k hk e => by have := (own_lt HO1d.out hk).1; omega⟩
      have Hbk2 : Kp (∀ k, (Value.slice A2 xs.length c2).ownBlock = some k → k ≠ bk) := ⟨fun k hk e => by have := (own_lt HO2d.out hk).1; omega⟩
      have Hbkg : Kp (gb ≠ bk) := ⟨fun e => by have := HB4.out.lt; omega⟩
      rw [← hbk0] at hbk ⊢
      generalize hW5 : w4.alloc (.cells #[.slice none 0 0, .slice none 0 0] 34) = w5 at hbk hfa ⊢
      clear hW5 hbk0
      have F5 := Kp.mk (F4.out.trans hfa (fun _ _ h => h))
      have HB5 := Kp.mk (HB4.out.fr hfa (fun h => h))
      have HO1e := own_keep HO1d.out hfa (fun _ _ h => h)
      have HO2e := Kp.mk (own_keep HO2d.out hfa (fun _ _ h => h))
      have hbl : low ≤ bk := Nat.le_trans HLw.out Hbkge.out
      have hho := hold_calls w5 bk 0 0 34 [.slice none 0 0, .slice none 0 0] (.slice none 0 0) (.slice none 0 0) (fun _ => False) (by decide) hbk hbl rfl rfl (BookIn.nil w5) (by decide) A1 xs.length c1 (bytes xs) (OwnL.of_own HO1e) (by have := HXl.out; omega) (fun k hk => ⟨fun h => h, Nat.le_trans HLw.out (Hg1.out k hk)⟩)
      have HHO := Kp.mk hho
      clear hho hbk hfa HO1e HO1d HO2d HB4 F4 hbl
      refine HHO.out.mono ?_
      rintro e w6 ⟨r6, LV, MV, T, rfl, hbk6, hin, hT, hf⟩
      have F6 : Kp (Fr (fun _ => False) w w6) := ⟨F5.out.trans hf (fun k hk h => by
        rcases h with rfl | h | h
        · have := Hbkge.out; omega
        · exact h.elim
        · have := Hg1.out k h; omega)⟩
      have HB6 : Kp (Blk w6 gb 3 [.int .i64 kd, .int .i64 256, .int .i64 512]) := ⟨HB5.out.fr hf (fun h => by
        rcases h with h | h | h
        · exact Hbkg.out h
        · exact h
        · exact Hg1g.out gb h rfl)⟩
      have HO2f := Kp.mk (own_keep HO2e.out hf (fun k hk h => by
        rcases h with h | h | h
        · exact Hbk2.out k hk h
        · exact h
        · exact Hb2.out k hk k h rfl))
      have HBK := Kp.mk hbk6
      have HIN := Kp.mk hin
      clear hbk6 hin hT hf HHO HB5 HO2e F5
      go_wp2_with fail
      refine (sconst_calls n w6 (HL.out.fr F6.out)).mono ?_
      rintro e w7 ⟨v3, rfl, hO3, hb3, hf⟩
      rw [← HX.out] at hO3
      rw [← HM.out]
      have F7 := Kp.mk (F6.out.trans hf (fun _ _ h => h))
      have HB7 := Kp.mk (HB6.out.fr hf (fun h => h))
      have HBK7 := Kp.mk (HBK.out.fr hf (fun h => h))
      have HIN7 := Kp.mk (HIN.out.fr hf (fun _ _ h => h))
      have HO2g := own_keep HO2f.out hf (fun _ _ h => h)
      obtain ⟨A3, c3, hv3, _⟩ := own_shape hO3
      subst hv3
      have hsrc3 : Src w7 (fun _ => False) A3 c3 xs := by
        obtain ⟨A', c', he, hs⟩ := Src.of_own hO3 (fun _ => False) (fun _ _ h => h)
        simp only [Value.slice.injEq] at he
        obtain ⟨rfl, _, rfl⟩ := he
        exact hs
      have hsrc2 : Src w7 (fun _ => False) A2 c2 xs := by
        obtain ⟨A', c', he, hs⟩ := Src.of_own HO2g (fun _ => False) (fun _ _ h => h)
        simp only [Value.slice.injEq] at he
        obtain ⟨rfl, _, rfl⟩ := he
        exact hs
      have hsm := same_src w7 hsrc3 hsrc2 (by have := HXl.out; omega) (by have := HXl.out; omega)
      rw [decide_eq_true rfl] at hsm
      have HSM := Kp.mk hsm
      clear hO3 hb3 hf HO2g hsrc3 hsrc2 hsm HB6 HBK HIN HO2f F6
      go_wp2_with fail
      refine HSM.out.mono ?_
      rintro e w8 ⟨rfl, hB8⟩
      have hf : Fr (fun _ => False) w7 w8 := Fr.of_below hB8 _
      have F8 := Kp.mk (F7.out.trans hf (fun _ _ h => h))
      have HB8 := Kp.mk (HB7.out.fr hf (fun h => h))
      have hkp := kept_calls w8 bk 0 1 34 _ LV MV T (HBK7.out.fr hf (fun h => h)) rfl rfl (HIN7.out.fr hf (fun _ _ h => h)) (by decide)
      have HKP := Kp.mk hkp
      clear hB8 hf hkp HB7 HBK7 HIN7 F7 HSM
      go_wp2_with fail
      refine HKP.out.mono ?_
      rintro e w9 ⟨rfl, hf⟩
      have F9 := Kp.mk (F8.out.trans hf (fun _ _ h => h))
      have HB9 := Kp.mk (HB8.out.fr hf (fun h => h))
      clear hf HKP HB8 F8
      go_wp2
      go_roundw
      case rel => exact ⟨i + 1, by go_num, ⟨hlt⟩, HB9, F9⟩
      case measure => simp [intOf] <;> omega
    · go_wp2
      go_ret
      exact ⟨rfl, HF.out.below (fun _ _ h => h)⟩
end Go.Proofs.YtjcfnflkiialbaaDoor.Sha
