/-
  The walk of TlogRoots.
-/
import Derived.Test.YtjbhaopocabfaaaDoorGrown
import Derived.Test.YtjbhaopocabfaaaDoorTold
import Derived.Test.YtjbhaopocabfaaaDoorNode
namespace Go.Proofs.YtjbhaopocabfaaaDoor.Sha
open Go.RowKit Go.Proofs.YtjbhaopocabfaaaDoor.Mem Go.Proofs.YtjbhaopocabfaaaDoorW.PrintWords Go.Proofs.YtjbhaopocabfaaaDoorW.PrintLast Go.Proofs.YtjbhaopocabfaaaDoor.Pl Go.Proofs.YtjbhaopocabfaaaDoor.Wk
attribute [local go_sem ↓] Go.wp_at_zero Go.wp_at_succ wp_load_hash wp_store_hash wp_load_mid23 wp_load_mid25 wp_store_mid25 wp_build_hash
attribute [local go_sem] rowAt_drew rowOk_drew midOk_drew midAt_drew rowBlock rowCells rowOff midFree_drew
/-- the blocks of a tree alone -/
theorem Tr.small {w : World} {B g s : Nat} {ls : List (List Int)} {F : Nat → Prop} (h : Tr w B g s ls F) : ∃ F0, Tr w B g s ls F0 ∧ (∀ q, F0 q → F q) ∧ ∀ q, F0 q → q < w.heap.size := by
  obtain ⟨gk, go, v, h1, h2, h3, h4, h5, h6, h7, h8, h9, h10⟩ := h
  have hsub : ∀ q, (q = g ∨ v.ownBlock = some q) → F q := by
    rintro q (rfl | hq)
    · exact h6
    · exact (h7 q hq).1
  refine ⟨fun q => q = g ∨ v.ownBlock = some q, ⟨gk, go, v, h1, h2, h3, h4, h5, .inl rfl, fun k hk => ⟨.inr hk, (h7 k hk).2⟩, fun q hq => h8 q (hsub q hq), fun h => h9 (hsub _ h), fun h => h10 (hsub _ h)⟩, hsub, ?_⟩
  rintro q (rfl | hq)
  · exact h1.lt
  · exact (h3.lt q hq).1
set_option maxHeartbeats 4000000 in
set_option maxRecDepth 100000 in
theorem roots_calls (k : Int) (A : Option Addr) (c : Nat) (P : List Int) (w : World) (hL : Laid w) (hI : IRow w (fun _ => False) A c P) (hP : ∀ i, i < P.length → -9223372036854775808 ≤ P.getD i 0 ∧ P.getD i 0 ≤ 9223372036854775807) :
    Calls Tryd.prog 7 #[.int .i64 k, .slice A P.length c] w fun e w' => e = .returned (.bool true) ∧ Fr (fun _ => False) w w' := by
  by_cases hbig : 65536 < P.length
  · obtain ⟨n, hn⟩ : ∃ n, n = P.length := ⟨_, rfl⟩
    rw [← hn] at hbig ⊢
    have hbb : decide ((65536 : Int) < (n : Int)) = true := decide_eq_true (by omega)
    clear hn hbig hI hP hL
    go_enter Tryd.func7, Tryd.ntmps7
    go_wp2_with fail
    go_ret
    exact ⟨rfl, Fr.refl _ _⟩
  have CN := Kp.mk (New_calls k w)
  have CT : Kp (∀ W, Fr (fun _ => False) w W → Calls Tryd.prog 32 #[] W fun e w' => e = .returned (.bool true) ∧ Fr (fun _ => False) W w') := ⟨fun W hf => told_calls W (hL.fr hf (fun _ h => h.elim))⟩
  have CG : Kp (∀ W g ls F A6 c6, Fr (fun _ => False) w W → Tr W w.heap.size g (strength k) ls F → HRow W (fun _ => False) A6 c6 ls → Calls Tryd.prog 42 #[.pointer (some ⟨g, 0, none⟩), .int .i64 k, .slice A6 ls.length c6] W fun e w' => e = .returned (.bool true) ∧ Fr (fun _ => False) W w') := ⟨fun W g ls F A6 c6 hf hT hX => grown_calls k w.heap.size g ls F W hT (hL.fr hf (fun _ h => h.elim)) A6 c6 hX⟩
  have CA : Kp (∀ W x g ls F, Fr (fun _ => False) w W → x.length = 32 → Tr W w.heap.size g (strength k) ls F → ls.length < 65536 → Calls Tryd.prog 20 #[.pointer (some ⟨g, 0, none⟩), .agg (bytes x).toArray] W fun e w' => e = .returned (.tuple #[.int .i64 (ls.length : Int), .int .i64 0]) ∧ ∃ F', Tr w' w.heap.size g (strength k) (ls ++ [x]) F' ∧ (∀ q, F' q → F q ∨ W.heap.size ≤ q) ∧ Fr F W w') :=
    ⟨fun W x g ls F hf hx hT hl => Add_calls x hx w.heap.size g (strength k) ls F W (hL.fr hf (fun _ h => h.elim)) hL.size hT hl⟩
  have CLd : Kp (∀ W A1 c1 ls, Fr (fun _ => False) w W → HRow W (fun _ => False) A1 c1 (storedL (strength k) ls) → ls.length ≤ 65536 → Calls Tryd.prog 41 #[.int .i64 k, .slice A1 (storedL (strength k) ls).length c1] W fun e w' => ∃ g F', e = .returned (.tuple #[.pointer (some ⟨g, 0, none⟩), .int .i64 0]) ∧ Tr w' W.heap.size g (strength k) ls F' ∧ Fr (fun _ => False) W w') := ⟨fun W A1 c1 ls hf hX hl => by
    have h1 := storedL_len (strength k) ls
    have h2 := cnt_mono hl
    have h3 : cnt 65536 = 131071 := by decide +kernel
    have q := Load_calls k A1 c1 (storedL (strength k) ls) ls.length W (hL.fr hf (fun _ h => h.elim)) hX (by omega) h1.symm hl (goodL_stored _ ls)
    have e := leavesOf_stored (nodeL (strength k)) [] ls
    have e2 : leavesOf [] (storedL (strength k) ls) ls.length = ls := e
    rw [e2] at q
    exact q⟩
  have CLf : Kp (∀ W g c3 x y z, Fr (fun _ => False) w W → Src W (fun _ => False) (some ⟨g, 0, none⟩) c3 [x, y, z] → Calls Tryd.prog 14 #[.int .i64 0, .slice (some ⟨g, 0, none⟩) 3 c3] W fun e w' => e = .returned (.agg (bytes (leafL 32 [x, y, z])).toArray) ∧ Fr (fun _ => False) W w') := ⟨fun W g c3 x y z hf hX => by
    have q := leafHash_calls 0 (some ⟨g, 0, none⟩) c3 [x, y, z] W (hL.fr hf (fun _ h => h.elim)) hX (by simp)
    rw [strength_zero] at q
    exact q⟩
  have hs1 := strength_le k
  obtain ⟨s, hs⟩ : ∃ s, s = strength k := ⟨_, rfl⟩
  rw [← hs] at CN CG CA CLd hs1
  obtain ⟨n, hn⟩ : ∃ n, n = P.length := ⟨_, rfl⟩
  have HN := Kp.mk hn
  have HI := Kp.mk hI
  have HP := Kp.mk hP
  rw [← hn] at hbig ⊢
  have hbb : decide ((65536 : Int) < (n : Int)) = false := decide_eq_false (by omega)
  have HBIG : Kp (n ≤ 65536) := ⟨by omega⟩
  have hn7 : n ≤ 70000 := by omega
  clear hs hn hI hP hbig hL
  go_enter Tryd.func7, Tryd.ntmps7
  go_wp2_with fail
  refine CN.out.mono ?_
  rintro e W1 ⟨g, rfl, hT, hf⟩
  have HT1 := Kp.mk hT
  have HF1 := Kp.mk hf
  clear hT hf CN
  go_wp2_with fail
  refine (CT.out W1 HF1.out).mono ?_
  rintro e W2 ⟨rfl, hf⟩
  have HT2 := Kp.mk (HT1.out.keep hf (fun _ _ h => h) (fun _ _ _ _ _ => ⟨fun h => h, fun h => h⟩))
  have HF2 := Kp.mk (HF1.out.trans hf (fun _ _ h => h))
  clear hf CT HT1 HF1
  go_upto_region 8 with (fail)
  go_loopw [5, 6, 7] (fun t v a wr => ∃ (i g : Nat) (ls : List (List Int)) (F : Nat → Prop) (A6 : Option Addr) (c6 : Nat), t = .pointer (some ⟨g, 0, none⟩) ∧ v = .slice A6 ls.length c6 ∧ a = .int .i64 (i : Int) ∧ i ≤ n ∧ Kp (ls.length ≤ i) ∧ Kp (Tr wr w.heap.size g s ls F) ∧ Kp (HLst wr w.heap.size (.slice A6 ls.length c6) ls) ∧ Kp (∀ q, (Value.slice A6 ls.length c6).ownBlock = some q → ¬ F q) ∧ Kp (Fr (fun _ => False) w wr)) (fun _ _ a _ => n - (intOf a).toNat)
  case atStart => exact ⟨0, g, [], _, none, 0, rfl, rfl, rfl, Nat.zero_le _, ⟨Nat.le_refl _⟩, HT2, ⟨HLst.nil _ _⟩, ⟨fun q hq => by cases hq⟩, HF2⟩
  case round =>
    clear HT2 HF2
    obtain ⟨i, g, ls, F, A6, c6, rfl, rfl, rfl, hi, HLI, HT, HO, HD, HF⟩ := hrel
    by_cases hlt : i < n
    · obtain ⟨bi, oi, hAi, _, hci⟩ := (HI.out.fr HF.out).at i (by rw [← HN.out]; exact hlt)
      subst hAi
      obtain ⟨z0, z1⟩ := HP.out i (by rw [← HN.out]; exact hlt)
      obtain ⟨m, hm⟩ : ∃ m, m = ls.length := ⟨_, rfl⟩
      have HM := Kp.mk hm
      obtain ⟨z, hz⟩ : ∃ z, z = P.getD i 0 := ⟨_, rfl⟩
      rw [← hz] at z0 z1 hci
      rw [← hm] at HLI HO HD ⊢
      have hm6 : m ≤ 65536 := by have := HLI.out; have := HBIG.out; omega
      have hmi : m ≤ i := HLI.out
      clear hz hm
      have hF8 : Kp (∀ q, F q → w.heap.size ≤ q) := ⟨by obtain ⟨_, _, _, _, _, _, _, _, _, _, h8, _⟩ := HT.out; exact h8⟩
      by_cases hz0 : 0 ≤ z
      · obtain ⟨q, rfl⟩ : ∃ q : Nat, z = (q : Int) := ⟨z.toNat, by omega⟩
        by_cases hqm : q ≤ m
        · have hqi : (q : Int) ≤ (m : Int) := by omega
          have hc6 : q ≤ c6 := by
            obtain ⟨A', c', hv, hr⟩ := HO.out.row (fun _ => False) (fun _ _ h => h)
            rw [← HM.out] at hv
            cases hv
            have h1 := hr.2.1
            rw [← HM.out] at h1
            omega
          have hc6i : (q : Int) ≤ (c6 : Int) := by omega
          have CB := Kp.mk (Back_calls w.heap.size g s ls F wr HT.out q (by rw [← HM.out]; exact hqm))
          have hcut := HLst.cut HO.out q (by rw [← HM.out]; exact hqm)
          have hown : (Value.slice A6 q q).ownBlock = (Value.slice A6 m c6).ownBlock := by cases A6 <;> rfl
          have HC := Kp.mk hcut
          have HW := Kp.mk hown
          clear hcut hown
          go_wp2_with fail
          refine CB.out.mono ?_
          rintro e W5 ⟨rfl, hT5, hf5⟩
          have HT5 := Kp.mk hT5
          have HO5 := Kp.mk (HC.out.keep hf5 (fun b hb => HD.out b (by rw [← HW.out]; exact hb)))
          have HF5 : Kp (Fr (fun _ => False) w W5) := ⟨HF.out.trans hf5 (fun b hb h => by have := hF8.out b h; omega)⟩
          have hl5 : (ls.take q).length = q := by rw [List.length_take, ← HM.out]; omega
          have HL5 := Kp.mk hl5
          clear hT5 hf5 CB hl5 hci
          go_wp2_with fail
          refine ⟨⟨i + 1, g, ls.take q, F, A6, q, rfl, by rw [HL5.out], by go_num, hlt, ⟨by rw [HL5.out]; omega⟩, HT5, ⟨by rw [HL5.out]; exact HO5.out⟩, ⟨fun b hb => HD.out b (by rw [← HW.out]; rw [HL5.out] at hb; exact hb)⟩, HF5⟩, ?_⟩
          simp only [intOf]
          omega
        · have hqi : ¬ (q : Int) ≤ (m : Int) := by omega
          have CB := Kp.mk (Back_no w.heap.size g s ls F wr HT.out (q : Int) (.inr (by rw [← HM.out]; omega)))
          go_wp2_with fail
          refine CB.out.mono ?_
          rintro e W5 ⟨rfl, hf5⟩
          have HT5 := Kp.mk (HT.out.keep hf5 (fun _ _ h => h) (fun _ _ _ _ _ => ⟨fun h => h, fun h => h⟩))
          have HO5 := Kp.mk (HO.out.keep hf5 (fun _ _ h => h))
          have HF5 := Kp.mk (HF.out.trans hf5 (fun _ _ h => h))
          clear hf5 CB hci
          go_wp2_with fail
          refine ⟨⟨i + 1, g, ls, F, A6, c6, rfl, by rw [HM.out], by go_num, hlt, ⟨by rw [← HM.out]; omega⟩, HT5, ⟨by rw [← HM.out]; exact HO5.out⟩, ⟨by rw [← HM.out]; exact HD.out⟩, HF5⟩, ?_⟩
          simp only [intOf]
          omega
      · by_cases hz1 : z = -1
        · subst hz1
          have CS := Kp.mk (Stored_calls w.heap.size g s ls F wr HT.out)
          go_wp2_with fail
          refine CS.out.mono ?_
          rintro e W5 ⟨v, rfl, hO5, hf5⟩
          have HF5 := Kp.mk (HF.out.trans hf5 (fun _ _ h => h))
          have HO5 := Kp.mk (HO.out.keep hf5 (fun _ _ h => h))
          obtain ⟨A1, c1, hv, hR⟩ := hO5.row (fun _ => False) (fun _ _ h => h)
          subst hv
          have CL := Kp.mk (CLd.out W5 A1 c1 ls HF5.out hR (by rw [← HM.out]; exact hm6))
          clear hO5 hf5 hR CS hci
          generalize (storedL s ls).length = N1 at CL ⊢
          go_wp2_with fail
          refine CL.out.mono ?_
          rintro e W6 ⟨g2, F2, rfl, hT6, hf6⟩
          have HT6 := Kp.mk (hT6.low HF5.out.size)
          have HF6 := Kp.mk (HF5.out.trans hf6 (fun _ _ h => h))
          have HO6 := Kp.mk (HO5.out.keep hf6 (fun _ _ h => h))
          have HD6 : Kp (∀ b, (Value.slice A6 m c6).ownBlock = some b → ¬ F2 b) := ⟨fun b hb h => by
            obtain ⟨_, _, _, _, _, _, _, _, _, _, h8, _⟩ := hT6
            have h1 := h8 b h
            have h2 := (HO5.out.lt b hb).1
            omega⟩
          clear hT6 hf6 CL
          go_wp2_with fail
          refine ⟨⟨i + 1, g2, ls, F2, A6, c6, rfl, by rw [HM.out], by go_num, hlt, ⟨by rw [← HM.out]; omega⟩, HT6, ⟨by rw [← HM.out]; exact HO6.out⟩, ⟨by rw [← HM.out]; exact HD6.out⟩, HF6⟩, ?_⟩
          simp only [intOf]
          omega
        · have hz2 : z ≤ -2 := by omega
          have hzb : (z == -1) = false := by rw [beq_eq_false_iff_ne]; exact hz1
          clear hz0 hz1
          go_wp2_with fail
          have hsrc : Src (wr.alloc (.cells #[.int .u8 (z % 256), .int .u8 ((i : Int) % 256), .int .u8 (z.tdiv 256 % 256)] 5)) (fun _ => False) (some ⟨wr.heap.size, 0, none⟩) 3 [z % 256, (i : Int) % 256, z.tdiv 256 % 256] := blk_srcs (l := [z % 256, (i : Int) % 256, z.tdiv 256 % 256]) (Blk.new wr _ _)
          refine (CLf.out _ wr.heap.size 3 _ _ _ (HF.out.alloc _) hsrc).mono ?_
          rintro e W5 ⟨rfl, hf⟩
          have hf5 : Fr (fun _ => False) wr W5 := ((Fr.refl (fun _ => False) wr).alloc _).trans hf (fun _ _ h => h)
          obtain ⟨F0, hT0, hsub, hlt0⟩ := Tr.small HT.out
          have HT5 := Kp.mk (hT0.keep hf5 (fun _ _ h => h) (fun _ _ _ _ _ => ⟨fun h => h, fun h => h⟩))
          have HO5 := Kp.mk (HO.out.keep hf5 (fun _ _ h => h))
          have HF5 := Kp.mk (HF.out.trans hf5 (fun _ _ h => h))
          have HD5 : Kp (∀ b, (Value.slice A6 m c6).ownBlock = some b → ¬ F0 b ∧ b < wr.heap.size) := ⟨fun b hb => ⟨fun h => HD.out b hb (hsub b h), (HO.out.lt b hb).1⟩⟩
          have HLT := Kp.mk hlt0
          have HSZ := Kp.mk hf5.size
          obtain ⟨x, hx⟩ : ∃ x, x = leafL 32 [z % 256, (i : Int) % 256, z.tdiv 256 % 256] := ⟨_, rfl⟩
          have HX32 : Kp (x.length = 32) := ⟨by rw [hx]; exact ofL_len _ _ (Nat.le_refl _)⟩
          rw [← hx]
          have HNEW : Kp (Blk (W5.alloc (.cells #[.int .u8 0, .int .u8 0, .int .u8 0, .int .u8 0, .int .u8 0, .int .u8 0, .int .u8 0, .int .u8 0, .int .u8 0, .int .u8 0, .int .u8 0, .int .u8 0, .int .u8 0, .int .u8 0, .int .u8 0, .int .u8 0, .int .u8 0, .int .u8 0, .int .u8 0, .int .u8 0, .int .u8 0, .int .u8 0, .int .u8 0, .int .u8 0, .int .u8 0, .int .u8 0, .int .u8 0, .int .u8 0, .int .u8 0, .int .u8 0, .int .u8 0, .int .u8 0] 25)) W5.heap.size 25 [.int .u8 0, .int .u8 0, .int .u8 0, .int .u8 0, .int .u8 0, .int .u8 0, .int .u8 0, .int .u8 0, .int .u8 0, .int .u8 0, .int .u8 0, .int .u8 0, .int .u8 0, .int .u8 0, .int .u8 0, .int .u8 0, .int .u8 0, .int .u8 0, .int .u8 0, .int .u8 0, .int .u8 0, .int .u8 0, .int .u8 0, .int .u8 0, .int .u8 0, .int .u8 0, .int .u8 0, .int .u8 0, .int .u8 0, .int .u8 0, .int .u8 0, .int .u8 0]) := ⟨Blk.new W5 _ _⟩
          clear hsrc hf hf5 hT0 hsub hlt0 hx hci HT HO HF HD
          go_upto_region 12 with (refine wpList_storeH rfl rfl (Operand.tmp 11) (Operand.tmp 43) rfl W5.heap.size _ _ x rfl rfl HNEW.out rfl HX32.out ?_)
          obtain ⟨g11, hg11⟩ : ∃ g11, g11 = W5.heap.size := ⟨_, rfl⟩
          obtain ⟨W6, hW6⟩ : ∃ W6, W6 = (W5.alloc (.cells #[.int .u8 0, .int .u8 0, .int .u8 0, .int .u8 0, .int .u8 0, .int .u8 0, .int .u8 0, .int .u8 0, .int .u8 0, .int .u8 0, .int .u8 0, .int .u8 0, .int .u8 0, .int .u8 0, .int .u8 0, .int .u8 0, .int .u8 0, .int .u8 0, .int .u8 0, .int .u8 0, .int .u8 0, .int .u8 0, .int .u8 0, .int .u8 0, .int .u8 0, .int .u8 0, .int .u8 0, .int .u8 0, .int .u8 0, .int .u8 0, .int .u8 0, .int .u8 0] 25)).setRow W5.heap.size (bytes x).toArray := ⟨_, rfl⟩
          have hfr := fr_row (Fr.refl (fun _ => False) W5) (.cells #[.int .u8 0, .int .u8 0, .int .u8 0, .int .u8 0, .int .u8 0, .int .u8 0, .int .u8 0, .int .u8 0, .int .u8 0, .int .u8 0, .int .u8 0, .int .u8 0, .int .u8 0, .int .u8 0, .int .u8 0, .int .u8 0, .int .u8 0, .int .u8 0, .int .u8 0, .int .u8 0, .int .u8 0, .int .u8 0, .int .u8 0, .int .u8 0, .int .u8 0, .int .u8 0, .int .u8 0, .int .u8 0, .int .u8 0, .int .u8 0, .int .u8 0, .int .u8 0] 25) (bytes x).toArray
          rw [← hW6] at hfr
          have HX6 : Kp (Blk W6 g11 25 (bytes x)) := ⟨by rw [hW6, hg11]; exact blk_row W5 _ _ _⟩
          have HT6 := Kp.mk (HT5.out.keep hfr (fun _ _ h => h) (fun _ _ _ _ _ => ⟨fun h => h, fun h => h⟩))
          have HO6 := Kp.mk (HO5.out.keep hfr (fun _ _ h => h))
          have HF6 := Kp.mk (HF5.out.trans hfr (fun _ _ h => h))
          have HG11 : Kp (wr.heap.size ≤ g11) := ⟨by rw [hg11]; exact HSZ.out⟩
          rw [← hW6, ← hg11]
          have Z6 : Kp ((Tryd.prog.info? 25).map (·.size) = some (bytes x).length) := ⟨by rw [bytes_length, HX32.out]; kernel_rfl⟩
          have ok6 := rowOk_blk HX6.out Z6.out
          have at6 := rowAt_blk HX6.out
          clear hW6 hg11 hfr HNEW HT5 HO5 HF5
          go_wp2_with fail
          refine (CA.out W6 x g ls F0 HF6.out HX32.out HT6.out (by have := HLI.out; have := HM.out; have := HBIG.out; omega)).mono ?_
          rintro e W7 ⟨rfl, F', hT, hF', hf⟩
          obtain ⟨F2, hT2, hsub2, hlt2⟩ := Tr.small hT
          have HX7 := Kp.mk (HX6.out.fr hf (fun h => by have := HLT.out g11 h; have := HG11.out; omega))
          have HO7 := Kp.mk (HO6.out.keep hf (fun b hb => (HD5.out b hb).1))
          have HF7 : Kp (Fr (fun _ => False) w W7) := ⟨HF6.out.trans hf (fun b hb h => by
            obtain ⟨_, _, _, _, _, _, _, _, _, _, h8, _⟩ := HT6.out
            have := h8 b h
            omega)⟩
          have HD7 : Kp (∀ b, (Value.slice A6 m c6).ownBlock = some b → ¬ F2 b) := ⟨fun b hb h => by
            rcases hF' b (hsub2 b h) with h1 | h1
            · exact (HD5.out b hb).1 h1
            · have h2 := (HD5.out b hb).2
              have h3 := HX6.out.lt
              have h4 := HG11.out
              omega⟩
          have HT7 := Kp.mk hT2
          have HLT2 := Kp.mk hlt2
          rw [← HM.out]
          clear hT hF' hf hT2 hsub2 hlt2 ok6 at6 HX6 HT6 HO6 HF6 HD5 HLT HG11 HSZ
          have ok7 := rowOk_blk HX7.out Z6.out
          have at7 := rowAt_blk HX7.out
          have hkx := hashOk_bytes x HX32.out
          have HXn : Kp (HRow (W7.alloc (.cells (bytes x).toArray 25)) (fun _ => False) (some ⟨W7.heap.size, 0, none⟩) 1 [x]) := ⟨hrow_new W7 x HX32.out⟩
          have HOa := Kp.mk (HO7.out.keep ((Fr.refl (fun _ => False) W7).alloc (.cells (bytes x).toArray 25)) (fun _ _ h => h))
          have HTa := Kp.mk (HT7.out.keep ((Fr.refl (fun _ => False) W7).alloc (.cells (bytes x).toArray 25)) (fun _ _ h => h) (fun _ _ _ _ _ => ⟨fun h => h, fun h => h⟩))
          go_wp2_with (at_builtin; refine wpList_appendK rfl _ _ rfl rfl w.heap.size (.slice A6 m c6) ls rfl HOa.out (some ⟨W7.heap.size, 0, none⟩) 1 1 [x] rfl (by simp) rfl HXn.out (by have := HM.out; simp only [List.length_singleton]; omega) (by exact (HF7.out.alloc (.cells (bytes x).toArray 25)).size) ?_; intro v8 W8 hown hgr hat; have HO8 := Kp.mk hown; have HG8 := Kp.mk hgr; have HA8 := Kp.mk hat; clear hown hgr hat)
          obtain ⟨A8, c8, hv8, _⟩ := HO8.out.row (fun _ => False) (fun _ _ h => h)
          have hfw := (Fr.refl (fun q => (Value.slice A6 m c6).ownBlock = some q) (W7.alloc (.cells (bytes x).toArray 25))).grown HG8.out (fun q _ h => h)
          have hT8 := HTa.out.push HOa.out HD7.out hfw
          refine ⟨⟨i + 1, g, ls ++ [x], F2, A8, c8, rfl, hv8, by go_num, hlt, ⟨by have := HM.out; have := HLI.out; simp; omega⟩, ⟨hT8⟩, ⟨.inl (by rw [← hv8]; exact HO8.out)⟩, ⟨fun b hb h => ?_⟩, ⟨(HF7.out.alloc (.cells (bytes x).toArray 25)).trans hfw (fun b hb h => by have := (HOa.out.lt b h).2; omega)⟩⟩, ?_⟩
          · rw [← hv8] at hb
            rcases HA8.out with h1 | ⟨q, h1, h2⟩
            · exact HD7.out b (by rw [← h1]; exact hb) h
            · rw [hb] at h1
              obtain rfl := Option.some.inj h1
              have h3 := HLT2.out b h
              have h4 : (W7.alloc (.cells (bytes x).toArray 25)).heap.size = W7.heap.size + 1 := by simp
              omega
          · simp only [intOf]
            omega
    · obtain rfl : i = n := by omega
      obtain ⟨A', c', hv, hr⟩ := HO.out.row (fun _ => False) (fun _ _ h => h)
      cases hv
      have CGG := Kp.mk (CG.out wr g ls F A6 c6 HF.out HT.out hr)
      clear hr
      generalize ls.length = m at CGG ⊢
      go_wp2_with fail
      refine CGG.out.mono ?_
      rintro e W5 ⟨rfl, hf5⟩
      have HF5 := Kp.mk (HF.out.trans hf5 (fun _ _ h => h))
      clear hf5
      go_wp2_with fail
      go_ret
      exact ⟨rfl, HF5.out⟩
theorem roots_calls2 (k : Int) (A : Option Addr) (c : Nat) (P : List Int) (w : World) (hL : Laid w) (hI : IRow w (fun _ => False) A c P) (hP : ∀ i, i < P.length → -9223372036854775808 ≤ P.getD i 0 ∧ P.getD i 0 ≤ 9223372036854775807) :
    Calls Tryd.prog 7 #[.int .i64 k, .slice A P.length c] w fun e w' => e = .returned (.bool true) ∧ Below w.heap.size w w' :=
  (roots_calls k A c P w hL hI hP).mono fun _ _ h => ⟨h.1, h.2.below (fun _ _ h => h)⟩
end Go.Proofs.YtjbhaopocabfaaaDoor.Sha
