/-
  The walk of TlogBuilt.
-/
import Derived.Test.YtjbhaopocabfaaaDoorBuiltP
namespace Go.Proofs.YtjbhaopocabfaaaDoor.Sha
open Go.RowKit Go.Proofs.YtjbhaopocabfaaaDoor.Mem Go.Proofs.YtjbhaopocabfaaaDoorW.PrintWords Go.Proofs.YtjbhaopocabfaaaDoorW.PrintLast Go.Proofs.YtjbhaopocabfaaaDoor.Pl Go.Proofs.YtjbhaopocabfaaaDoor.Wk
attribute [local go_sem ↓] Go.wp_at_zero Go.wp_at_succ wp_load_hash wp_store_hash wp_load_mid23 wp_load_mid25 wp_store_mid25 wp_build_hash
attribute [local go_sem] rowAt_drew rowOk_drew midOk_drew midAt_drew rowBlock rowCells rowOff midFree_drew
set_option maxHeartbeats 8000000 in
set_option maxRecDepth 100000 in
theorem built_calls (k : Int) (A : Option Addr) (c : Nat) (L : List (List Int)) (which : Int) (w : World) (hL : Laid w) (hX : HRow w (fun _ => False) A c L) :
    Calls Tryd.prog 6 #[.int .i64 k, .slice A L.length c, .int .i64 which] w fun e w' => e = .returned (.bool true) ∧ Fr (fun _ => False) w w' := by
  by_cases hbig : 65536 < L.length
  · obtain ⟨n, hn⟩ : ∃ n, n = L.length := ⟨_, rfl⟩
    rw [← hn] at hbig ⊢
    have hbb : decide ((65536 : Int) < (n : Int)) = true := decide_eq_true (by omega)
    clear hn hbig hX hL
    go_enter Tryd.func6, Tryd.ntmps6
    go_wp2_with fail
    go_ret
    exact ⟨rfl, Fr.refl _ _⟩
  have LW : ∀ W, Fr (fun _ => False) w W → Laid W := fun W hf => hL.fr hf (fun _ h => h.elim)
  have hlow := hL.size
  have CH := Kp.mk (hashes8_calls A c L w hX (by omega))
  have CB : Kp (∀ W A1 c1, Fr (fun _ => False) w W → HRow W (fun _ => False) A1 c1 L → Calls Tryd.prog 26 #[.int .i64 k, .slice A1 L.length c1] W fun e w' => ∃ v, e = .returned (.tuple #[v, .int .i64 0]) ∧ HLst w' W.heap.size v (storedL (strength k) L) ∧ Fr (fun _ => False) W w') := ⟨fun W A1 c1 hf hx => Build_calls k A1 c1 L W (LW W hf) hx (by omega)⟩
  have CC := Kp.mk (fun W => Count_calls L.length (by omega) W)
  have CN := Kp.mk (fun W => New_calls k W)
  have CT : Kp (∀ W, Fr (fun _ => False) w W → Calls Tryd.prog 32 #[] W fun e w' => e = .returned (.bool true) ∧ Fr (fun _ => False) W w') := ⟨fun W hf => told_calls W (LW W hf)⟩
  have CI : Kp (∀ W (i : Nat), i < 65536 → Calls Tryd.prog 37 #[.int .i64 0, .int .i64 (i : Int)] W fun e w' => e = .returned (.tuple #[.int .i64 (cnt i : Nat), .int .i64 0]) ∧ Fr (fun _ => False) W w') := ⟨fun W i hi => by
    have q := Index_calls 0 i (by omega) (by rw [Nat.pow_zero, Nat.mul_one]; omega) W
    rw [Nat.pow_zero, Nat.mul_one, Nat.add_sub_cancel, Nat.add_zero] at q
    exact q⟩
  have CA : Kp (∀ W B x g ls F, Fr (fun _ => False) w W → w.heap.size ≤ B → x.length = 32 → Tr W B g (strength k) ls F → ls.length < 65536 → Calls Tryd.prog 20 #[.pointer (some ⟨g, 0, none⟩), .agg (bytes x).toArray] W fun e w' => e = .returned (.tuple #[.int .i64 (ls.length : Int), .int .i64 0]) ∧ ∃ F', Tr w' B g (strength k) (ls ++ [x]) F' ∧ (∀ q, F' q → F q ∨ W.heap.size ≤ q) ∧ Fr F W w') :=
    ⟨fun W B x g ls F hf hB hx hT hl => Add_calls x hx B g (strength k) ls F W (LW W hf) (by omega) hT hl⟩
  have CCk : Kp (∀ W A1 c1 (ST : List (List Int)) (n : Nat), Fr (fun _ => False) w W → HRow W (fun _ => False) A1 c1 ST → ST.length ≤ 131071 → cnt n = ST.length → n ≤ 65536 → Calls Tryd.prog 39 #[.int .i64 k, .slice A1 ST.length c1] W fun e w' => e = .returned (.int .i64 (chkCode (strength k) ST n)) ∧ Fr (fun _ => False) W w') := ⟨fun W A1 c1 ST n hf hx h1 h2 h3 => Check_calls k A1 c1 ST n W (LW W hf) hx h1 h2 h3⟩
  have hs1 := strength_le k
  obtain ⟨s, hs⟩ : ∃ s, s = strength k := ⟨_, rfl⟩
  rw [← hs] at CN CB CA CCk hs1
  have hN := storedL_len s L
  have hcm := cnt_mono (show L.length ≤ 65536 by omega)
  have h65 : cnt 65536 = 131071 := by decide +kernel
  rw [h65] at hcm
  have H32 := Kp.mk (storedL_32 s hs1 L hX.1)
  have HX32 := Kp.mk hX.1
  have HLF : Kp (∀ i, i < L.length → (storedL s L)[cnt i]? = L[i]?) := ⟨fun i hi => by
    have e := storedN_leaf (nodeL s) [] L L.length i hi
    have e2 : (storedL s L)[cnt i]? = some (L.getD i []) := e
    rw [e2, List.getElem?_eq_getElem hi]
    simp only [List.getD, List.getElem?_eq_getElem hi, Option.getD_some]⟩
  obtain ⟨len, hlen⟩ : ∃ len, len = L.length := ⟨_, rfl⟩
  have HLEN := Kp.mk hlen
  obtain ⟨ST, hST⟩ : ∃ ST, ST = storedL s L := ⟨_, rfl⟩
  have HST := Kp.mk hST
  rw [← hST] at CB hN H32 HLF
  rw [← hlen] at CB CC hN hcm HLF hbig ⊢
  have HNL := Kp.mk hN
  have HCM := Kp.mk hcm
  have hbb : decide ((65536 : Int) < (len : Int)) = false := decide_eq_false (by omega)
  have HBIG : Kp (len ≤ 65536) := ⟨by omega⟩
  have hln7 : len ≤ 70000 := by omega
  have HLOW := Kp.mk hlow
  clear hs hN hcm h65 hs1 hlen hST hL hX LW hlow hbig
  go_enter Tryd.func6, Tryd.ntmps6
  go_wp2_with fail
  rw [HLEN.out]
  refine CH.out.mono ?_
  rintro e W1 ⟨v, rfl, hO, hf⟩
  have HF1 := Kp.mk hf
  obtain ⟨A7, c7, hv, hR⟩ := hO.row (fun _ => False) (fun _ _ h => h)
  subst hv
  have HR71 := Kp.mk hR
  rw [← HLEN.out]
  clear hO hf hR CH
  go_wp2_with fail
  refine (CB.out W1 A7 c7 HF1.out HR71.out).mono ?_
  rintro e W2 ⟨v, rfl, hS, hf⟩
  have HF2 := Kp.mk (HF1.out.trans hf (fun _ _ h => h))
  have HR72 := Kp.mk (HR71.out.fr hf)
  obtain ⟨A8, c8, hv, hR⟩ := hS.row (fun _ => False) (fun _ _ h => h)
  subst hv
  have HR82 := Kp.mk hR
  have HS82 := Kp.mk hS
  have HF1S : Kp (w.heap.size ≤ W1.heap.size) := ⟨HF1.out.size⟩
  clear hS hf hR CB HR71 HF1
  rw [HNL.out]
  go_wp2_with fail
  refine (CC.out W2).mono ?_
  rintro e W3 ⟨rfl, hf⟩
  have HF3 := Kp.mk (HF2.out.trans hf (fun _ _ h => h))
  have HR7 := Kp.mk (HR72.out.fr hf)
  have HR8 := Kp.mk (HR82.out.fr hf)
  have HS8 := Kp.mk (HS82.out.keep hf (fun _ _ h => h))
  clear hf CC HR72 HR82 HS82 HF2
  go_wp2_with fail
  refine (CN.out W3).mono ?_
  rintro e W4 ⟨g, rfl, hT, hf⟩
  have HF4 := Kp.mk hf
  have HT4 := Kp.mk hT
  clear hf hT CN
  obtain ⟨N, hNN⟩ : ∃ N, N = cnt len := ⟨_, rfl⟩
  have HNN := Kp.mk hNN
  rw [← hNN] at HNL HCM ⊢
  clear hNN
  go_wp2_with fail
  refine (CT.out W4 (HF3.out.trans HF4.out (fun _ _ h => h))).mono ?_
  rintro e W5 ⟨rfl, hf⟩
  have HF5 := Kp.mk (HF4.out.trans hf (fun _ _ h => h))
  have HT5 := Kp.mk (HT4.out.keep hf (fun _ _ h => h) (fun _ _ _ _ _ => ⟨fun h => h, fun h => h⟩))
  clear hf CT HF4 HT4
  go_upto_region 10 with (fail)
  go_loopw [13] (fun a wr => ∃ (i : Nat) (F : Nat → Prop), a = .int .i64 (i : Int) ∧ i ≤ len ∧ Kp (Tr wr W3.heap.size g s (L.take i) F) ∧ Kp (Fr (fun _ => False) W3 wr)) (fun a _ => len - (intOf a).toNat)
  case atStart => exact ⟨0, _, rfl, Nat.zero_le _, HT5, HF5⟩
  case round =>
    clear HT5 HF5
    obtain ⟨i, F, rfl, hi, HT, HF⟩ := hrel
    by_cases hlt : i < len
    · have hil : i < L.length := by rw [← HLEN.out]; exact hlt
      have CI1 := Kp.mk (CI.out wr i (by have := HBIG.out; omega))
      have hpl : cnt i < ST.length := by
        have h1 := cnt_lt_of_lt hlt
        rw [HNL.out, HNN.out]; exact h1
      have hpx : ST[cnt i]'hpl = L[i]'hil := by
        have h1 := HLF.out i hlt
        rw [List.getElem?_eq_getElem hpl, List.getElem?_eq_getElem hil] at h1
        exact Option.some.inj h1
      obtain ⟨p, hp⟩ : ∃ p, p = cnt i := ⟨_, rfl⟩
      rw [← hp] at CI1
      have hpl2 : p < ST.length := by rw [hp]; exact hpl
      have hpx2 : ST[p]'hpl2 = L[i]'hil := by subst hp; exact hpx
      have hpN : p < N := by rw [← HNL.out]; exact hpl2
      have hpNi : (p : Int) < (N : Int) := Int.ofNat_lt.2 hpN
      obtain ⟨b8, o8, hA8, _, _, _⟩ := HR8.out.at p hpl2
      obtain ⟨b7, o7, hA7, _, _, _⟩ := HR7.out.at i hil
      subst hA8 hA7
      have hx32 : (L[i]'hil).length = 32 := HX32.out _ (List.getElem_mem _)
      have HL8 : Kp (∀ W, Fr (fun _ => False) W3 W → Lds W 25 (.pointer (some ⟨b8, o8 + p * 32, none⟩)) (.agg (bytes (L[i]'hil)).toArray)) := ⟨fun W hf => by
        have h := lds_row (HR8.out.fr hf) p hpl2
        rw [hpx2] at h
        exact h⟩
      have HL7 : Kp (∀ W, Fr (fun _ => False) W3 W → Lds W 25 (.pointer (some ⟨b7, o7 + i * 32, none⟩)) (.agg (bytes (L[i]'hil)).toArray)) := ⟨fun W hf => lds_row (HR7.out.fr hf) i hil⟩
      have HM7 : Kp (∀ W, Fr (fun _ => False) W3 W → midOk W 32 (.pointer (some ⟨b7, o7 + i * 32, none⟩)) = true ∧ midAt W 32 (.pointer (some ⟨b7, o7 + i * 32, none⟩)) = (bytes (L[i]'hil)).toArray) := ⟨fun W hf => (HR7.out.fr hf).mid i hil⟩
      have HTK := Kp.mk (show L.take (i + 1) = L.take i ++ [L[i]'hil] from List.take_succ_eq_append_getElem _)
      have HTL : Kp ((L.take i).length = i) := ⟨by rw [List.length_take]; omega⟩
      generalize L[i]'hil = x at hx32 HL8 HL7 HM7 HTK
      have HX := Kp.mk hx32
      have sE : ∀ W, (Op.equalIn 10000 25 (.agg (bytes x).toArray) (.agg (bytes x).toArray)).run Tryd.prog W = .ok true W := fun W => by
        have h := eq32 x x HX.out HX.out W
        rw [decide_eq_true rfl] at h
        exact h
      have hii : (i : Int) < (len : Int) := Int.ofNat_lt.2 hlt
      have hge : decide (N ≤ p) = false := decide_eq_false (by omega)
      have hlz : decide ((p : Int) < 0) = false := decide_eq_false (by omega)
      clear hpx hpx2 hx32 hil hpl hpl2 hp
      go_wp2_with fail
      refine CI1.out.mono ?_
      rintro e W6 ⟨rfl, hf⟩
      have HF6 := Kp.mk (HF.out.trans hf (fun _ _ h => h))
      have HT6 := Kp.mk (HT.out.keep hf (fun _ _ h => h) (fun _ _ _ _ _ => ⟨fun h => h, fun h => h⟩))
      clear hf CI1 HF HT
      go_upto_region 13 with (fail)
      refine start_ (n := 23) (S := fun w' => Lds w' 25 (.pointer (some ⟨b8, o8 + p * 32, none⟩)) (.agg (bytes x).toArray) ∧ Lds w' 25 (.pointer (some ⟨b7, o7 + i * 32, none⟩)) (.agg (bytes x).toArray)) (ds := []) #[false, false, false, false, false, false, false, false, false, false, false, false, false, false, false, false, false, false, false, false, false, false, false] (by kernel_rfl) rfl rfl ⟨HL8.out _ (HF6.out.drew), HL7.out _ (HF6.out.drew)⟩ (fun hHeld => ?_)
      refine pure_ (i := 0) (N := some 74) (v := ?_) (a' := ?_) #[true, false, false, false, false, false, false, false, false, false, false, false, false, false, false, false, false, false, false, false, false, false, false] rfl rfl (by kernel_rfl) (fun _ _ _ h => h) (Or.inl ⟨by rfl, ?_⟩) ?_ ?_
      rotate_left
      · intro w'
        go_simp
        with_reducible rfl
      rotate_left
      · simp only [Act.put, List.setIfInBounds_toArray, List.set_cons_zero, List.set_cons_succ]
        rfl
      refine pure_ (i := 1) (N := some 75) (v := ?_) (a' := ?_) #[true, true, false, false, false, false, false, false, false, false, false, false, false, false, false, false, false, false, false, false, false, false, false] rfl rfl (by kernel_rfl) (fun _ _ _ h => h) (Or.inl ⟨by rfl, ?_⟩) ?_ ?_
      rotate_left
      · intro w'
        go_simp
        with_reducible rfl
      rotate_left
      · simp only [Act.put, List.setIfInBounds_toArray, List.set_cons_zero, List.set_cons_succ]
        rfl
      refine pure_ (i := 2) (N := some 76) (v := ?_) (a' := ?_) #[true, true, true, false, false, false, false, false, false, false, false, false, false, false, false, false, false, false, false, false, false, false, false] rfl rfl (by kernel_rfl) (fun _ _ _ h => h) (Or.inl ⟨by rfl, ?_⟩) ?_ ?_
      rotate_left
      · intro w'
        go_simp
        with_reducible rfl
      rotate_left
      · simp only [Act.put, List.setIfInBounds_toArray, List.set_cons_zero, List.set_cons_succ]
        rfl
      refine pure_ (i := 3) (N := some 77) (v := ?_) (a' := ?_) #[true, true, true, true, false, false, false, false, false, false, false, false, false, false, false, false, false, false, false, false, false, false, false] rfl rfl (by kernel_rfl) (fun _ _ _ h => h) (Or.inl ⟨by rfl, ?_⟩) ?_ ?_
      rotate_left
      · intro w'
        go_simp
        with_reducible rfl
      rotate_left
      · simp only [Act.put, List.setIfInBounds_toArray, List.set_cons_zero, List.set_cons_succ]
        rfl
      refine pure_ (i := 4) (N := some 78) (v := ?_) (a' := ?_) #[true, true, true, true, true, false, false, false, false, false, false, false, false, false, false, false, false, false, false, false, false, false, false] rfl rfl (by kernel_rfl) (fun _ _ _ h => h) (Or.inl ⟨by rfl, ?_⟩) ?_ ?_
      rotate_left
      · intro w'
        go_simp
        with_reducible rfl
      rotate_left
      · simp only [Act.put, List.setIfInBounds_toArray, List.set_cons_zero, List.set_cons_succ]
        rfl
      refine pure_ (i := 5) (N := some 79) (v := ?_) (a' := ?_) #[true, true, true, true, true, true, false, false, false, false, false, false, false, false, false, false, false, false, false, false, false, false, false] rfl rfl (by kernel_rfl) (fun _ _ _ h => h) (Or.inl ⟨by rfl, ?_⟩) ?_ ?_
      rotate_left
      · intro w'
        go_simp
        with_reducible rfl
      rotate_left
      · simp only [Act.put, List.setIfInBounds_toArray, List.set_cons_zero, List.set_cons_succ]
        rfl
      refine pure_ (i := 6) (N := some 80) (v := ?_) (a' := ?_) #[true, true, true, true, true, true, true, false, false, false, false, false, false, false, false, false, false, false, false, false, false, false, false] rfl rfl (by kernel_rfl) (fun _ _ _ h => h) (Or.inl ⟨by rfl, ?_⟩) ?_ ?_
      rotate_left
      · intro w'
        go_simp
        with_reducible rfl
      rotate_left
      · simp only [Act.put, List.setIfInBounds_toArray, List.set_cons_zero, List.set_cons_succ]
        rfl
      refine pure_ (i := 7) (N := some 81) (v := ?_) (a' := ?_) #[true, true, true, true, true, true, true, true, false, false, false, false, false, false, false, false, false, false, false, false, false, false, false] rfl rfl (by kernel_rfl) (fun _ _ _ h => h) (Or.inl ⟨by rfl, ?_⟩) ?_ ?_
      rotate_left
      · intro w'
        go_simp
        with_reducible rfl
      rotate_left
      · simp only [Act.put, List.setIfInBounds_toArray, List.set_cons_zero, List.set_cons_succ]
        rfl
      refine pure_ (i := 8) (N := some 82) (v := ?_) (a' := ?_) #[true, true, true, true, true, true, true, true, true, false, false, false, false, false, false, false, false, false, false, false, false, false, false] rfl rfl (by kernel_rfl) (fun _ _ _ h => h) (Or.inl ⟨by rfl, ?_⟩) ?_ ?_
      rotate_left
      · intro w'
        go_simp
        with_reducible rfl
      rotate_left
      · simp only [Act.put, List.setIfInBounds_toArray, List.set_cons_zero, List.set_cons_succ]
        rfl
      refine pure_ (i := 9) (N := some 83) (v := ?_) (a' := ?_) #[true, true, true, true, true, true, true, true, true, true, false, false, false, false, false, false, false, false, false, false, false, false, false] rfl rfl (by kernel_rfl) (fun _ _ _ h => h) (Or.inl ⟨by rfl, ?_⟩) ?_ ?_
      rotate_left
      · intro w'
        go_simp
        with_reducible rfl
      rotate_left
      · simp only [Act.put, List.setIfInBounds_toArray, List.set_cons_zero, List.set_cons_succ]
        rfl
      refine pure_ (i := 10) (N := some 84) (v := ?_) (a' := ?_) #[true, true, true, true, true, true, true, true, true, true, true, false, false, false, false, false, false, false, false, false, false, false, false] rfl rfl (by kernel_rfl) (fun _ _ _ h => h) (Or.inl ⟨by rfl, ?_⟩) ?_ ?_
      rotate_left
      · intro w'
        go_simp
        with_reducible rfl
      rotate_left
      · simp only [Act.put, List.setIfInBounds_toArray, List.set_cons_zero, List.set_cons_succ]
        rfl
      refine pure_ (i := 11) (N := some 85) (v := ?_) (a' := ?_) #[true, true, true, true, true, true, true, true, true, true, true, true, false, false, false, false, false, false, false, false, false, false, false] rfl rfl (by kernel_rfl) (fun _ _ _ h => h) (Or.inl ⟨by rfl, ?_⟩) ?_ ?_
      rotate_left
      · intro w'
        go_simp
        with_reducible rfl
      rotate_left
      · simp only [Act.put, List.setIfInBounds_toArray, List.set_cons_zero, List.set_cons_succ]
        rfl
      refine pure_ (i := 12) (N := some 86) (v := ?_) (a' := ?_) #[true, true, true, true, true, true, true, true, true, true, true, true, true, false, false, false, false, false, false, false, false, false, false] rfl rfl (by kernel_rfl) (fun _ _ _ h => h) (Or.inl ⟨by rfl, ?_⟩) ?_ ?_
      rotate_left
      · intro w'
        go_simp
        with_reducible rfl
      rotate_left
      · simp only [Act.put, List.setIfInBounds_toArray, List.set_cons_zero, List.set_cons_succ]
        rfl
      refine pure_ (i := 13) (N := some 87) (v := ?_) (a' := ?_) #[true, true, true, true, true, true, true, true, true, true, true, true, true, true, false, false, false, false, false, false, false, false, false] rfl rfl (by kernel_rfl) (fun _ _ _ h => h) (Or.inl ⟨by rfl, ?_⟩) ?_ ?_
      rotate_left
      · intro w'
        go_simp
        with_reducible rfl
      rotate_left
      · simp only [Act.put, List.setIfInBounds_toArray, List.set_cons_zero, List.set_cons_succ]
        rfl
      refine pure_ (i := 14) (N := some 88) (v := ?_) (a' := ?_) #[true, true, true, true, true, true, true, true, true, true, true, true, true, true, true, false, false, false, false, false, false, false, false] rfl rfl (by kernel_rfl) (fun _ _ _ h => h) (Or.inl ⟨by rfl, ?_⟩) ?_ ?_
      rotate_left
      · intro w'
        go_simp
        with_reducible rfl
      rotate_left
      · simp only [Act.put, List.setIfInBounds_toArray, List.set_cons_zero, List.set_cons_succ]
        rfl
      refine pure_ (i := 15) (N := some 89) (v := ?_) (a' := ?_) #[true, true, true, true, true, true, true, true, true, true, true, true, true, true, true, true, false, false, false, false, false, false, false] rfl rfl (by kernel_rfl) (fun _ _ _ h => h) (Or.inl ⟨by rfl, ?_⟩) ?_ ?_
      rotate_left
      · intro w'
        go_simp
        with_reducible rfl
      rotate_left
      · simp only [Act.put, List.setIfInBounds_toArray, List.set_cons_zero, List.set_cons_succ]
        rfl
      refine pure_ (i := 17) (N := some 91) (v := ?_) (a' := ?_) #[true, true, true, true, true, true, true, true, true, true, true, true, true, true, true, true, false, true, false, false, false, false, false] rfl rfl (by kernel_rfl) (fun _ _ _ h => h) (Or.inl ⟨by rfl, ?_⟩) ?_ ?_
      rotate_left
      · intro w'
        go_simp
        with_reducible rfl
      rotate_left
      · simp only [Act.put, List.setIfInBounds_toArray, List.set_cons_zero, List.set_cons_succ]
        rfl
      refine pure_ (i := 18) (N := some 92) (v := ?_) (a' := ?_) #[true, true, true, true, true, true, true, true, true, true, true, true, true, true, true, true, false, true, true, false, false, false, false] rfl rfl (by kernel_rfl) (fun _ _ _ h => h) (Or.inl ⟨by rfl, ?_⟩) ?_ ?_
      rotate_left
      · intro w'
        go_simp
        with_reducible rfl
      rotate_left
      · simp only [Act.put, List.setIfInBounds_toArray, List.set_cons_zero, List.set_cons_succ]
        rfl
      refine pure_ (i := 19) (N := some 93) (v := ?_) (a' := ?_) #[true, true, true, true, true, true, true, true, true, true, true, true, true, true, true, true, false, true, true, true, false, false, false] rfl rfl (by kernel_rfl) (fun _ _ _ h => h) (Or.inl ⟨by rfl, ?_⟩) ?_ ?_
      rotate_left
      · intro w'
        go_simp
        with_reducible rfl
      rotate_left
      · simp only [Act.put, List.setIfInBounds_toArray, List.set_cons_zero, List.set_cons_succ]
        rfl
      refine take_ (i := 16) (N := some 90) (v := ?_) (a' := ?_) #[true, true, true, true, true, true, true, true, true, true, true, true, true, true, true, true, true, true, true, true, false, false, false] rfl rfl (by kernel_rfl) (fun _ _ _ h => h) (Or.inl ⟨by rfl, ?_⟩) hHeld ?_ ?_
      rotate_left
      · rintro w' ⟨s0, s1⟩
        refine Lds.run s0 (x := ?_) ?_ ?_
        · exact (Operand.tmp 89)
        · rfl
        · rfl
      rotate_left
      · simp only [Act.put, List.setIfInBounds_toArray, List.set_cons_zero, List.set_cons_succ]
        rfl
      refine take_ (i := 20) (N := some 94) (v := ?_) (a' := ?_) #[true, true, true, true, true, true, true, true, true, true, true, true, true, true, true, true, true, true, true, true, true, false, false] rfl rfl (by kernel_rfl) (fun _ _ _ h => h) (Or.inl ⟨by rfl, ?_⟩) hHeld ?_ ?_
      rotate_left
      · rintro w' ⟨s0, s1⟩
        refine Lds.run s1 (x := ?_) ?_ ?_
        · exact (Operand.tmp 93)
        · rfl
        · rfl
      rotate_left
      · simp only [Act.put, List.setIfInBounds_toArray, List.set_cons_zero, List.set_cons_succ]
        rfl
      refine pure_ (i := 21) (N := some 95) (v := ?_) (a' := ?_) #[true, true, true, true, true, true, true, true, true, true, true, true, true, true, true, true, true, true, true, true, true, true, false] rfl rfl (by kernel_rfl) (fun _ _ _ h => h) (Or.inl ⟨by rfl, ?_⟩) ?_ ?_
      rotate_left
      · intro w'
        go_simp
        with_reducible rfl
      rotate_left
      · simp only [Act.put, List.setIfInBounds_toArray, List.set_cons_zero, List.set_cons_succ]
        rfl
      refine pure_ (i := 22) (N := some 96) (v := ?_) (a' := ?_) #[true, true, true, true, true, true, true, true, true, true, true, true, true, true, true, true, true, true, true, true, true, true, true] rfl rfl (by kernel_rfl) (fun _ _ _ h => h) (Or.inl ⟨by rfl, ?_⟩) ?_ ?_
      rotate_left
      · intro w'
        go_simp
        with_reducible rfl
      rotate_left
      · simp only [Act.put, List.setIfInBounds_toArray, List.set_cons_zero, List.set_cons_succ]
        rfl
      refine done_ (by kernel_rfl) ?_
      have HF7 := Kp.mk HF6.out.drew
      have HT7 := Kp.mk (HT6.out.keep ((Fr.refl (fun _ => False) W6).drew) (fun _ _ h => h) (fun _ _ _ _ _ => ⟨fun h => h, fun h => h⟩))
      obtain ⟨m1, m2⟩ := HM7.out _ HF7.out
      generalize W6.drew = W7 at HF7 HT7 m1 m2 ⊢
      clear HF6 HT6 HL8 HL7 HM7 sE
      have hk := hashOk_bytes x HX.out
      go_wp2_with fail
      refine (CA.out W7 W3.heap.size x g (L.take i) F (HF3.out.trans HF7.out (fun _ _ h => h)) HF3.out.size HX.out HT7.out (by have h1 := HTL.out; have h2 := HBIG.out; omega)).mono ?_
      rintro e W8 ⟨rfl, F', hT, hF, hf⟩
      have HT8 : Kp (Tr W8 W3.heap.size g s (L.take (i + 1)) F') := ⟨by rw [HTK.out]; exact hT⟩
      have HF8 : Kp (Fr (fun _ => False) W3 W8) := ⟨HF7.out.trans hf (fun q hq h => by
        obtain ⟨_, _, _, _, _, _, _, _, _, _, h8, _⟩ := HT7.out
        have := h8 q h
        omega)⟩
      clear hT hF hf m1 m2 HT7 HF7
      go_wp2_with fail
      refine ⟨⟨i + 1, F', by go_num, hlt, HT8, HF8⟩, ?_⟩
      simp only [intOf]
      omega
    · obtain rfl : i = len := by omega
      have HTE : Kp (Tr wr W3.heap.size g s L F) := ⟨by have h := HT.out; rw [List.take_of_length_le (by rw [← HLEN.out]; exact Nat.le_refl _)] at h; exact h⟩
      clear HT CI CA
      have CS := Kp.mk (Stored_calls W3.heap.size g s L F wr HTE.out)
      go_wp2_with fail
      refine CS.out.mono ?_
      rintro e Wa ⟨v, rfl, hO, hf⟩
      have HFa := Kp.mk (HF.out.trans hf (fun _ _ h => h))
      rw [← HST.out] at hO
      obtain ⟨A9, c9, hv, hR⟩ := hO.row (fun _ => False) (fun _ _ h => h)
      subst hv
      have HR9 := Kp.mk hR
      clear hO hR hf CS HTE HF
      have CPl := plain_calls A8 c8 ST Wa (HR8.out.fr HFa.out) (by rw [HNL.out]; have := HCM.out; omega)
      rw [HNL.out] at CPl ⊢
      have CPl := Kp.mk CPl
      go_wp2_with fail
      refine CPl.out.mono ?_
      rintro e Wb ⟨v, rfl, hO, hf⟩
      have HFb := Kp.mk (HFa.out.trans hf (fun _ _ h => h))
      obtain ⟨A10, c10, hv, hR⟩ := hO.row (fun _ => False) (fun _ _ h => h)
      subst hv
      have CSm := same_calls A9 A10 c9 c10 ST Wb (HR9.out.fr hf) hR (by rw [HNL.out]; have := HCM.out; omega)
      rw [HNL.out] at CSm ⊢
      have CSm := Kp.mk CSm
      clear hO hR hf CPl HFa HR9
      go_wp2_with fail
      refine CSm.out.mono ?_
      rintro e Wc ⟨rfl, hf⟩
      have HFc := Kp.mk (HFb.out.trans hf (fun _ _ h => h))
      have hgood : chkCode s ST i = 0 := by
        have h := goodL_stored s L
        rw [← HST.out, ← HLEN.out] at h
        rw [chkCode, if_pos h]
      have CK := CCk.out Wc A8 c8 ST i (HF3.out.trans HFc.out (fun _ _ h => h)) (HR8.out.fr HFc.out) (by rw [HNL.out]; have := HCM.out; omega) (by rw [HNL.out, HNN.out]) HBIG.out
      rw [hgood, HNL.out] at CK
      have CK := Kp.mk CK
      clear hf CSm HFb hgood
      go_wp2_with fail
      refine CK.out.mono ?_
      rintro e Wd ⟨rfl, hf⟩
      have HFd := Kp.mk (HFc.out.trans hf (fun _ _ h => h))
      clear hf CK HFc
      by_cases hN0 : N = 0
      · have hE : ((N : Int) == 0) = true := by rw [beq_iff_eq]; omega
        clear hN0
        go_wp2_with fail
        go_ret
        exact ⟨rfl, HF3.out.trans HFd.out (fun _ _ h => h)⟩
      · have hE : ((N : Int) == 0) = false := by rw [beq_eq_false_iff_ne]; omega
        have hNpos : (0 : Int) < (N : Int) := by omega
        obtain ⟨a1, a2, a3, a4⟩ := at_in which (N : Int) hNpos
        have hNle : (N : Int) ≤ 131071 := by have := HCM.out; omega
        clear hN0
        go_upto_region 23 with (fail)
        obtain ⟨q, hq⟩ : ∃ q : Nat, (Int.tmod which (N : Int) + (N : Int)) % (N : Int) = (q : Int) := ⟨((Int.tmod which (N : Int) + (N : Int)) % (N : Int)).toNat, by omega⟩
        rw [hq] at a1 a2 ⊢
        have hqN : q < N := by omega
        clear hq a1 a2 a3 a4
        obtain ⟨l, m, hl48, hml, hqe⟩ := place_of q (by have := HCM.out; omega)
        have CSp := Kp.mk (SplitIndex_calls l m hl48 hml Wd)
        rw [← hqe] at CSp
        have HQE := Kp.mk hqe
        clear hqe
        go_wp2_with fail
        refine CSp.out.mono ?_
        rintro e We ⟨rfl, hf⟩
        have HFe := Kp.mk (HFd.out.trans hf (fun _ _ h => h))
        clear hf CSp HFd
        by_cases hl0 : l = 0
        · have hE2 : ((l : Int) == 0) = true := by rw [beq_iff_eq]; omega
          have hlen1 : 1 ≤ i := by
            rcases Nat.eq_zero_or_pos i with h | h
            · have h1 := HNN.out; rw [h, cnt_zero] at h1; omega
            · exact h
          have htk : ST.take 1 = storedL s (L.take 1) := by
            have h := storedL_take s L 1 (by rw [← HLEN.out]; exact hlen1)
            have hc1 : cnt 1 = 1 := by decide +kernel
            rw [hc1] at h
            rw [HST.out]; exact h.symm
          have hl1 : (L.take 1).length = 1 := by rw [List.length_take, ← HLEN.out]; omega
          have hg1 : chkCode s (ST.take 1) 1 = 0 := by
            have h := goodL_stored s (L.take 1)
            rw [hl1, ← htk] at h
            rw [chkCode, if_pos h]
          have hs1 : (ST.take 1).length = 1 := by rw [List.length_take, HNL.out]; omega
          have CK := CCk.out We A8 c8 (ST.take 1) 1 (HF3.out.trans HFe.out (fun _ _ h => h)) ((HR8.out.fr HFe.out).take 1) (by omega) (by rw [hs1]; decide +kernel) (by decide)
          rw [hg1, hs1] at CK
          have CK := Kp.mk CK
          have hcap := HR8.out.2.1
          rw [HNL.out] at hcap
          have hc8 : 1 ≤ c8 := by omega
          have hc8i : (1 : Int) ≤ (c8 : Int) := by omega
          clear htk hl1 hg1 hs1 hcap hl0
          go_wp2_with fail
          refine CK.out.mono ?_
          rintro e Wf ⟨rfl, hf⟩
          have HFf := Kp.mk (HFe.out.trans hf (fun _ _ h => h))
          clear hf CK
          go_wp2_with fail
          go_ret
          exact ⟨rfl, HF3.out.trans HFf.out (fun _ _ h => h)⟩
        · have hE2 : ((l : Int) == 0) = false := by rw [beq_eq_false_iff_ne]; omega
          have hqs : q < ST.length := by rw [HNL.out]; exact hqN
          have hne : ST ≠ [] := List.ne_nil_of_length_pos (by omega)
          obtain ⟨b8, hA8, hb8, hb8w, vs8, hB8⟩ := hlst_at (HS8.out.keep HFe.out (fun _ _ h => h)) hne
          subst hA8
          have hRe := HR8.out.fr HFe.out
          have hx32 : (ST[q]'hqs).length = 32 := H32.out _ (List.getElem_mem _)
          obtain ⟨v, hv⟩ : ∃ v, v = (ST[q]'hqs).getD 31 0 := ⟨_, rfl⟩
          have hcv : We.cell? ⟨b8, q * 32 + 31, none⟩ = some (.int .u8 v) := by
            rcases hRe.2.2 with ⟨h, _⟩ | ⟨h, _⟩ | ⟨b', o', h1, h2, _⟩
            · cases h
            · exact absurd h hne
            · simp only [Option.some.injEq, Addr.mk.injEq, and_true] at h1
              obtain ⟨rfl, rfl⟩ := h1
              have h3 := h2.2 (32 * q + 31) (by rw [flat_len H32.out]; omega)
              rw [flat_get H32.out q 31 hqs (by decide), ← hv] at h3
              rw [← h3]
              congr 2
              omega
          have HCV : Kp (We.drew.cell? ⟨b8, q * 32 + 31, none⟩ = some (.int .u8 v)) := ⟨hcv⟩
          have HFV : Kp (We.drew.frozen? ⟨b8, q * 32 + 31, none⟩ = false) := ⟨hB8.free _⟩
          obtain ⟨v2, hv2⟩ : ∃ v2, v2 = IntKind.u8.wrap (v + 1) := ⟨_, rfl⟩
          have HV2 : Kp (IntKind.u8.wrap (v + 1) = v2) := ⟨hv2.symm⟩
          have hbad : goodL s (ST.set q ((ST[q]'hqs).set 31 v2)) i = false := by
            have hmi : (m + 1) * 2 ^ l ≤ L.length := by
              rcases Nat.lt_or_ge L.length ((m + 1) * 2 ^ l) with h | h
              · exfalso
                have h1 := cnt_mono (show L.length ≤ (m + 1) * 2 ^ l - 1 by omega)
                rw [← HLEN.out, ← HNN.out] at h1
                have h2 := HQE.out
                omega
              · exact h
            have h := good_turned s L (by rw [← HLEN.out]; exact HBIG.out) l m (by omega) hmi ((ST[q]'hqs).set 31 v2) (by rw [← HQE.out, ← HST.out]; exact hqs) (by
              have h1 := set_ne (x := ST[q]'hqs) (j := 31) (by omega) v2 (by rw [hv2, ← hv]; exact u8_ne v)
              have h2 : (storedL s L)[cnt ((m + 1) * 2 ^ l - 1) + l]'(by rw [← HQE.out, ← HST.out]; exact hqs) = ST[q]'hqs := by
                simp only [← HQE.out, HST.out]
              rw [h2]; exact h1)
            rw [← HQE.out, ← HST.out, ← HLEN.out] at h
            exact h
          have hRf := HRow.setByte (hRe.fr ((Fr.refl (fun _ => False) We).drew)) q 31 hqs (by decide) v2
          rw [Nat.zero_add] at hRf
          obtain ⟨ST2, hST2⟩ : ∃ ST2, ST2 = ST.set q ((ST[q]'hqs).set 31 v2) := ⟨_, rfl⟩
          have hl2 : ST2.length = N := by rw [hST2, List.length_set, HNL.out]
          rw [← hST2] at hbad hRf
          have hFf : Fr (fun _ => False) w (We.drew.setCell ⟨b8, q * 32 + 31, none⟩ (.int .u8 v2)) := (HF3.out.trans HFe.out (fun _ _ h => h)).drew.set (S := fun _ => False) (a := ⟨b8, q * 32 + 31, none⟩) (fun h => by have := HF1S.out; simp only at h; omega) _
          have CK : ∀ W, Fr (fun _ => False) (We.drew.setCell ⟨b8, q * 32 + 31, none⟩ (.int .u8 v2)) W → Calls Tryd.prog 39 #[.int .i64 k, .slice (some ⟨b8, 0, none⟩) N c8] W fun e w' => e = .returned (.int .i64 81) ∧ Fr (fun _ => False) W w' := fun W hf => by
            have h := CCk.out W (some ⟨b8, 0, none⟩) c8 ST2 i (hFf.trans hf (fun _ _ h => h)) (hRf.fr hf) (by rw [hl2]; have := HCM.out; omega) (by rw [hl2, HNN.out]) HBIG.out
            rw [chkCode, if_neg (by rw [hbad]; decide), hl2] at h
            exact h
          have CLd : Calls Tryd.prog 41 #[.int .i64 k, .slice (some ⟨b8, 0, none⟩) N c8] (We.drew.setCell ⟨b8, q * 32 + 31, none⟩ (.int .u8 v2)) fun e w' => e = .returned (.tuple #[.pointer none, .int .i64 81]) ∧ Fr (fun _ => False) (We.drew.setCell ⟨b8, q * 32 + 31, none⟩ (.int .u8 v2)) w' := by
            have h := CK _ (Fr.refl _ _)
            rw [← hl2] at h ⊢
            exact Load_no k _ c8 ST2 _ 81 rfl h
          have CK := Kp.mk CK
          have CLd := Kp.mk CLd
          have HFf := Kp.mk hFf
          have hqNi : (q : Int) < (N : Int) := Int.ofNat_lt.2 hqN
          clear hqs hne hRe hx32 hv hcv hv2 hbad hRf hST2 hl2 hFf hB8 hb8 hb8w hl0
          go_upto_region 26 with (fail)
          refine start_ (n := 11) (S := fun w' => Lds w' 5 (.pointer (some ⟨b8, q * 32 + 31, none⟩)) (.int .u8 v)) (ds := [10]) #[false, false, false, false, false, false, false, false, false, false, false] (by kernel_rfl) rfl rfl (lds_u8 HCV.out) (fun hHeld => ?_)
          refine pure_ (i := 0) (N := some 146) (v := ?_) (a' := ?_) #[true, false, false, false, false, false, false, false, false, false, false] rfl rfl (by kernel_rfl) (fun _ _ _ h => h) (Or.inl ⟨by rfl, ?_⟩) ?_ ?_
          rotate_left
          · intro w'
            go_simp
            with_reducible rfl
          rotate_left
          · simp only [Act.put, List.setIfInBounds_toArray, List.set_cons_zero, List.set_cons_succ]
            rfl
          refine pure_ (i := 1) (N := some 147) (v := ?_) (a' := ?_) #[true, true, false, false, false, false, false, false, false, false, false] rfl rfl (by kernel_rfl) (fun _ _ _ h => h) (Or.inl ⟨by rfl, ?_⟩) ?_ ?_
          rotate_left
          · intro w'
            go_simp
            with_reducible rfl
          rotate_left
          · simp only [Act.put, List.setIfInBounds_toArray, List.set_cons_zero, List.set_cons_succ]
            rfl
          refine pure_ (i := 2) (N := some 148) (v := ?_) (a' := ?_) #[true, true, true, false, false, false, false, false, false, false, false] rfl rfl (by kernel_rfl) (fun _ _ _ h => h) (Or.inl ⟨by rfl, ?_⟩) ?_ ?_
          rotate_left
          · intro w'
            go_simp
            with_reducible rfl
          rotate_left
          · simp only [Act.put, List.setIfInBounds_toArray, List.set_cons_zero, List.set_cons_succ]
            rfl
          refine pure_ (i := 3) (N := some 149) (v := ?_) (a' := ?_) #[true, true, true, true, false, false, false, false, false, false, false] rfl rfl (by kernel_rfl) (fun _ _ _ h => h) (Or.inl ⟨by rfl, ?_⟩) ?_ ?_
          rotate_left
          · intro w'
            go_simp
            with_reducible rfl
          rotate_left
          · simp only [Act.put, List.setIfInBounds_toArray, List.set_cons_zero, List.set_cons_succ]
            rfl
          refine pure_ (i := 4) (N := some 150) (v := ?_) (a' := ?_) #[true, true, true, true, true, false, false, false, false, false, false] rfl rfl (by kernel_rfl) (fun _ _ _ h => h) (Or.inl ⟨by rfl, ?_⟩) ?_ ?_
          rotate_left
          · intro w'
            go_simp
            with_reducible rfl
          rotate_left
          · simp only [Act.put, List.setIfInBounds_toArray, List.set_cons_zero, List.set_cons_succ]
            rfl
          refine pure_ (i := 5) (N := some 151) (v := ?_) (a' := ?_) #[true, true, true, true, true, true, false, false, false, false, false] rfl rfl (by kernel_rfl) (fun _ _ _ h => h) (Or.inl ⟨by rfl, ?_⟩) ?_ ?_
          rotate_left
          · intro w'
            go_simp
            with_reducible rfl
          rotate_left
          · simp only [Act.put, List.setIfInBounds_toArray, List.set_cons_zero, List.set_cons_succ]
            rfl
          refine pure_ (i := 8) (N := some 154) (v := ?_) (a' := ?_) #[true, true, true, true, true, true, false, false, true, false, false] rfl rfl (by kernel_rfl) (fun _ _ _ h => h) (Or.inl ⟨by rfl, ?_⟩) ?_ ?_
          rotate_left
          · intro w'
            go_simp
            with_reducible rfl
          rotate_left
          · simp only [Act.put, List.setIfInBounds_toArray, List.set_cons_zero, List.set_cons_succ]
            rfl
          refine take_ (i := 6) (N := some 152) (v := ?_) (a' := ?_) #[true, true, true, true, true, true, true, false, true, false, false] rfl rfl (by kernel_rfl) (fun _ _ _ h => h) (Or.inl ⟨by rfl, ?_⟩) hHeld ?_ ?_
          rotate_left
          · intro w' s0
            refine Lds.run s0 (x := ?_) ?_ ?_
            · exact (Operand.tmp 151)
            · rfl
            · rfl
          rotate_left
          · simp only [Act.put, List.setIfInBounds_toArray, List.set_cons_zero, List.set_cons_succ]
            rfl
          refine pure_ (i := 7) (N := some 153) (v := ?_) (a' := ?_) #[true, true, true, true, true, true, true, true, true, false, false] rfl rfl (by kernel_rfl) (fun _ _ _ h => h) (Or.inl ⟨by rfl, ?_⟩) ?_ ?_
          rotate_left
          · intro w'
            go_simp
            with_reducible rfl
          rotate_left
          · simp only [Act.put, List.setIfInBounds_toArray, List.set_cons_zero, List.set_cons_succ, HV2.out]
            rfl
          refine pure_ (i := 9) (N := some 155) (v := ?_) (a' := ?_) #[true, true, true, true, true, true, true, true, true, true, false] rfl rfl (by kernel_rfl) (fun _ _ _ h => h) (Or.inl ⟨by rfl, ?_⟩) ?_ ?_
          rotate_left
          · intro w'
            go_simp
            with_reducible rfl
          rotate_left
          · simp only [Act.put, List.setIfInBounds_toArray, List.set_cons_zero, List.set_cons_succ]
            rfl
          refine last_ (i := 10) (N := none) #[true, true, true, true, true, true, true, true, true, true, true] rfl rfl (by kernel_rfl) (by decide) (fun K hK => ?_)
          refine skip_ (by rfl) rfl (st_u8 _ _ (Operand.tmp 155) (Operand.tmp 153) _ ⟨b8, q * 32 + 31, none⟩ (.int .u8 v) v2 rfl rfl rfl HCV.out HFV.out) ?_
          refine hK.out _ _ ?_
          clear hK K
          refine done_ (by kernel_rfl) ?_
          generalize We.drew.setCell ⟨b8, q * 32 + 31, none⟩ (.int .u8 v2) = Wf at CK CLd HFf ⊢
          clear HCV HFV HV2
          go_wp2_with fail
          refine CLd.out.mono ?_
          rintro e Wg ⟨rfl, hf⟩
          have HFg := Kp.mk hf
          clear hf
          go_wp2_with fail
          refine (CK.out Wg HFg.out).mono ?_
          rintro e Wh ⟨rfl, hf⟩
          have HFh := Kp.mk (HFg.out.trans hf (fun _ _ h => h))
          clear hf
          go_wp2_with fail
          go_ret
          exact ⟨rfl, HFf.out.trans HFh.out (fun _ _ h => h)⟩
theorem built_calls2 (k : Int) (A : Option Addr) (c : Nat) (L : List (List Int)) (which : Int) (w : World) (hL : Laid w) (hX : HRow w (fun _ => False) A c L) :
    Calls Tryd.prog 6 #[.int .i64 k, .slice A L.length c, .int .i64 which] w fun e w' => e = .returned (.bool true) ∧ Below w.heap.size w w' :=
  (built_calls k A c L which w hL hX).mono fun _ _ h => ⟨h.1, h.2.below (fun _ _ h => h)⟩
end Go.Proofs.YtjbhaopocabfaaaDoor.Sha
