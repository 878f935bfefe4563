/-
  Check: is a list what a tree has? Build, Load, Stored, Back, Size and the root of a tree.
-/
import Derived.Test.YtjbhaopocabfaaaDoorTree
namespace Go.Proofs.YtjbhaopocabfaaaDoor.Sha
open Go.RowKit Go.Proofs.YtjbhaopocabfaaaDoor.Mem Go.Proofs.YtjbhaopocabfaaaDoorW.PrintWords Go.Proofs.YtjbhaopocabfaaaDoorW.PrintLast Go.Proofs.YtjbhaopocabfaaaDoor.Pl Go.Proofs.YtjbhaopocabfaaaDoor.Wk
attribute [local go_sem ↓] Go.wp_at_zero Go.wp_at_succ wp_load_hash wp_store_hash wp_load_mid23 wp_load_mid25 wp_store_mid25 wp_build_hash
attribute [local go_sem] rowAt_drew rowOk_drew midOk_drew midAt_drew rowBlock rowCells rowOff midFree_drew
section
variable {s n : Nat} {st : List (List Int)}
theorem chk_leaf (hn : cnt n = st.length) (id : Nat) (hid : id < n) (h : st.take (cnt id) = storedN (nodeL s) [] (leavesOf [] st n) id) :
    cnt id < st.length ∧ st.getD (cnt id) [] = nodeAt (nodeL s) [] (leavesOf [] st n) 0 (id / 2 ^ 0) ∧ st.take (cnt id + 1 + 0) = storedN (nodeL s) [] (leavesOf [] st n) id ++ laidBy (nodeL s) [] (leavesOf [] st n) id (0 + 1) := by
  have h1 : cnt id < st.length := by rw [← hn]; exact cnt_lt_of_lt hid
  have h2 := leavesOf_get [] st n id hid
  refine ⟨h1, by rw [Nat.pow_zero, Nat.div_one, nodeAt_zero, h2], ?_⟩
  rw [Nat.add_zero, take_more [] st (cnt id) h1, h, Nat.zero_add, laidBy_one, h2]
theorem chk_pre (id j : Nat) (h : st.take (cnt id + 1 + j) = storedN (nodeL s) [] (leavesOf [] st n) id ++ laidBy (nodeL s) [] (leavesOf [] st n) id (j + 1)) : st.take (cnt id) = storedN (nodeL s) [] (leavesOf [] st n) id := by
  have h1 := congrArg (List.take (cnt id)) h
  rw [List.take_take, List.take_append_of_le_length (by rw [storedN_len]; exact Nat.le_refl _), List.take_of_length_le (l := storedN _ _ _ _) (by rw [storedN_len]; exact Nat.le_refl _), show min (cnt id) (cnt id + 1 + j) = cnt id by omega] at h1
  exact h1
theorem chk_next (hn : cnt n = st.length) (id j : Nat) (hid : id < n) (hj : j + 1 ≤ t1 id) (h : st.take (cnt id + 1 + j) = storedN (nodeL s) [] (leavesOf [] st n) id ++ laidBy (nodeL s) [] (leavesOf [] st n) id (j + 1))
    (hu : st.getD (cnt id + 1 + j) [] = nodeAt (nodeL s) [] (leavesOf [] st n) (j + 1) (id / 2 ^ (j + 1))) : st.take (cnt id + 1 + (j + 1)) = storedN (nodeL s) [] (leavesOf [] st n) id ++ laidBy (nodeL s) [] (leavesOf [] st n) id (j + 1 + 1) := by
  have h1 : cnt id + 1 + j < st.length := by
    have := cnt_succ id; have := cnt_mono (show id + 1 ≤ n from hid); omega
  rw [show cnt id + 1 + (j + 1) = cnt id + 1 + j + 1 by omega, take_more [] st _ h1, h, hu, laidBy_succ (nodeL s) [] _ id (j + 1), List.append_assoc]
theorem chk_end (id j : Nat) (hj : j = t1 id) (h : st.take (cnt id + 1 + j) = storedN (nodeL s) [] (leavesOf [] st n) id ++ laidBy (nodeL s) [] (leavesOf [] st n) id (j + 1)) : cnt id + 1 + j = cnt (id + 1) ∧ st.take (cnt (id + 1)) = storedN (nodeL s) [] (leavesOf [] st n) (id + 1) := by
  have h1 : cnt id + 1 + j = cnt (id + 1) := by rw [cnt_succ, hj]; omega
  refine ⟨h1, ?_⟩
  rw [← h1, h, storedN, hj]
theorem chk_all (hn : cnt n = st.length) (h : st.take (cnt n) = storedN (nodeL s) [] (leavesOf [] st n) n) : goodL s st n = true := by
  unfold goodL
  rw [← h, hn, List.take_length]
  exact decide_eq_true rfl
theorem chk_bad (id j : Nat) (hid : id < n) (hj : j + 1 ≤ t1 id) (hu : ¬ nodeAt (nodeL s) [] (leavesOf [] st n) (j + 1) (id / 2 ^ (j + 1)) = st.getD (cnt id + 1 + j) []) : goodL s st n = false := by
  unfold goodL
  refine decide_eq_false fun e => hu ?_
  have h := stored_at (nodeL s) [] (leavesOf [] st n) n id (j + 1) hid hj
  rw [← h, show cnt id + 1 + j = cnt id + (j + 1) by omega]
  exact congrArg (fun l => List.getD l (cnt id + (j + 1)) []) e.symm
theorem leaves_32 (hn : cnt n = st.length) (h32 : ∀ x ∈ st, x.length = 32) : ∀ x ∈ leavesOf [] st n, x.length = 32 := by
  intro x hx
  obtain ⟨i, hi, rfl⟩ := List.mem_map.1 hx
  have h1 : cnt i < st.length := by rw [← hn]; exact cnt_lt_of_lt (List.mem_range.1 hi)
  simp only [List.getD, List.getElem?_eq_getElem h1, Option.getD_some]
  exact h32 _ (List.getElem_mem _)
end
def chkCode (s : Nat) (st : List (List Int)) (n : Nat) : Int := if goodL s st n = true then 0 else 81
set_option maxHeartbeats 4000000 in
set_option maxRecDepth 100000 in
theorem Check_long (k : Int) (A : Option Addr) (c : Nat) (L : List (List Int)) (w : World) (h : 131071 < L.length) :
    Calls Tryd.prog 39 #[.int .i64 k, .slice A L.length c] w fun e w' => e = .returned (.int .i64 2) ∧ Fr (fun _ => False) w w' := by
  obtain ⟨len, hlen⟩ : ∃ len, len = L.length := ⟨_, rfl⟩
  rw [← hlen] at h ⊢
  clear hlen
  go_enter Tryd.func39, Tryd.ntmps39
  go_wp2_with fail
  go_ret
  exact ⟨rfl, Fr.refl _ _⟩
set_option maxHeartbeats 4000000 in
set_option maxRecDepth 100000 in
theorem Check_not (k : Int) (A : Option Addr) (c : Nat) (L : List (List Int)) (w : World) (h : L.length ≤ 131071) (hc : ∀ r, r ≤ 281474976710656 → cnt r ≠ L.length) :
    Calls Tryd.prog 39 #[.int .i64 k, .slice A L.length c] w fun e w' => e = .returned (.int .i64 80) ∧ Fr (fun _ => False) w w' := by
  have CR := Kp.mk (Records_not L.length hc w)
  obtain ⟨len, hlen⟩ : ∃ len, len = L.length := ⟨_, rfl⟩
  rw [← hlen] at h CR ⊢
  clear hlen hc
  go_enter Tryd.func39, Tryd.ntmps39
  go_wp2_with fail
  refine CR.out.mono ?_
  rintro e W2 ⟨rfl, hf⟩
  have HF := Kp.mk hf
  clear hf
  go_wp2_with fail
  go_ret
  exact ⟨rfl, HF.out⟩
set_option maxHeartbeats 4000000 in
set_option maxRecDepth 100000 in
theorem Check_calls (k : Int) (A : Option Addr) (c : Nat) (L : List (List Int)) (n : Nat) (w : World) (hL : Laid w) (hX : HRow w (fun _ => False) A c L) (h : L.length ≤ 131071) (hn : cnt n = L.length) (hn2 : n ≤ 65536) :
    Calls Tryd.prog 39 #[.int .i64 k, .slice A L.length c] w fun e w' => e = .returned (.int .i64 (chkCode (strength k) L n)) ∧ Fr (fun _ => False) w w' := by
  have CR := Records_yes n (by omega) w
  rw [hn] at CR
  have CR := Kp.mk CR
  have CH := Kp.mk (fun W => hasherOf_calls k W)
  have hs1 := strength_le k
  obtain ⟨s, hs⟩ : ∃ s, s = strength k := ⟨_, rfl⟩
  rw [← hs] at CH hs1 ⊢
  have HL := Kp.mk hL
  have HX := Kp.mk hX
  have HN := Kp.mk hn
  have HS1 := Kp.mk hs1
  have HN2 := Kp.mk hn2
  have H32 := Kp.mk (leaves_32 hn hX.1)
  obtain ⟨LV, hLV⟩ : ∃ LV, LV = leavesOf [] L n := ⟨_, rfl⟩
  have HLV := Kp.mk hLV
  have hlvl : LV.length = n := by rw [hLV, leavesOf_len]
  have HLVL := Kp.mk hlvl
  rw [← hLV] at H32
  obtain ⟨len, hlen⟩ : ∃ len, len = L.length := ⟨_, rfl⟩
  have HLEN := Kp.mk hlen
  rw [← hlen] at h CR ⊢
  clear hlen hs hL hX hn hs1 hn2 hLV hlvl
  unfold hasherV at CH
  go_enter Tryd.func39, Tryd.ntmps39
  go_wp2_with fail
  refine CR.out.mono ?_
  rintro e W1 ⟨rfl, hf⟩
  have HF1 := Kp.mk hf
  clear hf CR
  go_wp2_with fail
  refine (CH.out W1).mono ?_
  rintro e W2 ⟨gk, go, rfl, hH, hk, ho, hf⟩
  have HF2 := Kp.mk (HF1.out.trans hf (fun _ _ h => h))
  have HH2 := Kp.mk hH
  clear hf hk ho hH HF1 CH
  go_upto_region 7 with (fail)
  obtain ⟨g7, hg7⟩ : ∃ g7, g7 = W2.heap.size := ⟨_, rfl⟩
  obtain ⟨W3, hW3⟩ : ∃ W3, W3 = W2.alloc (.cells #[.int .i64 (s : Int), .func (.func 79) #[] #[.pointer (some ⟨gk, 0, none⟩)], .func (.func 80) #[] #[.pointer (some ⟨go, 0, none⟩)], .func (.func 81) #[] #[.pointer (some ⟨go, 0, none⟩)]] 103) := ⟨_, rfl⟩
  have hfr : Fr (fun _ => False) W2 W3 := by rw [hW3]; exact (Fr.refl _ W2).alloc _
  have HG3 : Kp (Blk W3 g7 103 (#[.int .i64 (s : Int), .func (.func 79) #[] #[.pointer (some ⟨gk, 0, none⟩)], .func (.func 80) #[] #[.pointer (some ⟨go, 0, none⟩)], .func (.func 81) #[] #[.pointer (some ⟨go, 0, none⟩)]] : Array Value).toList) := ⟨by rw [hW3, hg7]; exact Blk.new W2 _ _⟩
  have HF3 := Kp.mk (HF2.out.trans hfr (fun _ _ h => h))
  have HH3 := Kp.mk (HH2.out.fr hfr (fun h => h) (fun h => h))
  rw [← hW3, ← hg7]
  clear hW3 hg7 hfr HF2 HH2
  have CN : Kp (∀ W l r, Fr (fun _ => False) W3 W → l.length = 32 → r.length = 32 → Calls Tryd.prog 81 #[.agg (bytes l).toArray, .agg (bytes r).toArray, .pointer (some ⟨go, 0, none⟩)] W fun e w' => e = .returned (.agg (bytes (nodeL s l r)).toArray) ∧ Fr (fun _ => False) W w') :=
    ⟨fun W l r hf hl hr => node_calls l r hl hr gk go s W ((HL.out.fr HF3.out (fun _ h => h.elim)).fr hf (fun _ h => h.elim)) (HH3.out.fr hf (fun h => h) (fun h => h))⟩
  have HX3 := Kp.mk (HX.out.fr HF3.out)
  go_upto_region 9 with (fail)
  go_loopw [8, 28] (fun a i wr => ∃ id : Nat, i = .int .i64 (id : Int) ∧ a = .int .i64 (cnt id : Nat) ∧ id ≤ n ∧ Kp (L.take (cnt id) = storedN (nodeL s) [] LV id) ∧ Kp (Fr (fun _ => False) W3 wr)) (fun _ i _ => n - (intOf i).toNat)
  case atStart => exact ⟨0, rfl, by rw [cnt_zero]; rfl, Nat.zero_le _, ⟨by rw [cnt_zero]; rfl⟩, ⟨Fr.refl _ _⟩⟩
  case round =>
    obtain ⟨id, rfl, rfl, hid, HT, HF⟩ := hrel
    obtain ⟨wo, rfl⟩ : ∃ wo : World, wo = wr := ⟨_, rfl⟩
    by_cases hlt : id < n
    · obtain ⟨l1, l2, l3⟩ := chk_leaf (s := s) HN.out id hlt (by rw [← HLV.out]; exact HT.out)
      rw [← HLV.out] at l2 l3
      have hidl : id < 65536 := by have := HN2.out; omega
      obtain ⟨b, off, hA, _, _, _⟩ := HX3.out.at (cnt id) l1
      subst hA
      have hld := lds_row ((HX3.out).fr HF.out) (cnt id) l1
      obtain ⟨x0, hx0⟩ : ∃ x0, x0 = nodeAt (nodeL s) [] LV 0 (id / 2 ^ 0) := ⟨_, rfl⟩
      have hx0l : L[cnt id]'l1 = x0 := by
        rw [hx0, ← l2]; simp only [List.getD, List.getElem?_eq_getElem l1, Option.getD_some]
      have hx32 : x0.length = 32 := by rw [← hx0l]; exact HX.out.1 _ (List.getElem_mem _)
      obtain ⟨m1, m2⟩ := (HX3.out.fr HF.out).mid (cnt id) l1
      rw [hx0l] at m2
      have hcl : cnt id < len := by rw [HLEN.out]; exact l1
      have hcli : (cnt id : Int) < (len : Int) := Int.ofNat_lt.2 hcl
      have hc64 : cnt id ≤ 131072 := by have := cnt_le id; omega
      have HX0 := Kp.mk hx0
      have HX32 := Kp.mk hx32
      have HL3 := Kp.mk l3
      have HIDL := Kp.mk hidl
      have HNEW : Kp (Blk (wo.alloc (.cells #[.int .u8 0, .int .u8 0, .int .u8 0, .int .u8 0, .int .u8 0, .int .u8 0, .int .u8 0, .int .u8 0, .int .u8 0, .int .u8 0, .int .u8 0, .int .u8 0, .int .u8 0, .int .u8 0, .int .u8 0, .int .u8 0, .int .u8 0, .int .u8 0, .int .u8 0, .int .u8 0, .int .u8 0, .int .u8 0, .int .u8 0, .int .u8 0, .int .u8 0, .int .u8 0, .int .u8 0, .int .u8 0, .int .u8 0, .int .u8 0, .int .u8 0, .int .u8 0] 25)) wo.heap.size 25 [.int .u8 0, .int .u8 0, .int .u8 0, .int .u8 0, .int .u8 0, .int .u8 0, .int .u8 0, .int .u8 0, .int .u8 0, .int .u8 0, .int .u8 0, .int .u8 0, .int .u8 0, .int .u8 0, .int .u8 0, .int .u8 0, .int .u8 0, .int .u8 0, .int .u8 0, .int .u8 0, .int .u8 0, .int .u8 0, .int .u8 0, .int .u8 0, .int .u8 0, .int .u8 0, .int .u8 0, .int .u8 0, .int .u8 0, .int .u8 0, .int .u8 0, .int .u8 0]) := ⟨Blk.new wo _ _⟩
      clear l1 l2 l3 hx0l hx0 hx32 hld hidl
      go_upto_region 12 with (refine wpList_storeH rfl rfl (Operand.tmp 10) (Operand.tmp 34) rfl wo.heap.size _ _ x0 rfl (by rfl) HNEW.out rfl HX32.out ?_)
      obtain ⟨g10, hg10⟩ : ∃ g10, g10 = wo.heap.size := ⟨_, rfl⟩
      obtain ⟨W4, hW4⟩ : ∃ W4, W4 = (wo.alloc (.cells #[.int .u8 0, .int .u8 0, .int .u8 0, .int .u8 0, .int .u8 0, .int .u8 0, .int .u8 0, .int .u8 0, .int .u8 0, .int .u8 0, .int .u8 0, .int .u8 0, .int .u8 0, .int .u8 0, .int .u8 0, .int .u8 0, .int .u8 0, .int .u8 0, .int .u8 0, .int .u8 0, .int .u8 0, .int .u8 0, .int .u8 0, .int .u8 0, .int .u8 0, .int .u8 0, .int .u8 0, .int .u8 0, .int .u8 0, .int .u8 0, .int .u8 0, .int .u8 0] 25)).setRow wo.heap.size (bytes x0).toArray := ⟨_, rfl⟩
      have hfr := fr_row (Fr.refl (fun _ => False) wo) (.cells #[.int .u8 0, .int .u8 0, .int .u8 0, .int .u8 0, .int .u8 0, .int .u8 0, .int .u8 0, .int .u8 0, .int .u8 0, .int .u8 0, .int .u8 0, .int .u8 0, .int .u8 0, .int .u8 0, .int .u8 0, .int .u8 0, .int .u8 0, .int .u8 0, .int .u8 0, .int .u8 0, .int .u8 0, .int .u8 0, .int .u8 0, .int .u8 0, .int .u8 0, .int .u8 0, .int .u8 0, .int .u8 0, .int .u8 0, .int .u8 0, .int .u8 0, .int .u8 0] 25) (bytes x0).toArray
      rw [← hW4] at hfr
      have HX4 : Kp (Blk W4 g10 25 (bytes x0)) := ⟨by rw [hW4, hg10]; exact blk_row wo _ _ _⟩
      have HF4 := Kp.mk (HF.out.trans hfr (fun _ _ h => h))
      have HG10 : Kp (W3.heap.size ≤ g10) := ⟨by have := HF.out.size; omega⟩
      rw [← hW4, ← hg10]
      clear hW4 hg10 hfr HNEW m1 m2
      go_upto_region 14 with (fail)
      go_loopw [8, 11, 12] (fun a l i wi => ∃ (j ax : Nat), a = .int .i64 (ax : Int) ∧ Kp (ax = cnt id + 1 + j) ∧ l = .int .i64 (j : Int) ∧ i = .int .i64 ((id / 2 ^ j : Nat) : Int) ∧ Kp (j ≤ t1 id) ∧ Kp (L.take (cnt id + 1 + j) = storedN (nodeL s) [] LV id ++ laidBy (nodeL s) [] LV id (j + 1)) ∧ Kp (Blk wi g10 25 (bytes (nodeAt (nodeL s) [] LV j (id / 2 ^ j)))) ∧ Kp (Fr (fun _ => False) W3 wi)) (fun _ l _ _ => t1 id - (intOf l).toNat)
      case atStart => exact ⟨0, cnt id + 1, by go_num, ⟨rfl⟩, rfl, by rw [Nat.pow_zero, Nat.div_one], ⟨Nat.zero_le _⟩, HL3, ⟨by rw [← HX0.out]; exact HX4.out⟩, HF4⟩
      case round =>
        clear HX4 HF4 HL3
        obtain ⟨j, ax, rfl, HAX, rfl, rfl, hj, HJ, HX5, HF5⟩ := hrel
        obtain ⟨wi, rfl⟩ : ∃ wi : World, wi = wr := ⟨_, rfl⟩
        have hj48 : j ≤ 48 := Nat.le_trans hj.out (t1_le id (by have := HIDL.out; omega))
        obtain ⟨m, hm⟩ : ∃ m, m = id / 2 ^ j := ⟨_, rfl⟩
        have hml : m ≤ id := by rw [hm]; exact Nat.div_le_self _ _
        have hm48 : m ≤ 281474976710656 := by have := HIDL.out; omega
        rw [← hm] at HX5
        rw [← hm]
        have HM := Kp.mk hm
        have HML : Kp (m ≤ 65535) := ⟨by have := HIDL.out; omega⟩
        clear hm
        have hat64 : ax ≤ 262144 := by have := HAX.out; omega
        by_cases hb : m % 2 = 1
        · have hbit : (Go.bits .and .i64 (m : Int) 1 == 1) = true := by rw [and_one m hm48, hb]; rfl
          have hj1 : j < t1 id := (t1_odd_iff id j hj.out).1 (by rw [← HM.out]; exact hb)
          have hpre := chk_pre (s := s) (n := n) (st := L) id j (by rw [← HLV.out]; exact HJ.out)
          rw [← HLV.out] at hpre
          have hm2 : m * 2 ^ j ≤ id := by rw [HM.out]; exact Nat.div_mul_le_self _ _
          obtain ⟨p1, p2⟩ := look_left (nodeL s) [] LV L id hpre j m (by omega) hm2
          have hcn : cnt id < cnt n := cnt_lt_of_lt hlt
          have hpl : cnt (m * 2 ^ j - 1) + j < L.length := by rw [← HN.out]; omega
          have hal : cnt id + 1 + j < L.length := by
            have h1 := cnt_succ id
            have h2 := cnt_mono (show id + 1 ≤ n from hlt)
            rw [← HN.out]; omega
          have CP := place_calls j (m - 1) hj48 (by rw [show m - 1 + 1 = m by omega]; have := HIDL.out; omega)
          rw [show m - 1 + 1 = m by omega] at CP
          obtain ⟨p, hp⟩ : ∃ p, p = cnt (m * 2 ^ j - 1) + j := ⟨_, rfl⟩
          rw [← hp] at p1 p2 hpl CP
          have CP := Kp.mk CP
          have hst := (t1_step id j hj.out).1
          rw [← HM.out] at hst
          have hy32 := node_len32 s HS1.out LV H32.out j (m - 1) (by rw [show m - 1 + 1 = m by omega, HLVL.out]; omega)
          have hz32 := node_len32 s HS1.out LV H32.out j m (by rw [HLVL.out]; omega)
          have hup := node_up (nodeL s) [] LV id j (by rw [← HM.out]; exact hb)
          rw [← HM.out] at hup
          obtain ⟨y, hy⟩ : ∃ y, y = nodeAt (nodeL s) [] LV j (m - 1) := ⟨_, rfl⟩
          obtain ⟨z, hz⟩ : ∃ z, z = nodeAt (nodeL s) [] LV j m := ⟨_, rfl⟩
          rw [← hy] at p2 hy32 hup
          rw [← hz] at HX5 hz32 hup
          obtain ⟨M, hM⟩ : ∃ M, M = nodeL s y z := ⟨_, rfl⟩
          have hM32 : M.length = 32 := by rw [hM]; exact ofL_len _ _ HS1.out
          rw [← hM] at hup
          have hgetp : L[p]'hpl = y := by rw [← p2]; simp only [List.getD, List.getElem?_eq_getElem hpl, Option.getD_some]
          have HLD : Kp (∀ W, Fr (fun _ => False) wi W → Lds W 25 (.pointer (some ⟨b, off + p * 32, none⟩)) (.agg (bytes y).toArray)) := ⟨fun W hf => by
            have h := lds_row ((HX3.out.fr HF5.out).fr hf) p hpl
            rw [hgetp] at h
            exact h⟩
          obtain ⟨u, hu⟩ : ∃ u, u = L[cnt id + 1 + j]'hal := ⟨_, rfl⟩
          have hu32 : u.length = 32 := by rw [hu]; exact HX.out.1 _ (List.getElem_mem _)
          have hud : L.getD (cnt id + 1 + j) [] = u := by rw [hu]; simp only [List.getD, List.getElem?_eq_getElem hal, Option.getD_some]
          have HLU : Kp (∀ W, Fr (fun _ => False) W3 W → Lds W 25 (.pointer (some ⟨b, off + ax * 32, none⟩)) (.agg (bytes u).toArray)) := ⟨fun W hf => by
            have h := lds_row (HX3.out.fr hf) (cnt id + 1 + j) hal
            rw [← hu, ← HAX.out] at h
            exact h⟩
          have CN1 : Kp (∀ W, Fr (fun _ => False) wi W → Calls Tryd.prog 81 #[.agg (bytes y).toArray, .agg (bytes z).toArray, .pointer (some ⟨go, 0, none⟩)] W fun e w' => e = .returned (.agg (bytes M).toArray) ∧ Fr (fun _ => False) W w') := ⟨fun W hf => by rw [hM]; exact CN.out W y z (HF5.out.trans hf (fun _ _ h => h)) hy32 hz32⟩
          have HG5 := Kp.mk (HG3.out.fr HF5.out (fun h => h))
          have hpn : p < len := by rw [HLEN.out]; exact hpl
          have hpi : (p : Int) < (len : Int) := Int.ofNat_lt.2 hpn
          have han : ax < len := by rw [HLEN.out, HAX.out]; exact hal
          have hai : (ax : Int) < (len : Int) := Int.ofNat_lt.2 han
          have HZ32 := Kp.mk hz32
          have HM32 := Kp.mk hM32
          have HJ1 := Kp.mk hj1
          have HUP := Kp.mk hup
          have HUD := Kp.mk hud
          have hEq := eq32 M u hM32 hu32
          have HW48 : Kp ((m : Int) - 1 = ((m - 1 : Nat) : Int)) := ⟨by omega⟩
          have HW46 : Kp (IntKind.i64.wrap ((m - 1 : Nat) : Int) = ((m - 1 : Nat) : Int)) := ⟨by have := HML.out; simp [IntKind.wrap, IntKind.bits, IntKind.signed]; omega⟩
          clear hpre hm2 p1 p2 hcn hpl hal hp hst hy32 hz32 hup hy hz hM hM32 hgetp hu hu32 hud hj1
          go_upto_region 16 with (fail)
          refine start_ (n := 12) (S := fun w' => Lds w' 101 (.pointer (some ⟨g7, 3, none⟩)) (.func (.func 81) #[] #[.pointer (some ⟨go, 0, none⟩)]) ∧ Lds w' 25 (.pointer (some ⟨b, off + p * 32, none⟩)) (.agg (bytes y).toArray) ∧ Lds w' 25 (.pointer (some ⟨g10, 0, none⟩)) (.agg (bytes z).toArray)) (ds := [11]) #[false, false, false, false, false, false, false, false, false, false, false, false] (by kernel_rfl) rfl rfl ⟨lds_node ((HG5.out.fr ((Fr.refl (fun _ => False) wi).drew) (fun h => h)).cell 3 _ rfl), HLD.out _ ((Fr.refl (fun _ => False) wi).drew), lds_blk (HX5.out.fr ((Fr.refl (fun _ => False) wi).drew) (fun h => h)) HZ32.out⟩ (fun hHeld => ?_)
          refine pure_ (i := 0) (N := some 45) (v := ?_) (a' := ?_) #[true, false, false, false, false, false, false, false, false, false, false, false] rfl rfl (by kernel_rfl) (fun _ _ _ h => h) (Or.inl ⟨by rfl, ?_⟩) ?_ ?_
          rotate_left
          · intro w'
            go_simp
            with_reducible rfl
          rotate_left
          · simp only [Act.put, List.setIfInBounds_toArray, List.set_cons_zero, List.set_cons_succ]
            rfl
          refine pure_ (i := 2) (N := some 47) (v := ?_) (a' := ?_) #[true, false, true, false, false, false, false, false, false, false, false, false] rfl rfl (by kernel_rfl) (fun _ _ _ h => h) (Or.inl ⟨by rfl, ?_⟩) ?_ ?_
          rotate_left
          · intro w'
            go_simp
            with_reducible rfl
          rotate_left
          · simp only [Act.put, List.setIfInBounds_toArray, List.set_cons_zero, List.set_cons_succ]
            rfl
          refine pure_ (i := 3) (N := some 48) (v := ?_) (a' := ?_) #[true, false, true, true, false, false, false, false, false, false, false, false] rfl rfl (by kernel_rfl) (fun _ _ _ h => h) (Or.inl ⟨by rfl, ?_⟩) ?_ ?_
          rotate_left
          · intro w'
            go_simp
            with_reducible rfl
          rotate_left
          · simp only [Act.put, List.setIfInBounds_toArray, List.set_cons_zero, List.set_cons_succ]
            rfl
          refine pure_ (i := 4) (N := some 49) (v := ?_) (a' := ?_) #[true, false, true, true, true, false, false, false, false, false, false, false] rfl rfl (by kernel_rfl) (fun _ _ _ h => h) (Or.inl ⟨by rfl, ?_⟩) ?_ ?_
          rotate_left
          · intro w'
            go_simp
            with_reducible rfl
          rotate_left
          · simp only [Act.put, List.setIfInBounds_toArray, List.set_cons_zero, List.set_cons_succ]
            rfl
          refine pure_ (i := 5) (N := some 50) (v := ?_) (a' := ?_) #[true, false, true, true, true, true, false, false, false, false, false, false] rfl rfl (by kernel_rfl) (fun _ _ _ h => h) (Or.inl ⟨by rfl, ?_⟩) ?_ ?_
          rotate_left
          · intro w'
            go_simp
            with_reducible rfl
          rotate_left
          · simp only [Act.put, List.setIfInBounds_toArray, List.set_cons_zero, List.set_cons_succ, HW48.out, HW46.out]
            rfl
          refine take_ (i := 1) (N := some 46) (v := ?_) (a' := ?_) #[true, true, true, true, true, true, false, false, false, false, false, false] rfl rfl (by kernel_rfl) (fun _ _ _ h => h) (Or.inl ⟨by rfl, ?_⟩) hHeld ?_ ?_
          rotate_left
          · rintro w' ⟨s0, s1, s2⟩
            refine Lds.run s0 (x := ?_) ?_ ?_
            · exact (Operand.tmp 45)
            · rfl
            · rfl
          rotate_left
          · simp only [Act.put, List.setIfInBounds_toArray, List.set_cons_zero, List.set_cons_succ]
            rfl
          refine take_ (i := 9) (N := some 54) (v := ?_) (a' := ?_) #[true, true, true, true, true, true, false, false, false, true, false, false] rfl rfl (by kernel_rfl) (fun _ _ _ h => h) (Or.inl ⟨by rfl, ?_⟩) hHeld ?_ ?_
          rotate_left
          · rintro w' ⟨s0, s1, s2⟩
            refine Lds.run s2 (x := ?_) ?_ ?_
            · exact (Operand.tmp 10)
            · rfl
            · rfl
          rotate_left
          · simp only [Act.put, List.setIfInBounds_toArray, List.set_cons_zero, List.set_cons_succ]
            rfl
          refine one_ (i := 6) (N := some 51) #[true, true, true, true, true, true, true, false, false, true, false, false] rfl rfl (by kernel_rfl) (by decide) (fun K hK => ?_)
          refine goes_ Tryd.func58 (by kernel_rfl) rfl #[.int .i64 (j : Int), .int .i64 ((m - 1 : Nat) : Int)] (by rfl) rfl rfl (by simp only [List.map_toArray, List.map_cons, List.map_nil]; rfl) ?_
          with_reducible refine (CP.out _).mono ?_
          rintro e a1 ⟨rfl, hq⟩
          refine ⟨_, rfl, ?_⟩
          have Fa1 : Kp (Fr (fun _ => False) wi a1) := ⟨((Fr.refl (fun _ => False) wi).drew).trans hq (fun _ _ h => h)⟩
          clear hq
          refine hK.out _ _ ⟨lds_node ((HG5.out.fr Fa1.out (fun h => h)).cell 3 _ rfl), HLD.out _ Fa1.out, lds_blk (HX5.out.fr Fa1.out (fun h => h)) HZ32.out⟩ (fun hHeld => ?_)
          clear hK K
          refine norm_ (a' := ?_) ?_ ?_
          rotate_left
          · show Act.put _ (some 51) _ = _
            simp only [Act.put, List.setIfInBounds_toArray, List.set_cons_zero, List.set_cons_succ]
            rfl
          refine pure_ (i := 7) (N := some 52) (v := ?_) (a' := ?_) #[true, true, true, true, true, true, true, true, false, true, false, false] rfl rfl (by kernel_rfl) (fun _ _ _ h => h) (Or.inl ⟨by rfl, ?_⟩) ?_ ?_
          rotate_left
          · intro w'
            go_simp
            with_reducible rfl
          rotate_left
          · simp only [Act.put, List.setIfInBounds_toArray, List.set_cons_zero, List.set_cons_succ]
            rfl
          refine take_ (i := 8) (N := some 53) (v := ?_) (a' := ?_) #[true, true, true, true, true, true, true, true, true, true, false, false] rfl rfl (by kernel_rfl) (fun _ _ _ h => h) (Or.inl ⟨by rfl, ?_⟩) hHeld ?_ ?_
          rotate_left
          · rintro w' ⟨s0, s1, s2⟩
            refine Lds.run s1 (x := ?_) ?_ ?_
            · exact (Operand.tmp 52)
            · rfl
            · rfl
          rotate_left
          · simp only [Act.put, List.setIfInBounds_toArray, List.set_cons_zero, List.set_cons_succ]
            rfl
          refine one_ (i := 10) (N := some 55) #[true, true, true, true, true, true, true, true, true, true, true, false] rfl rfl (by kernel_rfl) (by decide) (fun K hK => ?_)
          refine goesC_ (Operand.tmp 46) Tryd.func81 (by kernel_rfl) rfl #[.pointer (some ⟨go, 0, none⟩)] #[.agg (bytes y).toArray, .agg (bytes z).toArray, .pointer (some ⟨go, 0, none⟩)] (by rfl) rfl rfl (by rfl) (by simp only [List.map_toArray, List.map_cons, List.map_nil]; rfl) ?_
          with_reducible refine (CN1.out _ Fa1.out).mono ?_
          rintro e a2 ⟨rfl, hq⟩
          refine ⟨_, rfl, ?_⟩
          have Fa2 : Kp (Fr (fun _ => False) wi a2) := ⟨Fa1.out.trans hq (fun _ _ h => h)⟩
          clear hq
          refine hK.out _ _ ⟨lds_node ((HG5.out.fr Fa2.out (fun h => h)).cell 3 _ rfl), HLD.out _ Fa2.out, lds_blk (HX5.out.fr Fa2.out (fun h => h)) HZ32.out⟩ (fun hHeld => ?_)
          clear hK K
          refine norm_ (a' := ?_) ?_ ?_
          rotate_left
          · show Act.put _ (some 55) _ = _
            simp only [Act.put, List.setIfInBounds_toArray, List.set_cons_zero, List.set_cons_succ]
            rfl
          refine last_ (i := 11) (N := none) #[true, true, true, true, true, true, true, true, true, true, true, true] rfl rfl (by kernel_rfl) (by decide) (fun K hK => ?_)
          refine skip_ (by rfl) rfl (st_hash _ _ (Operand.tmp 10) (Operand.tmp 55) _ g10 _ _ M rfl rfl rfl (HX5.out.fr Fa2.out (fun h => h)) (by rw [bytes_length, HZ32.out]) HM32.out) ?_
          refine hK.out _ _ ?_
          clear hK K
          refine done_ (by kernel_rfl) ?_
          obtain ⟨W6, hW6⟩ : ∃ W6, W6 = a2.setRow g10 (bytes M).toArray := ⟨_, rfl⟩
          rw [← hW6]
          have hfr6 : Fr (fun q => q = g10) wi W6 := (Fa2.out.mono (S' := fun q => q = g10) (fun _ _ h => h.elim)).trans (S' := fun q => q = g10) (by rw [hW6]; exact ⟨rfl, rfl, rfl, by simp [World.setRow], fun q _ hq => setRow_other _ _ q _ hq⟩) (fun _ _ h => h)
          have HX6 : Kp (Blk W6 g10 25 (bytes M)) := ⟨by rw [hW6]; exact setRow_heap _ g10 _ _ _ _ (show a2.heap[g10]? = _ from HX5.out.fr Fa2.out (fun h => h))⟩
          have HF6 : Kp (Fr (fun _ => False) W3 W6) := ⟨HF5.out.trans hfr6 (fun q hq h => by have := HG10.out; omega)⟩
          clear hW6 hfr6 HX5 HF5 Fa2 Fa1 HLD CN1 CP HG5
          by_cases hMu : M = u
          · rw [decide_eq_true hMu] at hEq
            have HMU := Kp.mk hMu
            clear hMu
            go_upto_region 17 with (fail)
            refine start_ (n := 6) (S := fun w' => Lds w' 25 (.pointer (some ⟨g10, 0, none⟩)) (.agg (bytes M).toArray) ∧ Lds w' 25 (.pointer (some ⟨b, off + ax * 32, none⟩)) (.agg (bytes u).toArray)) (ds := []) #[false, false, false, false, false, false] (by kernel_rfl) rfl rfl ⟨lds_blk HX6.out.drew HM32.out, HLU.out _ (HF6.out.drew)⟩ (fun hHeld => ?_)
            refine pure_ (i := 1) (N := some 57) (v := ?_) (a' := ?_) #[false, true, false, false, false, false] rfl rfl (by kernel_rfl) (fun _ _ _ h => h) (Or.inl ⟨by rfl, ?_⟩) ?_ ?_
            rotate_left
            · intro w'
              go_simp
              with_reducible rfl
            rotate_left
            · simp only [Act.put, List.setIfInBounds_toArray, List.set_cons_zero, List.set_cons_succ]
              rfl
            refine pure_ (i := 2) (N := some 58) (v := ?_) (a' := ?_) #[false, true, true, false, false, false] rfl rfl (by kernel_rfl) (fun _ _ _ h => h) (Or.inl ⟨by rfl, ?_⟩) ?_ ?_
            rotate_left
            · intro w'
              go_simp
              with_reducible rfl
            rotate_left
            · simp only [Act.put, List.setIfInBounds_toArray, List.set_cons_zero, List.set_cons_succ]
              rfl
            refine pure_ (i := 3) (N := some 59) (v := ?_) (a' := ?_) #[false, true, true, true, false, false] rfl rfl (by kernel_rfl) (fun _ _ _ h => h) (Or.inl ⟨by rfl, ?_⟩) ?_ ?_
            rotate_left
            · intro w'
              go_simp
              with_reducible rfl
            rotate_left
            · simp only [Act.put, List.setIfInBounds_toArray, List.set_cons_zero, List.set_cons_succ]
              rfl
            refine take_ (i := 0) (N := some 56) (v := ?_) (a' := ?_) #[true, true, true, true, false, false] rfl rfl (by kernel_rfl) (fun _ _ _ h => h) (Or.inl ⟨by rfl, ?_⟩) hHeld ?_ ?_
            rotate_left
            · rintro w' ⟨s0, s1⟩
              refine Lds.run s0 (x := ?_) ?_ ?_
              · exact (Operand.tmp 10)
              · rfl
              · rfl
            rotate_left
            · simp only [Act.put, List.setIfInBounds_toArray, List.set_cons_zero, List.set_cons_succ]
              rfl
            refine take_ (i := 4) (N := some 60) (v := ?_) (a' := ?_) #[true, true, true, true, true, false] rfl rfl (by kernel_rfl) (fun _ _ _ h => h) (Or.inl ⟨by rfl, ?_⟩) hHeld ?_ ?_
            rotate_left
            · rintro w' ⟨s0, s1⟩
              refine Lds.run s1 (x := ?_) ?_ ?_
              · exact (Operand.tmp 59)
              · rfl
              · rfl
            rotate_left
            · simp only [Act.put, List.setIfInBounds_toArray, List.set_cons_zero, List.set_cons_succ]
              rfl
            refine pure_ (i := 5) (N := some 61) (v := ?_) (a' := ?_) #[true, true, true, true, true, true] rfl rfl (by kernel_rfl) (fun _ _ _ h => h) (Or.inl ⟨by rfl, ?_⟩) ?_ ?_
            rotate_left
            · intro w'
              go_simp
              with_reducible rfl
            rotate_left
            · simp only [Act.put, List.setIfInBounds_toArray, List.set_cons_zero, List.set_cons_succ]
              rfl
            refine done_ (by kernel_rfl) ?_
            clear hEq HLU
            have HDV : Kp ((m : Int) / 2 = ((id / 2 ^ (j + 1) : Nat) : Int)) := ⟨by rw [div_pow_succ, ← HM.out]; omega⟩
            have HNX := chk_next (s := s) HN.out id j hlt HJ1.out (by rw [← HLV.out]; exact HJ.out) (by rw [← HLV.out, HUP.out, HUD.out]; exact HMU.out.symm)
            rw [← HLV.out] at HNX
            have HNX := Kp.mk HNX
            go_wp2_with (fail)
            refine ⟨⟨j + 1, ax + 1, by go_num, ⟨by have := HAX.out; omega⟩, rfl, by rw [← HDV.out], ⟨HJ1.out⟩, HNX, ⟨by rw [HUP.out]; exact HX6.out.drew⟩, ⟨HF6.out.drew⟩⟩, ?_⟩
            have h1 := HJ1.out
            simp only [intOf]
            omega
          · rw [decide_eq_false hMu] at hEq
            have HMU := Kp.mk hMu
            clear hMu
            go_upto_region 17 with (fail)
            refine start_ (n := 6) (S := fun w' => Lds w' 25 (.pointer (some ⟨g10, 0, none⟩)) (.agg (bytes M).toArray) ∧ Lds w' 25 (.pointer (some ⟨b, off + ax * 32, none⟩)) (.agg (bytes u).toArray)) (ds := []) #[false, false, false, false, false, false] (by kernel_rfl) rfl rfl ⟨lds_blk HX6.out.drew HM32.out, HLU.out _ (HF6.out.drew)⟩ (fun hHeld => ?_)
            refine pure_ (i := 1) (N := some 57) (v := ?_) (a' := ?_) #[false, true, false, false, false, false] rfl rfl (by kernel_rfl) (fun _ _ _ h => h) (Or.inl ⟨by rfl, ?_⟩) ?_ ?_
            rotate_left
            · intro w'
              go_simp
              with_reducible rfl
            rotate_left
            · simp only [Act.put, List.setIfInBounds_toArray, List.set_cons_zero, List.set_cons_succ]
              rfl
            refine pure_ (i := 2) (N := some 58) (v := ?_) (a' := ?_) #[false, true, true, false, false, false] rfl rfl (by kernel_rfl) (fun _ _ _ h => h) (Or.inl ⟨by rfl, ?_⟩) ?_ ?_
            rotate_left
            · intro w'
              go_simp
              with_reducible rfl
            rotate_left
            · simp only [Act.put, List.setIfInBounds_toArray, List.set_cons_zero, List.set_cons_succ]
              rfl
            refine pure_ (i := 3) (N := some 59) (v := ?_) (a' := ?_) #[false, true, true, true, false, false] rfl rfl (by kernel_rfl) (fun _ _ _ h => h) (Or.inl ⟨by rfl, ?_⟩) ?_ ?_
            rotate_left
            · intro w'
              go_simp
              with_reducible rfl
            rotate_left
            · simp only [Act.put, List.setIfInBounds_toArray, List.set_cons_zero, List.set_cons_succ]
              rfl
            refine take_ (i := 0) (N := some 56) (v := ?_) (a' := ?_) #[true, true, true, true, false, false] rfl rfl (by kernel_rfl) (fun _ _ _ h => h) (Or.inl ⟨by rfl, ?_⟩) hHeld ?_ ?_
            rotate_left
            · rintro w' ⟨s0, s1⟩
              refine Lds.run s0 (x := ?_) ?_ ?_
              · exact (Operand.tmp 10)
              · rfl
              · rfl
            rotate_left
            · simp only [Act.put, List.setIfInBounds_toArray, List.set_cons_zero, List.set_cons_succ]
              rfl
            refine take_ (i := 4) (N := some 60) (v := ?_) (a' := ?_) #[true, true, true, true, true, false] rfl rfl (by kernel_rfl) (fun _ _ _ h => h) (Or.inl ⟨by rfl, ?_⟩) hHeld ?_ ?_
            rotate_left
            · rintro w' ⟨s0, s1⟩
              refine Lds.run s1 (x := ?_) ?_ ?_
              · exact (Operand.tmp 59)
              · rfl
              · rfl
            rotate_left
            · simp only [Act.put, List.setIfInBounds_toArray, List.set_cons_zero, List.set_cons_succ]
              rfl
            refine pure_ (i := 5) (N := some 61) (v := ?_) (a' := ?_) #[true, true, true, true, true, true] rfl rfl (by kernel_rfl) (fun _ _ _ h => h) (Or.inl ⟨by rfl, ?_⟩) ?_ ?_
            rotate_left
            · intro w'
              go_simp
              with_reducible rfl
            rotate_left
            · simp only [Act.put, List.setIfInBounds_toArray, List.set_cons_zero, List.set_cons_succ]
              rfl
            refine done_ (by kernel_rfl) ?_
            clear hEq HLU
            go_wp2_with (fail)
            go_ret
            have h1 := chk_bad (s := s) (st := L) id j hlt HJ1.out (by rw [← HLV.out, HUP.out, HUD.out]; exact HMU.out)
            refine ⟨by rw [chkCode, if_neg (by rw [h1]; decide)]; rfl, HF3.out.trans (HF6.out.drew) (fun _ _ h => h)⟩
        · have hbit : (Go.bits .and .i64 (m : Int) 1 == 1) = false := by rw [and_one m hm48]; rw [beq_eq_false_iff_ne]; omega
          have hjt : j = t1 id := by
            rcases Nat.lt_or_ge j (t1 id) with h | h
            · exact absurd ((t1_odd_iff id j hj.out).2 h) (by rw [← HM.out]; exact hb)
            · have := hj.out; omega
          obtain ⟨e1, e2⟩ := chk_end (s := s) (n := n) (st := L) id j hjt (by rw [← HLV.out]; exact HJ.out)
          rw [← HLV.out] at e2
          have HE1 := Kp.mk e1
          have HE2 := Kp.mk e2
          have hidb : id ≤ 65535 := by have := HIDL.out; omega
          clear hjt e1 e2
          go_wp2_with (fail)
          refine ⟨⟨id + 1, by go_num, by rw [HAX.out, HE1.out], hlt, HE2, HF5⟩, ?_⟩
          simp only [intOf]
          omega
    · obtain rfl : id = n := by omega
      go_wp2_with fail
      go_ret
      have h1 := chk_all (s := s) HN.out (by rw [← HLV.out]; exact HT.out)
      refine ⟨by rw [chkCode, if_pos h1]; rfl, HF3.out.trans HF.out (fun _ _ h => h)⟩
end Go.Proofs.YtjbhaopocabfaaaDoor.Sha
namespace Go.Proofs.YtjbhaopocabfaaaDoor.Sha
open Go.RowKit Go.Proofs.YtjbhaopocabfaaaDoor.Mem Go.Proofs.YtjbhaopocabfaaaDoorW.PrintWords Go.Proofs.YtjbhaopocabfaaaDoorW.PrintLast Go.Proofs.YtjbhaopocabfaaaDoor.Pl Go.Proofs.YtjbhaopocabfaaaDoor.Wk
attribute [local go_sem ↓] Go.wp_at_zero Go.wp_at_succ wp_load_hash wp_store_hash wp_load_mid23 wp_load_mid25 wp_store_mid25 wp_build_hash
attribute [local go_sem] rowAt_drew rowOk_drew midOk_drew midAt_drew rowBlock rowCells rowOff midFree_drew
theorem wpList_apRun {ops : Array Oper} {rest : List Oper} {o : Oper} {a : Act} {w w' : World} {Q : Exit → Act → World → Prop} {v v' : Value} {A : Option Addr} {m c : Nat} (hgd : o.guard = none) (hr : (Builtin.append_ #[48, 48] 48 #[v, .slice A m c]).run Tryd.prog w = .ok v' w') (s x : Operand)
    (ho : o.op = .call { callee := .builtin .append, args := #[s, x], argTypes := #[48, 48] }) (hty : o.type = 48) (hs : a.eval s = v) (hx : a.eval x = .slice A m c) (h : wpList Tryd.prog ops Q rest (a.put o.dst v') w') : wpList Tryd.prog ops Q (o :: rest) a w := by
  refine wpList_plain hgd fun _ hK => ?_
  unfold Oper.wp
  rw [ap_exec hr s x ho hty hs hx]
  exact hK _ _ h
set_option maxHeartbeats 4000000 in
set_option maxRecDepth 100000 in
theorem Size_calls (B g s : Nat) (ls : List (List Int)) (F : Nat → Prop) (w : World) (hT : Tr w B g s ls F) :
    Calls Tryd.prog 65 #[.pointer (some ⟨g, 0, none⟩)] w fun e w' => e = .returned (.int .i64 (ls.length : Int)) ∧ Fr (fun _ => False) w w' := by
  obtain ⟨gk, go, v0, h1, h2, h3, h4, h5, h6, h7, h8, h9, h10⟩ := hT
  have c5 : w.cell? ⟨g, 5, none⟩ = some (.int .i64 (ls.length : Int)) := h1.cell 5 _ rfl
  obtain ⟨n, hn⟩ : ∃ n, n = ls.length := ⟨_, rfl⟩
  rw [← hn] at c5 ⊢
  clear h1 h2 h3 h4 h5 h6 h7 h8 h9 h10 hn
  go_enter Tryd.func65, Tryd.ntmps65
  go_wp2
  go_ret
  exact ⟨rfl, Fr.refl _ _⟩
set_option maxHeartbeats 4000000 in
set_option maxRecDepth 100000 in
theorem Stored_calls (B g s : Nat) (ls : List (List Int)) (F : Nat → Prop) (w : World) (hT : Tr w B g s ls F) :
    Calls Tryd.prog 23 #[.pointer (some ⟨g, 0, none⟩)] w fun e w' => ∃ v, e = .returned v ∧ HOwn w' w.heap.size v (storedL s ls) ∧ Fr (fun _ => False) w w' := by
  obtain ⟨gk, go, v0, h1, h2, h3, h4, h5, h6, h7, h8, h9, h10⟩ := hT
  have hlen := storedL_len s ls
  have hcl := cnt_le ls.length
  have hST : (storedL s ls).length ≤ 131072 := by omega
  obtain ⟨A, c, hv, hr⟩ := h3.row (fun _ => False) (fun _ _ h => h)
  generalize storedL s ls = ST at *
  obtain ⟨n, hn⟩ : ∃ n, n = ST.length := ⟨_, rfl⟩
  rw [← hn] at hv
  subst hv
  have c4 : w.cell? ⟨g, 4, none⟩ = some (.slice A n c) := h1.cell 4 _ rfl
  have HR := Kp.mk hr
  have HN := Kp.mk hn
  have HST := Kp.mk hST
  clear h1 h2 h3 h4 h5 h6 h7 h8 h9 h10 hn hST hlen hcl hr
  go_enter Tryd.func23, Tryd.ntmps23
  go_wp2_with (at_builtin; refine wpList_appendH rfl _ _ rfl rfl w.heap.size (.slice none 0 0) [] rfl (HOwn.nil _ _) A n c ST HN.out rfl HR.out (by have := HST.out; simp only [List.length_nil]; omega) (Nat.le_refl _) ?_; intro v1 w1 hown hgr hat; have HO := Kp.mk hown; have HG := Kp.mk hgr; clear hown hgr hat)
  go_ret
  exact ⟨v1, rfl, HO.out, (Fr.refl (fun _ => False) w).grown HG.out (fun q _ h => by cases h)⟩
set_option maxHeartbeats 4000000 in
set_option maxRecDepth 100000 in
theorem Back_no (B g s : Nat) (ls : List (List Int)) (F : Nat → Prop) (w : World) (hT : Tr w B g s ls F) (n : Int) (hn : n < 0 ∨ (ls.length : Int) < n) :
    Calls Tryd.prog 22 #[.pointer (some ⟨g, 0, none⟩), .int .i64 n] w fun e w' => e = .returned (.int .i64 1) ∧ Fr (fun _ => False) w w' := by
  obtain ⟨gk, go, v0, h1, h2, h3, h4, h5, h6, h7, h8, h9, h10⟩ := hT
  have c5 : w.cell? ⟨g, 5, none⟩ = some (.int .i64 (ls.length : Int)) := h1.cell 5 _ rfl
  obtain ⟨m, hm⟩ : ∃ m, m = ls.length := ⟨_, rfl⟩
  rw [← hm] at c5 hn
  clear h1 h2 h3 h4 h5 h6 h7 h8 h9 h10 hm
  rcases hn with hn | hn
  · go_enter Tryd.func22, Tryd.ntmps22
    go_wp2
    go_ret
    exact ⟨rfl, Fr.refl _ _⟩
  · have h0 : ¬ n < 0 := by omega
    go_enter Tryd.func22, Tryd.ntmps22
    go_wp2
    go_ret
    exact ⟨rfl, Fr.refl _ _⟩
set_option maxHeartbeats 4000000 in
set_option maxRecDepth 100000 in
theorem Back_calls (B g s : Nat) (ls : List (List Int)) (F : Nat → Prop) (w : World) (hT : Tr w B g s ls F) (n : Nat) (hn : n ≤ ls.length) :
    Calls Tryd.prog 22 #[.pointer (some ⟨g, 0, none⟩), .int .i64 (n : Int)] w fun e w' => e = .returned (.int .i64 0) ∧ Tr w' B g s (ls.take n) F ∧ Fr F w w' := by
  obtain ⟨gk, go, v0, h1, h2, h3, h4, h5, h6, h7, h8, h9, h10⟩ := hT
  have hl1 : (ls.take n).length = n := by rw [List.length_take]; omega
  have hlen := storedL_len s ls
  have hcm := cnt_mono hn
  obtain ⟨A, c, hv, hr⟩ := h3.row (fun _ => False) (fun _ _ h => h)
  have hcap := hr.2.1
  have hcl := cnt_le ls.length
  have hn2 : n ≤ 65536 := by omega
  have hcn2 : cnt n ≤ 131072 := by omega
  have CC := Kp.mk (fun W => count_calls n (by omega) W)
  have HFIN : Kp (∀ W1, Fr (fun _ => False) w W1 → Tr ((W1.setCell ⟨g, 4, none⟩ (.slice A (cnt n) (cnt n))).setCell ⟨g, 5, none⟩ (.int .i64 (n : Int))) B g s (ls.take n) F ∧ Fr F w ((W1.setCell ⟨g, 4, none⟩ (.slice A (cnt n) (cnt n))).setCell ⟨g, 5, none⟩ (.int .i64 (n : Int)))) := ⟨fun W1 hf => by
    have hf4 : Fr (fun q => q = g) W1 (W1.setCell ⟨g, 4, none⟩ (.slice A (cnt n) (cnt n))) := Fr.set (S := fun q => q = g) (a := ⟨g, 4, none⟩) (Fr.refl _ W1) (fun _ => rfl) _
    have hf5 : Fr (fun q => q = g) W1 ((W1.setCell ⟨g, 4, none⟩ (.slice A (cnt n) (cnt n))).setCell ⟨g, 5, none⟩ (.int .i64 (n : Int))) := Fr.set (S := fun q => q = g) (a := ⟨g, 5, none⟩) hf4 (fun _ => rfl) _
    have hb := ((h1.fr hf (fun h => h)).set 4 (.slice A (cnt n) (cnt n))).set 5 (.int .i64 (n : Int))
    have hne : g ≠ gk ∧ g ≠ go := ⟨fun e => h9 (e ▸ h6), fun e => h10 (e ▸ h6)⟩
    subst hv
    have hcut := HLst.cut (A := A) (c := c) h3 (cnt n) (by rw [hlen]; exact hcm)
    have hown : (Value.slice A (cnt n) (cnt n)).ownBlock = (Value.slice A (storedL s ls).length c).ownBlock := by cases A <;> rfl
    refine ⟨⟨gk, go, .slice A (cnt n) (cnt n), by rw [hl1]; exact hb, ((h2.fr hf (fun h => h) (fun h => h)).fr hf5 (fun e => hne.1 e.symm) (fun e => hne.2 e.symm)), ?_, fun x hx => h4 x (List.mem_of_mem_take hx), by rw [hl1]; omega, h6, (fun k hk => h7 k (by rw [← hown]; exact hk)), h8, h9, h10⟩, (hf.mono (S' := F) (fun _ _ h => h.elim)).trans hf5 (fun q _ e => by rw [e]; exact h6)⟩
    rw [storedL_take s ls n hn]
    exact (hcut.keep hf (fun _ _ h => h)).keep hf5 (fun k hk e => (h7 k (by rw [← hown]; exact hk)).2 e)⟩
  have HB := Kp.mk h1
  obtain ⟨m, hm⟩ : ∃ m, m = ls.length := ⟨_, rfl⟩
  obtain ⟨N, hN⟩ : ∃ N, N = (storedL s ls).length := ⟨_, rfl⟩
  rw [← hN] at hv hlen hcap
  subst hv
  rw [← hm] at hn hlen
  have HB1 : Kp (Blk w g 111 (treeCells gk go s (.slice A N c) m)) := ⟨by rw [hm]; exact HB.out⟩
  have hnm : (n : Int) ≤ (m : Int) := by omega
  have hnn : ¬ (m : Int) < (n : Int) := by omega
  have hn0 : ¬ (n : Int) < 0 := by omega
  have hcN : cnt n ≤ N := by rw [hlen, hm]; exact hcm
  have hcNi : (cnt n : Int) ≤ (N : Int) := by omega
  have hcc : cnt n ≤ c := by omega
  have hcci : (cnt n : Int) ≤ (c : Int) := by omega
  generalize cnt n = q at CC HFIN hcn2 hcN hcNi hcc hcci
  have c5 : w.cell? ⟨g, 5, none⟩ = some (.int .i64 (m : Int)) := HB1.out.cell 5 _ rfl
  clear h1 h2 h3 h4 h5 h6 h7 h8 h9 h10 hN hlen hcm hr hcl hl1 hm HB hcap hn
  go_enter Tryd.func22, Tryd.ntmps22
  go_wp2_with fail
  refine (CC.out w).mono ?_
  rintro e W1 ⟨rfl, hf⟩
  have HF := Kp.mk hf
  have HBF := HB1.out.fr hf (fun h => h)
  have c4 : W1.cell? ⟨g, 4, none⟩ = some (.slice A N c) := HBF.cell 4 _ rfl
  have f4 : W1.frozen? ⟨g, 4, none⟩ = false := HBF.free 4
  have c5' : W1.cell? ⟨g, 5, none⟩ = some (.int .i64 (m : Int)) := HBF.cell 5 _ rfl
  have f5 : W1.frozen? ⟨g, 5, none⟩ = false := HBF.free 5
  clear hf CC c5 HBF HB1
  go_wp2_with fail
  go_ret
  exact ⟨rfl, HFIN.out W1 HF.out⟩
set_option maxHeartbeats 4000000 in
set_option maxRecDepth 100000 in
theorem Load_no (k : Int) (A : Option Addr) (c : Nat) (L : List (List Int)) (w : World) (code : Int) (hcode : (code == 0) = false) (CC : Calls Tryd.prog 39 #[.int .i64 k, .slice A L.length c] w fun e w' => e = .returned (.int .i64 code) ∧ Fr (fun _ => False) w w') :
    Calls Tryd.prog 41 #[.int .i64 k, .slice A L.length c] w fun e w' => e = .returned (.tuple #[.pointer none, .int .i64 code]) ∧ Fr (fun _ => False) w w' := by
  have CC := Kp.mk CC
  obtain ⟨len, hlen⟩ : ∃ len, len = L.length := ⟨_, rfl⟩
  rw [← hlen] at CC ⊢
  clear hlen
  go_enter Tryd.func41, Tryd.ntmps41
  go_wp2_with fail
  refine CC.out.mono ?_
  rintro e W1 ⟨rfl, hf⟩
  have HF := Kp.mk hf
  clear hf CC
  go_wp2_with fail
  go_ret2
  exact ⟨rfl, HF.out⟩
set_option maxHeartbeats 4000000 in
set_option maxRecDepth 100000 in
theorem Load_calls (k : Int) (A : Option Addr) (c : Nat) (L : List (List Int)) (n : Nat) (w : World) (hL : Laid w) (hX : HRow w (fun _ => False) A c L) (h : L.length ≤ 131071) (hn : cnt n = L.length) (hn2 : n ≤ 65536) (hg : goodL (strength k) L n = true) :
    Calls Tryd.prog 41 #[.int .i64 k, .slice A L.length c] w fun e w' => ∃ g F', e = .returned (.tuple #[.pointer (some ⟨g, 0, none⟩), .int .i64 0]) ∧ Tr w' w.heap.size g (strength k) (leavesOf [] L n) F' ∧ Fr (fun _ => False) w w' := by
  have CC := Check_calls k A c L n w hL hX h hn hn2
  rw [chkCode, if_pos hg] at CC
  have CC := Kp.mk CC
  have CN := Kp.mk (fun W => New_raw k W)
  have CF : Kp (∀ W, Calls Tryd.prog 63 #[.int .i64 (L.length : Int)] W fun e w' => e = .returned (.int .i64 (n : Int)) ∧ Fr (fun _ => False) W w') := ⟨fun W => by
    have q := filled_calls (cnt n) n (by omega) (isFil_cnt n (by omega)) W
    rw [hn] at q
    exact q⟩
  have hl32 := leaves_32 hn hX.1
  have hll := leavesOf_len ([] : List Int) L n
  have hst := goodL_eq hg
  obtain ⟨s, hs⟩ : ∃ s, s = strength k := ⟨_, rfl⟩
  rw [← hs] at CN hst ⊢
  have HX := Kp.mk hX
  have HST := Kp.mk hst
  obtain ⟨len, hlen⟩ : ∃ len, len = L.length := ⟨_, rfl⟩
  have HLEN := Kp.mk hlen
  have H131 := Kp.mk h
  rw [← hlen] at CC CF ⊢
  have HL32 := Kp.mk hl32
  have HLL := Kp.mk hll
  have HN2 := Kp.mk hn2
  clear hs hX hst hlen h hn hn2 hg hl32 hll hL
  go_enter Tryd.func41, Tryd.ntmps41
  go_wp2_with fail
  refine CC.out.mono ?_
  rintro e W1 ⟨rfl, hf⟩
  have HF1 := Kp.mk hf
  clear hf CC
  go_wp2_with fail
  refine (CN.out W1).mono ?_
  rintro e W2 ⟨g, gk, go, rfl, hb, hH, hg1, hgk, hgo, hsz, hf⟩
  have HF2 := Kp.mk (HF1.out.trans hf (fun _ _ h => h))
  have HG : Kp (w.heap.size ≤ g) := ⟨by have := HF1.out.size; omega⟩
  have HB2 := Kp.mk hb
  have HH2 := Kp.mk hH
  have HGK : Kp (gk < g ∧ go < g) := ⟨⟨hgk, hgo⟩⟩
  have HX2 := Kp.mk (HX.out.fr HF2.out)
  have c4 : W2.cell? ⟨g, 4, none⟩ = some (.slice none 0 0) := hb.cell 4 _ rfl
  clear hb hH hg1 hgk hgo hsz hf HF1 CN
  go_upto_region 5 with (fail)
  have hbs : w.heap.size ≤ W2.heap.size := HF2.out.size
  obtain ⟨v3, W3, hrun, hown, hgr, hat⟩ := run_appendH W2 W2.heap.size (.slice none 0 0) [] (HOwn.nil _ _) A len c L HLEN.out HX2.out (by have := H131.out; simp only [List.length_nil]; omega) (Nat.le_refl _)
  have hf3 : Fr (fun _ => False) W2 W3 := (Fr.refl (fun _ => False) W2).grown hgr (fun q _ h => by cases h)
  rw [List.nil_append] at hown
  obtain ⟨A3, c3, hv3, hr3⟩ := hown.row (fun _ => False) (fun _ _ h => h)
  have hlt3 := hown.lt
  subst hv3
  have HO3 : Kp (HOwn W3 w.heap.size (.slice A3 L.length c3) L) := ⟨HOwn.low hown hbs⟩
  have HB3 := Kp.mk (HB2.out.fr hf3 (fun h => h))
  have HH3 := Kp.mk (HH2.out.fr hf3 (fun h => h) (fun h => h))
  have HF3 := Kp.mk (HF2.out.trans hf3 (fun _ _ h => h))
  have HNE : Kp (∀ q, (Value.slice A3 L.length c3).ownBlock = some q → g < q) := ⟨fun q hq => by
    have h1 := (hlt3 q hq).2
    have h2 := HB2.out.lt
    omega⟩
  have c4' : W3.cell? ⟨g, 4, none⟩ = some (.slice none 0 0) := HB3.out.cell 4 _ rfl
  have f4' : W3.frozen? ⟨g, 4, none⟩ = false := HB3.out.free 4
  rw [← HLEN.out] at hrun HO3 HNE
  clear hown hgr hat hf3 hlt3 hr3 hbs HB2 HH2 HF2 HX2 HX
  go_upto_region 6 with (at_builtin; refine wpList_apRun rfl hrun _ _ rfl rfl rfl rfl ?_)
  have hfs : Fr (fun q => q = g) W3 (W3.setCell ⟨g, 4, none⟩ (.slice A3 len c3)) := Fr.set (S := fun q => q = g) (a := ⟨g, 4, none⟩) (Fr.refl _ W3) (fun _ => rfl) _
  have HB4 : Kp (Blk (W3.setCell ⟨g, 4, none⟩ (.slice A3 len c3)) g 111 (treeCells gk go s (.slice A3 len c3) 0)) := ⟨HB3.out.set 4 _⟩
  have HO4 := Kp.mk (HO3.out.keep hfs (fun q hq e => by have := HNE.out q hq; omega))
  have HH4 := Kp.mk (HH3.out.fr hfs (by have := HGK.out; omega) (by have := HGK.out; omega))
  have HF4 := Kp.mk (HF3.out.trans hfs (fun q hq h => by have := HG.out; omega))
  generalize W3.setCell ⟨g, 4, none⟩ (.slice A3 len c3) = W4 at HB4 HO4 HH4 HF4 ⊢
  clear hfs HB3 HO3 HH3 HF3 c4 c4' f4' hrun
  go_wp2_with fail
  refine (CF.out W4).mono ?_
  rintro e W5 ⟨rfl, hf⟩
  have HB5 := Kp.mk (HB4.out.fr hf (fun h => h))
  have HO5 := Kp.mk (HO4.out.keep hf (fun _ _ h => h))
  have HH5 := Kp.mk (HH4.out.fr hf (fun h => h) (fun h => h))
  have HF5 := Kp.mk (HF4.out.trans hf (fun _ _ h => h))
  have c5 : W5.cell? ⟨g, 5, none⟩ = some (.int .i64 0) := HB5.out.cell 5 _ rfl
  have f5 : W5.frozen? ⟨g, 5, none⟩ = false := HB5.out.free 5
  clear hf HB4 HO4 HH4 HF4 CF
  go_wp2_with fail
  go_ret2
  have hfs : Fr (fun q => q = g) W5 (W5.setCell ⟨g, 5, none⟩ (.int .i64 (n : Int))) := Fr.set (S := fun q => q = g) (a := ⟨g, 5, none⟩) (Fr.refl _ W5) (fun _ => rfl) _
  refine ⟨g, fun q => q = g ∨ (Value.slice A3 len c3).ownBlock = some q, rfl, ⟨gk, go, .slice A3 len c3, ?_, HH5.out.fr hfs (by have := HGK.out; omega) (by have := HGK.out; omega), ?_, HL32.out, by rw [HLL.out]; exact HN2.out, .inl rfl, (fun q hq => ⟨.inr hq, fun e => by have := HNE.out q hq; omega⟩), ?_, ?_, ?_⟩, HF5.out.trans hfs (fun q hq h => by have := HG.out; omega)⟩
  · rw [HLL.out]; exact HB5.out.set 5 _
  · rw [← HST.out]; exact .inl (HO5.out.keep hfs (fun q hq e => by have := HNE.out q hq; omega))
  · rintro q (rfl | hq)
    · exact HG.out
    · exact (HO5.out.lt q hq).2
  · rintro (e | hq)
    · have := HGK.out; omega
    · have h1 := HNE.out gk hq; have h2 := HGK.out; omega
  · rintro (e | hq)
    · have := HGK.out; omega
    · have h1 := HNE.out go hq; have h2 := HGK.out; omega
set_option maxHeartbeats 4000000 in
set_option maxRecDepth 100000 in
theorem Build_calls (k : Int) (A : Option Addr) (c : Nat) (L : List (List Int)) (w : World) (hL : Laid w) (hX : HRow w (fun _ => False) A c L) (h : L.length ≤ 65536) :
    Calls Tryd.prog 26 #[.int .i64 k, .slice A L.length c] w fun e w' => ∃ v, e = .returned (.tuple #[v, .int .i64 0]) ∧ HLst w' w.heap.size v (storedL (strength k) L) ∧ Fr (fun _ => False) w w' := by
  have CN := Kp.mk (New_calls k w)
  have hs := strength_le k
  obtain ⟨s, hse⟩ : ∃ s, s = strength k := ⟨_, rfl⟩
  rw [← hse] at CN ⊢
  have CA : Kp (∀ W x g ls F, Fr (fun _ => False) w W → x.length = 32 → Tr W w.heap.size g s ls F → ls.length < 65536 → Calls Tryd.prog 20 #[.pointer (some ⟨g, 0, none⟩), .agg (bytes x).toArray] W fun e w' => e = .returned (.tuple #[.int .i64 (ls.length : Int), .int .i64 0]) ∧ ∃ F', Tr w' w.heap.size g s (ls ++ [x]) F' ∧ (∀ q, F' q → F q ∨ W.heap.size ≤ q) ∧ Fr F W w') :=
    ⟨fun W x g ls F hf hx hT hl => Add_calls x hx w.heap.size g s ls F W (hL.fr hf (fun _ h => h.elim)) hL.size hT hl⟩
  have HX := Kp.mk hX
  obtain ⟨len, hlen⟩ : ∃ len, len = L.length := ⟨_, rfl⟩
  have HLEN := Kp.mk hlen
  rw [← hlen] at h ⊢
  have H65 := Kp.mk h
  have hlg : decide ((65536 : Int) < (len : Int)) = false := decide_eq_false (by omega)
  have hlg2 : len ≤ 70000 := by omega
  clear hse hX hlen hs h hL
  go_enter Tryd.func26, Tryd.ntmps26
  go_wp2_with fail
  refine CN.out.mono ?_
  rintro e W1 ⟨g, rfl, hT, hf⟩
  have HF1 := Kp.mk hf
  have HT1 := Kp.mk hT
  clear hT hf CN
  go_upto_region 5 with (fail)
  go_loopw [16] (fun a wr => ∃ (i : Nat) (F : Nat → Prop), a = .int .i64 (i : Int) ∧ i ≤ len ∧ Kp (Tr wr w.heap.size g s (L.take i) F) ∧ Kp (Fr (fun _ => False) w wr)) (fun a _ => len - (intOf a).toNat)
  case atStart => exact ⟨0, _, rfl, Nat.zero_le _, HT1, HF1⟩
  case round =>
    clear HT1 HF1
    obtain ⟨i, F, rfl, hi, HT, HF⟩ := hrel
    by_cases hlt : i < len
    · have hil : i < L.length := by rw [← HLEN.out]; exact hlt
      obtain ⟨b, off, hA, _, _, _⟩ := HX.out.at i hil
      subst hA
      obtain ⟨m1, m2⟩ := (HX.out.fr HF.out).mid i hil
      have hx32 : (L[i]'hil).length = 32 := HX.out.1 _ (List.getElem_mem _)
      have HTK := Kp.mk (show L.take (i + 1) = L.take i ++ [L[i]'hil] from List.take_succ_eq_append_getElem _)
      have HTL : Kp ((L.take i).length = i) := ⟨by rw [List.length_take]; omega⟩
      generalize L[i]'hil = x at m2 hx32 HTK
      have HX32 := Kp.mk hx32
      have HNEW : Kp (Blk (wr.alloc (.cells #[.int .u8 0, .int .u8 0, .int .u8 0, .int .u8 0, .int .u8 0, .int .u8 0, .int .u8 0, .int .u8 0, .int .u8 0, .int .u8 0, .int .u8 0, .int .u8 0, .int .u8 0, .int .u8 0, .int .u8 0, .int .u8 0, .int .u8 0, .int .u8 0, .int .u8 0, .int .u8 0, .int .u8 0, .int .u8 0, .int .u8 0, .int .u8 0, .int .u8 0, .int .u8 0, .int .u8 0, .int .u8 0, .int .u8 0, .int .u8 0, .int .u8 0, .int .u8 0] 25)) wr.heap.size 25 [.int .u8 0, .int .u8 0, .int .u8 0, .int .u8 0, .int .u8 0, .int .u8 0, .int .u8 0, .int .u8 0, .int .u8 0, .int .u8 0, .int .u8 0, .int .u8 0, .int .u8 0, .int .u8 0, .int .u8 0, .int .u8 0, .int .u8 0, .int .u8 0, .int .u8 0, .int .u8 0, .int .u8 0, .int .u8 0, .int .u8 0, .int .u8 0, .int .u8 0, .int .u8 0, .int .u8 0, .int .u8 0, .int .u8 0, .int .u8 0, .int .u8 0, .int .u8 0]) := ⟨Blk.new wr _ _⟩
      clear hil hx32
      go_upto_region 7 with (refine wpList_storeH rfl rfl (Operand.tmp 8) (Operand.tmp 19) rfl wr.heap.size _ _ x rfl (by rfl) HNEW.out rfl HX32.out ?_)
      obtain ⟨g8, hg8⟩ : ∃ g8, g8 = wr.heap.size := ⟨_, rfl⟩
      obtain ⟨W4, hW4⟩ : ∃ W4, W4 = (wr.alloc (.cells #[.int .u8 0, .int .u8 0, .int .u8 0, .int .u8 0, .int .u8 0, .int .u8 0, .int .u8 0, .int .u8 0, .int .u8 0, .int .u8 0, .int .u8 0, .int .u8 0, .int .u8 0, .int .u8 0, .int .u8 0, .int .u8 0, .int .u8 0, .int .u8 0, .int .u8 0, .int .u8 0, .int .u8 0, .int .u8 0, .int .u8 0, .int .u8 0, .int .u8 0, .int .u8 0, .int .u8 0, .int .u8 0, .int .u8 0, .int .u8 0, .int .u8 0, .int .u8 0] 25)).setRow wr.heap.size (bytes x).toArray := ⟨_, rfl⟩
      have hfr := fr_row (Fr.refl (fun _ => False) wr) (.cells #[.int .u8 0, .int .u8 0, .int .u8 0, .int .u8 0, .int .u8 0, .int .u8 0, .int .u8 0, .int .u8 0, .int .u8 0, .int .u8 0, .int .u8 0, .int .u8 0, .int .u8 0, .int .u8 0, .int .u8 0, .int .u8 0, .int .u8 0, .int .u8 0, .int .u8 0, .int .u8 0, .int .u8 0, .int .u8 0, .int .u8 0, .int .u8 0, .int .u8 0, .int .u8 0, .int .u8 0, .int .u8 0, .int .u8 0, .int .u8 0, .int .u8 0, .int .u8 0] 25) (bytes x).toArray
      rw [← hW4] at hfr
      have hX4 : Blk W4 g8 25 (bytes x) := by rw [hW4, hg8]; exact blk_row wr _ _ _
      have Z4 : (Tryd.prog.info? 25).map (·.size) = some (bytes x).length := by rw [bytes_length, HX32.out]; kernel_rfl
      have ok8 := rowOk_blk hX4 Z4
      have at8 := rowAt_blk hX4
      have HF4 := Kp.mk (HF.out.trans hfr (fun _ _ h => h))
      have HT4 := Kp.mk (HT.out.keep hfr (fun _ _ h => h) (fun _ _ _ _ _ => ⟨fun h => h, fun h => h⟩))
      rw [← hW4, ← hg8]
      clear hW4 hg8 hfr HNEW m1 m2 hX4 Z4 HF HT
      go_wp2_with fail
      refine (CA.out W4 x g (L.take i) F HF4.out HX32.out HT4.out (by have h1 := HTL.out; have h2 := H65.out; omega)).mono ?_
      rintro e W5 ⟨rfl, F', hT, hF, hf⟩
      have HT5 : Kp (Tr W5 w.heap.size g s (L.take (i + 1)) F') := ⟨by rw [HTK.out]; exact hT⟩
      have HF5 : Kp (Fr (fun _ => False) w W5) := ⟨HF4.out.trans hf (fun q hq h => by
        obtain ⟨_, _, _, _, _, _, _, _, _, _, h8, _⟩ := HT4.out
        have := h8 q h
        omega)⟩
      clear hT hF hf ok8 at8 HT4 HF4
      go_wp2_with fail
      refine ⟨⟨i + 1, F', by go_num, hlt, HT5, HF5⟩, ?_⟩
      simp only [intOf]
      omega
    · obtain rfl : i = len := by omega
      obtain ⟨gk, go, v, hb, _, hst, _⟩ := HT.out
      have c4 : wr.cell? ⟨g, 4, none⟩ = some v := hb.cell 4 _ rfl
      have HST := Kp.mk hst
      clear hb hst
      go_wp2_with fail
      go_ret2
      have h1 := HST.out
      rw [List.take_of_length_le (by rw [← HLEN.out]; exact Nat.le_refl _)] at h1
      exact ⟨v, rfl, h1, HF.out⟩
end Go.Proofs.YtjbhaopocabfaaaDoor.Sha
