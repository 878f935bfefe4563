/-
  The walk of TlogFolds.
-/
import Derived.Test.YtjbhaopocabfaaaDoorTold
namespace Go.Proofs.YtjbhaopocabfaaaDoor.Sha
open Go.RowKit Go.Proofs.YtjbhaopocabfaaaDoor.Mem Go.Proofs.YtjbhaopocabfaaaDoorW.PrintWords Go.Proofs.YtjbhaopocabfaaaDoorW.PrintLast Go.Proofs.YtjbhaopocabfaaaDoor.Pl Go.Proofs.YtjbhaopocabfaaaDoor.Wk
attribute [local go_sem ↓] Go.wp_at_zero Go.wp_at_succ wp_load_hash wp_store_hash wp_load_mid23 wp_load_mid25 wp_store_mid25 wp_build_hash
attribute [local go_sem] rowAt_drew rowOk_drew midOk_drew midAt_drew rowBlock rowCells rowOff midFree_drew
theorem rootL_len (s : Nat) (hs : s ≤ 32) (L : List (List Int)) (hL : ∀ x ∈ L, x.length = 32) (m r : Nat) (hr : cnt r = L.length) (hr2 : r ≤ 281474976710656) (hm : m ≤ r) : (rootL s L m).length = 32 := by
  refine foldL_len s hs _ fun x hx => ?_
  have hin := peak_in m r hm hr2
  rw [hr] at hin
  obtain ⟨p, hp, rfl⟩ := List.mem_map.1 hx
  obtain ⟨i, hi, rfl⟩ := List.getElem_of_mem hp
  have h1 := hin i hi
  simp only [List.getD, List.getElem?_eq_getElem hi, Option.getD_some] at h1
  have h2 : ((pks m 49 0)[i]).toNat < L.length := by omega
  simp only [List.getD, List.getElem?_eq_getElem h2, Option.getD_some]
  exact hL _ (List.getElem_mem _)
theorem fold_one (s : Nat) : ∀ (L : List (List Int)) (h : L.length = 1), L[0]'(by omega) = foldL s L
  | [_], _ => rfl
theorem own_at {w : World} {base : Nat} {v : Value} {L : List (List Int)} (h : HOwn w base v L) : ∀ A n c, v = .slice A n c → L = [] ∨ ∃ b, A = some ⟨b, 0, none⟩ := by
  intro A n c hv
  rcases h.2.2 with ⟨_, h0⟩ | ⟨g, cap, cur, hv2, _⟩
  · exact .inl (List.eq_nil_of_length_eq_zero h0)
  · rw [hv] at hv2
    cases hv2
    exact .inr ⟨g, rfl⟩
set_option maxHeartbeats 4000000 in
set_option maxRecDepth 100000 in
theorem folds_0 (k : Int) (A : Option Addr) (c : Nat) (L : List (List Int)) (n : Int) (w : World) (hL : Laid w) (hX : HRow w (fun _ => False) A c L) (hb : L.length * 32 ≤ 140737488351232) (hc : L.length = 0) :
    Calls Tryd.prog 5 #[.int .i64 k, .slice A L.length c, .int .i64 n] w fun e w' => e = .returned (.bool true) ∧ Fr (fun _ => False) w w' := by
  have CH := Kp.mk (hashes8_calls A c L w hX (by omega))
  have LW : ∀ W, Fr (fun _ => False) w W → Laid W := fun W hf => hL.fr hf (fun _ h => h.elim)
  have hs1 := strength_le k
  have CT : Kp (∀ W, Fr (fun _ => False) w W → Calls Tryd.prog 32 #[] W fun e w' => e = .returned (.bool true) ∧ Fr (fun _ => False) W w') := ⟨fun W hf => told_calls W (LW W hf)⟩
  have CF : Kp (∀ W A1 c1, Fr (fun _ => False) w W → HRow W (fun _ => False) A1 c1 L → Calls Tryd.prog 31 #[.int .i64 k, .slice A1 L.length c1] W fun e w' => e = .returned (.agg (bytes (foldL (strength k) L)).toArray) ∧ Fr (fun _ => False) W w') := ⟨fun W A1 c1 hf hx => Fold_calls k A1 c1 L W (LW W hf) hx (by omega)⟩
  have hfl := foldL_len (strength k) hs1 L hX.1
  have hX32 := hX.1
  have CFO : Kp (∀ (r : List (List Int)) W A1 c1, Fr (fun _ => False) w W → HRow W (fun _ => False) A1 c1 r → r.length ≤ 4398046511104 → Calls Tryd.prog 31 #[.int .i64 k, .slice A1 r.length c1] W fun e w' => e = .returned (.agg (bytes (foldL (strength k) r)).toArray) ∧ Fr (fun _ => False) W w') := ⟨fun r W A1 c1 hf hx hl => Fold_calls k A1 c1 r W (LW W hf) hx (by omega)⟩
  have CNO : Kp (∀ W l r, Fr (fun _ => False) w W → l.length = 32 → r.length = 32 → Calls Tryd.prog 15 #[.int .i64 k, .agg (bytes l).toArray, .agg (bytes r).toArray] W fun e w' => e = .returned (.agg (bytes (nodeL (strength k) l r)).toArray) ∧ Fr (fun _ => False) W w') := ⟨fun W l r hf hl hr => nodeHash_calls k l r hl hr W (LW W hf)⟩
  have CRL : Kp (131071 < L.length → ∀ W A1 c1, Calls Tryd.prog 34 #[.int .i64 k, .slice A1 L.length c1, .int .i64 n] W fun e w' => e = .returned (.tuple #[.agg (bytes z32).toArray, .int .i64 2]) ∧ Fr (fun _ => False) W w') := ⟨fun h W A1 c1 => Root_long k A1 c1 L n W h⟩
  have CRN : Kp (L.length ≤ 131071 → (∀ r, r ≤ 281474976710656 → cnt r ≠ L.length) → ∀ W A1 c1, Calls Tryd.prog 34 #[.int .i64 k, .slice A1 L.length c1, .int .i64 n] W fun e w' => e = .returned (.tuple #[.agg (bytes z32).toArray, .int .i64 80]) ∧ Fr (fun _ => False) W w') := ⟨fun h h2 W A1 c1 => Root_not k A1 c1 L n W h h2⟩
  have CRA : Kp (L.length ≤ 131071 → ∀ r, cnt r = L.length → r ≤ 281474976710656 → (n < 0 ∨ (r : Int) < n) → ∀ W A1 c1, Calls Tryd.prog 34 #[.int .i64 k, .slice A1 L.length c1, .int .i64 n] W fun e w' => e = .returned (.tuple #[.agg (bytes z32).toArray, .int .i64 1]) ∧ Fr (fun _ => False) W w') := ⟨fun h r h1 h2 h3 W A1 c1 => Root_arg k A1 c1 L n W h r h1 h2 h3⟩
  have CRY : Kp (L.length ≤ 131071 → ∀ r m : Nat, cnt r = L.length → r ≤ 281474976710656 → m ≤ r → n = (m : Int) → ∀ W A1 c1, Fr (fun _ => False) w W → HRow W (fun _ => False) A1 c1 L → Calls Tryd.prog 34 #[.int .i64 k, .slice A1 L.length c1, .int .i64 n] W fun e w' => e = .returned (.tuple #[.agg (bytes (rootL (strength k) L m)).toArray, .int .i64 0]) ∧ Fr (fun _ => False) W w') := ⟨fun h r m h1 h2 h3 h4 W A1 c1 hf hx => by rw [h4]; exact Root_yes k A1 c1 L m r W (LW W hf) hx h h1 h2 h3⟩
  have CPO : Kp (L.length ≤ 131071 → ∀ r m : Nat, cnt r = L.length → r ≤ 281474976710656 → m ≤ r → n = (m : Int) → ∀ W A1 c1, HRow W (fun _ => False) A1 c1 L → Calls Tryd.prog 35 #[.slice A1 L.length c1, .int .i64 n] W fun e w' => ∃ v, e = .returned v ∧ HOwn w' W.heap.size v ((pks m 49 0).map fun p => L.getD p.toNat []) ∧ Fr (fun _ => False) W w') := ⟨fun h r m h1 h2 h3 h4 W A1 c1 hx => by rw [h4]; exact peaksOf_calls A1 c1 L m r W hx h1 h2 h3 h⟩
  have CFP : Kp (∀ m : Nat, ∀ W A2 c2, Fr (fun _ => False) w W → HRow W (fun _ => False) A2 c2 ((pks m 49 0).map fun p => L.getD p.toNat []) → Calls Tryd.prog 31 #[.int .i64 k, .slice A2 ((pks m 49 0).map fun p => L.getD p.toNat []).length c2] W fun e w' => e = .returned (.agg (bytes (rootL (strength k) L m)).toArray) ∧ Fr (fun _ => False) W w') := ⟨fun m W A2 c2 hf hx => Fold_calls k A2 c2 _ W (LW W hf) hx (by rw [List.length_map]; have := pks_len m; omega)⟩
  have HRL : Kp (∀ r m : Nat, cnt r = L.length → r ≤ 281474976710656 → m ≤ r → (rootL (strength k) L m).length = 32) := ⟨fun r m h1 h2 h3 => rootL_len (strength k) hs1 L hX32 m r h1 h2 h3⟩
  have CE : ∀ W, Fr (fun _ => False) w W → Calls Tryd.prog 11 #[.int .i64 k] W fun e w' => e = .returned (.agg (bytes (foldL (strength k) L)).toArray) ∧ Fr (fun _ => False) W w' := fun W hf => by
    rw [List.eq_nil_of_length_eq_zero hc]
    exact emptyHash_calls k W (LW W hf)
  obtain ⟨len, hlen⟩ : ∃ len, len = L.length := ⟨_, rfl⟩
  obtain ⟨FL, hFL⟩ : ∃ FL, FL = foldL (strength k) L := ⟨_, rfl⟩
  have HFL : Kp (FL.length = 32) := ⟨by rw [hFL]; exact hfl⟩
  rw [← hFL] at CF
  rw [← hlen] at CF CRL CRN CRA CRY CPO hb hc ⊢
  have HLEN := Kp.mk hlen
  have HX32 := Kp.mk hX32
  have HFE := Kp.mk hFL
  have HHC := Kp.mk hc
  clear hfl hX32 hs1 hFL hlen LW hL hX hc
  go_enter Tryd.func5, Tryd.ntmps5
  go_wp2_with fail
  rw [HLEN.out]
  refine CH.out.mono ?_
  rintro e W1 ⟨v, rfl, hO, hf⟩
  have HF1 := Kp.mk hf
  have hA1 := own_at hO
  obtain ⟨A1, c1, hv, hR⟩ := hO.row (fun _ => False) (fun _ _ h => h)
  rw [← HLEN.out] at hv
  subst hv
  have HR1 := Kp.mk hR
  have HB1 := Kp.mk (hA1 A1 len c1 rfl)
  clear hO hf hR CH
  go_wp2_with fail
  refine (CF.out W1 A1 c1 HF1.out HR1.out).mono ?_
  rintro e W2 ⟨rfl, hf⟩
  have HF2 := Kp.mk (HF1.out.trans hf (fun _ _ h => h))
  have HR2 := Kp.mk (HR1.out.fr hf)
  have hnew : Blk (W2.alloc (.cells #[.int .u8 0, .int .u8 0, .int .u8 0, .int .u8 0, .int .u8 0, .int .u8 0, .int .u8 0, .int .u8 0, .int .u8 0, .int .u8 0, .int .u8 0, .int .u8 0, .int .u8 0, .int .u8 0, .int .u8 0, .int .u8 0, .int .u8 0, .int .u8 0, .int .u8 0, .int .u8 0, .int .u8 0, .int .u8 0, .int .u8 0, .int .u8 0, .int .u8 0, .int .u8 0, .int .u8 0, .int .u8 0, .int .u8 0, .int .u8 0, .int .u8 0, .int .u8 0] 25)) W2.heap.size 25 [.int .u8 0, .int .u8 0, .int .u8 0, .int .u8 0, .int .u8 0, .int .u8 0, .int .u8 0, .int .u8 0, .int .u8 0, .int .u8 0, .int .u8 0, .int .u8 0, .int .u8 0, .int .u8 0, .int .u8 0, .int .u8 0, .int .u8 0, .int .u8 0, .int .u8 0, .int .u8 0, .int .u8 0, .int .u8 0, .int .u8 0, .int .u8 0, .int .u8 0, .int .u8 0, .int .u8 0, .int .u8 0, .int .u8 0, .int .u8 0, .int .u8 0, .int .u8 0] := Blk.new W2 _ _
  clear hf CF
  have hE0 : ((len : Int) == 0) = true := by have := HHC.out; rw [beq_iff_eq]; omega
  have hE1 : ((len : Int) == 1) = false := by have := HHC.out; rw [beq_eq_false_iff_ne]; omega
  rw [← HFE.out] at CE
  have CE2 := Kp.mk CE
  clear CE
  have HNEW := Kp.mk hnew
  clear hnew
  go_upto_region 7 with (refine wpList_storeH rfl rfl (Operand.tmp 8) (Operand.tmp 17) rfl W2.heap.size _ _ FL rfl rfl HNEW.out rfl HFL.out ?_)
  obtain ⟨g8, hg8⟩ : ∃ g8, g8 = W2.heap.size := ⟨_, rfl⟩
  obtain ⟨W3, hW3⟩ : ∃ W3, W3 = (W2.alloc (.cells #[.int .u8 0, .int .u8 0, .int .u8 0, .int .u8 0, .int .u8 0, .int .u8 0, .int .u8 0, .int .u8 0, .int .u8 0, .int .u8 0, .int .u8 0, .int .u8 0, .int .u8 0, .int .u8 0, .int .u8 0, .int .u8 0, .int .u8 0, .int .u8 0, .int .u8 0, .int .u8 0, .int .u8 0, .int .u8 0, .int .u8 0, .int .u8 0, .int .u8 0, .int .u8 0, .int .u8 0, .int .u8 0, .int .u8 0, .int .u8 0, .int .u8 0, .int .u8 0] 25)).setRow W2.heap.size (bytes FL).toArray := ⟨_, rfl⟩
  have hfr := fr_row (Fr.refl (fun _ => False) W2) (.cells #[.int .u8 0, .int .u8 0, .int .u8 0, .int .u8 0, .int .u8 0, .int .u8 0, .int .u8 0, .int .u8 0, .int .u8 0, .int .u8 0, .int .u8 0, .int .u8 0, .int .u8 0, .int .u8 0, .int .u8 0, .int .u8 0, .int .u8 0, .int .u8 0, .int .u8 0, .int .u8 0, .int .u8 0, .int .u8 0, .int .u8 0, .int .u8 0, .int .u8 0, .int .u8 0, .int .u8 0, .int .u8 0, .int .u8 0, .int .u8 0, .int .u8 0, .int .u8 0] 25) (bytes FL).toArray
  rw [← hW3] at hfr
  have H8 : Kp (Blk W3 g8 25 (bytes FL)) := ⟨by rw [hW3, hg8]; exact blk_row W2 _ _ _⟩
  have HF3 := Kp.mk (HF2.out.trans hfr (fun _ _ h => h))
  have HR3 := Kp.mk (HR2.out.fr hfr)
  rw [← hW3, ← hg8]
  clear hW3 hg8 hfr HNEW
  have sE : ∀ W, (Op.equalIn 10000 25 (.agg (bytes FL).toArray) (.agg (bytes FL).toArray)).run Tryd.prog W = .ok true W := fun W => by
    have h := eq32 FL FL HFL.out HFL.out W
    rw [decide_eq_true rfl] at h
    exact h
  refine start_ (n := 4) (S := fun w' => Lds w' 25 (.pointer (some ⟨g8, 0, none⟩)) (.agg (bytes FL).toArray)) (ds := []) #[false, false, false, false] (by kernel_rfl) rfl rfl (lds_blk H8.out.drew HFL.out) (fun hHeld => ?_)
  refine pure_ (i := 1) (N := some 34) (v := ?_) (a' := ?_) #[false, true, false, false] rfl rfl (by kernel_rfl) (fun _ _ _ h => h) (Or.inl ⟨by rfl, ?_⟩) ?_ ?_
  rotate_left
  · intro w'
    go_simp
    with_reducible rfl
  rotate_left
  · simp only [Act.put, List.setIfInBounds_toArray, List.set_cons_zero, List.set_cons_succ]
    rfl
  refine take_ (i := 0) (N := some 33) (v := ?_) (a' := ?_) #[true, true, false, false] rfl rfl (by kernel_rfl) (fun _ _ _ h => h) (Or.inl ⟨by rfl, ?_⟩) hHeld ?_ ?_
  rotate_left
  · intro w' s0
    refine Lds.run s0 (x := ?_) ?_ ?_
    · exact (Operand.tmp 8)
    · rfl
    · rfl
  rotate_left
  · simp only [Act.put, List.setIfInBounds_toArray, List.set_cons_zero, List.set_cons_succ]
    rfl
  refine one_ (i := 2) (N := some 35) #[true, true, true, false] rfl rfl (by kernel_rfl) (by decide) (fun K hK => ?_)
  refine goes_ Tryd.func11 (by kernel_rfl) rfl #[.int .i64 k] (by rfl) rfl rfl (by simp only [List.map_toArray, List.map_cons, List.map_nil]; rfl) ?_
  with_reducible refine (CE2.out _ (HF3.out.drew)).mono ?_
  rintro e a2 ⟨rfl, hq⟩
  refine ⟨_, rfl, ?_⟩
  have Fa2 : Kp (Fr (fun _ => False) W3 a2) := ⟨((Fr.refl (fun _ => False) W3).drew).trans hq (fun _ _ h => h)⟩
  clear hq
  refine hK.out _ _ (lds_blk (H8.out.fr Fa2.out (fun h => h)) HFL.out) (fun hHeld => ?_)
  clear hK K
  refine norm_ (a' := ?_) ?_ ?_
  rotate_left
  · show Act.put _ (some 35) _ = _
    simp only [Act.put, List.setIfInBounds_toArray, List.set_cons_zero, List.set_cons_succ]
    rfl
  refine pure_ (i := 3) (N := some 36) (v := ?_) (a' := ?_) #[true, true, true, true] rfl rfl (by kernel_rfl) (fun _ _ _ h => h) (Or.inl ⟨by rfl, ?_⟩) ?_ ?_
  rotate_left
  · intro w'
    go_simp
    with_reducible rfl
  rotate_left
  · simp only [Act.put, List.setIfInBounds_toArray, List.set_cons_zero, List.set_cons_succ]
    rfl
  refine done_ (by kernel_rfl) ?_
  have HF4 := Kp.mk (HF3.out.trans Fa2.out (fun _ _ h => h))
  have HR4 := Kp.mk (HR3.out.fr Fa2.out)
  clear CE2 Fa2 HF3 HR3 H8
  go_upto_region 12 with (fail)
  generalize a2 = W4 at HF4 HR4 ⊢
  go_wp2_with fail
  refine (CT.out W4 HF4.out).mono ?_
  rintro e W5 ⟨rfl, hq⟩
  have HF5 := Kp.mk (HF4.out.trans hq (fun _ _ h => h))
  have HR5 := Kp.mk (HR4.out.fr hq)
  clear hq CT HF4 HR4 hE0 hE1
  go_wp2_with fail
  by_cases hcnt : ∃ r, r ≤ 281474976710656 ∧ cnt r = len
  · obtain ⟨r, hr2, hr⟩ := hcnt
    have CRec := Records_yes r hr2 W5
    rw [hr] at CRec
    refine CRec.mono ?_
    rintro e W6 ⟨rfl, hq⟩
    have HF6 := Kp.mk (HF5.out.trans hq (fun _ _ h => h))
    have HR6 := Kp.mk (HR5.out.fr hq)
    clear hq CRec
    by_cases hn : n < 0 ∨ (r : Int) < n
    · by_cases hl : 131071 < len
      · go_wp2_with fail
        refine (CRL.out hl W6 _ c1).mono ?_
        rintro e W7 ⟨rfl, hq⟩
        have HF7 := Kp.mk (HF6.out.trans hq (fun _ _ h => h))
        have HR7 := Kp.mk (HR6.out.fr hq)
        have HNEW : Kp (Blk (W7.alloc (.cells #[.int .u8 0, .int .u8 0, .int .u8 0, .int .u8 0, .int .u8 0, .int .u8 0, .int .u8 0, .int .u8 0, .int .u8 0, .int .u8 0, .int .u8 0, .int .u8 0, .int .u8 0, .int .u8 0, .int .u8 0, .int .u8 0, .int .u8 0, .int .u8 0, .int .u8 0, .int .u8 0, .int .u8 0, .int .u8 0, .int .u8 0, .int .u8 0, .int .u8 0, .int .u8 0, .int .u8 0, .int .u8 0, .int .u8 0, .int .u8 0, .int .u8 0, .int .u8 0] 25)) W7.heap.size 25 [.int .u8 0, .int .u8 0, .int .u8 0, .int .u8 0, .int .u8 0, .int .u8 0, .int .u8 0, .int .u8 0, .int .u8 0, .int .u8 0, .int .u8 0, .int .u8 0, .int .u8 0, .int .u8 0, .int .u8 0, .int .u8 0, .int .u8 0, .int .u8 0, .int .u8 0, .int .u8 0, .int .u8 0, .int .u8 0, .int .u8 0, .int .u8 0, .int .u8 0, .int .u8 0, .int .u8 0, .int .u8 0, .int .u8 0, .int .u8 0, .int .u8 0, .int .u8 0]) := ⟨Blk.new W7 _ _⟩
        clear hq
        go_upto_region 16 with (refine wpList_storeH rfl rfl (Operand.tmp 11) (Operand.tmp 57) rfl W7.heap.size _ _ z32 rfl rfl HNEW.out rfl rfl ?_)
        obtain ⟨g11, hg11⟩ : ∃ g11, g11 = W7.heap.size := ⟨_, rfl⟩
        obtain ⟨W8, hW8⟩ : ∃ W8, W8 = (W7.alloc (.cells #[.int .u8 0, .int .u8 0, .int .u8 0, .int .u8 0, .int .u8 0, .int .u8 0, .int .u8 0, .int .u8 0, .int .u8 0, .int .u8 0, .int .u8 0, .int .u8 0, .int .u8 0, .int .u8 0, .int .u8 0, .int .u8 0, .int .u8 0, .int .u8 0, .int .u8 0, .int .u8 0, .int .u8 0, .int .u8 0, .int .u8 0, .int .u8 0, .int .u8 0, .int .u8 0, .int .u8 0, .int .u8 0, .int .u8 0, .int .u8 0, .int .u8 0, .int .u8 0] 25)).setRow W7.heap.size (bytes z32).toArray := ⟨_, rfl⟩
        have hfr := fr_row (Fr.refl (fun _ => False) W7) (.cells #[.int .u8 0, .int .u8 0, .int .u8 0, .int .u8 0, .int .u8 0, .int .u8 0, .int .u8 0, .int .u8 0, .int .u8 0, .int .u8 0, .int .u8 0, .int .u8 0, .int .u8 0, .int .u8 0, .int .u8 0, .int .u8 0, .int .u8 0, .int .u8 0, .int .u8 0, .int .u8 0, .int .u8 0, .int .u8 0, .int .u8 0, .int .u8 0, .int .u8 0, .int .u8 0, .int .u8 0, .int .u8 0, .int .u8 0, .int .u8 0, .int .u8 0, .int .u8 0] 25) (bytes z32).toArray
        rw [← hW8] at hfr
        have H11 : Kp (Blk W8 g11 25 (bytes z32)) := ⟨by rw [hW8, hg11]; exact blk_row W7 _ _ _⟩
        have HF8 := Kp.mk (HF7.out.trans hfr (fun _ _ h => h))
        have HR8 := Kp.mk (HR7.out.fr hfr)
        rw [← hW8, ← hg11]
        clear hW8 hg11 hfr HNEW
        have hlg : decide ((131071 : Int) < (len : Int)) = true := decide_eq_true (by omega)
        rcases hn with hn | hn
        · go_wp2_with (fail)
          go_ret
          exact ⟨rfl, HF8.out⟩
        · have hn0 : ¬ n < 0 := by omega
          go_wp2_with (fail)
          go_ret
          exact ⟨rfl, HF8.out⟩

      · go_wp2_with fail
        refine (CRA.out (by omega) r hr hr2 hn W6 _ c1).mono ?_
        rintro e W7 ⟨rfl, hq⟩
        have HF7 := Kp.mk (HF6.out.trans hq (fun _ _ h => h))
        have HR7 := Kp.mk (HR6.out.fr hq)
        have HNEW : Kp (Blk (W7.alloc (.cells #[.int .u8 0, .int .u8 0, .int .u8 0, .int .u8 0, .int .u8 0, .int .u8 0, .int .u8 0, .int .u8 0, .int .u8 0, .int .u8 0, .int .u8 0, .int .u8 0, .int .u8 0, .int .u8 0, .int .u8 0, .int .u8 0, .int .u8 0, .int .u8 0, .int .u8 0, .int .u8 0, .int .u8 0, .int .u8 0, .int .u8 0, .int .u8 0, .int .u8 0, .int .u8 0, .int .u8 0, .int .u8 0, .int .u8 0, .int .u8 0, .int .u8 0, .int .u8 0] 25)) W7.heap.size 25 [.int .u8 0, .int .u8 0, .int .u8 0, .int .u8 0, .int .u8 0, .int .u8 0, .int .u8 0, .int .u8 0, .int .u8 0, .int .u8 0, .int .u8 0, .int .u8 0, .int .u8 0, .int .u8 0, .int .u8 0, .int .u8 0, .int .u8 0, .int .u8 0, .int .u8 0, .int .u8 0, .int .u8 0, .int .u8 0, .int .u8 0, .int .u8 0, .int .u8 0, .int .u8 0, .int .u8 0, .int .u8 0, .int .u8 0, .int .u8 0, .int .u8 0, .int .u8 0]) := ⟨Blk.new W7 _ _⟩
        clear hq
        go_upto_region 16 with (refine wpList_storeH rfl rfl (Operand.tmp 11) (Operand.tmp 57) rfl W7.heap.size _ _ z32 rfl rfl HNEW.out rfl rfl ?_)
        obtain ⟨g11, hg11⟩ : ∃ g11, g11 = W7.heap.size := ⟨_, rfl⟩
        obtain ⟨W8, hW8⟩ : ∃ W8, W8 = (W7.alloc (.cells #[.int .u8 0, .int .u8 0, .int .u8 0, .int .u8 0, .int .u8 0, .int .u8 0, .int .u8 0, .int .u8 0, .int .u8 0, .int .u8 0, .int .u8 0, .int .u8 0, .int .u8 0, .int .u8 0, .int .u8 0, .int .u8 0, .int .u8 0, .int .u8 0, .int .u8 0, .int .u8 0, .int .u8 0, .int .u8 0, .int .u8 0, .int .u8 0, .int .u8 0, .int .u8 0, .int .u8 0, .int .u8 0, .int .u8 0, .int .u8 0, .int .u8 0, .int .u8 0] 25)).setRow W7.heap.size (bytes z32).toArray := ⟨_, rfl⟩
        have hfr := fr_row (Fr.refl (fun _ => False) W7) (.cells #[.int .u8 0, .int .u8 0, .int .u8 0, .int .u8 0, .int .u8 0, .int .u8 0, .int .u8 0, .int .u8 0, .int .u8 0, .int .u8 0, .int .u8 0, .int .u8 0, .int .u8 0, .int .u8 0, .int .u8 0, .int .u8 0, .int .u8 0, .int .u8 0, .int .u8 0, .int .u8 0, .int .u8 0, .int .u8 0, .int .u8 0, .int .u8 0, .int .u8 0, .int .u8 0, .int .u8 0, .int .u8 0, .int .u8 0, .int .u8 0, .int .u8 0, .int .u8 0] 25) (bytes z32).toArray
        rw [← hW8] at hfr
        have H11 : Kp (Blk W8 g11 25 (bytes z32)) := ⟨by rw [hW8, hg11]; exact blk_row W7 _ _ _⟩
        have HF8 := Kp.mk (HF7.out.trans hfr (fun _ _ h => h))
        have HR8 := Kp.mk (HR7.out.fr hfr)
        rw [← hW8, ← hg11]
        clear hW8 hg11 hfr HNEW
        have hlg : decide ((131071 : Int) < (len : Int)) = false := decide_eq_false (by omega)
        rcases hn with hn | hn
        · go_wp2_with (fail)
          go_ret
          exact ⟨rfl, HF8.out⟩
        · have hn0 : ¬ n < 0 := by omega
          go_wp2_with (fail)
          go_ret
          exact ⟨rfl, HF8.out⟩

    · obtain ⟨m, hm⟩ : ∃ m : Nat, n = (m : Int) := ⟨n.toNat, by omega⟩
      have hmr : m ≤ r := by omega
      have hn1 : ¬ n < 0 := by omega
      have hn2 : ¬ (r : Int) < n := by omega
      have HMr := Kp.mk hmr
      have HMm := Kp.mk hm
      by_cases hl : 131071 < len
      · clear hm hmr hn
        go_wp2_with fail
        refine (CRL.out hl W6 _ c1).mono ?_
        rintro e W7 ⟨rfl, hq⟩
        have HF7 := Kp.mk (HF6.out.trans hq (fun _ _ h => h))
        have HR7 := Kp.mk (HR6.out.fr hq)
        have HNEW : Kp (Blk (W7.alloc (.cells #[.int .u8 0, .int .u8 0, .int .u8 0, .int .u8 0, .int .u8 0, .int .u8 0, .int .u8 0, .int .u8 0, .int .u8 0, .int .u8 0, .int .u8 0, .int .u8 0, .int .u8 0, .int .u8 0, .int .u8 0, .int .u8 0, .int .u8 0, .int .u8 0, .int .u8 0, .int .u8 0, .int .u8 0, .int .u8 0, .int .u8 0, .int .u8 0, .int .u8 0, .int .u8 0, .int .u8 0, .int .u8 0, .int .u8 0, .int .u8 0, .int .u8 0, .int .u8 0] 25)) W7.heap.size 25 [.int .u8 0, .int .u8 0, .int .u8 0, .int .u8 0, .int .u8 0, .int .u8 0, .int .u8 0, .int .u8 0, .int .u8 0, .int .u8 0, .int .u8 0, .int .u8 0, .int .u8 0, .int .u8 0, .int .u8 0, .int .u8 0, .int .u8 0, .int .u8 0, .int .u8 0, .int .u8 0, .int .u8 0, .int .u8 0, .int .u8 0, .int .u8 0, .int .u8 0, .int .u8 0, .int .u8 0, .int .u8 0, .int .u8 0, .int .u8 0, .int .u8 0, .int .u8 0]) := ⟨Blk.new W7 _ _⟩
        clear hq
        go_upto_region 16 with (refine wpList_storeH rfl rfl (Operand.tmp 11) (Operand.tmp 57) rfl W7.heap.size _ _ z32 rfl rfl HNEW.out rfl rfl ?_)
        obtain ⟨g11, hg11⟩ : ∃ g11, g11 = W7.heap.size := ⟨_, rfl⟩
        obtain ⟨W8, hW8⟩ : ∃ W8, W8 = (W7.alloc (.cells #[.int .u8 0, .int .u8 0, .int .u8 0, .int .u8 0, .int .u8 0, .int .u8 0, .int .u8 0, .int .u8 0, .int .u8 0, .int .u8 0, .int .u8 0, .int .u8 0, .int .u8 0, .int .u8 0, .int .u8 0, .int .u8 0, .int .u8 0, .int .u8 0, .int .u8 0, .int .u8 0, .int .u8 0, .int .u8 0, .int .u8 0, .int .u8 0, .int .u8 0, .int .u8 0, .int .u8 0, .int .u8 0, .int .u8 0, .int .u8 0, .int .u8 0, .int .u8 0] 25)).setRow W7.heap.size (bytes z32).toArray := ⟨_, rfl⟩
        have hfr := fr_row (Fr.refl (fun _ => False) W7) (.cells #[.int .u8 0, .int .u8 0, .int .u8 0, .int .u8 0, .int .u8 0, .int .u8 0, .int .u8 0, .int .u8 0, .int .u8 0, .int .u8 0, .int .u8 0, .int .u8 0, .int .u8 0, .int .u8 0, .int .u8 0, .int .u8 0, .int .u8 0, .int .u8 0, .int .u8 0, .int .u8 0, .int .u8 0, .int .u8 0, .int .u8 0, .int .u8 0, .int .u8 0, .int .u8 0, .int .u8 0, .int .u8 0, .int .u8 0, .int .u8 0, .int .u8 0, .int .u8 0] 25) (bytes z32).toArray
        rw [← hW8] at hfr
        have H11 : Kp (Blk W8 g11 25 (bytes z32)) := ⟨by rw [hW8, hg11]; exact blk_row W7 _ _ _⟩
        have HF8 := Kp.mk (HF7.out.trans hfr (fun _ _ h => h))
        have HR8 := Kp.mk (HR7.out.fr hfr)
        rw [← hW8, ← hg11]
        clear hW8 hg11 hfr HNEW
        have hlg : decide ((131071 : Int) < (len : Int)) = true := decide_eq_true (by omega)
        go_upto_region 20 with (fail)
        refine start_ (n := 17) (S := fun w' => True) (ds := []) #[false, false, false, false, false, false, false, false, false, false, false, false, false, false, false, false, false] (by kernel_rfl) rfl rfl trivial (fun hHeld => ?_)
        refine pure_ (i := 0) (N := some 82) (v := ?_) (a' := ?_) #[true, false, false, false, false, false, false, false, false, false, false, false, false, false, false, false, false] rfl rfl (by kernel_rfl) (fun _ _ _ h => h) (Or.inl ⟨by rfl, ?_⟩) ?_ ?_
        rotate_left
        · intro w'
          go_simp
          with_reducible rfl
        rotate_left
        · simp only [Act.put, List.setIfInBounds_toArray, List.set_cons_zero, List.set_cons_succ]
          rfl
        refine pure_ (i := 1) (N := some 83) (v := ?_) (a' := ?_) #[true, true, false, false, false, false, false, false, false, false, false, false, false, false, false, false, false] rfl rfl (by kernel_rfl) (fun _ _ _ h => h) (Or.inl ⟨by rfl, ?_⟩) ?_ ?_
        rotate_left
        · intro w'
          go_simp
          with_reducible rfl
        rotate_left
        · simp only [Act.put, List.setIfInBounds_toArray, List.set_cons_zero, List.set_cons_succ]
          rfl
        refine pure_ (i := 2) (N := some 84) (v := ?_) (a' := ?_) #[true, true, true, false, false, false, false, false, false, false, false, false, false, false, false, false, false] rfl rfl (by kernel_rfl) (fun _ _ _ h => h) (Or.inl ⟨by rfl, ?_⟩) ?_ ?_
        rotate_left
        · intro w'
          go_simp
          with_reducible rfl
        rotate_left
        · simp only [Act.put, List.setIfInBounds_toArray, List.set_cons_zero, List.set_cons_succ]
          rfl
        refine pure_ (i := 3) (N := some 85) (v := ?_) (a' := ?_) #[true, true, true, true, false, false, false, false, false, false, false, false, false, false, false, false, false] rfl rfl (by kernel_rfl) (fun _ _ _ h => h) (Or.inl ⟨by rfl, ?_⟩) ?_ ?_
        rotate_left
        · intro w'
          go_simp
          with_reducible rfl
        rotate_left
        · simp only [Act.put, List.setIfInBounds_toArray, List.set_cons_zero, List.set_cons_succ]
          rfl
        refine pure_ (i := 4) (N := some 86) (v := undef) (a' := ?_) #[true, true, true, true, true, false, false, false, false, false, false, false, false, false, false, false, false] rfl rfl (by kernel_rfl) (fun _ _ _ h => h) (Or.inr ⟨by rfl, rfl⟩) ?_ ?_
        rotate_left
        · simp only [Act.put, List.setIfInBounds_toArray, List.set_cons_zero, List.set_cons_succ]
          rfl
        refine pure_ (i := 5) (N := some 87) (v := undef) (a' := ?_) #[true, true, true, true, true, true, false, false, false, false, false, false, false, false, false, false, false] rfl rfl (by kernel_rfl) (fun _ _ _ h => h) (Or.inr ⟨by rfl, rfl⟩) ?_ ?_
        rotate_left
        · simp only [Act.put, List.setIfInBounds_toArray, List.set_cons_zero, List.set_cons_succ]
          rfl
        refine pure_ (i := 6) (N := some 88) (v := undef) (a' := ?_) #[true, true, true, true, true, true, true, false, false, false, false, false, false, false, false, false, false] rfl rfl (by kernel_rfl) (fun _ _ _ h => h) (Or.inr ⟨by rfl, rfl⟩) ?_ ?_
        rotate_left
        · simp only [Act.put, List.setIfInBounds_toArray, List.set_cons_zero, List.set_cons_succ]
          rfl
        refine pure_ (i := 7) (N := some 89) (v := undef) (a' := ?_) #[true, true, true, true, true, true, true, true, false, false, false, false, false, false, false, false, false] rfl rfl (by kernel_rfl) (fun _ _ _ h => h) (Or.inr ⟨by rfl, rfl⟩) ?_ ?_
        rotate_left
        · simp only [Act.put, List.setIfInBounds_toArray, List.set_cons_zero, List.set_cons_succ]
          rfl
        refine pure_ (i := 8) (N := some 90) (v := undef) (a' := ?_) #[true, true, true, true, true, true, true, true, true, false, false, false, false, false, false, false, false] rfl rfl (by kernel_rfl) (fun _ _ _ h => h) (Or.inr ⟨by rfl, rfl⟩) ?_ ?_
        rotate_left
        · simp only [Act.put, List.setIfInBounds_toArray, List.set_cons_zero, List.set_cons_succ]
          rfl
        refine pure_ (i := 9) (N := some 91) (v := undef) (a' := ?_) #[true, true, true, true, true, true, true, true, true, true, false, false, false, false, false, false, false] rfl rfl (by kernel_rfl) (fun _ _ _ h => h) (Or.inr ⟨by rfl, rfl⟩) ?_ ?_
        rotate_left
        · simp only [Act.put, List.setIfInBounds_toArray, List.set_cons_zero, List.set_cons_succ]
          rfl
        refine pure_ (i := 10) (N := some 92) (v := undef) (a' := ?_) #[true, true, true, true, true, true, true, true, true, true, true, false, false, false, false, false, false] rfl rfl (by kernel_rfl) (fun _ _ _ h => h) (Or.inr ⟨by rfl, rfl⟩) ?_ ?_
        rotate_left
        · simp only [Act.put, List.setIfInBounds_toArray, List.set_cons_zero, List.set_cons_succ]
          rfl
        refine pure_ (i := 11) (N := some 93) (v := undef) (a' := ?_) #[true, true, true, true, true, true, true, true, true, true, true, true, false, false, false, false, false] rfl rfl (by kernel_rfl) (fun _ _ _ h => h) (Or.inr ⟨by rfl, rfl⟩) ?_ ?_
        rotate_left
        · simp only [Act.put, List.setIfInBounds_toArray, List.set_cons_zero, List.set_cons_succ]
          rfl
        refine pure_ (i := 12) (N := some 94) (v := undef) (a' := ?_) #[true, true, true, true, true, true, true, true, true, true, true, true, true, false, false, false, false] rfl rfl (by kernel_rfl) (fun _ _ _ h => h) (Or.inr ⟨by rfl, rfl⟩) ?_ ?_
        rotate_left
        · simp only [Act.put, List.setIfInBounds_toArray, List.set_cons_zero, List.set_cons_succ]
          rfl
        refine pure_ (i := 13) (N := some 95) (v := undef) (a' := ?_) #[true, true, true, true, true, true, true, true, true, true, true, true, true, true, false, false, false] rfl rfl (by kernel_rfl) (fun _ _ _ h => h) (Or.inr ⟨by rfl, rfl⟩) ?_ ?_
        rotate_left
        · simp only [Act.put, List.setIfInBounds_toArray, List.set_cons_zero, List.set_cons_succ]
          rfl
        refine pure_ (i := 14) (N := some 96) (v := undef) (a' := ?_) #[true, true, true, true, true, true, true, true, true, true, true, true, true, true, true, false, false] rfl rfl (by kernel_rfl) (fun _ _ _ h => h) (Or.inr ⟨by rfl, rfl⟩) ?_ ?_
        rotate_left
        · simp only [Act.put, List.setIfInBounds_toArray, List.set_cons_zero, List.set_cons_succ]
          rfl
        refine pure_ (i := 15) (N := some 97) (v := ?_) (a' := ?_) #[true, true, true, true, true, true, true, true, true, true, true, true, true, true, true, true, false] rfl rfl (by kernel_rfl) (fun _ _ _ h => h) (Or.inl ⟨by rfl, ?_⟩) ?_ ?_
        rotate_left
        · intro w'
          go_simp
          with_reducible rfl
        rotate_left
        · simp only [Act.put, List.setIfInBounds_toArray, List.set_cons_zero, List.set_cons_succ]
          rfl
        refine pure_ (i := 16) (N := some 6) (v := ?_) (a' := ?_) #[true, true, true, true, true, true, true, true, true, true, true, true, true, true, true, true, true] rfl rfl (by kernel_rfl) (fun _ _ _ h => h) (Or.inl ⟨by rfl, ?_⟩) ?_ ?_
        rotate_left
        · intro w'
          go_simp
          with_reducible rfl
        rotate_left
        · simp only [Act.put, List.setIfInBounds_toArray, List.set_cons_zero, List.set_cons_succ]
          rfl
        refine done_ (by kernel_rfl) ?_
        go_wp2_with (fail)
        go_ret
        exact ⟨rfl, HF8.out.drew⟩

      · have CPO1 := Kp.mk (CPO.out (by omega) r m hr hr2 hmr hm)
        have CFP1 := Kp.mk (CFP.out m)
        have hRT := HRL.out r m (by rw [hr, HLEN.out]) hr2 hmr
        have CRY1 := CRY.out (by omega) r m hr hr2 hmr hm W6 _ c1 HF6.out HR6.out
        obtain ⟨PK, hPK⟩ : ∃ PK, PK = (pks m 49 0).map fun p => L.getD p.toNat [] := ⟨_, rfl⟩
        rw [← hPK] at CPO1 CFP1
        obtain ⟨RT, hRTe⟩ : ∃ RT, RT = rootL (strength k) L m := ⟨_, rfl⟩
        rw [← hRTe] at CFP1 hRT CRY1
        have HRT := Kp.mk hRT
        have sR : ∀ W, (Op.equalIn 10000 25 (.agg (bytes RT).toArray) (.agg (bytes RT).toArray)).run Tryd.prog W = .ok true W := fun W => by
          have h := eq32 RT RT HRT.out HRT.out W
          rw [decide_eq_true rfl] at h
          exact h
        clear hPK hRTe hRT hm hmr hn
        go_wp2_with fail
        refine (CRY1).mono ?_
        rintro e W7 ⟨rfl, hq⟩
        have HF7 := Kp.mk (HF6.out.trans hq (fun _ _ h => h))
        have HR7 := Kp.mk (HR6.out.fr hq)
        have HNEW : Kp (Blk (W7.alloc (.cells #[.int .u8 0, .int .u8 0, .int .u8 0, .int .u8 0, .int .u8 0, .int .u8 0, .int .u8 0, .int .u8 0, .int .u8 0, .int .u8 0, .int .u8 0, .int .u8 0, .int .u8 0, .int .u8 0, .int .u8 0, .int .u8 0, .int .u8 0, .int .u8 0, .int .u8 0, .int .u8 0, .int .u8 0, .int .u8 0, .int .u8 0, .int .u8 0, .int .u8 0, .int .u8 0, .int .u8 0, .int .u8 0, .int .u8 0, .int .u8 0, .int .u8 0, .int .u8 0] 25)) W7.heap.size 25 [.int .u8 0, .int .u8 0, .int .u8 0, .int .u8 0, .int .u8 0, .int .u8 0, .int .u8 0, .int .u8 0, .int .u8 0, .int .u8 0, .int .u8 0, .int .u8 0, .int .u8 0, .int .u8 0, .int .u8 0, .int .u8 0, .int .u8 0, .int .u8 0, .int .u8 0, .int .u8 0, .int .u8 0, .int .u8 0, .int .u8 0, .int .u8 0, .int .u8 0, .int .u8 0, .int .u8 0, .int .u8 0, .int .u8 0, .int .u8 0, .int .u8 0, .int .u8 0]) := ⟨Blk.new W7 _ _⟩
        clear hq
        go_upto_region 16 with (refine wpList_storeH rfl rfl (Operand.tmp 11) (Operand.tmp 57) rfl W7.heap.size _ _ RT rfl rfl HNEW.out rfl HRT.out ?_)
        obtain ⟨g11, hg11⟩ : ∃ g11, g11 = W7.heap.size := ⟨_, rfl⟩
        obtain ⟨W8, hW8⟩ : ∃ W8, W8 = (W7.alloc (.cells #[.int .u8 0, .int .u8 0, .int .u8 0, .int .u8 0, .int .u8 0, .int .u8 0, .int .u8 0, .int .u8 0, .int .u8 0, .int .u8 0, .int .u8 0, .int .u8 0, .int .u8 0, .int .u8 0, .int .u8 0, .int .u8 0, .int .u8 0, .int .u8 0, .int .u8 0, .int .u8 0, .int .u8 0, .int .u8 0, .int .u8 0, .int .u8 0, .int .u8 0, .int .u8 0, .int .u8 0, .int .u8 0, .int .u8 0, .int .u8 0, .int .u8 0, .int .u8 0] 25)).setRow W7.heap.size (bytes RT).toArray := ⟨_, rfl⟩
        have hfr := fr_row (Fr.refl (fun _ => False) W7) (.cells #[.int .u8 0, .int .u8 0, .int .u8 0, .int .u8 0, .int .u8 0, .int .u8 0, .int .u8 0, .int .u8 0, .int .u8 0, .int .u8 0, .int .u8 0, .int .u8 0, .int .u8 0, .int .u8 0, .int .u8 0, .int .u8 0, .int .u8 0, .int .u8 0, .int .u8 0, .int .u8 0, .int .u8 0, .int .u8 0, .int .u8 0, .int .u8 0, .int .u8 0, .int .u8 0, .int .u8 0, .int .u8 0, .int .u8 0, .int .u8 0, .int .u8 0, .int .u8 0] 25) (bytes RT).toArray
        rw [← hW8] at hfr
        have H11 : Kp (Blk W8 g11 25 (bytes RT)) := ⟨by rw [hW8, hg11]; exact blk_row W7 _ _ _⟩
        have HF8 := Kp.mk (HF7.out.trans hfr (fun _ _ h => h))
        have HR8 := Kp.mk (HR7.out.fr hfr)
        rw [← hW8, ← hg11]
        clear hW8 hg11 hfr HNEW
        have hlg : decide ((131071 : Int) < (len : Int)) = false := decide_eq_false (by omega)
        go_upto_region 20 with (fail)
        refine start_ (n := 17) (S := fun w' => Lds w' 25 (.pointer (some ⟨g11, 0, none⟩)) (.agg (bytes RT).toArray)) (ds := []) #[false, false, false, false, false, false, false, false, false, false, false, false, false, false, false, false, false] (by kernel_rfl) rfl rfl (lds_blk H11.out.drew HRT.out) (fun hHeld => ?_)
        refine pure_ (i := 0) (N := some 82) (v := ?_) (a' := ?_) #[true, false, false, false, false, false, false, false, false, false, false, false, false, false, false, false, false] rfl rfl (by kernel_rfl) (fun _ _ _ h => h) (Or.inl ⟨by rfl, ?_⟩) ?_ ?_
        rotate_left
        · intro w'
          go_simp
          with_reducible rfl
        rotate_left
        · simp only [Act.put, List.setIfInBounds_toArray, List.set_cons_zero, List.set_cons_succ]
          rfl
        refine pure_ (i := 1) (N := some 83) (v := ?_) (a' := ?_) #[true, true, false, false, false, false, false, false, false, false, false, false, false, false, false, false, false] rfl rfl (by kernel_rfl) (fun _ _ _ h => h) (Or.inl ⟨by rfl, ?_⟩) ?_ ?_
        rotate_left
        · intro w'
          go_simp
          with_reducible rfl
        rotate_left
        · simp only [Act.put, List.setIfInBounds_toArray, List.set_cons_zero, List.set_cons_succ]
          rfl
        refine pure_ (i := 2) (N := some 84) (v := ?_) (a' := ?_) #[true, true, true, false, false, false, false, false, false, false, false, false, false, false, false, false, false] rfl rfl (by kernel_rfl) (fun _ _ _ h => h) (Or.inl ⟨by rfl, ?_⟩) ?_ ?_
        rotate_left
        · intro w'
          go_simp
          with_reducible rfl
        rotate_left
        · simp only [Act.put, List.setIfInBounds_toArray, List.set_cons_zero, List.set_cons_succ]
          rfl
        refine pure_ (i := 3) (N := some 85) (v := ?_) (a' := ?_) #[true, true, true, true, false, false, false, false, false, false, false, false, false, false, false, false, false] rfl rfl (by kernel_rfl) (fun _ _ _ h => h) (Or.inl ⟨by rfl, ?_⟩) ?_ ?_
        rotate_left
        · intro w'
          go_simp
          with_reducible rfl
        rotate_left
        · simp only [Act.put, List.setIfInBounds_toArray, List.set_cons_zero, List.set_cons_succ]
          rfl
        refine pure_ (i := 4) (N := some 86) (v := ?_) (a' := ?_) #[true, true, true, true, true, false, false, false, false, false, false, false, false, false, false, false, false] rfl rfl (by kernel_rfl) (fun _ _ _ h => h) (Or.inl ⟨by rfl, ?_⟩) ?_ ?_
        rotate_left
        · intro w'
          go_simp
          with_reducible rfl
        rotate_left
        · simp only [Act.put, List.setIfInBounds_toArray, List.set_cons_zero, List.set_cons_succ]
          rfl
        refine pure_ (i := 5) (N := some 87) (v := ?_) (a' := ?_) #[true, true, true, true, true, true, false, false, false, false, false, false, false, false, false, false, false] rfl rfl (by kernel_rfl) (fun _ _ _ h => h) (Or.inl ⟨by rfl, ?_⟩) ?_ ?_
        rotate_left
        · intro w'
          go_simp
          with_reducible rfl
        rotate_left
        · simp only [Act.put, List.setIfInBounds_toArray, List.set_cons_zero, List.set_cons_succ]
          rfl
        refine pure_ (i := 6) (N := some 88) (v := ?_) (a' := ?_) #[true, true, true, true, true, true, true, false, false, false, false, false, false, false, false, false, false] rfl rfl (by kernel_rfl) (fun _ _ _ h => h) (Or.inl ⟨by rfl, ?_⟩) ?_ ?_
        rotate_left
        · intro w'
          go_simp
          with_reducible rfl
        rotate_left
        · simp only [Act.put, List.setIfInBounds_toArray, List.set_cons_zero, List.set_cons_succ]
          rfl
        refine pure_ (i := 8) (N := some 90) (v := ?_) (a' := ?_) #[true, true, true, true, true, true, true, false, true, false, false, false, false, false, false, false, false] rfl rfl (by kernel_rfl) (fun _ _ _ h => h) (Or.inl ⟨by rfl, ?_⟩) ?_ ?_
        rotate_left
        · intro w'
          go_simp
          with_reducible rfl
        rotate_left
        · simp only [Act.put, List.setIfInBounds_toArray, List.set_cons_zero, List.set_cons_succ]
          rfl
        refine pure_ (i := 9) (N := some 91) (v := ?_) (a' := ?_) #[true, true, true, true, true, true, true, false, true, true, false, false, false, false, false, false, false] rfl rfl (by kernel_rfl) (fun _ _ _ h => h) (Or.inl ⟨by rfl, ?_⟩) ?_ ?_
        rotate_left
        · intro w'
          go_simp
          with_reducible rfl
        rotate_left
        · simp only [Act.put, List.setIfInBounds_toArray, List.set_cons_zero, List.set_cons_succ]
          rfl
        refine pure_ (i := 10) (N := some 92) (v := ?_) (a' := ?_) #[true, true, true, true, true, true, true, false, true, true, true, false, false, false, false, false, false] rfl rfl (by kernel_rfl) (fun _ _ _ h => h) (Or.inl ⟨by rfl, ?_⟩) ?_ ?_
        rotate_left
        · intro w'
          go_simp
          with_reducible rfl
        rotate_left
        · simp only [Act.put, List.setIfInBounds_toArray, List.set_cons_zero, List.set_cons_succ]
          rfl
        refine take_ (i := 7) (N := some 89) (v := ?_) (a' := ?_) #[true, true, true, true, true, true, true, true, true, true, true, false, false, false, false, false, false] rfl rfl (by kernel_rfl) (fun _ _ _ h => h) (Or.inl ⟨by rfl, ?_⟩) hHeld ?_ ?_
        rotate_left
        · intro w' s0
          refine Lds.run s0 (x := ?_) ?_ ?_
          · exact (Operand.tmp 11)
          · rfl
          · rfl
        rotate_left
        · simp only [Act.put, List.setIfInBounds_toArray, List.set_cons_zero, List.set_cons_succ]
          rfl
        refine one_ (i := 11) (N := some 93) #[true, true, true, true, true, true, true, true, true, true, true, true, false, false, false, false, false] rfl rfl (by kernel_rfl) (by decide) (fun K hK => ?_)
        refine goes_ Tryd.func35 (by kernel_rfl) rfl #[.slice A1 len c1, .int .i64 n] (by rfl) rfl rfl (by simp only [List.map_toArray, List.map_cons, List.map_nil]; rfl) ?_
        with_reducible refine (CPO1.out _ _ _ (HR8.out.fr ((Fr.refl (fun _ => False) W8).drew))).mono ?_
        rintro e a1 ⟨v, rfl, hO, hq⟩
        refine ⟨_, rfl, ?_⟩
        have Fa1 : Kp (Fr (fun _ => False) W8 a1) := ⟨((Fr.refl (fun _ => False) W8).drew).trans hq (fun _ _ h => h)⟩
        obtain ⟨A2, c2, hv, hR⟩ := hO.row (fun _ => False) (fun _ _ h => h)
        subst hv
        have HRP := Kp.mk hR
        clear hq hO hR
        refine hK.out _ _ (lds_blk (H11.out.fr Fa1.out (fun h => h)) HRT.out) (fun hHeld => ?_)
        clear hK K
        refine norm_ (a' := ?_) ?_ ?_
        rotate_left
        · show Act.put _ (some 93) _ = _
          simp only [Act.put, List.setIfInBounds_toArray, List.set_cons_zero, List.set_cons_succ]
          rfl
        refine one_ (i := 12) (N := some 94) #[true, true, true, true, true, true, true, true, true, true, true, true, true, false, false, false, false] rfl rfl (by kernel_rfl) (by decide) (fun K hK => ?_)
        refine goes_ Tryd.func31 (by kernel_rfl) rfl #[.int .i64 k, .slice A2 PK.length c2] (by rfl) rfl rfl (by simp only [List.map_toArray, List.map_cons, List.map_nil]; rfl) ?_
        with_reducible refine (CFP1.out _ A2 c2 (HF8.out.trans Fa1.out (fun _ _ h => h)) HRP.out).mono ?_
        rintro e a2 ⟨rfl, hq⟩
        refine ⟨_, rfl, ?_⟩
        have Fa2 : Kp (Fr (fun _ => False) W8 a2) := ⟨Fa1.out.trans hq (fun _ _ h => h)⟩
        clear hq
        refine hK.out _ _ (lds_blk (H11.out.fr Fa2.out (fun h => h)) HRT.out) (fun hHeld => ?_)
        clear hK K
        refine norm_ (a' := ?_) ?_ ?_
        rotate_left
        · show Act.put _ (some 94) _ = _
          simp only [Act.put, List.setIfInBounds_toArray, List.set_cons_zero, List.set_cons_succ]
          rfl
        refine pure_ (i := 13) (N := some 95) (v := ?_) (a' := ?_) #[true, true, true, true, true, true, true, true, true, true, true, true, true, true, false, false, false] rfl rfl (by kernel_rfl) (fun _ _ _ h => h) (Or.inl ⟨by rfl, ?_⟩) ?_ ?_
        rotate_left
        · intro w'
          go_simp
          with_reducible rfl
        rotate_left
        · simp only [Act.put, List.setIfInBounds_toArray, List.set_cons_zero, List.set_cons_succ]
          rfl
        refine pure_ (i := 14) (N := some 96) (v := ?_) (a' := ?_) #[true, true, true, true, true, true, true, true, true, true, true, true, true, true, true, false, false] rfl rfl (by kernel_rfl) (fun _ _ _ h => h) (Or.inl ⟨by rfl, ?_⟩) ?_ ?_
        rotate_left
        · intro w'
          go_simp
          with_reducible rfl
        rotate_left
        · simp only [Act.put, List.setIfInBounds_toArray, List.set_cons_zero, List.set_cons_succ]
          rfl
        refine pure_ (i := 15) (N := some 97) (v := ?_) (a' := ?_) #[true, true, true, true, true, true, true, true, true, true, true, true, true, true, true, true, false] rfl rfl (by kernel_rfl) (fun _ _ _ h => h) (Or.inl ⟨by rfl, ?_⟩) ?_ ?_
        rotate_left
        · intro w'
          go_simp
          with_reducible rfl
        rotate_left
        · simp only [Act.put, List.setIfInBounds_toArray, List.set_cons_zero, List.set_cons_succ]
          rfl
        refine pure_ (i := 16) (N := some 6) (v := ?_) (a' := ?_) #[true, true, true, true, true, true, true, true, true, true, true, true, true, true, true, true, true] rfl rfl (by kernel_rfl) (fun _ _ _ h => h) (Or.inl ⟨by rfl, ?_⟩) ?_ ?_
        rotate_left
        · intro w'
          go_simp
          with_reducible rfl
        rotate_left
        · simp only [Act.put, List.setIfInBounds_toArray, List.set_cons_zero, List.set_cons_succ]
          rfl
        refine done_ (by kernel_rfl) ?_
        go_wp2_with (fail)
        go_ret
        exact ⟨rfl, HF8.out.trans Fa2.out (fun _ _ h => h)⟩

  · have hno : ∀ r, r ≤ 281474976710656 → cnt r ≠ len := fun r h1 h2 => hcnt ⟨r, h1, h2⟩
    have CRec := Records_not len hno W5
    have HNO := Kp.mk hno
    refine CRec.mono ?_
    rintro e W6 ⟨rfl, hq⟩
    have HF6 := Kp.mk (HF5.out.trans hq (fun _ _ h => h))
    have HR6 := Kp.mk (HR5.out.fr hq)
    clear hq CRec hcnt hno
    by_cases hl : 131071 < len
    · go_wp2_with fail
      refine (CRL.out hl W6 _ c1).mono ?_
      rintro e W7 ⟨rfl, hq⟩
      have HF7 := Kp.mk (HF6.out.trans hq (fun _ _ h => h))
      have HR7 := Kp.mk (HR6.out.fr hq)
      have HNEW : Kp (Blk (W7.alloc (.cells #[.int .u8 0, .int .u8 0, .int .u8 0, .int .u8 0, .int .u8 0, .int .u8 0, .int .u8 0, .int .u8 0, .int .u8 0, .int .u8 0, .int .u8 0, .int .u8 0, .int .u8 0, .int .u8 0, .int .u8 0, .int .u8 0, .int .u8 0, .int .u8 0, .int .u8 0, .int .u8 0, .int .u8 0, .int .u8 0, .int .u8 0, .int .u8 0, .int .u8 0, .int .u8 0, .int .u8 0, .int .u8 0, .int .u8 0, .int .u8 0, .int .u8 0, .int .u8 0] 25)) W7.heap.size 25 [.int .u8 0, .int .u8 0, .int .u8 0, .int .u8 0, .int .u8 0, .int .u8 0, .int .u8 0, .int .u8 0, .int .u8 0, .int .u8 0, .int .u8 0, .int .u8 0, .int .u8 0, .int .u8 0, .int .u8 0, .int .u8 0, .int .u8 0, .int .u8 0, .int .u8 0, .int .u8 0, .int .u8 0, .int .u8 0, .int .u8 0, .int .u8 0, .int .u8 0, .int .u8 0, .int .u8 0, .int .u8 0, .int .u8 0, .int .u8 0, .int .u8 0, .int .u8 0]) := ⟨Blk.new W7 _ _⟩
      clear hq
      go_upto_region 16 with (refine wpList_storeH rfl rfl (Operand.tmp 11) (Operand.tmp 57) rfl W7.heap.size _ _ z32 rfl rfl HNEW.out rfl rfl ?_)
      obtain ⟨g11, hg11⟩ : ∃ g11, g11 = W7.heap.size := ⟨_, rfl⟩
      obtain ⟨W8, hW8⟩ : ∃ W8, W8 = (W7.alloc (.cells #[.int .u8 0, .int .u8 0, .int .u8 0, .int .u8 0, .int .u8 0, .int .u8 0, .int .u8 0, .int .u8 0, .int .u8 0, .int .u8 0, .int .u8 0, .int .u8 0, .int .u8 0, .int .u8 0, .int .u8 0, .int .u8 0, .int .u8 0, .int .u8 0, .int .u8 0, .int .u8 0, .int .u8 0, .int .u8 0, .int .u8 0, .int .u8 0, .int .u8 0, .int .u8 0, .int .u8 0, .int .u8 0, .int .u8 0, .int .u8 0, .int .u8 0, .int .u8 0] 25)).setRow W7.heap.size (bytes z32).toArray := ⟨_, rfl⟩
      have hfr := fr_row (Fr.refl (fun _ => False) W7) (.cells #[.int .u8 0, .int .u8 0, .int .u8 0, .int .u8 0, .int .u8 0, .int .u8 0, .int .u8 0, .int .u8 0, .int .u8 0, .int .u8 0, .int .u8 0, .int .u8 0, .int .u8 0, .int .u8 0, .int .u8 0, .int .u8 0, .int .u8 0, .int .u8 0, .int .u8 0, .int .u8 0, .int .u8 0, .int .u8 0, .int .u8 0, .int .u8 0, .int .u8 0, .int .u8 0, .int .u8 0, .int .u8 0, .int .u8 0, .int .u8 0, .int .u8 0, .int .u8 0] 25) (bytes z32).toArray
      rw [← hW8] at hfr
      have H11 : Kp (Blk W8 g11 25 (bytes z32)) := ⟨by rw [hW8, hg11]; exact blk_row W7 _ _ _⟩
      have HF8 := Kp.mk (HF7.out.trans hfr (fun _ _ h => h))
      have HR8 := Kp.mk (HR7.out.fr hfr)
      rw [← hW8, ← hg11]
      clear hW8 hg11 hfr HNEW
      have hlg : decide ((131071 : Int) < (len : Int)) = true := decide_eq_true (by omega)
      go_wp2_with (fail)
      go_ret
      exact ⟨rfl, HF8.out⟩

    · go_wp2_with fail
      refine (CRN.out (by omega) HNO.out W6 _ c1).mono ?_
      rintro e W7 ⟨rfl, hq⟩
      have HF7 := Kp.mk (HF6.out.trans hq (fun _ _ h => h))
      have HR7 := Kp.mk (HR6.out.fr hq)
      have HNEW : Kp (Blk (W7.alloc (.cells #[.int .u8 0, .int .u8 0, .int .u8 0, .int .u8 0, .int .u8 0, .int .u8 0, .int .u8 0, .int .u8 0, .int .u8 0, .int .u8 0, .int .u8 0, .int .u8 0, .int .u8 0, .int .u8 0, .int .u8 0, .int .u8 0, .int .u8 0, .int .u8 0, .int .u8 0, .int .u8 0, .int .u8 0, .int .u8 0, .int .u8 0, .int .u8 0, .int .u8 0, .int .u8 0, .int .u8 0, .int .u8 0, .int .u8 0, .int .u8 0, .int .u8 0, .int .u8 0] 25)) W7.heap.size 25 [.int .u8 0, .int .u8 0, .int .u8 0, .int .u8 0, .int .u8 0, .int .u8 0, .int .u8 0, .int .u8 0, .int .u8 0, .int .u8 0, .int .u8 0, .int .u8 0, .int .u8 0, .int .u8 0, .int .u8 0, .int .u8 0, .int .u8 0, .int .u8 0, .int .u8 0, .int .u8 0, .int .u8 0, .int .u8 0, .int .u8 0, .int .u8 0, .int .u8 0, .int .u8 0, .int .u8 0, .int .u8 0, .int .u8 0, .int .u8 0, .int .u8 0, .int .u8 0]) := ⟨Blk.new W7 _ _⟩
      clear hq
      go_upto_region 16 with (refine wpList_storeH rfl rfl (Operand.tmp 11) (Operand.tmp 57) rfl W7.heap.size _ _ z32 rfl rfl HNEW.out rfl rfl ?_)
      obtain ⟨g11, hg11⟩ : ∃ g11, g11 = W7.heap.size := ⟨_, rfl⟩
      obtain ⟨W8, hW8⟩ : ∃ W8, W8 = (W7.alloc (.cells #[.int .u8 0, .int .u8 0, .int .u8 0, .int .u8 0, .int .u8 0, .int .u8 0, .int .u8 0, .int .u8 0, .int .u8 0, .int .u8 0, .int .u8 0, .int .u8 0, .int .u8 0, .int .u8 0, .int .u8 0, .int .u8 0, .int .u8 0, .int .u8 0, .int .u8 0, .int .u8 0, .int .u8 0, .int .u8 0, .int .u8 0, .int .u8 0, .int .u8 0, .int .u8 0, .int .u8 0, .int .u8 0, .int .u8 0, .int .u8 0, .int .u8 0, .int .u8 0] 25)).setRow W7.heap.size (bytes z32).toArray := ⟨_, rfl⟩
      have hfr := fr_row (Fr.refl (fun _ => False) W7) (.cells #[.int .u8 0, .int .u8 0, .int .u8 0, .int .u8 0, .int .u8 0, .int .u8 0, .int .u8 0, .int .u8 0, .int .u8 0, .int .u8 0, .int .u8 0, .int .u8 0, .int .u8 0, .int .u8 0, .int .u8 0, .int .u8 0, .int .u8 0, .int .u8 0, .int .u8 0, .int .u8 0, .int .u8 0, .int .u8 0, .int .u8 0, .int .u8 0, .int .u8 0, .int .u8 0, .int .u8 0, .int .u8 0, .int .u8 0, .int .u8 0, .int .u8 0, .int .u8 0] 25) (bytes z32).toArray
      rw [← hW8] at hfr
      have H11 : Kp (Blk W8 g11 25 (bytes z32)) := ⟨by rw [hW8, hg11]; exact blk_row W7 _ _ _⟩
      have HF8 := Kp.mk (HF7.out.trans hfr (fun _ _ h => h))
      have HR8 := Kp.mk (HR7.out.fr hfr)
      rw [← hW8, ← hg11]
      clear hW8 hg11 hfr HNEW
      have hlg : decide ((131071 : Int) < (len : Int)) = false := decide_eq_false (by omega)
      go_wp2_with (fail)
      go_ret
      exact ⟨rfl, HF8.out⟩

set_option maxHeartbeats 4000000 in
set_option maxRecDepth 100000 in
theorem folds_1 (k : Int) (A : Option Addr) (c : Nat) (L : List (List Int)) (n : Int) (w : World) (hL : Laid w) (hX : HRow w (fun _ => False) A c L) (hb : L.length * 32 ≤ 140737488351232) (hc : L.length = 1) :
    Calls Tryd.prog 5 #[.int .i64 k, .slice A L.length c, .int .i64 n] w fun e w' => e = .returned (.bool true) ∧ Fr (fun _ => False) w w' := by
  have CH := Kp.mk (hashes8_calls A c L w hX (by omega))
  have LW : ∀ W, Fr (fun _ => False) w W → Laid W := fun W hf => hL.fr hf (fun _ h => h.elim)
  have hs1 := strength_le k
  have CT : Kp (∀ W, Fr (fun _ => False) w W → Calls Tryd.prog 32 #[] W fun e w' => e = .returned (.bool true) ∧ Fr (fun _ => False) W w') := ⟨fun W hf => told_calls W (LW W hf)⟩
  have CF : Kp (∀ W A1 c1, Fr (fun _ => False) w W → HRow W (fun _ => False) A1 c1 L → Calls Tryd.prog 31 #[.int .i64 k, .slice A1 L.length c1] W fun e w' => e = .returned (.agg (bytes (foldL (strength k) L)).toArray) ∧ Fr (fun _ => False) W w') := ⟨fun W A1 c1 hf hx => Fold_calls k A1 c1 L W (LW W hf) hx (by omega)⟩
  have hfl := foldL_len (strength k) hs1 L hX.1
  have hX32 := hX.1
  have CFO : Kp (∀ (r : List (List Int)) W A1 c1, Fr (fun _ => False) w W → HRow W (fun _ => False) A1 c1 r → r.length ≤ 4398046511104 → Calls Tryd.prog 31 #[.int .i64 k, .slice A1 r.length c1] W fun e w' => e = .returned (.agg (bytes (foldL (strength k) r)).toArray) ∧ Fr (fun _ => False) W w') := ⟨fun r W A1 c1 hf hx hl => Fold_calls k A1 c1 r W (LW W hf) hx (by omega)⟩
  have CNO : Kp (∀ W l r, Fr (fun _ => False) w W → l.length = 32 → r.length = 32 → Calls Tryd.prog 15 #[.int .i64 k, .agg (bytes l).toArray, .agg (bytes r).toArray] W fun e w' => e = .returned (.agg (bytes (nodeL (strength k) l r)).toArray) ∧ Fr (fun _ => False) W w') := ⟨fun W l r hf hl hr => nodeHash_calls k l r hl hr W (LW W hf)⟩
  have CRL : Kp (131071 < L.length → ∀ W A1 c1, Calls Tryd.prog 34 #[.int .i64 k, .slice A1 L.length c1, .int .i64 n] W fun e w' => e = .returned (.tuple #[.agg (bytes z32).toArray, .int .i64 2]) ∧ Fr (fun _ => False) W w') := ⟨fun h W A1 c1 => Root_long k A1 c1 L n W h⟩
  have CRN : Kp (L.length ≤ 131071 → (∀ r, r ≤ 281474976710656 → cnt r ≠ L.length) → ∀ W A1 c1, Calls Tryd.prog 34 #[.int .i64 k, .slice A1 L.length c1, .int .i64 n] W fun e w' => e = .returned (.tuple #[.agg (bytes z32).toArray, .int .i64 80]) ∧ Fr (fun _ => False) W w') := ⟨fun h h2 W A1 c1 => Root_not k A1 c1 L n W h h2⟩
  have CRA : Kp (L.length ≤ 131071 → ∀ r, cnt r = L.length → r ≤ 281474976710656 → (n < 0 ∨ (r : Int) < n) → ∀ W A1 c1, Calls Tryd.prog 34 #[.int .i64 k, .slice A1 L.length c1, .int .i64 n] W fun e w' => e = .returned (.tuple #[.agg (bytes z32).toArray, .int .i64 1]) ∧ Fr (fun _ => False) W w') := ⟨fun h r h1 h2 h3 W A1 c1 => Root_arg k A1 c1 L n W h r h1 h2 h3⟩
  have CRY : Kp (L.length ≤ 131071 → ∀ r m : Nat, cnt r = L.length → r ≤ 281474976710656 → m ≤ r → n = (m : Int) → ∀ W A1 c1, Fr (fun _ => False) w W → HRow W (fun _ => False) A1 c1 L → Calls Tryd.prog 34 #[.int .i64 k, .slice A1 L.length c1, .int .i64 n] W fun e w' => e = .returned (.tuple #[.agg (bytes (rootL (strength k) L m)).toArray, .int .i64 0]) ∧ Fr (fun _ => False) W w') := ⟨fun h r m h1 h2 h3 h4 W A1 c1 hf hx => by rw [h4]; exact Root_yes k A1 c1 L m r W (LW W hf) hx h h1 h2 h3⟩
  have CPO : Kp (L.length ≤ 131071 → ∀ r m : Nat, cnt r = L.length → r ≤ 281474976710656 → m ≤ r → n = (m : Int) → ∀ W A1 c1, HRow W (fun _ => False) A1 c1 L → Calls Tryd.prog 35 #[.slice A1 L.length c1, .int .i64 n] W fun e w' => ∃ v, e = .returned v ∧ HOwn w' W.heap.size v ((pks m 49 0).map fun p => L.getD p.toNat []) ∧ Fr (fun _ => False) W w') := ⟨fun h r m h1 h2 h3 h4 W A1 c1 hx => by rw [h4]; exact peaksOf_calls A1 c1 L m r W hx h1 h2 h3 h⟩
  have CFP : Kp (∀ m : Nat, ∀ W A2 c2, Fr (fun _ => False) w W → HRow W (fun _ => False) A2 c2 ((pks m 49 0).map fun p => L.getD p.toNat []) → Calls Tryd.prog 31 #[.int .i64 k, .slice A2 ((pks m 49 0).map fun p => L.getD p.toNat []).length c2] W fun e w' => e = .returned (.agg (bytes (rootL (strength k) L m)).toArray) ∧ Fr (fun _ => False) W w') := ⟨fun m W A2 c2 hf hx => Fold_calls k A2 c2 _ W (LW W hf) hx (by rw [List.length_map]; have := pks_len m; omega)⟩
  have HRL : Kp (∀ r m : Nat, cnt r = L.length → r ≤ 281474976710656 → m ≤ r → (rootL (strength k) L m).length = 32) := ⟨fun r m h1 h2 h3 => rootL_len (strength k) hs1 L hX32 m r h1 h2 h3⟩

  obtain ⟨len, hlen⟩ : ∃ len, len = L.length := ⟨_, rfl⟩
  obtain ⟨FL, hFL⟩ : ∃ FL, FL = foldL (strength k) L := ⟨_, rfl⟩
  have HFL : Kp (FL.length = 32) := ⟨by rw [hFL]; exact hfl⟩
  rw [← hFL] at CF
  rw [← hlen] at CF CRL CRN CRA CRY CPO hb hc ⊢
  have HLEN := Kp.mk hlen
  have HX32 := Kp.mk hX32
  have HFE := Kp.mk hFL
  have HHC := Kp.mk hc
  clear hfl hX32 hs1 hFL hlen LW hL hX hc
  go_enter Tryd.func5, Tryd.ntmps5
  go_wp2_with fail
  rw [HLEN.out]
  refine CH.out.mono ?_
  rintro e W1 ⟨v, rfl, hO, hf⟩
  have HF1 := Kp.mk hf
  have hA1 := own_at hO
  obtain ⟨A1, c1, hv, hR⟩ := hO.row (fun _ => False) (fun _ _ h => h)
  rw [← HLEN.out] at hv
  subst hv
  have HR1 := Kp.mk hR
  have HB1 := Kp.mk (hA1 A1 len c1 rfl)
  clear hO hf hR CH
  go_wp2_with fail
  refine (CF.out W1 A1 c1 HF1.out HR1.out).mono ?_
  rintro e W2 ⟨rfl, hf⟩
  have HF2 := Kp.mk (HF1.out.trans hf (fun _ _ h => h))
  have HR2 := Kp.mk (HR1.out.fr hf)
  have hnew : Blk (W2.alloc (.cells #[.int .u8 0, .int .u8 0, .int .u8 0, .int .u8 0, .int .u8 0, .int .u8 0, .int .u8 0, .int .u8 0, .int .u8 0, .int .u8 0, .int .u8 0, .int .u8 0, .int .u8 0, .int .u8 0, .int .u8 0, .int .u8 0, .int .u8 0, .int .u8 0, .int .u8 0, .int .u8 0, .int .u8 0, .int .u8 0, .int .u8 0, .int .u8 0, .int .u8 0, .int .u8 0, .int .u8 0, .int .u8 0, .int .u8 0, .int .u8 0, .int .u8 0, .int .u8 0] 25)) W2.heap.size 25 [.int .u8 0, .int .u8 0, .int .u8 0, .int .u8 0, .int .u8 0, .int .u8 0, .int .u8 0, .int .u8 0, .int .u8 0, .int .u8 0, .int .u8 0, .int .u8 0, .int .u8 0, .int .u8 0, .int .u8 0, .int .u8 0, .int .u8 0, .int .u8 0, .int .u8 0, .int .u8 0, .int .u8 0, .int .u8 0, .int .u8 0, .int .u8 0, .int .u8 0, .int .u8 0, .int .u8 0, .int .u8 0, .int .u8 0, .int .u8 0, .int .u8 0, .int .u8 0] := Blk.new W2 _ _
  clear hf CF
  have hE0 : ((len : Int) == 0) = false := by have := HHC.out; rw [beq_eq_false_iff_ne]; omega
  have hE1 : ((len : Int) == 1) = true := by have := HHC.out; rw [beq_iff_eq]; omega
  have HNEW := Kp.mk hnew
  clear hnew
  go_upto_region 10 with (refine wpList_storeH rfl rfl (Operand.tmp 8) (Operand.tmp 17) rfl W2.heap.size _ _ FL rfl rfl HNEW.out rfl HFL.out ?_)
  obtain ⟨g8, hg8⟩ : ∃ g8, g8 = W2.heap.size := ⟨_, rfl⟩
  obtain ⟨W3, hW3⟩ : ∃ W3, W3 = (W2.alloc (.cells #[.int .u8 0, .int .u8 0, .int .u8 0, .int .u8 0, .int .u8 0, .int .u8 0, .int .u8 0, .int .u8 0, .int .u8 0, .int .u8 0, .int .u8 0, .int .u8 0, .int .u8 0, .int .u8 0, .int .u8 0, .int .u8 0, .int .u8 0, .int .u8 0, .int .u8 0, .int .u8 0, .int .u8 0, .int .u8 0, .int .u8 0, .int .u8 0, .int .u8 0, .int .u8 0, .int .u8 0, .int .u8 0, .int .u8 0, .int .u8 0, .int .u8 0, .int .u8 0] 25)).setRow W2.heap.size (bytes FL).toArray := ⟨_, rfl⟩
  have hfr := fr_row (Fr.refl (fun _ => False) W2) (.cells #[.int .u8 0, .int .u8 0, .int .u8 0, .int .u8 0, .int .u8 0, .int .u8 0, .int .u8 0, .int .u8 0, .int .u8 0, .int .u8 0, .int .u8 0, .int .u8 0, .int .u8 0, .int .u8 0, .int .u8 0, .int .u8 0, .int .u8 0, .int .u8 0, .int .u8 0, .int .u8 0, .int .u8 0, .int .u8 0, .int .u8 0, .int .u8 0, .int .u8 0, .int .u8 0, .int .u8 0, .int .u8 0, .int .u8 0, .int .u8 0, .int .u8 0, .int .u8 0] 25) (bytes FL).toArray
  rw [← hW3] at hfr
  have H8 : Kp (Blk W3 g8 25 (bytes FL)) := ⟨by rw [hW3, hg8]; exact blk_row W2 _ _ _⟩
  have HF3 := Kp.mk (HF2.out.trans hfr (fun _ _ h => h))
  have HR3 := Kp.mk (HR2.out.fr hfr)
  rw [← hW3, ← hg8]
  clear hW3 hg8 hfr HNEW
  have sE : ∀ W, (Op.equalIn 10000 25 (.agg (bytes FL).toArray) (.agg (bytes FL).toArray)).run Tryd.prog W = .ok true W := fun W => by
    have h := eq32 FL FL HFL.out HFL.out W
    rw [decide_eq_true rfl] at h
    exact h
  obtain ⟨b1, hb1⟩ : ∃ b1, A1 = some ⟨b1, 0, none⟩ := by
    rcases HB1.out with h | h
    · have h1 := HLEN.out; have := HHC.out; rw [h] at h1; simp at h1; omega
    · exact h
  subst hb1
  have hlen0 : 0 < len := by have := HHC.out; omega
  have HLD : Kp (∀ W, Fr (fun _ => False) W3 W → Lds W 25 (.pointer (some ⟨b1, 0, none⟩)) (.agg (bytes FL).toArray)) := ⟨fun W hf => by
    have h1 : L.length = 1 := by rw [← HLEN.out]; exact HHC.out
    have h := lds_row (HR3.out.fr hf) 0 (by omega)
    have e := fold_one (strength k) L h1
    rw [← HFE.out] at e
    rw [e] at h
    exact h⟩
  refine start_ (n := 5) (S := fun w' => Lds w' 25 (.pointer (some ⟨g8, 0, none⟩)) (.agg (bytes FL).toArray) ∧ Lds w' 25 (.pointer (some ⟨b1, 0, none⟩)) (.agg (bytes FL).toArray)) (ds := []) #[false, false, false, false, false] (by kernel_rfl) rfl rfl ⟨lds_blk H8.out.drew HFL.out, HLD.out _ ((Fr.refl (fun _ => False) W3).drew)⟩ (fun hHeld => ?_)
  refine pure_ (i := 1) (N := some 40) (v := ?_) (a' := ?_) #[false, true, false, false, false] rfl rfl (by kernel_rfl) (fun _ _ _ h => h) (Or.inl ⟨by rfl, ?_⟩) ?_ ?_
  rotate_left
  · intro w'
    go_simp
    with_reducible rfl
  rotate_left
  · simp only [Act.put, List.setIfInBounds_toArray, List.set_cons_zero, List.set_cons_succ]
    rfl
  refine pure_ (i := 2) (N := some 41) (v := ?_) (a' := ?_) #[false, true, true, false, false] rfl rfl (by kernel_rfl) (fun _ _ _ h => h) (Or.inl ⟨by rfl, ?_⟩) ?_ ?_
  rotate_left
  · intro w'
    go_simp
    with_reducible rfl
  rotate_left
  · simp only [Act.put, List.setIfInBounds_toArray, List.set_cons_zero, List.set_cons_succ]
    rfl
  refine take_ (i := 0) (N := some 39) (v := ?_) (a' := ?_) #[true, true, true, false, false] rfl rfl (by kernel_rfl) (fun _ _ _ h => h) (Or.inl ⟨by rfl, ?_⟩) hHeld ?_ ?_
  rotate_left
  · rintro w' ⟨s0, s1⟩
    refine Lds.run s0 (x := ?_) ?_ ?_
    · exact (Operand.tmp 8)
    · rfl
    · rfl
  rotate_left
  · simp only [Act.put, List.setIfInBounds_toArray, List.set_cons_zero, List.set_cons_succ]
    rfl
  refine take_ (i := 3) (N := some 42) (v := ?_) (a' := ?_) #[true, true, true, true, false] rfl rfl (by kernel_rfl) (fun _ _ _ h => h) (Or.inl ⟨by rfl, ?_⟩) hHeld ?_ ?_
  rotate_left
  · rintro w' ⟨s0, s1⟩
    refine Lds.run s1 (x := ?_) ?_ ?_
    · exact (Operand.tmp 41)
    · rfl
    · rfl
  rotate_left
  · simp only [Act.put, List.setIfInBounds_toArray, List.set_cons_zero, List.set_cons_succ]
    rfl
  refine pure_ (i := 4) (N := some 43) (v := ?_) (a' := ?_) #[true, true, true, true, true] rfl rfl (by kernel_rfl) (fun _ _ _ h => h) (Or.inl ⟨by rfl, ?_⟩) ?_ ?_
  rotate_left
  · intro w'
    go_simp
    with_reducible rfl
  rotate_left
  · simp only [Act.put, List.setIfInBounds_toArray, List.set_cons_zero, List.set_cons_succ]
    rfl
  refine done_ (by kernel_rfl) ?_
  have HF4 := Kp.mk HF3.out.drew
  have HR4 := Kp.mk (HR3.out.fr ((Fr.refl (fun _ => False) W3).drew))
  clear HLD HF3 HR3 H8
  go_upto_region 12 with (fail)
  generalize W3.drew = W4 at HF4 HR4 ⊢
  go_wp2_with fail
  refine (CT.out W4 HF4.out).mono ?_
  rintro e W5 ⟨rfl, hq⟩
  have HF5 := Kp.mk (HF4.out.trans hq (fun _ _ h => h))
  have HR5 := Kp.mk (HR4.out.fr hq)
  clear hq CT HF4 HR4 hE0 hE1
  go_wp2_with fail
  by_cases hcnt : ∃ r, r ≤ 281474976710656 ∧ cnt r = len
  · obtain ⟨r, hr2, hr⟩ := hcnt
    have CRec := Records_yes r hr2 W5
    rw [hr] at CRec
    refine CRec.mono ?_
    rintro e W6 ⟨rfl, hq⟩
    have HF6 := Kp.mk (HF5.out.trans hq (fun _ _ h => h))
    have HR6 := Kp.mk (HR5.out.fr hq)
    clear hq CRec
    by_cases hn : n < 0 ∨ (r : Int) < n
    · by_cases hl : 131071 < len
      · go_wp2_with fail
        refine (CRL.out hl W6 _ c1).mono ?_
        rintro e W7 ⟨rfl, hq⟩
        have HF7 := Kp.mk (HF6.out.trans hq (fun _ _ h => h))
        have HR7 := Kp.mk (HR6.out.fr hq)
        have HNEW : Kp (Blk (W7.alloc (.cells #[.int .u8 0, .int .u8 0, .int .u8 0, .int .u8 0, .int .u8 0, .int .u8 0, .int .u8 0, .int .u8 0, .int .u8 0, .int .u8 0, .int .u8 0, .int .u8 0, .int .u8 0, .int .u8 0, .int .u8 0, .int .u8 0, .int .u8 0, .int .u8 0, .int .u8 0, .int .u8 0, .int .u8 0, .int .u8 0, .int .u8 0, .int .u8 0, .int .u8 0, .int .u8 0, .int .u8 0, .int .u8 0, .int .u8 0, .int .u8 0, .int .u8 0, .int .u8 0] 25)) W7.heap.size 25 [.int .u8 0, .int .u8 0, .int .u8 0, .int .u8 0, .int .u8 0, .int .u8 0, .int .u8 0, .int .u8 0, .int .u8 0, .int .u8 0, .int .u8 0, .int .u8 0, .int .u8 0, .int .u8 0, .int .u8 0, .int .u8 0, .int .u8 0, .int .u8 0, .int .u8 0, .int .u8 0, .int .u8 0, .int .u8 0, .int .u8 0, .int .u8 0, .int .u8 0, .int .u8 0, .int .u8 0, .int .u8 0, .int .u8 0, .int .u8 0, .int .u8 0, .int .u8 0]) := ⟨Blk.new W7 _ _⟩
        clear hq
        go_upto_region 16 with (refine wpList_storeH rfl rfl (Operand.tmp 11) (Operand.tmp 57) rfl W7.heap.size _ _ z32 rfl rfl HNEW.out rfl rfl ?_)
        obtain ⟨g11, hg11⟩ : ∃ g11, g11 = W7.heap.size := ⟨_, rfl⟩
        obtain ⟨W8, hW8⟩ : ∃ W8, W8 = (W7.alloc (.cells #[.int .u8 0, .int .u8 0, .int .u8 0, .int .u8 0, .int .u8 0, .int .u8 0, .int .u8 0, .int .u8 0, .int .u8 0, .int .u8 0, .int .u8 0, .int .u8 0, .int .u8 0, .int .u8 0, .int .u8 0, .int .u8 0, .int .u8 0, .int .u8 0, .int .u8 0, .int .u8 0, .int .u8 0, .int .u8 0, .int .u8 0, .int .u8 0, .int .u8 0, .int .u8 0, .int .u8 0, .int .u8 0, .int .u8 0, .int .u8 0, .int .u8 0, .int .u8 0] 25)).setRow W7.heap.size (bytes z32).toArray := ⟨_, rfl⟩
        have hfr := fr_row (Fr.refl (fun _ => False) W7) (.cells #[.int .u8 0, .int .u8 0, .int .u8 0, .int .u8 0, .int .u8 0, .int .u8 0, .int .u8 0, .int .u8 0, .int .u8 0, .int .u8 0, .int .u8 0, .int .u8 0, .int .u8 0, .int .u8 0, .int .u8 0, .int .u8 0, .int .u8 0, .int .u8 0, .int .u8 0, .int .u8 0, .int .u8 0, .int .u8 0, .int .u8 0, .int .u8 0, .int .u8 0, .int .u8 0, .int .u8 0, .int .u8 0, .int .u8 0, .int .u8 0, .int .u8 0, .int .u8 0] 25) (bytes z32).toArray
        rw [← hW8] at hfr
        have H11 : Kp (Blk W8 g11 25 (bytes z32)) := ⟨by rw [hW8, hg11]; exact blk_row W7 _ _ _⟩
        have HF8 := Kp.mk (HF7.out.trans hfr (fun _ _ h => h))
        have HR8 := Kp.mk (HR7.out.fr hfr)
        rw [← hW8, ← hg11]
        clear hW8 hg11 hfr HNEW
        have hlg : decide ((131071 : Int) < (len : Int)) = true := decide_eq_true (by omega)
        rcases hn with hn | hn
        · go_wp2_with (fail)
          go_ret
          exact ⟨rfl, HF8.out⟩
        · have hn0 : ¬ n < 0 := by omega
          go_wp2_with (fail)
          go_ret
          exact ⟨rfl, HF8.out⟩

      · go_wp2_with fail
        refine (CRA.out (by omega) r hr hr2 hn W6 _ c1).mono ?_
        rintro e W7 ⟨rfl, hq⟩
        have HF7 := Kp.mk (HF6.out.trans hq (fun _ _ h => h))
        have HR7 := Kp.mk (HR6.out.fr hq)
        have HNEW : Kp (Blk (W7.alloc (.cells #[.int .u8 0, .int .u8 0, .int .u8 0, .int .u8 0, .int .u8 0, .int .u8 0, .int .u8 0, .int .u8 0, .int .u8 0, .int .u8 0, .int .u8 0, .int .u8 0, .int .u8 0, .int .u8 0, .int .u8 0, .int .u8 0, .int .u8 0, .int .u8 0, .int .u8 0, .int .u8 0, .int .u8 0, .int .u8 0, .int .u8 0, .int .u8 0, .int .u8 0, .int .u8 0, .int .u8 0, .int .u8 0, .int .u8 0, .int .u8 0, .int .u8 0, .int .u8 0] 25)) W7.heap.size 25 [.int .u8 0, .int .u8 0, .int .u8 0, .int .u8 0, .int .u8 0, .int .u8 0, .int .u8 0, .int .u8 0, .int .u8 0, .int .u8 0, .int .u8 0, .int .u8 0, .int .u8 0, .int .u8 0, .int .u8 0, .int .u8 0, .int .u8 0, .int .u8 0, .int .u8 0, .int .u8 0, .int .u8 0, .int .u8 0, .int .u8 0, .int .u8 0, .int .u8 0, .int .u8 0, .int .u8 0, .int .u8 0, .int .u8 0, .int .u8 0, .int .u8 0, .int .u8 0]) := ⟨Blk.new W7 _ _⟩
        clear hq
        go_upto_region 16 with (refine wpList_storeH rfl rfl (Operand.tmp 11) (Operand.tmp 57) rfl W7.heap.size _ _ z32 rfl rfl HNEW.out rfl rfl ?_)
        obtain ⟨g11, hg11⟩ : ∃ g11, g11 = W7.heap.size := ⟨_, rfl⟩
        obtain ⟨W8, hW8⟩ : ∃ W8, W8 = (W7.alloc (.cells #[.int .u8 0, .int .u8 0, .int .u8 0, .int .u8 0, .int .u8 0, .int .u8 0, .int .u8 0, .int .u8 0, .int .u8 0, .int .u8 0, .int .u8 0, .int .u8 0, .int .u8 0, .int .u8 0, .int .u8 0, .int .u8 0, .int .u8 0, .int .u8 0, .int .u8 0, .int .u8 0, .int .u8 0, .int .u8 0, .int .u8 0, .int .u8 0, .int .u8 0, .int .u8 0, .int .u8 0, .int .u8 0, .int .u8 0, .int .u8 0, .int .u8 0, .int .u8 0] 25)).setRow W7.heap.size (bytes z32).toArray := ⟨_, rfl⟩
        have hfr := fr_row (Fr.refl (fun _ => False) W7) (.cells #[.int .u8 0, .int .u8 0, .int .u8 0, .int .u8 0, .int .u8 0, .int .u8 0, .int .u8 0, .int .u8 0, .int .u8 0, .int .u8 0, .int .u8 0, .int .u8 0, .int .u8 0, .int .u8 0, .int .u8 0, .int .u8 0, .int .u8 0, .int .u8 0, .int .u8 0, .int .u8 0, .int .u8 0, .int .u8 0, .int .u8 0, .int .u8 0, .int .u8 0, .int .u8 0, .int .u8 0, .int .u8 0, .int .u8 0, .int .u8 0, .int .u8 0, .int .u8 0] 25) (bytes z32).toArray
        rw [← hW8] at hfr
        have H11 : Kp (Blk W8 g11 25 (bytes z32)) := ⟨by rw [hW8, hg11]; exact blk_row W7 _ _ _⟩
        have HF8 := Kp.mk (HF7.out.trans hfr (fun _ _ h => h))
        have HR8 := Kp.mk (HR7.out.fr hfr)
        rw [← hW8, ← hg11]
        clear hW8 hg11 hfr HNEW
        have hlg : decide ((131071 : Int) < (len : Int)) = false := decide_eq_false (by omega)
        rcases hn with hn | hn
        · go_wp2_with (fail)
          go_ret
          exact ⟨rfl, HF8.out⟩
        · have hn0 : ¬ n < 0 := by omega
          go_wp2_with (fail)
          go_ret
          exact ⟨rfl, HF8.out⟩

    · obtain ⟨m, hm⟩ : ∃ m : Nat, n = (m : Int) := ⟨n.toNat, by omega⟩
      have hmr : m ≤ r := by omega
      have hn1 : ¬ n < 0 := by omega
      have hn2 : ¬ (r : Int) < n := by omega
      have HMr := Kp.mk hmr
      have HMm := Kp.mk hm
      by_cases hl : 131071 < len
      · clear hm hmr hn
        go_wp2_with fail
        refine (CRL.out hl W6 _ c1).mono ?_
        rintro e W7 ⟨rfl, hq⟩
        have HF7 := Kp.mk (HF6.out.trans hq (fun _ _ h => h))
        have HR7 := Kp.mk (HR6.out.fr hq)
        have HNEW : Kp (Blk (W7.alloc (.cells #[.int .u8 0, .int .u8 0, .int .u8 0, .int .u8 0, .int .u8 0, .int .u8 0, .int .u8 0, .int .u8 0, .int .u8 0, .int .u8 0, .int .u8 0, .int .u8 0, .int .u8 0, .int .u8 0, .int .u8 0, .int .u8 0, .int .u8 0, .int .u8 0, .int .u8 0, .int .u8 0, .int .u8 0, .int .u8 0, .int .u8 0, .int .u8 0, .int .u8 0, .int .u8 0, .int .u8 0, .int .u8 0, .int .u8 0, .int .u8 0, .int .u8 0, .int .u8 0] 25)) W7.heap.size 25 [.int .u8 0, .int .u8 0, .int .u8 0, .int .u8 0, .int .u8 0, .int .u8 0, .int .u8 0, .int .u8 0, .int .u8 0, .int .u8 0, .int .u8 0, .int .u8 0, .int .u8 0, .int .u8 0, .int .u8 0, .int .u8 0, .int .u8 0, .int .u8 0, .int .u8 0, .int .u8 0, .int .u8 0, .int .u8 0, .int .u8 0, .int .u8 0, .int .u8 0, .int .u8 0, .int .u8 0, .int .u8 0, .int .u8 0, .int .u8 0, .int .u8 0, .int .u8 0]) := ⟨Blk.new W7 _ _⟩
        clear hq
        go_upto_region 16 with (refine wpList_storeH rfl rfl (Operand.tmp 11) (Operand.tmp 57) rfl W7.heap.size _ _ z32 rfl rfl HNEW.out rfl rfl ?_)
        obtain ⟨g11, hg11⟩ : ∃ g11, g11 = W7.heap.size := ⟨_, rfl⟩
        obtain ⟨W8, hW8⟩ : ∃ W8, W8 = (W7.alloc (.cells #[.int .u8 0, .int .u8 0, .int .u8 0, .int .u8 0, .int .u8 0, .int .u8 0, .int .u8 0, .int .u8 0, .int .u8 0, .int .u8 0, .int .u8 0, .int .u8 0, .int .u8 0, .int .u8 0, .int .u8 0, .int .u8 0, .int .u8 0, .int .u8 0, .int .u8 0, .int .u8 0, .int .u8 0, .int .u8 0, .int .u8 0, .int .u8 0, .int .u8 0, .int .u8 0, .int .u8 0, .int .u8 0, .int .u8 0, .int .u8 0, .int .u8 0, .int .u8 0] 25)).setRow W7.heap.size (bytes z32).toArray := ⟨_, rfl⟩
        have hfr := fr_row (Fr.refl (fun _ => False) W7) (.cells #[.int .u8 0, .int .u8 0, .int .u8 0, .int .u8 0, .int .u8 0, .int .u8 0, .int .u8 0, .int .u8 0, .int .u8 0, .int .u8 0, .int .u8 0, .int .u8 0, .int .u8 0, .int .u8 0, .int .u8 0, .int .u8 0, .int .u8 0, .int .u8 0, .int .u8 0, .int .u8 0, .int .u8 0, .int .u8 0, .int .u8 0, .int .u8 0, .int .u8 0, .int .u8 0, .int .u8 0, .int .u8 0, .int .u8 0, .int .u8 0, .int .u8 0, .int .u8 0] 25) (bytes z32).toArray
        rw [← hW8] at hfr
        have H11 : Kp (Blk W8 g11 25 (bytes z32)) := ⟨by rw [hW8, hg11]; exact blk_row W7 _ _ _⟩
        have HF8 := Kp.mk (HF7.out.trans hfr (fun _ _ h => h))
        have HR8 := Kp.mk (HR7.out.fr hfr)
        rw [← hW8, ← hg11]
        clear hW8 hg11 hfr HNEW
        have hlg : decide ((131071 : Int) < (len : Int)) = true := decide_eq_true (by omega)
        go_upto_region 20 with (fail)
        refine start_ (n := 17) (S := fun w' => True) (ds := []) #[false, false, false, false, false, false, false, false, false, false, false, false, false, false, false, false, false] (by kernel_rfl) rfl rfl trivial (fun hHeld => ?_)
        refine pure_ (i := 0) (N := some 82) (v := ?_) (a' := ?_) #[true, false, false, false, false, false, false, false, false, false, false, false, false, false, false, false, false] rfl rfl (by kernel_rfl) (fun _ _ _ h => h) (Or.inl ⟨by rfl, ?_⟩) ?_ ?_
        rotate_left
        · intro w'
          go_simp
          with_reducible rfl
        rotate_left
        · simp only [Act.put, List.setIfInBounds_toArray, List.set_cons_zero, List.set_cons_succ]
          rfl
        refine pure_ (i := 1) (N := some 83) (v := ?_) (a' := ?_) #[true, true, false, false, false, false, false, false, false, false, false, false, false, false, false, false, false] rfl rfl (by kernel_rfl) (fun _ _ _ h => h) (Or.inl ⟨by rfl, ?_⟩) ?_ ?_
        rotate_left
        · intro w'
          go_simp
          with_reducible rfl
        rotate_left
        · simp only [Act.put, List.setIfInBounds_toArray, List.set_cons_zero, List.set_cons_succ]
          rfl
        refine pure_ (i := 2) (N := some 84) (v := ?_) (a' := ?_) #[true, true, true, false, false, false, false, false, false, false, false, false, false, false, false, false, false] rfl rfl (by kernel_rfl) (fun _ _ _ h => h) (Or.inl ⟨by rfl, ?_⟩) ?_ ?_
        rotate_left
        · intro w'
          go_simp
          with_reducible rfl
        rotate_left
        · simp only [Act.put, List.setIfInBounds_toArray, List.set_cons_zero, List.set_cons_succ]
          rfl
        refine pure_ (i := 3) (N := some 85) (v := ?_) (a' := ?_) #[true, true, true, true, false, false, false, false, false, false, false, false, false, false, false, false, false] rfl rfl (by kernel_rfl) (fun _ _ _ h => h) (Or.inl ⟨by rfl, ?_⟩) ?_ ?_
        rotate_left
        · intro w'
          go_simp
          with_reducible rfl
        rotate_left
        · simp only [Act.put, List.setIfInBounds_toArray, List.set_cons_zero, List.set_cons_succ]
          rfl
        refine pure_ (i := 4) (N := some 86) (v := undef) (a' := ?_) #[true, true, true, true, true, false, false, false, false, false, false, false, false, false, false, false, false] rfl rfl (by kernel_rfl) (fun _ _ _ h => h) (Or.inr ⟨by rfl, rfl⟩) ?_ ?_
        rotate_left
        · simp only [Act.put, List.setIfInBounds_toArray, List.set_cons_zero, List.set_cons_succ]
          rfl
        refine pure_ (i := 5) (N := some 87) (v := undef) (a' := ?_) #[true, true, true, true, true, true, false, false, false, false, false, false, false, false, false, false, false] rfl rfl (by kernel_rfl) (fun _ _ _ h => h) (Or.inr ⟨by rfl, rfl⟩) ?_ ?_
        rotate_left
        · simp only [Act.put, List.setIfInBounds_toArray, List.set_cons_zero, List.set_cons_succ]
          rfl
        refine pure_ (i := 6) (N := some 88) (v := undef) (a' := ?_) #[true, true, true, true, true, true, true, false, false, false, false, false, false, false, false, false, false] rfl rfl (by kernel_rfl) (fun _ _ _ h => h) (Or.inr ⟨by rfl, rfl⟩) ?_ ?_
        rotate_left
        · simp only [Act.put, List.setIfInBounds_toArray, List.set_cons_zero, List.set_cons_succ]
          rfl
        refine pure_ (i := 7) (N := some 89) (v := undef) (a' := ?_) #[true, true, true, true, true, true, true, true, false, false, false, false, false, false, false, false, false] rfl rfl (by kernel_rfl) (fun _ _ _ h => h) (Or.inr ⟨by rfl, rfl⟩) ?_ ?_
        rotate_left
        · simp only [Act.put, List.setIfInBounds_toArray, List.set_cons_zero, List.set_cons_succ]
          rfl
        refine pure_ (i := 8) (N := some 90) (v := undef) (a' := ?_) #[true, true, true, true, true, true, true, true, true, false, false, false, false, false, false, false, false] rfl rfl (by kernel_rfl) (fun _ _ _ h => h) (Or.inr ⟨by rfl, rfl⟩) ?_ ?_
        rotate_left
        · simp only [Act.put, List.setIfInBounds_toArray, List.set_cons_zero, List.set_cons_succ]
          rfl
        refine pure_ (i := 9) (N := some 91) (v := undef) (a' := ?_) #[true, true, true, true, true, true, true, true, true, true, false, false, false, false, false, false, false] rfl rfl (by kernel_rfl) (fun _ _ _ h => h) (Or.inr ⟨by rfl, rfl⟩) ?_ ?_
        rotate_left
        · simp only [Act.put, List.setIfInBounds_toArray, List.set_cons_zero, List.set_cons_succ]
          rfl
        refine pure_ (i := 10) (N := some 92) (v := undef) (a' := ?_) #[true, true, true, true, true, true, true, true, true, true, true, false, false, false, false, false, false] rfl rfl (by kernel_rfl) (fun _ _ _ h => h) (Or.inr ⟨by rfl, rfl⟩) ?_ ?_
        rotate_left
        · simp only [Act.put, List.setIfInBounds_toArray, List.set_cons_zero, List.set_cons_succ]
          rfl
        refine pure_ (i := 11) (N := some 93) (v := undef) (a' := ?_) #[true, true, true, true, true, true, true, true, true, true, true, true, false, false, false, false, false] rfl rfl (by kernel_rfl) (fun _ _ _ h => h) (Or.inr ⟨by rfl, rfl⟩) ?_ ?_
        rotate_left
        · simp only [Act.put, List.setIfInBounds_toArray, List.set_cons_zero, List.set_cons_succ]
          rfl
        refine pure_ (i := 12) (N := some 94) (v := undef) (a' := ?_) #[true, true, true, true, true, true, true, true, true, true, true, true, true, false, false, false, false] rfl rfl (by kernel_rfl) (fun _ _ _ h => h) (Or.inr ⟨by rfl, rfl⟩) ?_ ?_
        rotate_left
        · simp only [Act.put, List.setIfInBounds_toArray, List.set_cons_zero, List.set_cons_succ]
          rfl
        refine pure_ (i := 13) (N := some 95) (v := undef) (a' := ?_) #[true, true, true, true, true, true, true, true, true, true, true, true, true, true, false, false, false] rfl rfl (by kernel_rfl) (fun _ _ _ h => h) (Or.inr ⟨by rfl, rfl⟩) ?_ ?_
        rotate_left
        · simp only [Act.put, List.setIfInBounds_toArray, List.set_cons_zero, List.set_cons_succ]
          rfl
        refine pure_ (i := 14) (N := some 96) (v := undef) (a' := ?_) #[true, true, true, true, true, true, true, true, true, true, true, true, true, true, true, false, false] rfl rfl (by kernel_rfl) (fun _ _ _ h => h) (Or.inr ⟨by rfl, rfl⟩) ?_ ?_
        rotate_left
        · simp only [Act.put, List.setIfInBounds_toArray, List.set_cons_zero, List.set_cons_succ]
          rfl
        refine pure_ (i := 15) (N := some 97) (v := ?_) (a' := ?_) #[true, true, true, true, true, true, true, true, true, true, true, true, true, true, true, true, false] rfl rfl (by kernel_rfl) (fun _ _ _ h => h) (Or.inl ⟨by rfl, ?_⟩) ?_ ?_
        rotate_left
        · intro w'
          go_simp
          with_reducible rfl
        rotate_left
        · simp only [Act.put, List.setIfInBounds_toArray, List.set_cons_zero, List.set_cons_succ]
          rfl
        refine pure_ (i := 16) (N := some 6) (v := ?_) (a' := ?_) #[true, true, true, true, true, true, true, true, true, true, true, true, true, true, true, true, true] rfl rfl (by kernel_rfl) (fun _ _ _ h => h) (Or.inl ⟨by rfl, ?_⟩) ?_ ?_
        rotate_left
        · intro w'
          go_simp
          with_reducible rfl
        rotate_left
        · simp only [Act.put, List.setIfInBounds_toArray, List.set_cons_zero, List.set_cons_succ]
          rfl
        refine done_ (by kernel_rfl) ?_
        go_wp2_with (fail)
        go_ret
        exact ⟨rfl, HF8.out.drew⟩

      · have CPO1 := Kp.mk (CPO.out (by omega) r m hr hr2 hmr hm)
        have CFP1 := Kp.mk (CFP.out m)
        have hRT := HRL.out r m (by rw [hr, HLEN.out]) hr2 hmr
        have CRY1 := CRY.out (by omega) r m hr hr2 hmr hm W6 _ c1 HF6.out HR6.out
        obtain ⟨PK, hPK⟩ : ∃ PK, PK = (pks m 49 0).map fun p => L.getD p.toNat [] := ⟨_, rfl⟩
        rw [← hPK] at CPO1 CFP1
        obtain ⟨RT, hRTe⟩ : ∃ RT, RT = rootL (strength k) L m := ⟨_, rfl⟩
        rw [← hRTe] at CFP1 hRT CRY1
        have HRT := Kp.mk hRT
        have sR : ∀ W, (Op.equalIn 10000 25 (.agg (bytes RT).toArray) (.agg (bytes RT).toArray)).run Tryd.prog W = .ok true W := fun W => by
          have h := eq32 RT RT HRT.out HRT.out W
          rw [decide_eq_true rfl] at h
          exact h
        clear hPK hRTe hRT hm hmr hn
        go_wp2_with fail
        refine (CRY1).mono ?_
        rintro e W7 ⟨rfl, hq⟩
        have HF7 := Kp.mk (HF6.out.trans hq (fun _ _ h => h))
        have HR7 := Kp.mk (HR6.out.fr hq)
        have HNEW : Kp (Blk (W7.alloc (.cells #[.int .u8 0, .int .u8 0, .int .u8 0, .int .u8 0, .int .u8 0, .int .u8 0, .int .u8 0, .int .u8 0, .int .u8 0, .int .u8 0, .int .u8 0, .int .u8 0, .int .u8 0, .int .u8 0, .int .u8 0, .int .u8 0, .int .u8 0, .int .u8 0, .int .u8 0, .int .u8 0, .int .u8 0, .int .u8 0, .int .u8 0, .int .u8 0, .int .u8 0, .int .u8 0, .int .u8 0, .int .u8 0, .int .u8 0, .int .u8 0, .int .u8 0, .int .u8 0] 25)) W7.heap.size 25 [.int .u8 0, .int .u8 0, .int .u8 0, .int .u8 0, .int .u8 0, .int .u8 0, .int .u8 0, .int .u8 0, .int .u8 0, .int .u8 0, .int .u8 0, .int .u8 0, .int .u8 0, .int .u8 0, .int .u8 0, .int .u8 0, .int .u8 0, .int .u8 0, .int .u8 0, .int .u8 0, .int .u8 0, .int .u8 0, .int .u8 0, .int .u8 0, .int .u8 0, .int .u8 0, .int .u8 0, .int .u8 0, .int .u8 0, .int .u8 0, .int .u8 0, .int .u8 0]) := ⟨Blk.new W7 _ _⟩
        clear hq
        go_upto_region 16 with (refine wpList_storeH rfl rfl (Operand.tmp 11) (Operand.tmp 57) rfl W7.heap.size _ _ RT rfl rfl HNEW.out rfl HRT.out ?_)
        obtain ⟨g11, hg11⟩ : ∃ g11, g11 = W7.heap.size := ⟨_, rfl⟩
        obtain ⟨W8, hW8⟩ : ∃ W8, W8 = (W7.alloc (.cells #[.int .u8 0, .int .u8 0, .int .u8 0, .int .u8 0, .int .u8 0, .int .u8 0, .int .u8 0, .int .u8 0, .int .u8 0, .int .u8 0, .int .u8 0, .int .u8 0, .int .u8 0, .int .u8 0, .int .u8 0, .int .u8 0, .int .u8 0, .int .u8 0, .int .u8 0, .int .u8 0, .int .u8 0, .int .u8 0, .int .u8 0, .int .u8 0, .int .u8 0, .int .u8 0, .int .u8 0, .int .u8 0, .int .u8 0, .int .u8 0, .int .u8 0, .int .u8 0] 25)).setRow W7.heap.size (bytes RT).toArray := ⟨_, rfl⟩
        have hfr := fr_row (Fr.refl (fun _ => False) W7) (.cells #[.int .u8 0, .int .u8 0, .int .u8 0, .int .u8 0, .int .u8 0, .int .u8 0, .int .u8 0, .int .u8 0, .int .u8 0, .int .u8 0, .int .u8 0, .int .u8 0, .int .u8 0, .int .u8 0, .int .u8 0, .int .u8 0, .int .u8 0, .int .u8 0, .int .u8 0, .int .u8 0, .int .u8 0, .int .u8 0, .int .u8 0, .int .u8 0, .int .u8 0, .int .u8 0, .int .u8 0, .int .u8 0, .int .u8 0, .int .u8 0, .int .u8 0, .int .u8 0] 25) (bytes RT).toArray
        rw [← hW8] at hfr
        have H11 : Kp (Blk W8 g11 25 (bytes RT)) := ⟨by rw [hW8, hg11]; exact blk_row W7 _ _ _⟩
        have HF8 := Kp.mk (HF7.out.trans hfr (fun _ _ h => h))
        have HR8 := Kp.mk (HR7.out.fr hfr)
        rw [← hW8, ← hg11]
        clear hW8 hg11 hfr HNEW
        have hlg : decide ((131071 : Int) < (len : Int)) = false := decide_eq_false (by omega)
        go_upto_region 20 with (fail)
        refine start_ (n := 17) (S := fun w' => Lds w' 25 (.pointer (some ⟨g11, 0, none⟩)) (.agg (bytes RT).toArray)) (ds := []) #[false, false, false, false, false, false, false, false, false, false, false, false, false, false, false, false, false] (by kernel_rfl) rfl rfl (lds_blk H11.out.drew HRT.out) (fun hHeld => ?_)
        refine pure_ (i := 0) (N := some 82) (v := ?_) (a' := ?_) #[true, false, false, false, false, false, false, false, false, false, false, false, false, false, false, false, false] rfl rfl (by kernel_rfl) (fun _ _ _ h => h) (Or.inl ⟨by rfl, ?_⟩) ?_ ?_
        rotate_left
        · intro w'
          go_simp
          with_reducible rfl
        rotate_left
        · simp only [Act.put, List.setIfInBounds_toArray, List.set_cons_zero, List.set_cons_succ]
          rfl
        refine pure_ (i := 1) (N := some 83) (v := ?_) (a' := ?_) #[true, true, false, false, false, false, false, false, false, false, false, false, false, false, false, false, false] rfl rfl (by kernel_rfl) (fun _ _ _ h => h) (Or.inl ⟨by rfl, ?_⟩) ?_ ?_
        rotate_left
        · intro w'
          go_simp
          with_reducible rfl
        rotate_left
        · simp only [Act.put, List.setIfInBounds_toArray, List.set_cons_zero, List.set_cons_succ]
          rfl
        refine pure_ (i := 2) (N := some 84) (v := ?_) (a' := ?_) #[true, true, true, false, false, false, false, false, false, false, false, false, false, false, false, false, false] rfl rfl (by kernel_rfl) (fun _ _ _ h => h) (Or.inl ⟨by rfl, ?_⟩) ?_ ?_
        rotate_left
        · intro w'
          go_simp
          with_reducible rfl
        rotate_left
        · simp only [Act.put, List.setIfInBounds_toArray, List.set_cons_zero, List.set_cons_succ]
          rfl
        refine pure_ (i := 3) (N := some 85) (v := ?_) (a' := ?_) #[true, true, true, true, false, false, false, false, false, false, false, false, false, false, false, false, false] rfl rfl (by kernel_rfl) (fun _ _ _ h => h) (Or.inl ⟨by rfl, ?_⟩) ?_ ?_
        rotate_left
        · intro w'
          go_simp
          with_reducible rfl
        rotate_left
        · simp only [Act.put, List.setIfInBounds_toArray, List.set_cons_zero, List.set_cons_succ]
          rfl
        refine pure_ (i := 4) (N := some 86) (v := ?_) (a' := ?_) #[true, true, true, true, true, false, false, false, false, false, false, false, false, false, false, false, false] rfl rfl (by kernel_rfl) (fun _ _ _ h => h) (Or.inl ⟨by rfl, ?_⟩) ?_ ?_
        rotate_left
        · intro w'
          go_simp
          with_reducible rfl
        rotate_left
        · simp only [Act.put, List.setIfInBounds_toArray, List.set_cons_zero, List.set_cons_succ]
          rfl
        refine pure_ (i := 5) (N := some 87) (v := ?_) (a' := ?_) #[true, true, true, true, true, true, false, false, false, false, false, false, false, false, false, false, false] rfl rfl (by kernel_rfl) (fun _ _ _ h => h) (Or.inl ⟨by rfl, ?_⟩) ?_ ?_
        rotate_left
        · intro w'
          go_simp
          with_reducible rfl
        rotate_left
        · simp only [Act.put, List.setIfInBounds_toArray, List.set_cons_zero, List.set_cons_succ]
          rfl
        refine pure_ (i := 6) (N := some 88) (v := ?_) (a' := ?_) #[true, true, true, true, true, true, true, false, false, false, false, false, false, false, false, false, false] rfl rfl (by kernel_rfl) (fun _ _ _ h => h) (Or.inl ⟨by rfl, ?_⟩) ?_ ?_
        rotate_left
        · intro w'
          go_simp
          with_reducible rfl
        rotate_left
        · simp only [Act.put, List.setIfInBounds_toArray, List.set_cons_zero, List.set_cons_succ]
          rfl
        refine pure_ (i := 8) (N := some 90) (v := ?_) (a' := ?_) #[true, true, true, true, true, true, true, false, true, false, false, false, false, false, false, false, false] rfl rfl (by kernel_rfl) (fun _ _ _ h => h) (Or.inl ⟨by rfl, ?_⟩) ?_ ?_
        rotate_left
        · intro w'
          go_simp
          with_reducible rfl
        rotate_left
        · simp only [Act.put, List.setIfInBounds_toArray, List.set_cons_zero, List.set_cons_succ]
          rfl
        refine pure_ (i := 9) (N := some 91) (v := ?_) (a' := ?_) #[true, true, true, true, true, true, true, false, true, true, false, false, false, false, false, false, false] rfl rfl (by kernel_rfl) (fun _ _ _ h => h) (Or.inl ⟨by rfl, ?_⟩) ?_ ?_
        rotate_left
        · intro w'
          go_simp
          with_reducible rfl
        rotate_left
        · simp only [Act.put, List.setIfInBounds_toArray, List.set_cons_zero, List.set_cons_succ]
          rfl
        refine pure_ (i := 10) (N := some 92) (v := ?_) (a' := ?_) #[true, true, true, true, true, true, true, false, true, true, true, false, false, false, false, false, false] rfl rfl (by kernel_rfl) (fun _ _ _ h => h) (Or.inl ⟨by rfl, ?_⟩) ?_ ?_
        rotate_left
        · intro w'
          go_simp
          with_reducible rfl
        rotate_left
        · simp only [Act.put, List.setIfInBounds_toArray, List.set_cons_zero, List.set_cons_succ]
          rfl
        refine take_ (i := 7) (N := some 89) (v := ?_) (a' := ?_) #[true, true, true, true, true, true, true, true, true, true, true, false, false, false, false, false, false] rfl rfl (by kernel_rfl) (fun _ _ _ h => h) (Or.inl ⟨by rfl, ?_⟩) hHeld ?_ ?_
        rotate_left
        · intro w' s0
          refine Lds.run s0 (x := ?_) ?_ ?_
          · exact (Operand.tmp 11)
          · rfl
          · rfl
        rotate_left
        · simp only [Act.put, List.setIfInBounds_toArray, List.set_cons_zero, List.set_cons_succ]
          rfl
        refine one_ (i := 11) (N := some 93) #[true, true, true, true, true, true, true, true, true, true, true, true, false, false, false, false, false] rfl rfl (by kernel_rfl) (by decide) (fun K hK => ?_)
        refine goes_ Tryd.func35 (by kernel_rfl) rfl #[.slice (some ⟨b1, 0, none⟩) len c1, .int .i64 n] (by rfl) rfl rfl (by simp only [List.map_toArray, List.map_cons, List.map_nil]; rfl) ?_
        with_reducible refine (CPO1.out _ _ _ (HR8.out.fr ((Fr.refl (fun _ => False) W8).drew))).mono ?_
        rintro e a1 ⟨v, rfl, hO, hq⟩
        refine ⟨_, rfl, ?_⟩
        have Fa1 : Kp (Fr (fun _ => False) W8 a1) := ⟨((Fr.refl (fun _ => False) W8).drew).trans hq (fun _ _ h => h)⟩
        obtain ⟨A2, c2, hv, hR⟩ := hO.row (fun _ => False) (fun _ _ h => h)
        subst hv
        have HRP := Kp.mk hR
        clear hq hO hR
        refine hK.out _ _ (lds_blk (H11.out.fr Fa1.out (fun h => h)) HRT.out) (fun hHeld => ?_)
        clear hK K
        refine norm_ (a' := ?_) ?_ ?_
        rotate_left
        · show Act.put _ (some 93) _ = _
          simp only [Act.put, List.setIfInBounds_toArray, List.set_cons_zero, List.set_cons_succ]
          rfl
        refine one_ (i := 12) (N := some 94) #[true, true, true, true, true, true, true, true, true, true, true, true, true, false, false, false, false] rfl rfl (by kernel_rfl) (by decide) (fun K hK => ?_)
        refine goes_ Tryd.func31 (by kernel_rfl) rfl #[.int .i64 k, .slice A2 PK.length c2] (by rfl) rfl rfl (by simp only [List.map_toArray, List.map_cons, List.map_nil]; rfl) ?_
        with_reducible refine (CFP1.out _ A2 c2 (HF8.out.trans Fa1.out (fun _ _ h => h)) HRP.out).mono ?_
        rintro e a2 ⟨rfl, hq⟩
        refine ⟨_, rfl, ?_⟩
        have Fa2 : Kp (Fr (fun _ => False) W8 a2) := ⟨Fa1.out.trans hq (fun _ _ h => h)⟩
        clear hq
        refine hK.out _ _ (lds_blk (H11.out.fr Fa2.out (fun h => h)) HRT.out) (fun hHeld => ?_)
        clear hK K
        refine norm_ (a' := ?_) ?_ ?_
        rotate_left
        · show Act.put _ (some 94) _ = _
          simp only [Act.put, List.setIfInBounds_toArray, List.set_cons_zero, List.set_cons_succ]
          rfl
        refine pure_ (i := 13) (N := some 95) (v := ?_) (a' := ?_) #[true, true, true, true, true, true, true, true, true, true, true, true, true, true, false, false, false] rfl rfl (by kernel_rfl) (fun _ _ _ h => h) (Or.inl ⟨by rfl, ?_⟩) ?_ ?_
        rotate_left
        · intro w'
          go_simp
          with_reducible rfl
        rotate_left
        · simp only [Act.put, List.setIfInBounds_toArray, List.set_cons_zero, List.set_cons_succ]
          rfl
        refine pure_ (i := 14) (N := some 96) (v := ?_) (a' := ?_) #[true, true, true, true, true, true, true, true, true, true, true, true, true, true, true, false, false] rfl rfl (by kernel_rfl) (fun _ _ _ h => h) (Or.inl ⟨by rfl, ?_⟩) ?_ ?_
        rotate_left
        · intro w'
          go_simp
          with_reducible rfl
        rotate_left
        · simp only [Act.put, List.setIfInBounds_toArray, List.set_cons_zero, List.set_cons_succ]
          rfl
        refine pure_ (i := 15) (N := some 97) (v := ?_) (a' := ?_) #[true, true, true, true, true, true, true, true, true, true, true, true, true, true, true, true, false] rfl rfl (by kernel_rfl) (fun _ _ _ h => h) (Or.inl ⟨by rfl, ?_⟩) ?_ ?_
        rotate_left
        · intro w'
          go_simp
          with_reducible rfl
        rotate_left
        · simp only [Act.put, List.setIfInBounds_toArray, List.set_cons_zero, List.set_cons_succ]
          rfl
        refine pure_ (i := 16) (N := some 6) (v := ?_) (a' := ?_) #[true, true, true, true, true, true, true, true, true, true, true, true, true, true, true, true, true] rfl rfl (by kernel_rfl) (fun _ _ _ h => h) (Or.inl ⟨by rfl, ?_⟩) ?_ ?_
        rotate_left
        · intro w'
          go_simp
          with_reducible rfl
        rotate_left
        · simp only [Act.put, List.setIfInBounds_toArray, List.set_cons_zero, List.set_cons_succ]
          rfl
        refine done_ (by kernel_rfl) ?_
        go_wp2_with (fail)
        go_ret
        exact ⟨rfl, HF8.out.trans Fa2.out (fun _ _ h => h)⟩

  · have hno : ∀ r, r ≤ 281474976710656 → cnt r ≠ len := fun r h1 h2 => hcnt ⟨r, h1, h2⟩
    have CRec := Records_not len hno W5
    have HNO := Kp.mk hno
    refine CRec.mono ?_
    rintro e W6 ⟨rfl, hq⟩
    have HF6 := Kp.mk (HF5.out.trans hq (fun _ _ h => h))
    have HR6 := Kp.mk (HR5.out.fr hq)
    clear hq CRec hcnt hno
    by_cases hl : 131071 < len
    · go_wp2_with fail
      refine (CRL.out hl W6 _ c1).mono ?_
      rintro e W7 ⟨rfl, hq⟩
      have HF7 := Kp.mk (HF6.out.trans hq (fun _ _ h => h))
      have HR7 := Kp.mk (HR6.out.fr hq)
      have HNEW : Kp (Blk (W7.alloc (.cells #[.int .u8 0, .int .u8 0, .int .u8 0, .int .u8 0, .int .u8 0, .int .u8 0, .int .u8 0, .int .u8 0, .int .u8 0, .int .u8 0, .int .u8 0, .int .u8 0, .int .u8 0, .int .u8 0, .int .u8 0, .int .u8 0, .int .u8 0, .int .u8 0, .int .u8 0, .int .u8 0, .int .u8 0, .int .u8 0, .int .u8 0, .int .u8 0, .int .u8 0, .int .u8 0, .int .u8 0, .int .u8 0, .int .u8 0, .int .u8 0, .int .u8 0, .int .u8 0] 25)) W7.heap.size 25 [.int .u8 0, .int .u8 0, .int .u8 0, .int .u8 0, .int .u8 0, .int .u8 0, .int .u8 0, .int .u8 0, .int .u8 0, .int .u8 0, .int .u8 0, .int .u8 0, .int .u8 0, .int .u8 0, .int .u8 0, .int .u8 0, .int .u8 0, .int .u8 0, .int .u8 0, .int .u8 0, .int .u8 0, .int .u8 0, .int .u8 0, .int .u8 0, .int .u8 0, .int .u8 0, .int .u8 0, .int .u8 0, .int .u8 0, .int .u8 0, .int .u8 0, .int .u8 0]) := ⟨Blk.new W7 _ _⟩
      clear hq
      go_upto_region 16 with (refine wpList_storeH rfl rfl (Operand.tmp 11) (Operand.tmp 57) rfl W7.heap.size _ _ z32 rfl rfl HNEW.out rfl rfl ?_)
      obtain ⟨g11, hg11⟩ : ∃ g11, g11 = W7.heap.size := ⟨_, rfl⟩
      obtain ⟨W8, hW8⟩ : ∃ W8, W8 = (W7.alloc (.cells #[.int .u8 0, .int .u8 0, .int .u8 0, .int .u8 0, .int .u8 0, .int .u8 0, .int .u8 0, .int .u8 0, .int .u8 0, .int .u8 0, .int .u8 0, .int .u8 0, .int .u8 0, .int .u8 0, .int .u8 0, .int .u8 0, .int .u8 0, .int .u8 0, .int .u8 0, .int .u8 0, .int .u8 0, .int .u8 0, .int .u8 0, .int .u8 0, .int .u8 0, .int .u8 0, .int .u8 0, .int .u8 0, .int .u8 0, .int .u8 0, .int .u8 0, .int .u8 0] 25)).setRow W7.heap.size (bytes z32).toArray := ⟨_, rfl⟩
      have hfr := fr_row (Fr.refl (fun _ => False) W7) (.cells #[.int .u8 0, .int .u8 0, .int .u8 0, .int .u8 0, .int .u8 0, .int .u8 0, .int .u8 0, .int .u8 0, .int .u8 0, .int .u8 0, .int .u8 0, .int .u8 0, .int .u8 0, .int .u8 0, .int .u8 0, .int .u8 0, .int .u8 0, .int .u8 0, .int .u8 0, .int .u8 0, .int .u8 0, .int .u8 0, .int .u8 0, .int .u8 0, .int .u8 0, .int .u8 0, .int .u8 0, .int .u8 0, .int .u8 0, .int .u8 0, .int .u8 0, .int .u8 0] 25) (bytes z32).toArray
      rw [← hW8] at hfr
      have H11 : Kp (Blk W8 g11 25 (bytes z32)) := ⟨by rw [hW8, hg11]; exact blk_row W7 _ _ _⟩
      have HF8 := Kp.mk (HF7.out.trans hfr (fun _ _ h => h))
      have HR8 := Kp.mk (HR7.out.fr hfr)
      rw [← hW8, ← hg11]
      clear hW8 hg11 hfr HNEW
      have hlg : decide ((131071 : Int) < (len : Int)) = true := decide_eq_true (by omega)
      go_wp2_with (fail)
      go_ret
      exact ⟨rfl, HF8.out⟩

    · go_wp2_with fail
      refine (CRN.out (by omega) HNO.out W6 _ c1).mono ?_
      rintro e W7 ⟨rfl, hq⟩
      have HF7 := Kp.mk (HF6.out.trans hq (fun _ _ h => h))
      have HR7 := Kp.mk (HR6.out.fr hq)
      have HNEW : Kp (Blk (W7.alloc (.cells #[.int .u8 0, .int .u8 0, .int .u8 0, .int .u8 0, .int .u8 0, .int .u8 0, .int .u8 0, .int .u8 0, .int .u8 0, .int .u8 0, .int .u8 0, .int .u8 0, .int .u8 0, .int .u8 0, .int .u8 0, .int .u8 0, .int .u8 0, .int .u8 0, .int .u8 0, .int .u8 0, .int .u8 0, .int .u8 0, .int .u8 0, .int .u8 0, .int .u8 0, .int .u8 0, .int .u8 0, .int .u8 0, .int .u8 0, .int .u8 0, .int .u8 0, .int .u8 0] 25)) W7.heap.size 25 [.int .u8 0, .int .u8 0, .int .u8 0, .int .u8 0, .int .u8 0, .int .u8 0, .int .u8 0, .int .u8 0, .int .u8 0, .int .u8 0, .int .u8 0, .int .u8 0, .int .u8 0, .int .u8 0, .int .u8 0, .int .u8 0, .int .u8 0, .int .u8 0, .int .u8 0, .int .u8 0, .int .u8 0, .int .u8 0, .int .u8 0, .int .u8 0, .int .u8 0, .int .u8 0, .int .u8 0, .int .u8 0, .int .u8 0, .int .u8 0, .int .u8 0, .int .u8 0]) := ⟨Blk.new W7 _ _⟩
      clear hq
      go_upto_region 16 with (refine wpList_storeH rfl rfl (Operand.tmp 11) (Operand.tmp 57) rfl W7.heap.size _ _ z32 rfl rfl HNEW.out rfl rfl ?_)
      obtain ⟨g11, hg11⟩ : ∃ g11, g11 = W7.heap.size := ⟨_, rfl⟩
      obtain ⟨W8, hW8⟩ : ∃ W8, W8 = (W7.alloc (.cells #[.int .u8 0, .int .u8 0, .int .u8 0, .int .u8 0, .int .u8 0, .int .u8 0, .int .u8 0, .int .u8 0, .int .u8 0, .int .u8 0, .int .u8 0, .int .u8 0, .int .u8 0, .int .u8 0, .int .u8 0, .int .u8 0, .int .u8 0, .int .u8 0, .int .u8 0, .int .u8 0, .int .u8 0, .int .u8 0, .int .u8 0, .int .u8 0, .int .u8 0, .int .u8 0, .int .u8 0, .int .u8 0, .int .u8 0, .int .u8 0, .int .u8 0, .int .u8 0] 25)).setRow W7.heap.size (bytes z32).toArray := ⟨_, rfl⟩
      have hfr := fr_row (Fr.refl (fun _ => False) W7) (.cells #[.int .u8 0, .int .u8 0, .int .u8 0, .int .u8 0, .int .u8 0, .int .u8 0, .int .u8 0, .int .u8 0, .int .u8 0, .int .u8 0, .int .u8 0, .int .u8 0, .int .u8 0, .int .u8 0, .int .u8 0, .int .u8 0, .int .u8 0, .int .u8 0, .int .u8 0, .int .u8 0, .int .u8 0, .int .u8 0, .int .u8 0, .int .u8 0, .int .u8 0, .int .u8 0, .int .u8 0, .int .u8 0, .int .u8 0, .int .u8 0, .int .u8 0, .int .u8 0] 25) (bytes z32).toArray
      rw [← hW8] at hfr
      have H11 : Kp (Blk W8 g11 25 (bytes z32)) := ⟨by rw [hW8, hg11]; exact blk_row W7 _ _ _⟩
      have HF8 := Kp.mk (HF7.out.trans hfr (fun _ _ h => h))
      have HR8 := Kp.mk (HR7.out.fr hfr)
      rw [← hW8, ← hg11]
      clear hW8 hg11 hfr HNEW
      have hlg : decide ((131071 : Int) < (len : Int)) = false := decide_eq_false (by omega)
      go_wp2_with (fail)
      go_ret
      exact ⟨rfl, HF8.out⟩

set_option maxHeartbeats 4000000 in
set_option maxRecDepth 100000 in
theorem folds_2 (k : Int) (A : Option Addr) (c : Nat) (L : List (List Int)) (n : Int) (w : World) (hL : Laid w) (hX : HRow w (fun _ => False) A c L) (hb : L.length * 32 ≤ 140737488351232) (hc : 2 ≤ L.length) :
    Calls Tryd.prog 5 #[.int .i64 k, .slice A L.length c, .int .i64 n] w fun e w' => e = .returned (.bool true) ∧ Fr (fun _ => False) w w' := by
  have CH := Kp.mk (hashes8_calls A c L w hX (by omega))
  have LW : ∀ W, Fr (fun _ => False) w W → Laid W := fun W hf => hL.fr hf (fun _ h => h.elim)
  have hs1 := strength_le k
  have CT : Kp (∀ W, Fr (fun _ => False) w W → Calls Tryd.prog 32 #[] W fun e w' => e = .returned (.bool true) ∧ Fr (fun _ => False) W w') := ⟨fun W hf => told_calls W (LW W hf)⟩
  have CF : Kp (∀ W A1 c1, Fr (fun _ => False) w W → HRow W (fun _ => False) A1 c1 L → Calls Tryd.prog 31 #[.int .i64 k, .slice A1 L.length c1] W fun e w' => e = .returned (.agg (bytes (foldL (strength k) L)).toArray) ∧ Fr (fun _ => False) W w') := ⟨fun W A1 c1 hf hx => Fold_calls k A1 c1 L W (LW W hf) hx (by omega)⟩
  have hfl := foldL_len (strength k) hs1 L hX.1
  have hX32 := hX.1
  have CFO : Kp (∀ (r : List (List Int)) W A1 c1, Fr (fun _ => False) w W → HRow W (fun _ => False) A1 c1 r → r.length ≤ 4398046511104 → Calls Tryd.prog 31 #[.int .i64 k, .slice A1 r.length c1] W fun e w' => e = .returned (.agg (bytes (foldL (strength k) r)).toArray) ∧ Fr (fun _ => False) W w') := ⟨fun r W A1 c1 hf hx hl => Fold_calls k A1 c1 r W (LW W hf) hx (by omega)⟩
  have CNO : Kp (∀ W l r, Fr (fun _ => False) w W → l.length = 32 → r.length = 32 → Calls Tryd.prog 15 #[.int .i64 k, .agg (bytes l).toArray, .agg (bytes r).toArray] W fun e w' => e = .returned (.agg (bytes (nodeL (strength k) l r)).toArray) ∧ Fr (fun _ => False) W w') := ⟨fun W l r hf hl hr => nodeHash_calls k l r hl hr W (LW W hf)⟩
  have CRL : Kp (131071 < L.length → ∀ W A1 c1, Calls Tryd.prog 34 #[.int .i64 k, .slice A1 L.length c1, .int .i64 n] W fun e w' => e = .returned (.tuple #[.agg (bytes z32).toArray, .int .i64 2]) ∧ Fr (fun _ => False) W w') := ⟨fun h W A1 c1 => Root_long k A1 c1 L n W h⟩
  have CRN : Kp (L.length ≤ 131071 → (∀ r, r ≤ 281474976710656 → cnt r ≠ L.length) → ∀ W A1 c1, Calls Tryd.prog 34 #[.int .i64 k, .slice A1 L.length c1, .int .i64 n] W fun e w' => e = .returned (.tuple #[.agg (bytes z32).toArray, .int .i64 80]) ∧ Fr (fun _ => False) W w') := ⟨fun h h2 W A1 c1 => Root_not k A1 c1 L n W h h2⟩
  have CRA : Kp (L.length ≤ 131071 → ∀ r, cnt r = L.length → r ≤ 281474976710656 → (n < 0 ∨ (r : Int) < n) → ∀ W A1 c1, Calls Tryd.prog 34 #[.int .i64 k, .slice A1 L.length c1, .int .i64 n] W fun e w' => e = .returned (.tuple #[.agg (bytes z32).toArray, .int .i64 1]) ∧ Fr (fun _ => False) W w') := ⟨fun h r h1 h2 h3 W A1 c1 => Root_arg k A1 c1 L n W h r h1 h2 h3⟩
  have CRY : Kp (L.length ≤ 131071 → ∀ r m : Nat, cnt r = L.length → r ≤ 281474976710656 → m ≤ r → n = (m : Int) → ∀ W A1 c1, Fr (fun _ => False) w W → HRow W (fun _ => False) A1 c1 L → Calls Tryd.prog 34 #[.int .i64 k, .slice A1 L.length c1, .int .i64 n] W fun e w' => e = .returned (.tuple #[.agg (bytes (rootL (strength k) L m)).toArray, .int .i64 0]) ∧ Fr (fun _ => False) W w') := ⟨fun h r m h1 h2 h3 h4 W A1 c1 hf hx => by rw [h4]; exact Root_yes k A1 c1 L m r W (LW W hf) hx h h1 h2 h3⟩
  have CPO : Kp (L.length ≤ 131071 → ∀ r m : Nat, cnt r = L.length → r ≤ 281474976710656 → m ≤ r → n = (m : Int) → ∀ W A1 c1, HRow W (fun _ => False) A1 c1 L → Calls Tryd.prog 35 #[.slice A1 L.length c1, .int .i64 n] W fun e w' => ∃ v, e = .returned v ∧ HOwn w' W.heap.size v ((pks m 49 0).map fun p => L.getD p.toNat []) ∧ Fr (fun _ => False) W w') := ⟨fun h r m h1 h2 h3 h4 W A1 c1 hx => by rw [h4]; exact peaksOf_calls A1 c1 L m r W hx h1 h2 h3 h⟩
  have CFP : Kp (∀ m : Nat, ∀ W A2 c2, Fr (fun _ => False) w W → HRow W (fun _ => False) A2 c2 ((pks m 49 0).map fun p => L.getD p.toNat []) → Calls Tryd.prog 31 #[.int .i64 k, .slice A2 ((pks m 49 0).map fun p => L.getD p.toNat []).length c2] W fun e w' => e = .returned (.agg (bytes (rootL (strength k) L m)).toArray) ∧ Fr (fun _ => False) W w') := ⟨fun m W A2 c2 hf hx => Fold_calls k A2 c2 _ W (LW W hf) hx (by rw [List.length_map]; have := pks_len m; omega)⟩
  have HRL : Kp (∀ r m : Nat, cnt r = L.length → r ≤ 281474976710656 → m ≤ r → (rootL (strength k) L m).length = 32) := ⟨fun r m h1 h2 h3 => rootL_len (strength k) hs1 L hX32 m r h1 h2 h3⟩

  obtain ⟨len, hlen⟩ : ∃ len, len = L.length := ⟨_, rfl⟩
  obtain ⟨FL, hFL⟩ : ∃ FL, FL = foldL (strength k) L := ⟨_, rfl⟩
  have HFL : Kp (FL.length = 32) := ⟨by rw [hFL]; exact hfl⟩
  rw [← hFL] at CF
  rw [← hlen] at CF CRL CRN CRA CRY CPO hb hc ⊢
  have HLEN := Kp.mk hlen
  have HX32 := Kp.mk hX32
  have HFE := Kp.mk hFL
  have HHC := Kp.mk hc
  clear hfl hX32 hs1 hFL hlen LW hL hX hc
  go_enter Tryd.func5, Tryd.ntmps5
  go_wp2_with fail
  rw [HLEN.out]
  refine CH.out.mono ?_
  rintro e W1 ⟨v, rfl, hO, hf⟩
  have HF1 := Kp.mk hf
  have hA1 := own_at hO
  obtain ⟨A1, c1, hv, hR⟩ := hO.row (fun _ => False) (fun _ _ h => h)
  rw [← HLEN.out] at hv
  subst hv
  have HR1 := Kp.mk hR
  have HB1 := Kp.mk (hA1 A1 len c1 rfl)
  clear hO hf hR CH
  go_wp2_with fail
  refine (CF.out W1 A1 c1 HF1.out HR1.out).mono ?_
  rintro e W2 ⟨rfl, hf⟩
  have HF2 := Kp.mk (HF1.out.trans hf (fun _ _ h => h))
  have HR2 := Kp.mk (HR1.out.fr hf)
  have hnew : Blk (W2.alloc (.cells #[.int .u8 0, .int .u8 0, .int .u8 0, .int .u8 0, .int .u8 0, .int .u8 0, .int .u8 0, .int .u8 0, .int .u8 0, .int .u8 0, .int .u8 0, .int .u8 0, .int .u8 0, .int .u8 0, .int .u8 0, .int .u8 0, .int .u8 0, .int .u8 0, .int .u8 0, .int .u8 0, .int .u8 0, .int .u8 0, .int .u8 0, .int .u8 0, .int .u8 0, .int .u8 0, .int .u8 0, .int .u8 0, .int .u8 0, .int .u8 0, .int .u8 0, .int .u8 0] 25)) W2.heap.size 25 [.int .u8 0, .int .u8 0, .int .u8 0, .int .u8 0, .int .u8 0, .int .u8 0, .int .u8 0, .int .u8 0, .int .u8 0, .int .u8 0, .int .u8 0, .int .u8 0, .int .u8 0, .int .u8 0, .int .u8 0, .int .u8 0, .int .u8 0, .int .u8 0, .int .u8 0, .int .u8 0, .int .u8 0, .int .u8 0, .int .u8 0, .int .u8 0, .int .u8 0, .int .u8 0, .int .u8 0, .int .u8 0, .int .u8 0, .int .u8 0, .int .u8 0, .int .u8 0] := Blk.new W2 _ _
  clear hf CF
  have hE0 : ((len : Int) == 0) = false := by have := HHC.out; rw [beq_eq_false_iff_ne]; omega
  have hE1 : ((len : Int) == 1) = false := by have := HHC.out; rw [beq_eq_false_iff_ne]; omega
  have HNEW := Kp.mk hnew
  clear hnew
  go_upto_region 4 with (refine wpList_storeH rfl rfl (Operand.tmp 8) (Operand.tmp 17) rfl W2.heap.size _ _ FL rfl rfl HNEW.out rfl HFL.out ?_)
  obtain ⟨g8, hg8⟩ : ∃ g8, g8 = W2.heap.size := ⟨_, rfl⟩
  obtain ⟨W3, hW3⟩ : ∃ W3, W3 = (W2.alloc (.cells #[.int .u8 0, .int .u8 0, .int .u8 0, .int .u8 0, .int .u8 0, .int .u8 0, .int .u8 0, .int .u8 0, .int .u8 0, .int .u8 0, .int .u8 0, .int .u8 0, .int .u8 0, .int .u8 0, .int .u8 0, .int .u8 0, .int .u8 0, .int .u8 0, .int .u8 0, .int .u8 0, .int .u8 0, .int .u8 0, .int .u8 0, .int .u8 0, .int .u8 0, .int .u8 0, .int .u8 0, .int .u8 0, .int .u8 0, .int .u8 0, .int .u8 0, .int .u8 0] 25)).setRow W2.heap.size (bytes FL).toArray := ⟨_, rfl⟩
  have hfr := fr_row (Fr.refl (fun _ => False) W2) (.cells #[.int .u8 0, .int .u8 0, .int .u8 0, .int .u8 0, .int .u8 0, .int .u8 0, .int .u8 0, .int .u8 0, .int .u8 0, .int .u8 0, .int .u8 0, .int .u8 0, .int .u8 0, .int .u8 0, .int .u8 0, .int .u8 0, .int .u8 0, .int .u8 0, .int .u8 0, .int .u8 0, .int .u8 0, .int .u8 0, .int .u8 0, .int .u8 0, .int .u8 0, .int .u8 0, .int .u8 0, .int .u8 0, .int .u8 0, .int .u8 0, .int .u8 0, .int .u8 0] 25) (bytes FL).toArray
  rw [← hW3] at hfr
  have H8 : Kp (Blk W3 g8 25 (bytes FL)) := ⟨by rw [hW3, hg8]; exact blk_row W2 _ _ _⟩
  have HF3 := Kp.mk (HF2.out.trans hfr (fun _ _ h => h))
  have HR3 := Kp.mk (HR2.out.fr hfr)
  rw [← hW3, ← hg8]
  clear hW3 hg8 hfr HNEW
  have sE : ∀ W, (Op.equalIn 10000 25 (.agg (bytes FL).toArray) (.agg (bytes FL).toArray)).run Tryd.prog W = .ok true W := fun W => by
    have h := eq32 FL FL HFL.out HFL.out W
    rw [decide_eq_true rfl] at h
    exact h
  obtain ⟨b1, hb1⟩ : ∃ b1, A1 = some ⟨b1, 0, none⟩ := by
    rcases HB1.out with h | h
    · have h1 := HLEN.out; have := HHC.out; rw [h] at h1; simp at h1; omega
    · exact h
  subst hb1
  have hlen1 : 1 ≤ len := by have := HHC.out; omega
  have hlen1i : (1 : Int) ≤ (len : Int) := by omega
  have hlen0 : 0 < len := by omega
  have hlen2 : 2 ≤ len := HHC.out
  have hcap := HR1.out.2.1
  rw [← HLEN.out] at hcap
  have hcap1 : 1 ≤ c1 := by omega
  have hcap2 : ¬ c1 = 1 := by omega
  obtain ⟨x, r, hxr, hrne⟩ : ∃ x r, L = x :: r ∧ r ≠ [] := by
    have h1 := HLEN.out
    cases hL0 : L with
    | nil => rw [hL0] at h1; simp at h1; omega
    | cons x r =>
      refine ⟨x, r, rfl, fun h => ?_⟩
      rw [hL0, h] at h1; simp at h1; omega
  have hx32 : x.length = 32 := HX32.out x (by rw [hxr]; simp)
  have hFLx : FL = nodeL (strength k) x (foldL (strength k) r) := by rw [HFE.out, hxr]; exact foldL_cons _ x hrne
  have hrl : (foldL (strength k) r).length = 32 := foldL_len _ (strength_le k) r (fun y hy => HX32.out y (by rw [hxr]; simp [hy]))
  have CF2 : Kp (∀ W, Fr (fun _ => False) W3 W → Calls Tryd.prog 31 #[.int .i64 k, .slice (some ⟨b1, 32, none⟩) (len - 1) (c1 - 1)] W fun e w' => e = .returned (.agg (bytes (foldL (strength k) r)).toArray) ∧ Fr (fun _ => False) W w') := ⟨fun W hf => by
    have hd := (HR3.out.fr hf).drop 1 (c1 - 1) (by rw [← HLEN.out]; omega) (by rw [hxr]; simp)
    rw [hxr, List.drop_succ_cons, List.drop_zero] at hd
    have q := CFO.out r W (some ⟨b1, 0 + 1 * 32, none⟩) (c1 - 1) (HF3.out.trans hf (fun _ _ h => h)) hd (by have h1 := HLEN.out; rw [hxr] at h1; simp at h1; omega)
    have hl : r.length = len - 1 := by have h1 := HLEN.out; rw [hxr] at h1; simp at h1; omega
    rw [hl] at q
    exact q⟩
  have CN2 : Kp (∀ W, Fr (fun _ => False) w W → Calls Tryd.prog 15 #[.int .i64 k, .agg (bytes x).toArray, .agg (bytes (foldL (strength k) r)).toArray] W fun e w' => e = .returned (.agg (bytes FL).toArray) ∧ Fr (fun _ => False) W w') := ⟨fun W hf => by rw [hFLx]; exact CNO.out W x _ hf hx32 hrl⟩
  have HLD : Kp (∀ W, Fr (fun _ => False) W3 W → Lds W 25 (.pointer (some ⟨b1, 0, none⟩)) (.agg (bytes x).toArray)) := ⟨fun W hf => by
    have h := lds_row (HR3.out.fr hf) 0 (by rw [hxr]; simp)
    have e : L[0]'(by rw [hxr]; simp) = x := by simp [hxr]
    rw [e] at h
    exact h⟩
  have HR32 := Kp.mk hrl
  generalize foldL (strength k) r = FR at CF2 CN2 HR32
  clear hFLx hrl hxr hrne hx32
  refine start_ (n := 11) (S := fun w' => Lds w' 25 (.pointer (some ⟨g8, 0, none⟩)) (.agg (bytes FL).toArray) ∧ Lds w' 25 (.pointer (some ⟨b1, 0, none⟩)) (.agg (bytes x).toArray)) (ds := []) #[false, false, false, false, false, false, false, false, false, false, false] (by kernel_rfl) rfl rfl ⟨lds_blk H8.out.drew HFL.out, HLD.out _ ((Fr.refl (fun _ => False) W3).drew)⟩ (fun hHeld => ?_)
  refine pure_ (i := 1) (N := some 21) (v := ?_) (a' := ?_) #[false, true, false, false, false, false, false, false, false, false, false] rfl rfl (by kernel_rfl) (fun _ _ _ h => h) (Or.inl ⟨by rfl, ?_⟩) ?_ ?_
  rotate_left
  · intro w'
    go_simp
    with_reducible rfl
  rotate_left
  · simp only [Act.put, List.setIfInBounds_toArray, List.set_cons_zero, List.set_cons_succ]
    rfl
  refine pure_ (i := 2) (N := some 22) (v := ?_) (a' := ?_) #[false, true, true, false, false, false, false, false, false, false, false] rfl rfl (by kernel_rfl) (fun _ _ _ h => h) (Or.inl ⟨by rfl, ?_⟩) ?_ ?_
  rotate_left
  · intro w'
    go_simp
    with_reducible rfl
  rotate_left
  · simp only [Act.put, List.setIfInBounds_toArray, List.set_cons_zero, List.set_cons_succ]
    rfl
  refine pure_ (i := 3) (N := some 23) (v := ?_) (a' := ?_) #[false, true, true, true, false, false, false, false, false, false, false] rfl rfl (by kernel_rfl) (fun _ _ _ h => h) (Or.inl ⟨by rfl, ?_⟩) ?_ ?_
  rotate_left
  · intro w'
    go_simp
    with_reducible rfl
  rotate_left
  · simp only [Act.put, List.setIfInBounds_toArray, List.set_cons_zero, List.set_cons_succ]
    rfl
  refine pure_ (i := 5) (N := some 25) (v := ?_) (a' := ?_) #[false, true, true, true, false, true, false, false, false, false, false] rfl rfl (by kernel_rfl) (fun _ _ _ h => h) (Or.inl ⟨by rfl, ?_⟩) ?_ ?_
  rotate_left
  · intro w'
    go_simp
    with_reducible rfl
  rotate_left
  · simp only [Act.put, List.setIfInBounds_toArray, List.set_cons_zero, List.set_cons_succ]
    rfl
  refine pure_ (i := 6) (N := some 26) (v := ?_) (a' := ?_) #[false, true, true, true, false, true, true, false, false, false, false] rfl rfl (by kernel_rfl) (fun _ _ _ h => h) (Or.inl ⟨by rfl, ?_⟩) ?_ ?_
  rotate_left
  · intro w'
    go_simp
    with_reducible rfl
  rotate_left
  · simp only [Act.put, List.setIfInBounds_toArray, List.set_cons_zero, List.set_cons_succ]
    rfl
  refine pure_ (i := 7) (N := some 27) (v := ?_) (a' := ?_) #[false, true, true, true, false, true, true, true, false, false, false] rfl rfl (by kernel_rfl) (fun _ _ _ h => h) (Or.inl ⟨by rfl, ?_⟩) ?_ ?_
  rotate_left
  · intro w'
    go_simp
    with_reducible rfl
  rotate_left
  · simp only [Act.put, List.setIfInBounds_toArray, List.set_cons_zero, List.set_cons_succ]
    rfl
  refine take_ (i := 0) (N := some 20) (v := ?_) (a' := ?_) #[true, true, true, true, false, true, true, true, false, false, false] rfl rfl (by kernel_rfl) (fun _ _ _ h => h) (Or.inl ⟨by rfl, ?_⟩) hHeld ?_ ?_
  rotate_left
  · rintro w' ⟨s0, s1⟩
    refine Lds.run s0 (x := ?_) ?_ ?_
    · exact (Operand.tmp 8)
    · rfl
    · rfl
  rotate_left
  · simp only [Act.put, List.setIfInBounds_toArray, List.set_cons_zero, List.set_cons_succ]
    rfl
  refine take_ (i := 4) (N := some 24) (v := ?_) (a' := ?_) #[true, true, true, true, true, true, true, true, false, false, false] rfl rfl (by kernel_rfl) (fun _ _ _ h => h) (Or.inl ⟨by rfl, ?_⟩) hHeld ?_ ?_
  rotate_left
  · rintro w' ⟨s0, s1⟩
    refine Lds.run s1 (x := ?_) ?_ ?_
    · exact (Operand.tmp 23)
    · rfl
    · rfl
  rotate_left
  · simp only [Act.put, List.setIfInBounds_toArray, List.set_cons_zero, List.set_cons_succ]
    rfl
  refine one_ (i := 8) (N := some 28) #[true, true, true, true, true, true, true, true, true, false, false] rfl rfl (by kernel_rfl) (by decide) (fun K hK => ?_)
  refine goes_ Tryd.func31 (by kernel_rfl) rfl #[.int .i64 k, .slice (some ⟨b1, 32, none⟩) (len - 1) (c1 - 1)] (by rfl) rfl rfl (by simp only [List.map_toArray, List.map_cons, List.map_nil]; rfl) ?_
  with_reducible refine (CF2.out _ ((Fr.refl (fun _ => False) W3).drew)).mono ?_
  rintro e a1 ⟨rfl, hq⟩
  refine ⟨_, rfl, ?_⟩
  have Fa1 : Kp (Fr (fun _ => False) W3 a1) := ⟨((Fr.refl (fun _ => False) W3).drew).trans hq (fun _ _ h => h)⟩
  clear hq
  refine hK.out _ _ ⟨lds_blk (H8.out.fr Fa1.out (fun h => h)) HFL.out, HLD.out _ Fa1.out⟩ (fun hHeld => ?_)
  clear hK K
  refine norm_ (a' := ?_) ?_ ?_
  rotate_left
  · show Act.put _ (some 28) _ = _
    simp only [Act.put, List.setIfInBounds_toArray, List.set_cons_zero, List.set_cons_succ]
    rfl
  refine one_ (i := 9) (N := some 29) #[true, true, true, true, true, true, true, true, true, true, false] rfl rfl (by kernel_rfl) (by decide) (fun K hK => ?_)
  refine goes_ Tryd.func15 (by kernel_rfl) rfl #[.int .i64 k, .agg (bytes x).toArray, .agg (bytes FR).toArray] (by rfl) rfl rfl (by simp only [List.map_toArray, List.map_cons, List.map_nil]; rfl) ?_
  with_reducible refine (CN2.out _ (HF3.out.trans Fa1.out (fun _ _ h => h))).mono ?_
  rintro e a2 ⟨rfl, hq⟩
  refine ⟨_, rfl, ?_⟩
  have Fa2 : Kp (Fr (fun _ => False) W3 a2) := ⟨Fa1.out.trans hq (fun _ _ h => h)⟩
  clear hq
  refine hK.out _ _ ⟨lds_blk (H8.out.fr Fa2.out (fun h => h)) HFL.out, HLD.out _ Fa2.out⟩ (fun hHeld => ?_)
  clear hK K
  refine norm_ (a' := ?_) ?_ ?_
  rotate_left
  · show Act.put _ (some 29) _ = _
    simp only [Act.put, List.setIfInBounds_toArray, List.set_cons_zero, List.set_cons_succ]
    rfl
  refine pure_ (i := 10) (N := some 30) (v := ?_) (a' := ?_) #[true, true, true, true, true, true, true, true, true, true, true] rfl rfl (by kernel_rfl) (fun _ _ _ h => h) (Or.inl ⟨by rfl, ?_⟩) ?_ ?_
  rotate_left
  · intro w'
    go_simp
    with_reducible rfl
  rotate_left
  · simp only [Act.put, List.setIfInBounds_toArray, List.set_cons_zero, List.set_cons_succ]
    rfl
  refine done_ (by kernel_rfl) ?_
  have HF4 := Kp.mk (HF3.out.trans Fa2.out (fun _ _ h => h))
  have HR4 := Kp.mk (HR3.out.fr Fa2.out)
  clear CF2 CN2 HLD HR32 Fa1 Fa2 HF3 HR3 H8
  go_upto_region 12 with (fail)
  generalize a2 = W4 at HF4 HR4 ⊢
  go_wp2_with fail
  refine (CT.out W4 HF4.out).mono ?_
  rintro e W5 ⟨rfl, hq⟩
  have HF5 := Kp.mk (HF4.out.trans hq (fun _ _ h => h))
  have HR5 := Kp.mk (HR4.out.fr hq)
  clear hq CT HF4 HR4 hE0 hE1
  go_wp2_with fail
  by_cases hcnt : ∃ r, r ≤ 281474976710656 ∧ cnt r = len
  · obtain ⟨r, hr2, hr⟩ := hcnt
    have CRec := Records_yes r hr2 W5
    rw [hr] at CRec
    refine CRec.mono ?_
    rintro e W6 ⟨rfl, hq⟩
    have HF6 := Kp.mk (HF5.out.trans hq (fun _ _ h => h))
    have HR6 := Kp.mk (HR5.out.fr hq)
    clear hq CRec
    by_cases hn : n < 0 ∨ (r : Int) < n
    · by_cases hl : 131071 < len
      · go_wp2_with fail
        refine (CRL.out hl W6 _ c1).mono ?_
        rintro e W7 ⟨rfl, hq⟩
        have HF7 := Kp.mk (HF6.out.trans hq (fun _ _ h => h))
        have HR7 := Kp.mk (HR6.out.fr hq)
        have HNEW : Kp (Blk (W7.alloc (.cells #[.int .u8 0, .int .u8 0, .int .u8 0, .int .u8 0, .int .u8 0, .int .u8 0, .int .u8 0, .int .u8 0, .int .u8 0, .int .u8 0, .int .u8 0, .int .u8 0, .int .u8 0, .int .u8 0, .int .u8 0, .int .u8 0, .int .u8 0, .int .u8 0, .int .u8 0, .int .u8 0, .int .u8 0, .int .u8 0, .int .u8 0, .int .u8 0, .int .u8 0, .int .u8 0, .int .u8 0, .int .u8 0, .int .u8 0, .int .u8 0, .int .u8 0, .int .u8 0] 25)) W7.heap.size 25 [.int .u8 0, .int .u8 0, .int .u8 0, .int .u8 0, .int .u8 0, .int .u8 0, .int .u8 0, .int .u8 0, .int .u8 0, .int .u8 0, .int .u8 0, .int .u8 0, .int .u8 0, .int .u8 0, .int .u8 0, .int .u8 0, .int .u8 0, .int .u8 0, .int .u8 0, .int .u8 0, .int .u8 0, .int .u8 0, .int .u8 0, .int .u8 0, .int .u8 0, .int .u8 0, .int .u8 0, .int .u8 0, .int .u8 0, .int .u8 0, .int .u8 0, .int .u8 0]) := ⟨Blk.new W7 _ _⟩
        clear hq
        go_upto_region 16 with (refine wpList_storeH rfl rfl (Operand.tmp 11) (Operand.tmp 57) rfl W7.heap.size _ _ z32 rfl rfl HNEW.out rfl rfl ?_)
        obtain ⟨g11, hg11⟩ : ∃ g11, g11 = W7.heap.size := ⟨_, rfl⟩
        obtain ⟨W8, hW8⟩ : ∃ W8, W8 = (W7.alloc (.cells #[.int .u8 0, .int .u8 0, .int .u8 0, .int .u8 0, .int .u8 0, .int .u8 0, .int .u8 0, .int .u8 0, .int .u8 0, .int .u8 0, .int .u8 0, .int .u8 0, .int .u8 0, .int .u8 0, .int .u8 0, .int .u8 0, .int .u8 0, .int .u8 0, .int .u8 0, .int .u8 0, .int .u8 0, .int .u8 0, .int .u8 0, .int .u8 0, .int .u8 0, .int .u8 0, .int .u8 0, .int .u8 0, .int .u8 0, .int .u8 0, .int .u8 0, .int .u8 0] 25)).setRow W7.heap.size (bytes z32).toArray := ⟨_, rfl⟩
        have hfr := fr_row (Fr.refl (fun _ => False) W7) (.cells #[.int .u8 0, .int .u8 0, .int .u8 0, .int .u8 0, .int .u8 0, .int .u8 0, .int .u8 0, .int .u8 0, .int .u8 0, .int .u8 0, .int .u8 0, .int .u8 0, .int .u8 0, .int .u8 0, .int .u8 0, .int .u8 0, .int .u8 0, .int .u8 0, .int .u8 0, .int .u8 0, .int .u8 0, .int .u8 0, .int .u8 0, .int .u8 0, .int .u8 0, .int .u8 0, .int .u8 0, .int .u8 0, .int .u8 0, .int .u8 0, .int .u8 0, .int .u8 0] 25) (bytes z32).toArray
        rw [← hW8] at hfr
        have H11 : Kp (Blk W8 g11 25 (bytes z32)) := ⟨by rw [hW8, hg11]; exact blk_row W7 _ _ _⟩
        have HF8 := Kp.mk (HF7.out.trans hfr (fun _ _ h => h))
        have HR8 := Kp.mk (HR7.out.fr hfr)
        rw [← hW8, ← hg11]
        clear hW8 hg11 hfr HNEW
        have hlg : decide ((131071 : Int) < (len : Int)) = true := decide_eq_true (by omega)
        rcases hn with hn | hn
        · go_wp2_with (fail)
          go_ret
          exact ⟨rfl, HF8.out⟩
        · have hn0 : ¬ n < 0 := by omega
          go_wp2_with (fail)
          go_ret
          exact ⟨rfl, HF8.out⟩

      · go_wp2_with fail
        refine (CRA.out (by omega) r hr hr2 hn W6 _ c1).mono ?_
        rintro e W7 ⟨rfl, hq⟩
        have HF7 := Kp.mk (HF6.out.trans hq (fun _ _ h => h))
        have HR7 := Kp.mk (HR6.out.fr hq)
        have HNEW : Kp (Blk (W7.alloc (.cells #[.int .u8 0, .int .u8 0, .int .u8 0, .int .u8 0, .int .u8 0, .int .u8 0, .int .u8 0, .int .u8 0, .int .u8 0, .int .u8 0, .int .u8 0, .int .u8 0, .int .u8 0, .int .u8 0, .int .u8 0, .int .u8 0, .int .u8 0, .int .u8 0, .int .u8 0, .int .u8 0, .int .u8 0, .int .u8 0, .int .u8 0, .int .u8 0, .int .u8 0, .int .u8 0, .int .u8 0, .int .u8 0, .int .u8 0, .int .u8 0, .int .u8 0, .int .u8 0] 25)) W7.heap.size 25 [.int .u8 0, .int .u8 0, .int .u8 0, .int .u8 0, .int .u8 0, .int .u8 0, .int .u8 0, .int .u8 0, .int .u8 0, .int .u8 0, .int .u8 0, .int .u8 0, .int .u8 0, .int .u8 0, .int .u8 0, .int .u8 0, .int .u8 0, .int .u8 0, .int .u8 0, .int .u8 0, .int .u8 0, .int .u8 0, .int .u8 0, .int .u8 0, .int .u8 0, .int .u8 0, .int .u8 0, .int .u8 0, .int .u8 0, .int .u8 0, .int .u8 0, .int .u8 0]) := ⟨Blk.new W7 _ _⟩
        clear hq
        go_upto_region 16 with (refine wpList_storeH rfl rfl (Operand.tmp 11) (Operand.tmp 57) rfl W7.heap.size _ _ z32 rfl rfl HNEW.out rfl rfl ?_)
        obtain ⟨g11, hg11⟩ : ∃ g11, g11 = W7.heap.size := ⟨_, rfl⟩
        obtain ⟨W8, hW8⟩ : ∃ W8, W8 = (W7.alloc (.cells #[.int .u8 0, .int .u8 0, .int .u8 0, .int .u8 0, .int .u8 0, .int .u8 0, .int .u8 0, .int .u8 0, .int .u8 0, .int .u8 0, .int .u8 0, .int .u8 0, .int .u8 0, .int .u8 0, .int .u8 0, .int .u8 0, .int .u8 0, .int .u8 0, .int .u8 0, .int .u8 0, .int .u8 0, .int .u8 0, .int .u8 0, .int .u8 0, .int .u8 0, .int .u8 0, .int .u8 0, .int .u8 0, .int .u8 0, .int .u8 0, .int .u8 0, .int .u8 0] 25)).setRow W7.heap.size (bytes z32).toArray := ⟨_, rfl⟩
        have hfr := fr_row (Fr.refl (fun _ => False) W7) (.cells #[.int .u8 0, .int .u8 0, .int .u8 0, .int .u8 0, .int .u8 0, .int .u8 0, .int .u8 0, .int .u8 0, .int .u8 0, .int .u8 0, .int .u8 0, .int .u8 0, .int .u8 0, .int .u8 0, .int .u8 0, .int .u8 0, .int .u8 0, .int .u8 0, .int .u8 0, .int .u8 0, .int .u8 0, .int .u8 0, .int .u8 0, .int .u8 0, .int .u8 0, .int .u8 0, .int .u8 0, .int .u8 0, .int .u8 0, .int .u8 0, .int .u8 0, .int .u8 0] 25) (bytes z32).toArray
        rw [← hW8] at hfr
        have H11 : Kp (Blk W8 g11 25 (bytes z32)) := ⟨by rw [hW8, hg11]; exact blk_row W7 _ _ _⟩
        have HF8 := Kp.mk (HF7.out.trans hfr (fun _ _ h => h))
        have HR8 := Kp.mk (HR7.out.fr hfr)
        rw [← hW8, ← hg11]
        clear hW8 hg11 hfr HNEW
        have hlg : decide ((131071 : Int) < (len : Int)) = false := decide_eq_false (by omega)
        rcases hn with hn | hn
        · go_wp2_with (fail)
          go_ret
          exact ⟨rfl, HF8.out⟩
        · have hn0 : ¬ n < 0 := by omega
          go_wp2_with (fail)
          go_ret
          exact ⟨rfl, HF8.out⟩

    · obtain ⟨m, hm⟩ : ∃ m : Nat, n = (m : Int) := ⟨n.toNat, by omega⟩
      have hmr : m ≤ r := by omega
      have hn1 : ¬ n < 0 := by omega
      have hn2 : ¬ (r : Int) < n := by omega
      have HMr := Kp.mk hmr
      have HMm := Kp.mk hm
      by_cases hl : 131071 < len
      · clear hm hmr hn
        go_wp2_with fail
        refine (CRL.out hl W6 _ c1).mono ?_
        rintro e W7 ⟨rfl, hq⟩
        have HF7 := Kp.mk (HF6.out.trans hq (fun _ _ h => h))
        have HR7 := Kp.mk (HR6.out.fr hq)
        have HNEW : Kp (Blk (W7.alloc (.cells #[.int .u8 0, .int .u8 0, .int .u8 0, .int .u8 0, .int .u8 0, .int .u8 0, .int .u8 0, .int .u8 0, .int .u8 0, .int .u8 0, .int .u8 0, .int .u8 0, .int .u8 0, .int .u8 0, .int .u8 0, .int .u8 0, .int .u8 0, .int .u8 0, .int .u8 0, .int .u8 0, .int .u8 0, .int .u8 0, .int .u8 0, .int .u8 0, .int .u8 0, .int .u8 0, .int .u8 0, .int .u8 0, .int .u8 0, .int .u8 0, .int .u8 0, .int .u8 0] 25)) W7.heap.size 25 [.int .u8 0, .int .u8 0, .int .u8 0, .int .u8 0, .int .u8 0, .int .u8 0, .int .u8 0, .int .u8 0, .int .u8 0, .int .u8 0, .int .u8 0, .int .u8 0, .int .u8 0, .int .u8 0, .int .u8 0, .int .u8 0, .int .u8 0, .int .u8 0, .int .u8 0, .int .u8 0, .int .u8 0, .int .u8 0, .int .u8 0, .int .u8 0, .int .u8 0, .int .u8 0, .int .u8 0, .int .u8 0, .int .u8 0, .int .u8 0, .int .u8 0, .int .u8 0]) := ⟨Blk.new W7 _ _⟩
        clear hq
        go_upto_region 16 with (refine wpList_storeH rfl rfl (Operand.tmp 11) (Operand.tmp 57) rfl W7.heap.size _ _ z32 rfl rfl HNEW.out rfl rfl ?_)
        obtain ⟨g11, hg11⟩ : ∃ g11, g11 = W7.heap.size := ⟨_, rfl⟩
        obtain ⟨W8, hW8⟩ : ∃ W8, W8 = (W7.alloc (.cells #[.int .u8 0, .int .u8 0, .int .u8 0, .int .u8 0, .int .u8 0, .int .u8 0, .int .u8 0, .int .u8 0, .int .u8 0, .int .u8 0, .int .u8 0, .int .u8 0, .int .u8 0, .int .u8 0, .int .u8 0, .int .u8 0, .int .u8 0, .int .u8 0, .int .u8 0, .int .u8 0, .int .u8 0, .int .u8 0, .int .u8 0, .int .u8 0, .int .u8 0, .int .u8 0, .int .u8 0, .int .u8 0, .int .u8 0, .int .u8 0, .int .u8 0, .int .u8 0] 25)).setRow W7.heap.size (bytes z32).toArray := ⟨_, rfl⟩
        have hfr := fr_row (Fr.refl (fun _ => False) W7) (.cells #[.int .u8 0, .int .u8 0, .int .u8 0, .int .u8 0, .int .u8 0, .int .u8 0, .int .u8 0, .int .u8 0, .int .u8 0, .int .u8 0, .int .u8 0, .int .u8 0, .int .u8 0, .int .u8 0, .int .u8 0, .int .u8 0, .int .u8 0, .int .u8 0, .int .u8 0, .int .u8 0, .int .u8 0, .int .u8 0, .int .u8 0, .int .u8 0, .int .u8 0, .int .u8 0, .int .u8 0, .int .u8 0, .int .u8 0, .int .u8 0, .int .u8 0, .int .u8 0] 25) (bytes z32).toArray
        rw [← hW8] at hfr
        have H11 : Kp (Blk W8 g11 25 (bytes z32)) := ⟨by rw [hW8, hg11]; exact blk_row W7 _ _ _⟩
        have HF8 := Kp.mk (HF7.out.trans hfr (fun _ _ h => h))
        have HR8 := Kp.mk (HR7.out.fr hfr)
        rw [← hW8, ← hg11]
        clear hW8 hg11 hfr HNEW
        have hlg : decide ((131071 : Int) < (len : Int)) = true := decide_eq_true (by omega)
        go_upto_region 20 with (fail)
        refine start_ (n := 17) (S := fun w' => True) (ds := []) #[false, false, false, false, false, false, false, false, false, false, false, false, false, false, false, false, false] (by kernel_rfl) rfl rfl trivial (fun hHeld => ?_)
        refine pure_ (i := 0) (N := some 82) (v := ?_) (a' := ?_) #[true, false, false, false, false, false, false, false, false, false, false, false, false, false, false, false, false] rfl rfl (by kernel_rfl) (fun _ _ _ h => h) (Or.inl ⟨by rfl, ?_⟩) ?_ ?_
        rotate_left
        · intro w'
          go_simp
          with_reducible rfl
        rotate_left
        · simp only [Act.put, List.setIfInBounds_toArray, List.set_cons_zero, List.set_cons_succ]
          rfl
        refine pure_ (i := 1) (N := some 83) (v := ?_) (a' := ?_) #[true, true, false, false, false, false, false, false, false, false, false, false, false, false, false, false, false] rfl rfl (by kernel_rfl) (fun _ _ _ h => h) (Or.inl ⟨by rfl, ?_⟩) ?_ ?_
        rotate_left
        · intro w'
          go_simp
          with_reducible rfl
        rotate_left
        · simp only [Act.put, List.setIfInBounds_toArray, List.set_cons_zero, List.set_cons_succ]
          rfl
        refine pure_ (i := 2) (N := some 84) (v := ?_) (a' := ?_) #[true, true, true, false, false, false, false, false, false, false, false, false, false, false, false, false, false] rfl rfl (by kernel_rfl) (fun _ _ _ h => h) (Or.inl ⟨by rfl, ?_⟩) ?_ ?_
        rotate_left
        · intro w'
          go_simp
          with_reducible rfl
        rotate_left
        · simp only [Act.put, List.setIfInBounds_toArray, List.set_cons_zero, List.set_cons_succ]
          rfl
        refine pure_ (i := 3) (N := some 85) (v := ?_) (a' := ?_) #[true, true, true, true, false, false, false, false, false, false, false, false, false, false, false, false, false] rfl rfl (by kernel_rfl) (fun _ _ _ h => h) (Or.inl ⟨by rfl, ?_⟩) ?_ ?_
        rotate_left
        · intro w'
          go_simp
          with_reducible rfl
        rotate_left
        · simp only [Act.put, List.setIfInBounds_toArray, List.set_cons_zero, List.set_cons_succ]
          rfl
        refine pure_ (i := 4) (N := some 86) (v := undef) (a' := ?_) #[true, true, true, true, true, false, false, false, false, false, false, false, false, false, false, false, false] rfl rfl (by kernel_rfl) (fun _ _ _ h => h) (Or.inr ⟨by rfl, rfl⟩) ?_ ?_
        rotate_left
        · simp only [Act.put, List.setIfInBounds_toArray, List.set_cons_zero, List.set_cons_succ]
          rfl
        refine pure_ (i := 5) (N := some 87) (v := undef) (a' := ?_) #[true, true, true, true, true, true, false, false, false, false, false, false, false, false, false, false, false] rfl rfl (by kernel_rfl) (fun _ _ _ h => h) (Or.inr ⟨by rfl, rfl⟩) ?_ ?_
        rotate_left
        · simp only [Act.put, List.setIfInBounds_toArray, List.set_cons_zero, List.set_cons_succ]
          rfl
        refine pure_ (i := 6) (N := some 88) (v := undef) (a' := ?_) #[true, true, true, true, true, true, true, false, false, false, false, false, false, false, false, false, false] rfl rfl (by kernel_rfl) (fun _ _ _ h => h) (Or.inr ⟨by rfl, rfl⟩) ?_ ?_
        rotate_left
        · simp only [Act.put, List.setIfInBounds_toArray, List.set_cons_zero, List.set_cons_succ]
          rfl
        refine pure_ (i := 7) (N := some 89) (v := undef) (a' := ?_) #[true, true, true, true, true, true, true, true, false, false, false, false, false, false, false, false, false] rfl rfl (by kernel_rfl) (fun _ _ _ h => h) (Or.inr ⟨by rfl, rfl⟩) ?_ ?_
        rotate_left
        · simp only [Act.put, List.setIfInBounds_toArray, List.set_cons_zero, List.set_cons_succ]
          rfl
        refine pure_ (i := 8) (N := some 90) (v := undef) (a' := ?_) #[true, true, true, true, true, true, true, true, true, false, false, false, false, false, false, false, false] rfl rfl (by kernel_rfl) (fun _ _ _ h => h) (Or.inr ⟨by rfl, rfl⟩) ?_ ?_
        rotate_left
        · simp only [Act.put, List.setIfInBounds_toArray, List.set_cons_zero, List.set_cons_succ]
          rfl
        refine pure_ (i := 9) (N := some 91) (v := undef) (a' := ?_) #[true, true, true, true, true, true, true, true, true, true, false, false, false, false, false, false, false] rfl rfl (by kernel_rfl) (fun _ _ _ h => h) (Or.inr ⟨by rfl, rfl⟩) ?_ ?_
        rotate_left
        · simp only [Act.put, List.setIfInBounds_toArray, List.set_cons_zero, List.set_cons_succ]
          rfl
        refine pure_ (i := 10) (N := some 92) (v := undef) (a' := ?_) #[true, true, true, true, true, true, true, true, true, true, true, false, false, false, false, false, false] rfl rfl (by kernel_rfl) (fun _ _ _ h => h) (Or.inr ⟨by rfl, rfl⟩) ?_ ?_
        rotate_left
        · simp only [Act.put, List.setIfInBounds_toArray, List.set_cons_zero, List.set_cons_succ]
          rfl
        refine pure_ (i := 11) (N := some 93) (v := undef) (a' := ?_) #[true, true, true, true, true, true, true, true, true, true, true, true, false, false, false, false, false] rfl rfl (by kernel_rfl) (fun _ _ _ h => h) (Or.inr ⟨by rfl, rfl⟩) ?_ ?_
        rotate_left
        · simp only [Act.put, List.setIfInBounds_toArray, List.set_cons_zero, List.set_cons_succ]
          rfl
        refine pure_ (i := 12) (N := some 94) (v := undef) (a' := ?_) #[true, true, true, true, true, true, true, true, true, true, true, true, true, false, false, false, false] rfl rfl (by kernel_rfl) (fun _ _ _ h => h) (Or.inr ⟨by rfl, rfl⟩) ?_ ?_
        rotate_left
        · simp only [Act.put, List.setIfInBounds_toArray, List.set_cons_zero, List.set_cons_succ]
          rfl
        refine pure_ (i := 13) (N := some 95) (v := undef) (a' := ?_) #[true, true, true, true, true, true, true, true, true, true, true, true, true, true, false, false, false] rfl rfl (by kernel_rfl) (fun _ _ _ h => h) (Or.inr ⟨by rfl, rfl⟩) ?_ ?_
        rotate_left
        · simp only [Act.put, List.setIfInBounds_toArray, List.set_cons_zero, List.set_cons_succ]
          rfl
        refine pure_ (i := 14) (N := some 96) (v := undef) (a' := ?_) #[true, true, true, true, true, true, true, true, true, true, true, true, true, true, true, false, false] rfl rfl (by kernel_rfl) (fun _ _ _ h => h) (Or.inr ⟨by rfl, rfl⟩) ?_ ?_
        rotate_left
        · simp only [Act.put, List.setIfInBounds_toArray, List.set_cons_zero, List.set_cons_succ]
          rfl
        refine pure_ (i := 15) (N := some 97) (v := ?_) (a' := ?_) #[true, true, true, true, true, true, true, true, true, true, true, true, true, true, true, true, false] rfl rfl (by kernel_rfl) (fun _ _ _ h => h) (Or.inl ⟨by rfl, ?_⟩) ?_ ?_
        rotate_left
        · intro w'
          go_simp
          with_reducible rfl
        rotate_left
        · simp only [Act.put, List.setIfInBounds_toArray, List.set_cons_zero, List.set_cons_succ]
          rfl
        refine pure_ (i := 16) (N := some 6) (v := ?_) (a' := ?_) #[true, true, true, true, true, true, true, true, true, true, true, true, true, true, true, true, true] rfl rfl (by kernel_rfl) (fun _ _ _ h => h) (Or.inl ⟨by rfl, ?_⟩) ?_ ?_
        rotate_left
        · intro w'
          go_simp
          with_reducible rfl
        rotate_left
        · simp only [Act.put, List.setIfInBounds_toArray, List.set_cons_zero, List.set_cons_succ]
          rfl
        refine done_ (by kernel_rfl) ?_
        go_wp2_with (fail)
        go_ret
        exact ⟨rfl, HF8.out.drew⟩

      · have CPO1 := Kp.mk (CPO.out (by omega) r m hr hr2 hmr hm)
        have CFP1 := Kp.mk (CFP.out m)
        have hRT := HRL.out r m (by rw [hr, HLEN.out]) hr2 hmr
        have CRY1 := CRY.out (by omega) r m hr hr2 hmr hm W6 _ c1 HF6.out HR6.out
        obtain ⟨PK, hPK⟩ : ∃ PK, PK = (pks m 49 0).map fun p => L.getD p.toNat [] := ⟨_, rfl⟩
        rw [← hPK] at CPO1 CFP1
        obtain ⟨RT, hRTe⟩ : ∃ RT, RT = rootL (strength k) L m := ⟨_, rfl⟩
        rw [← hRTe] at CFP1 hRT CRY1
        have HRT := Kp.mk hRT
        have sR : ∀ W, (Op.equalIn 10000 25 (.agg (bytes RT).toArray) (.agg (bytes RT).toArray)).run Tryd.prog W = .ok true W := fun W => by
          have h := eq32 RT RT HRT.out HRT.out W
          rw [decide_eq_true rfl] at h
          exact h
        clear hPK hRTe hRT hm hmr hn
        go_wp2_with fail
        refine (CRY1).mono ?_
        rintro e W7 ⟨rfl, hq⟩
        have HF7 := Kp.mk (HF6.out.trans hq (fun _ _ h => h))
        have HR7 := Kp.mk (HR6.out.fr hq)
        have HNEW : Kp (Blk (W7.alloc (.cells #[.int .u8 0, .int .u8 0, .int .u8 0, .int .u8 0, .int .u8 0, .int .u8 0, .int .u8 0, .int .u8 0, .int .u8 0, .int .u8 0, .int .u8 0, .int .u8 0, .int .u8 0, .int .u8 0, .int .u8 0, .int .u8 0, .int .u8 0, .int .u8 0, .int .u8 0, .int .u8 0, .int .u8 0, .int .u8 0, .int .u8 0, .int .u8 0, .int .u8 0, .int .u8 0, .int .u8 0, .int .u8 0, .int .u8 0, .int .u8 0, .int .u8 0, .int .u8 0] 25)) W7.heap.size 25 [.int .u8 0, .int .u8 0, .int .u8 0, .int .u8 0, .int .u8 0, .int .u8 0, .int .u8 0, .int .u8 0, .int .u8 0, .int .u8 0, .int .u8 0, .int .u8 0, .int .u8 0, .int .u8 0, .int .u8 0, .int .u8 0, .int .u8 0, .int .u8 0, .int .u8 0, .int .u8 0, .int .u8 0, .int .u8 0, .int .u8 0, .int .u8 0, .int .u8 0, .int .u8 0, .int .u8 0, .int .u8 0, .int .u8 0, .int .u8 0, .int .u8 0, .int .u8 0]) := ⟨Blk.new W7 _ _⟩
        clear hq
        go_upto_region 16 with (refine wpList_storeH rfl rfl (Operand.tmp 11) (Operand.tmp 57) rfl W7.heap.size _ _ RT rfl rfl HNEW.out rfl HRT.out ?_)
        obtain ⟨g11, hg11⟩ : ∃ g11, g11 = W7.heap.size := ⟨_, rfl⟩
        obtain ⟨W8, hW8⟩ : ∃ W8, W8 = (W7.alloc (.cells #[.int .u8 0, .int .u8 0, .int .u8 0, .int .u8 0, .int .u8 0, .int .u8 0, .int .u8 0, .int .u8 0, .int .u8 0, .int .u8 0, .int .u8 0, .int .u8 0, .int .u8 0, .int .u8 0, .int .u8 0, .int .u8 0, .int .u8 0, .int .u8 0, .int .u8 0, .int .u8 0, .int .u8 0, .int .u8 0, .int .u8 0, .int .u8 0, .int .u8 0, .int .u8 0, .int .u8 0, .int .u8 0, .int .u8 0, .int .u8 0, .int .u8 0, .int .u8 0] 25)).setRow W7.heap.size (bytes RT).toArray := ⟨_, rfl⟩
        have hfr := fr_row (Fr.refl (fun _ => False) W7) (.cells #[.int .u8 0, .int .u8 0, .int .u8 0, .int .u8 0, .int .u8 0, .int .u8 0, .int .u8 0, .int .u8 0, .int .u8 0, .int .u8 0, .int .u8 0, .int .u8 0, .int .u8 0, .int .u8 0, .int .u8 0, .int .u8 0, .int .u8 0, .int .u8 0, .int .u8 0, .int .u8 0, .int .u8 0, .int .u8 0, .int .u8 0, .int .u8 0, .int .u8 0, .int .u8 0, .int .u8 0, .int .u8 0, .int .u8 0, .int .u8 0, .int .u8 0, .int .u8 0] 25) (bytes RT).toArray
        rw [← hW8] at hfr
        have H11 : Kp (Blk W8 g11 25 (bytes RT)) := ⟨by rw [hW8, hg11]; exact blk_row W7 _ _ _⟩
        have HF8 := Kp.mk (HF7.out.trans hfr (fun _ _ h => h))
        have HR8 := Kp.mk (HR7.out.fr hfr)
        rw [← hW8, ← hg11]
        clear hW8 hg11 hfr HNEW
        have hlg : decide ((131071 : Int) < (len : Int)) = false := decide_eq_false (by omega)
        go_upto_region 20 with (fail)
        refine start_ (n := 17) (S := fun w' => Lds w' 25 (.pointer (some ⟨g11, 0, none⟩)) (.agg (bytes RT).toArray)) (ds := []) #[false, false, false, false, false, false, false, false, false, false, false, false, false, false, false, false, false] (by kernel_rfl) rfl rfl (lds_blk H11.out.drew HRT.out) (fun hHeld => ?_)
        refine pure_ (i := 0) (N := some 82) (v := ?_) (a' := ?_) #[true, false, false, false, false, false, false, false, false, false, false, false, false, false, false, false, false] rfl rfl (by kernel_rfl) (fun _ _ _ h => h) (Or.inl ⟨by rfl, ?_⟩) ?_ ?_
        rotate_left
        · intro w'
          go_simp
          with_reducible rfl
        rotate_left
        · simp only [Act.put, List.setIfInBounds_toArray, List.set_cons_zero, List.set_cons_succ]
          rfl
        refine pure_ (i := 1) (N := some 83) (v := ?_) (a' := ?_) #[true, true, false, false, false, false, false, false, false, false, false, false, false, false, false, false, false] rfl rfl (by kernel_rfl) (fun _ _ _ h => h) (Or.inl ⟨by rfl, ?_⟩) ?_ ?_
        rotate_left
        · intro w'
          go_simp
          with_reducible rfl
        rotate_left
        · simp only [Act.put, List.setIfInBounds_toArray, List.set_cons_zero, List.set_cons_succ]
          rfl
        refine pure_ (i := 2) (N := some 84) (v := ?_) (a' := ?_) #[true, true, true, false, false, false, false, false, false, false, false, false, false, false, false, false, false] rfl rfl (by kernel_rfl) (fun _ _ _ h => h) (Or.inl ⟨by rfl, ?_⟩) ?_ ?_
        rotate_left
        · intro w'
          go_simp
          with_reducible rfl
        rotate_left
        · simp only [Act.put, List.setIfInBounds_toArray, List.set_cons_zero, List.set_cons_succ]
          rfl
        refine pure_ (i := 3) (N := some 85) (v := ?_) (a' := ?_) #[true, true, true, true, false, false, false, false, false, false, false, false, false, false, false, false, false] rfl rfl (by kernel_rfl) (fun _ _ _ h => h) (Or.inl ⟨by rfl, ?_⟩) ?_ ?_
        rotate_left
        · intro w'
          go_simp
          with_reducible rfl
        rotate_left
        · simp only [Act.put, List.setIfInBounds_toArray, List.set_cons_zero, List.set_cons_succ]
          rfl
        refine pure_ (i := 4) (N := some 86) (v := ?_) (a' := ?_) #[true, true, true, true, true, false, false, false, false, false, false, false, false, false, false, false, false] rfl rfl (by kernel_rfl) (fun _ _ _ h => h) (Or.inl ⟨by rfl, ?_⟩) ?_ ?_
        rotate_left
        · intro w'
          go_simp
          with_reducible rfl
        rotate_left
        · simp only [Act.put, List.setIfInBounds_toArray, List.set_cons_zero, List.set_cons_succ]
          rfl
        refine pure_ (i := 5) (N := some 87) (v := ?_) (a' := ?_) #[true, true, true, true, true, true, false, false, false, false, false, false, false, false, false, false, false] rfl rfl (by kernel_rfl) (fun _ _ _ h => h) (Or.inl ⟨by rfl, ?_⟩) ?_ ?_
        rotate_left
        · intro w'
          go_simp
          with_reducible rfl
        rotate_left
        · simp only [Act.put, List.setIfInBounds_toArray, List.set_cons_zero, List.set_cons_succ]
          rfl
        refine pure_ (i := 6) (N := some 88) (v := ?_) (a' := ?_) #[true, true, true, true, true, true, true, false, false, false, false, false, false, false, false, false, false] rfl rfl (by kernel_rfl) (fun _ _ _ h => h) (Or.inl ⟨by rfl, ?_⟩) ?_ ?_
        rotate_left
        · intro w'
          go_simp
          with_reducible rfl
        rotate_left
        · simp only [Act.put, List.setIfInBounds_toArray, List.set_cons_zero, List.set_cons_succ]
          rfl
        refine pure_ (i := 8) (N := some 90) (v := ?_) (a' := ?_) #[true, true, true, true, true, true, true, false, true, false, false, false, false, false, false, false, false] rfl rfl (by kernel_rfl) (fun _ _ _ h => h) (Or.inl ⟨by rfl, ?_⟩) ?_ ?_
        rotate_left
        · intro w'
          go_simp
          with_reducible rfl
        rotate_left
        · simp only [Act.put, List.setIfInBounds_toArray, List.set_cons_zero, List.set_cons_succ]
          rfl
        refine pure_ (i := 9) (N := some 91) (v := ?_) (a' := ?_) #[true, true, true, true, true, true, true, false, true, true, false, false, false, false, false, false, false] rfl rfl (by kernel_rfl) (fun _ _ _ h => h) (Or.inl ⟨by rfl, ?_⟩) ?_ ?_
        rotate_left
        · intro w'
          go_simp
          with_reducible rfl
        rotate_left
        · simp only [Act.put, List.setIfInBounds_toArray, List.set_cons_zero, List.set_cons_succ]
          rfl
        refine pure_ (i := 10) (N := some 92) (v := ?_) (a' := ?_) #[true, true, true, true, true, true, true, false, true, true, true, false, false, false, false, false, false] rfl rfl (by kernel_rfl) (fun _ _ _ h => h) (Or.inl ⟨by rfl, ?_⟩) ?_ ?_
        rotate_left
        · intro w'
          go_simp
          with_reducible rfl
        rotate_left
        · simp only [Act.put, List.setIfInBounds_toArray, List.set_cons_zero, List.set_cons_succ]
          rfl
        refine take_ (i := 7) (N := some 89) (v := ?_) (a' := ?_) #[true, true, true, true, true, true, true, true, true, true, true, false, false, false, false, false, false] rfl rfl (by kernel_rfl) (fun _ _ _ h => h) (Or.inl ⟨by rfl, ?_⟩) hHeld ?_ ?_
        rotate_left
        · intro w' s0
          refine Lds.run s0 (x := ?_) ?_ ?_
          · exact (Operand.tmp 11)
          · rfl
          · rfl
        rotate_left
        · simp only [Act.put, List.setIfInBounds_toArray, List.set_cons_zero, List.set_cons_succ]
          rfl
        refine one_ (i := 11) (N := some 93) #[true, true, true, true, true, true, true, true, true, true, true, true, false, false, false, false, false] rfl rfl (by kernel_rfl) (by decide) (fun K hK => ?_)
        refine goes_ Tryd.func35 (by kernel_rfl) rfl #[.slice (some ⟨b1, 0, none⟩) len c1, .int .i64 n] (by rfl) rfl rfl (by simp only [List.map_toArray, List.map_cons, List.map_nil]; rfl) ?_
        with_reducible refine (CPO1.out _ _ _ (HR8.out.fr ((Fr.refl (fun _ => False) W8).drew))).mono ?_
        rintro e a1 ⟨v, rfl, hO, hq⟩
        refine ⟨_, rfl, ?_⟩
        have Fa1 : Kp (Fr (fun _ => False) W8 a1) := ⟨((Fr.refl (fun _ => False) W8).drew).trans hq (fun _ _ h => h)⟩
        obtain ⟨A2, c2, hv, hR⟩ := hO.row (fun _ => False) (fun _ _ h => h)
        subst hv
        have HRP := Kp.mk hR
        clear hq hO hR
        refine hK.out _ _ (lds_blk (H11.out.fr Fa1.out (fun h => h)) HRT.out) (fun hHeld => ?_)
        clear hK K
        refine norm_ (a' := ?_) ?_ ?_
        rotate_left
        · show Act.put _ (some 93) _ = _
          simp only [Act.put, List.setIfInBounds_toArray, List.set_cons_zero, List.set_cons_succ]
          rfl
        refine one_ (i := 12) (N := some 94) #[true, true, true, true, true, true, true, true, true, true, true, true, true, false, false, false, false] rfl rfl (by kernel_rfl) (by decide) (fun K hK => ?_)
        refine goes_ Tryd.func31 (by kernel_rfl) rfl #[.int .i64 k, .slice A2 PK.length c2] (by rfl) rfl rfl (by simp only [List.map_toArray, List.map_cons, List.map_nil]; rfl) ?_
        with_reducible refine (CFP1.out _ A2 c2 (HF8.out.trans Fa1.out (fun _ _ h => h)) HRP.out).mono ?_
        rintro e a2 ⟨rfl, hq⟩
        refine ⟨_, rfl, ?_⟩
        have Fa2 : Kp (Fr (fun _ => False) W8 a2) := ⟨Fa1.out.trans hq (fun _ _ h => h)⟩
        clear hq
        refine hK.out _ _ (lds_blk (H11.out.fr Fa2.out (fun h => h)) HRT.out) (fun hHeld => ?_)
        clear hK K
        refine norm_ (a' := ?_) ?_ ?_
        rotate_left
        · show Act.put _ (some 94) _ = _
          simp only [Act.put, List.setIfInBounds_toArray, List.set_cons_zero, List.set_cons_succ]
          rfl
        refine pure_ (i := 13) (N := some 95) (v := ?_) (a' := ?_) #[true, true, true, true, true, true, true, true, true, true, true, true, true, true, false, false, false] rfl rfl (by kernel_rfl) (fun _ _ _ h => h) (Or.inl ⟨by rfl, ?_⟩) ?_ ?_
        rotate_left
        · intro w'
          go_simp
          with_reducible rfl
        rotate_left
        · simp only [Act.put, List.setIfInBounds_toArray, List.set_cons_zero, List.set_cons_succ]
          rfl
        refine pure_ (i := 14) (N := some 96) (v := ?_) (a' := ?_) #[true, true, true, true, true, true, true, true, true, true, true, true, true, true, true, false, false] rfl rfl (by kernel_rfl) (fun _ _ _ h => h) (Or.inl ⟨by rfl, ?_⟩) ?_ ?_
        rotate_left
        · intro w'
          go_simp
          with_reducible rfl
        rotate_left
        · simp only [Act.put, List.setIfInBounds_toArray, List.set_cons_zero, List.set_cons_succ]
          rfl
        refine pure_ (i := 15) (N := some 97) (v := ?_) (a' := ?_) #[true, true, true, true, true, true, true, true, true, true, true, true, true, true, true, true, false] rfl rfl (by kernel_rfl) (fun _ _ _ h => h) (Or.inl ⟨by rfl, ?_⟩) ?_ ?_
        rotate_left
        · intro w'
          go_simp
          with_reducible rfl
        rotate_left
        · simp only [Act.put, List.setIfInBounds_toArray, List.set_cons_zero, List.set_cons_succ]
          rfl
        refine pure_ (i := 16) (N := some 6) (v := ?_) (a' := ?_) #[true, true, true, true, true, true, true, true, true, true, true, true, true, true, true, true, true] rfl rfl (by kernel_rfl) (fun _ _ _ h => h) (Or.inl ⟨by rfl, ?_⟩) ?_ ?_
        rotate_left
        · intro w'
          go_simp
          with_reducible rfl
        rotate_left
        · simp only [Act.put, List.setIfInBounds_toArray, List.set_cons_zero, List.set_cons_succ]
          rfl
        refine done_ (by kernel_rfl) ?_
        go_wp2_with (fail)
        go_ret
        exact ⟨rfl, HF8.out.trans Fa2.out (fun _ _ h => h)⟩

  · have hno : ∀ r, r ≤ 281474976710656 → cnt r ≠ len := fun r h1 h2 => hcnt ⟨r, h1, h2⟩
    have CRec := Records_not len hno W5
    have HNO := Kp.mk hno
    refine CRec.mono ?_
    rintro e W6 ⟨rfl, hq⟩
    have HF6 := Kp.mk (HF5.out.trans hq (fun _ _ h => h))
    have HR6 := Kp.mk (HR5.out.fr hq)
    clear hq CRec hcnt hno
    by_cases hl : 131071 < len
    · go_wp2_with fail
      refine (CRL.out hl W6 _ c1).mono ?_
      rintro e W7 ⟨rfl, hq⟩
      have HF7 := Kp.mk (HF6.out.trans hq (fun _ _ h => h))
      have HR7 := Kp.mk (HR6.out.fr hq)
      have HNEW : Kp (Blk (W7.alloc (.cells #[.int .u8 0, .int .u8 0, .int .u8 0, .int .u8 0, .int .u8 0, .int .u8 0, .int .u8 0, .int .u8 0, .int .u8 0, .int .u8 0, .int .u8 0, .int .u8 0, .int .u8 0, .int .u8 0, .int .u8 0, .int .u8 0, .int .u8 0, .int .u8 0, .int .u8 0, .int .u8 0, .int .u8 0, .int .u8 0, .int .u8 0, .int .u8 0, .int .u8 0, .int .u8 0, .int .u8 0, .int .u8 0, .int .u8 0, .int .u8 0, .int .u8 0, .int .u8 0] 25)) W7.heap.size 25 [.int .u8 0, .int .u8 0, .int .u8 0, .int .u8 0, .int .u8 0, .int .u8 0, .int .u8 0, .int .u8 0, .int .u8 0, .int .u8 0, .int .u8 0, .int .u8 0, .int .u8 0, .int .u8 0, .int .u8 0, .int .u8 0, .int .u8 0, .int .u8 0, .int .u8 0, .int .u8 0, .int .u8 0, .int .u8 0, .int .u8 0, .int .u8 0, .int .u8 0, .int .u8 0, .int .u8 0, .int .u8 0, .int .u8 0, .int .u8 0, .int .u8 0, .int .u8 0]) := ⟨Blk.new W7 _ _⟩
      clear hq
      go_upto_region 16 with (refine wpList_storeH rfl rfl (Operand.tmp 11) (Operand.tmp 57) rfl W7.heap.size _ _ z32 rfl rfl HNEW.out rfl rfl ?_)
      obtain ⟨g11, hg11⟩ : ∃ g11, g11 = W7.heap.size := ⟨_, rfl⟩
      obtain ⟨W8, hW8⟩ : ∃ W8, W8 = (W7.alloc (.cells #[.int .u8 0, .int .u8 0, .int .u8 0, .int .u8 0, .int .u8 0, .int .u8 0, .int .u8 0, .int .u8 0, .int .u8 0, .int .u8 0, .int .u8 0, .int .u8 0, .int .u8 0, .int .u8 0, .int .u8 0, .int .u8 0, .int .u8 0, .int .u8 0, .int .u8 0, .int .u8 0, .int .u8 0, .int .u8 0, .int .u8 0, .int .u8 0, .int .u8 0, .int .u8 0, .int .u8 0, .int .u8 0, .int .u8 0, .int .u8 0, .int .u8 0, .int .u8 0] 25)).setRow W7.heap.size (bytes z32).toArray := ⟨_, rfl⟩
      have hfr := fr_row (Fr.refl (fun _ => False) W7) (.cells #[.int .u8 0, .int .u8 0, .int .u8 0, .int .u8 0, .int .u8 0, .int .u8 0, .int .u8 0, .int .u8 0, .int .u8 0, .int .u8 0, .int .u8 0, .int .u8 0, .int .u8 0, .int .u8 0, .int .u8 0, .int .u8 0, .int .u8 0, .int .u8 0, .int .u8 0, .int .u8 0, .int .u8 0, .int .u8 0, .int .u8 0, .int .u8 0, .int .u8 0, .int .u8 0, .int .u8 0, .int .u8 0, .int .u8 0, .int .u8 0, .int .u8 0, .int .u8 0] 25) (bytes z32).toArray
      rw [← hW8] at hfr
      have H11 : Kp (Blk W8 g11 25 (bytes z32)) := ⟨by rw [hW8, hg11]; exact blk_row W7 _ _ _⟩
      have HF8 := Kp.mk (HF7.out.trans hfr (fun _ _ h => h))
      have HR8 := Kp.mk (HR7.out.fr hfr)
      rw [← hW8, ← hg11]
      clear hW8 hg11 hfr HNEW
      have hlg : decide ((131071 : Int) < (len : Int)) = true := decide_eq_true (by omega)
      go_wp2_with (fail)
      go_ret
      exact ⟨rfl, HF8.out⟩

    · go_wp2_with fail
      refine (CRN.out (by omega) HNO.out W6 _ c1).mono ?_
      rintro e W7 ⟨rfl, hq⟩
      have HF7 := Kp.mk (HF6.out.trans hq (fun _ _ h => h))
      have HR7 := Kp.mk (HR6.out.fr hq)
      have HNEW : Kp (Blk (W7.alloc (.cells #[.int .u8 0, .int .u8 0, .int .u8 0, .int .u8 0, .int .u8 0, .int .u8 0, .int .u8 0, .int .u8 0, .int .u8 0, .int .u8 0, .int .u8 0, .int .u8 0, .int .u8 0, .int .u8 0, .int .u8 0, .int .u8 0, .int .u8 0, .int .u8 0, .int .u8 0, .int .u8 0, .int .u8 0, .int .u8 0, .int .u8 0, .int .u8 0, .int .u8 0, .int .u8 0, .int .u8 0, .int .u8 0, .int .u8 0, .int .u8 0, .int .u8 0, .int .u8 0] 25)) W7.heap.size 25 [.int .u8 0, .int .u8 0, .int .u8 0, .int .u8 0, .int .u8 0, .int .u8 0, .int .u8 0, .int .u8 0, .int .u8 0, .int .u8 0, .int .u8 0, .int .u8 0, .int .u8 0, .int .u8 0, .int .u8 0, .int .u8 0, .int .u8 0, .int .u8 0, .int .u8 0, .int .u8 0, .int .u8 0, .int .u8 0, .int .u8 0, .int .u8 0, .int .u8 0, .int .u8 0, .int .u8 0, .int .u8 0, .int .u8 0, .int .u8 0, .int .u8 0, .int .u8 0]) := ⟨Blk.new W7 _ _⟩
      clear hq
      go_upto_region 16 with (refine wpList_storeH rfl rfl (Operand.tmp 11) (Operand.tmp 57) rfl W7.heap.size _ _ z32 rfl rfl HNEW.out rfl rfl ?_)
      obtain ⟨g11, hg11⟩ : ∃ g11, g11 = W7.heap.size := ⟨_, rfl⟩
      obtain ⟨W8, hW8⟩ : ∃ W8, W8 = (W7.alloc (.cells #[.int .u8 0, .int .u8 0, .int .u8 0, .int .u8 0, .int .u8 0, .int .u8 0, .int .u8 0, .int .u8 0, .int .u8 0, .int .u8 0, .int .u8 0, .int .u8 0, .int .u8 0, .int .u8 0, .int .u8 0, .int .u8 0, .int .u8 0, .int .u8 0, .int .u8 0, .int .u8 0, .int .u8 0, .int .u8 0, .int .u8 0, .int .u8 0, .int .u8 0, .int .u8 0, .int .u8 0, .int .u8 0, .int .u8 0, .int .u8 0, .int .u8 0, .int .u8 0] 25)).setRow W7.heap.size (bytes z32).toArray := ⟨_, rfl⟩
      have hfr := fr_row (Fr.refl (fun _ => False) W7) (.cells #[.int .u8 0, .int .u8 0, .int .u8 0, .int .u8 0, .int .u8 0, .int .u8 0, .int .u8 0, .int .u8 0, .int .u8 0, .int .u8 0, .int .u8 0, .int .u8 0, .int .u8 0, .int .u8 0, .int .u8 0, .int .u8 0, .int .u8 0, .int .u8 0, .int .u8 0, .int .u8 0, .int .u8 0, .int .u8 0, .int .u8 0, .int .u8 0, .int .u8 0, .int .u8 0, .int .u8 0, .int .u8 0, .int .u8 0, .int .u8 0, .int .u8 0, .int .u8 0] 25) (bytes z32).toArray
      rw [← hW8] at hfr
      have H11 : Kp (Blk W8 g11 25 (bytes z32)) := ⟨by rw [hW8, hg11]; exact blk_row W7 _ _ _⟩
      have HF8 := Kp.mk (HF7.out.trans hfr (fun _ _ h => h))
      have HR8 := Kp.mk (HR7.out.fr hfr)
      rw [← hW8, ← hg11]
      clear hW8 hg11 hfr HNEW
      have hlg : decide ((131071 : Int) < (len : Int)) = false := decide_eq_false (by omega)
      go_wp2_with (fail)
      go_ret
      exact ⟨rfl, HF8.out⟩

theorem folds_calls (k : Int) (A : Option Addr) (c : Nat) (L : List (List Int)) (n : Int) (w : World) (hL : Laid w) (hX : HRow w (fun _ => False) A c L) (hb : L.length * 32 ≤ 140737488351232) :
    Calls Tryd.prog 5 #[.int .i64 k, .slice A L.length c, .int .i64 n] w fun e w' => e = .returned (.bool true) ∧ Below w.heap.size w w' := by
  have q : Calls Tryd.prog 5 #[.int .i64 k, .slice A L.length c, .int .i64 n] w fun e w' => e = .returned (.bool true) ∧ Fr (fun _ => False) w w' := by
    by_cases h0 : L.length = 0
    · exact folds_0 k A c L n w hL hX hb h0
    · by_cases h1 : L.length = 1
      · exact folds_1 k A c L n w hL hX hb h1
      · exact folds_2 k A c L n w hL hX hb (by omega)
  exact q.mono fun _ _ h => ⟨h.1, h.2.below (fun _ _ h => h)⟩
end Go.Proofs.YtjbhaopocabfaaaDoor.Sha
