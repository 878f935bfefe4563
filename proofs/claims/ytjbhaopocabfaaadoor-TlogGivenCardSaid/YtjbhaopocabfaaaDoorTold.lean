/-
  told, peaksOf: what the laws ask beside the calls.
-/
import Derived.Test.YtjbhaopocabfaaaDoorTRoot
import Derived.Test.YtjbhaopocabfaaaDoorReg
namespace Go.Proofs.YtjbhaopocabfaaaDoor.Sha
open Go.RowKit Go.Proofs.YtjbhaopocabfaaaDoor.Mem Go.Proofs.YtjbhaopocabfaaaDoorW.PrintWords Go.Proofs.YtjbhaopocabfaaaDoorW.PrintLast Go.Proofs.YtjbhaopocabfaaaDoor.Pl Go.Proofs.YtjbhaopocabfaaaDoor.Wk
attribute [local go_sem ↓] Go.wp_at_zero Go.wp_at_succ wp_load_hash wp_store_hash wp_load_mid23 wp_load_mid25 wp_store_mid25 wp_build_hash
attribute [local go_sem] rowAt_drew rowOk_drew midOk_drew midAt_drew rowBlock rowCells rowOff midFree_drew
theorem strength_zero : strength 0 = 32 := by decide
set_option maxHeartbeats 4000000 in
set_option maxRecDepth 100000 in
/-- told: node hashes are told, and unlike ones -/
theorem told_calls (w : World) (hL : Laid w) : Calls Tryd.prog 32 #[] w fun e w' => e = .returned (.bool true) ∧ Fr (fun _ => False) w w' := by
  have C1 : Kp (∀ W, Fr (fun _ => False) w W → Calls Tryd.prog 15 #[.int .i64 0, .agg (bytes z32).toArray, .agg (bytes h1L).toArray] W fun e w' => e = .returned (.agg (bytes (nodeL 32 z32 h1L)).toArray) ∧ Fr (fun _ => False) W w') :=
    ⟨fun W hf => by have h := nodeHash_calls 0 z32 h1L rfl rfl W (hL.fr hf (fun _ h => h.elim)); rw [strength_zero] at h; exact h⟩
  have C2 : Kp (∀ W, Fr (fun _ => False) w W → Calls Tryd.prog 15 #[.int .i64 0, .agg (bytes h1L).toArray, .agg (bytes z32).toArray] W fun e w' => e = .returned (.agg (bytes (nodeL 32 h1L z32)).toArray) ∧ Fr (fun _ => False) W w') :=
    ⟨fun W hf => by have h := nodeHash_calls 0 h1L z32 rfl rfl W (hL.fr hf (fun _ h => h.elim)); rw [strength_zero] at h; exact h⟩
  have s1 : ∀ W, (Op.equalIn 10000 25 (.agg (bytes (nodeL 32 z32 h1L)).toArray) (.agg (bytes (nodeL 32 h1L z32)).toArray)).run Tryd.prog W = .ok false W := fun W => by
    have h := eq32 (nodeL 32 z32 h1L) (nodeL 32 h1L z32) (ofL_len _ _ (Nat.le_refl _)) (ofL_len _ _ (Nat.le_refl _)) W
    rw [told_one] at h; exact h
  have s2 : ∀ W, (Op.equalIn 10000 25 (.agg (bytes (nodeL 32 z32 h1L)).toArray) (.agg (bytes z32).toArray)).run Tryd.prog W = .ok false W := fun W => by
    have h := eq32 (nodeL 32 z32 h1L) z32 (ofL_len _ _ (Nat.le_refl _)) rfl W
    rw [told_two] at h; exact h
  have hM1 := hashOk_bytes (nodeL 32 z32 h1L) (ofL_len _ _ (Nat.le_refl _))
  generalize nodeL 32 z32 h1L = M1 at C1 s1 s2 hM1
  generalize nodeL 32 h1L z32 = M2 at C2 s1
  have hz : z32.length = 32 := rfl
  have hh : h1L.length = 32 := rfl
  have ez : bytes z32 = [.int .u8 0, .int .u8 0, .int .u8 0, .int .u8 0, .int .u8 0, .int .u8 0, .int .u8 0, .int .u8 0, .int .u8 0, .int .u8 0, .int .u8 0, .int .u8 0, .int .u8 0, .int .u8 0, .int .u8 0, .int .u8 0, .int .u8 0, .int .u8 0, .int .u8 0, .int .u8 0, .int .u8 0, .int .u8 0, .int .u8 0, .int .u8 0, .int .u8 0, .int .u8 0, .int .u8 0, .int .u8 0, .int .u8 0, .int .u8 0, .int .u8 0, .int .u8 0] := rfl
  have eh : bytes h1L = [.int .u8 1, .int .u8 0, .int .u8 0, .int .u8 0, .int .u8 0, .int .u8 0, .int .u8 0, .int .u8 0, .int .u8 0, .int .u8 0, .int .u8 0, .int .u8 0, .int .u8 0, .int .u8 0, .int .u8 0, .int .u8 0, .int .u8 0, .int .u8 0, .int .u8 0, .int .u8 0, .int .u8 0, .int .u8 0, .int .u8 0, .int .u8 0, .int .u8 0, .int .u8 0, .int .u8 0, .int .u8 0, .int .u8 0, .int .u8 0, .int .u8 0, .int .u8 0] := rfl
  have EZ := Kp.mk ez
  have EH := Kp.mk eh
  have HZ := Kp.mk hz
  have HH := Kp.mk hh
  obtain ⟨za, hza⟩ : ∃ za, za = z32 := ⟨_, rfl⟩
  obtain ⟨zb, hzb⟩ : ∃ zb, zb = h1L := ⟨_, rfl⟩
  rw [← hza] at C1 C2 s2 EZ HZ
  rw [← hzb] at C1 C2 EH HH
  clear hz hh ez eh hza hzb hL
  go_enter Tryd.func32, Tryd.ntmps32
  go_upto_region 2 with (fail)
  obtain ⟨g1, hg1⟩ : ∃ g1, g1 = w.heap.size := ⟨_, rfl⟩
  obtain ⟨W1, hW1⟩ : ∃ W1, W1 = w.alloc (.cells #[.int .u8 0, .int .u8 0, .int .u8 0, .int .u8 0, .int .u8 0, .int .u8 0, .int .u8 0, .int .u8 0, .int .u8 0, .int .u8 0, .int .u8 0, .int .u8 0, .int .u8 0, .int .u8 0, .int .u8 0, .int .u8 0, .int .u8 0, .int .u8 0, .int .u8 0, .int .u8 0, .int .u8 0, .int .u8 0, .int .u8 0, .int .u8 0, .int .u8 0, .int .u8 0, .int .u8 0, .int .u8 0, .int .u8 0, .int .u8 0, .int .u8 0, .int .u8 0] 25) := ⟨_, rfl⟩
  have H1 : Kp (Blk W1 g1 25 [.int .u8 0, .int .u8 0, .int .u8 0, .int .u8 0, .int .u8 0, .int .u8 0, .int .u8 0, .int .u8 0, .int .u8 0, .int .u8 0, .int .u8 0, .int .u8 0, .int .u8 0, .int .u8 0, .int .u8 0, .int .u8 0, .int .u8 0, .int .u8 0, .int .u8 0, .int .u8 0, .int .u8 0, .int .u8 0, .int .u8 0, .int .u8 0, .int .u8 0, .int .u8 0, .int .u8 0, .int .u8 0, .int .u8 0, .int .u8 0, .int .u8 0, .int .u8 0]) := ⟨by rw [hW1, hg1]; exact Blk.new w _ _⟩
  have HF1 : Kp (Fr (fun _ => False) w W1) := ⟨by rw [hW1]; exact (Fr.refl _ w).alloc _⟩
  have HGg1 : Kp (w.heap.size ≤ g1) := ⟨by omega⟩
  rw [← hg1, ← hW1]
  clear hg1 hW1
  have hi32 : (Tryd.prog.info? 25).map (·.size) = some 32 := by kernel_rfl
  have ZZ : Kp ((Tryd.prog.info? 25).map (·.size) = some ([.int .u8 0, .int .u8 0, .int .u8 0, .int .u8 0, .int .u8 0, .int .u8 0, .int .u8 0, .int .u8 0, .int .u8 0, .int .u8 0, .int .u8 0, .int .u8 0, .int .u8 0, .int .u8 0, .int .u8 0, .int .u8 0, .int .u8 0, .int .u8 0, .int .u8 0, .int .u8 0, .int .u8 0, .int .u8 0, .int .u8 0, .int .u8 0, .int .u8 0, .int .u8 0, .int .u8 0, .int .u8 0, .int .u8 0, .int .u8 0, .int .u8 0, .int .u8 0] : List Value).length) := ⟨hi32⟩
  clear hi32
  have hnew : Blk (W1.alloc (.cells #[.int .u8 0, .int .u8 0, .int .u8 0, .int .u8 0, .int .u8 0, .int .u8 0, .int .u8 0, .int .u8 0, .int .u8 0, .int .u8 0, .int .u8 0, .int .u8 0, .int .u8 0, .int .u8 0, .int .u8 0, .int .u8 0, .int .u8 0, .int .u8 0, .int .u8 0, .int .u8 0, .int .u8 0, .int .u8 0, .int .u8 0, .int .u8 0, .int .u8 0, .int .u8 0, .int .u8 0, .int .u8 0, .int .u8 0, .int .u8 0, .int .u8 0, .int .u8 0] 25)) W1.heap.size 25 [.int .u8 0, .int .u8 0, .int .u8 0, .int .u8 0, .int .u8 0, .int .u8 0, .int .u8 0, .int .u8 0, .int .u8 0, .int .u8 0, .int .u8 0, .int .u8 0, .int .u8 0, .int .u8 0, .int .u8 0, .int .u8 0, .int .u8 0, .int .u8 0, .int .u8 0, .int .u8 0, .int .u8 0, .int .u8 0, .int .u8 0, .int .u8 0, .int .u8 0, .int .u8 0, .int .u8 0, .int .u8 0, .int .u8 0, .int .u8 0, .int .u8 0, .int .u8 0] := Blk.new W1 _ _
  have HNEW := Kp.mk hnew
  clear hnew
  go_upto_region 3 with (refine wpList_storeH rfl rfl (Operand.tmp 2) (Operand.tmp 3) rfl W1.heap.size _ _ h1L rfl rfl HNEW.out rfl rfl ?_)
  obtain ⟨g2, hg2⟩ : ∃ g2, g2 = W1.heap.size := ⟨_, rfl⟩
  obtain ⟨W2, hW2⟩ : ∃ W2, W2 = (W1.alloc (.cells #[.int .u8 0, .int .u8 0, .int .u8 0, .int .u8 0, .int .u8 0, .int .u8 0, .int .u8 0, .int .u8 0, .int .u8 0, .int .u8 0, .int .u8 0, .int .u8 0, .int .u8 0, .int .u8 0, .int .u8 0, .int .u8 0, .int .u8 0, .int .u8 0, .int .u8 0, .int .u8 0, .int .u8 0, .int .u8 0, .int .u8 0, .int .u8 0, .int .u8 0, .int .u8 0, .int .u8 0, .int .u8 0, .int .u8 0, .int .u8 0, .int .u8 0, .int .u8 0] 25)).setRow W1.heap.size (bytes h1L).toArray := ⟨_, rfl⟩
  have hfr := fr_row (Fr.refl (fun _ => False) W1) (.cells #[.int .u8 0, .int .u8 0, .int .u8 0, .int .u8 0, .int .u8 0, .int .u8 0, .int .u8 0, .int .u8 0, .int .u8 0, .int .u8 0, .int .u8 0, .int .u8 0, .int .u8 0, .int .u8 0, .int .u8 0, .int .u8 0, .int .u8 0, .int .u8 0, .int .u8 0, .int .u8 0, .int .u8 0, .int .u8 0, .int .u8 0, .int .u8 0, .int .u8 0, .int .u8 0, .int .u8 0, .int .u8 0, .int .u8 0, .int .u8 0, .int .u8 0, .int .u8 0] 25) (bytes h1L).toArray
  rw [← hW2] at hfr
  have H2 : Kp (Blk W2 g2 25 (bytes zb)) := ⟨by rw [EH.out, hW2, hg2]; exact blk_row W1 _ _ _⟩
  have HF2 := Kp.mk (HF1.out.trans hfr (fun _ _ h => h))
  have H12 : Kp (Blk W2 g1 25 (bytes za)) := ⟨by rw [EZ.out]; exact H1.out.fr hfr (fun h => h)⟩
  rw [← hW2, ← hg2]
  clear hg2 hW2 hfr HF1 H1 HNEW EZ EH
  refine start_ (n := 15) (S := fun w' => Lds w' 25 (.pointer (some ⟨g1, 0, none⟩)) (.agg (bytes za).toArray) ∧ Lds w' 25 (.pointer (some ⟨g2, 0, none⟩)) (.agg (bytes zb).toArray)) (ds := []) #[false, false, false, false, false, false, false, false, false, false, false, false, false, false, false] (by kernel_rfl) rfl rfl ⟨lds_blk H12.out.drew HZ.out, lds_blk H2.out.drew HH.out⟩ (fun hHeld => ?_)
  refine take_ (i := 0) (N := some 4) (v := ?_) (a' := ?_) #[true, false, false, false, false, false, false, false, false, false, false, false, false, false, false] rfl rfl (by kernel_rfl) (fun _ _ _ h => h) (Or.inl ⟨by rfl, ?_⟩) hHeld ?_ ?_
  rotate_left
  · rintro w' ⟨s0, s1⟩
    refine Lds.run s0 (x := ?_) ?_ ?_
    · exact (Operand.tmp 1)
    · rfl
    · rfl
  rotate_left
  · simp only [Act.put, List.setIfInBounds_toArray, List.set_cons_zero, List.set_cons_succ]
    rfl
  refine take_ (i := 1) (N := some 5) (v := ?_) (a' := ?_) #[true, true, false, false, false, false, false, false, false, false, false, false, false, false, false] rfl rfl (by kernel_rfl) (fun _ _ _ h => h) (Or.inl ⟨by rfl, ?_⟩) hHeld ?_ ?_
  rotate_left
  · rintro w' ⟨s0, s1⟩
    refine Lds.run s1 (x := ?_) ?_ ?_
    · exact (Operand.tmp 2)
    · rfl
    · rfl
  rotate_left
  · simp only [Act.put, List.setIfInBounds_toArray, List.set_cons_zero, List.set_cons_succ]
    rfl
  refine take_ (i := 3) (N := some 7) (v := ?_) (a' := ?_) #[true, true, false, true, false, false, false, false, false, false, false, false, false, false, false] rfl rfl (by kernel_rfl) (fun _ _ _ h => h) (Or.inl ⟨by rfl, ?_⟩) hHeld ?_ ?_
  rotate_left
  · rintro w' ⟨s0, s1⟩
    refine Lds.run s1 (x := ?_) ?_ ?_
    · exact (Operand.tmp 2)
    · rfl
    · rfl
  rotate_left
  · simp only [Act.put, List.setIfInBounds_toArray, List.set_cons_zero, List.set_cons_succ]
    rfl
  refine take_ (i := 4) (N := some 8) (v := ?_) (a' := ?_) #[true, true, false, true, true, false, false, false, false, false, false, false, false, false, false] rfl rfl (by kernel_rfl) (fun _ _ _ h => h) (Or.inl ⟨by rfl, ?_⟩) hHeld ?_ ?_
  rotate_left
  · rintro w' ⟨s0, s1⟩
    refine Lds.run s0 (x := ?_) ?_ ?_
    · exact (Operand.tmp 1)
    · rfl
    · rfl
  rotate_left
  · simp only [Act.put, List.setIfInBounds_toArray, List.set_cons_zero, List.set_cons_succ]
    rfl
  refine one_ (i := 2) (N := some 6) #[true, true, true, true, true, false, false, false, false, false, false, false, false, false, false] rfl rfl (by kernel_rfl) (by decide) (fun K hK => ?_)
  refine goes_ Tryd.func15 (by kernel_rfl) rfl #[.int .i64 0, .agg (bytes za).toArray, .agg (bytes zb).toArray] (by rfl) rfl rfl (by simp only [List.map_toArray, List.map_cons, List.map_nil]; rfl) ?_
  with_reducible refine (C1.out _ HF2.out.drew).mono ?_
  rintro e a1 ⟨rfl, hq⟩
  refine ⟨_, rfl, ?_⟩
  have Fa1 : Kp (Fr (fun _ => False) W2 a1) := ⟨((Fr.refl (fun _ => False) W2).drew).trans hq (fun _ _ h => h)⟩
  clear hq
  refine hK.out _ _ ⟨lds_blk (H12.out.fr Fa1.out (fun h => h)) HZ.out, lds_blk (H2.out.fr Fa1.out (fun h => h)) HH.out⟩ (fun hHeld => ?_)
  clear hK K
  refine norm_ (a' := ?_) ?_ ?_
  rotate_left
  · show Act.put _ (some 6) _ = _
    simp only [Act.put, List.setIfInBounds_toArray, List.set_cons_zero, List.set_cons_succ]
    rfl
  refine one_ (i := 5) (N := some 9) #[true, true, true, true, true, true, false, false, false, false, false, false, false, false, false] rfl rfl (by kernel_rfl) (by decide) (fun K hK => ?_)
  refine goes_ Tryd.func15 (by kernel_rfl) rfl #[.int .i64 0, .agg (bytes zb).toArray, .agg (bytes za).toArray] (by rfl) rfl rfl (by simp only [List.map_toArray, List.map_cons, List.map_nil]; rfl) ?_
  with_reducible refine (C2.out _ (HF2.out.trans Fa1.out (fun _ _ h => h))).mono ?_
  rintro e a2 ⟨rfl, hq⟩
  refine ⟨_, rfl, ?_⟩
  have Fa2 : Kp (Fr (fun _ => False) W2 a2) := ⟨Fa1.out.trans hq (fun _ _ h => h)⟩
  clear hq
  refine hK.out _ _ ⟨lds_blk (H12.out.fr Fa2.out (fun h => h)) HZ.out, lds_blk (H2.out.fr Fa2.out (fun h => h)) HH.out⟩ (fun hHeld => ?_)
  clear hK K
  refine norm_ (a' := ?_) ?_ ?_
  rotate_left
  · show Act.put _ (some 9) _ = _
    simp only [Act.put, List.setIfInBounds_toArray, List.set_cons_zero, List.set_cons_succ]
    rfl
  refine pure_ (i := 6) (N := some 10) (v := ?_) (a' := ?_) #[true, true, true, true, true, true, true, false, false, false, false, false, false, false, false] rfl rfl (by kernel_rfl) (fun _ _ _ h => h) (Or.inl ⟨by rfl, ?_⟩) ?_ ?_
  rotate_left
  · intro w'
    go_simp
    with_reducible rfl
  rotate_left
  · simp only [Act.put, List.setIfInBounds_toArray, List.set_cons_zero, List.set_cons_succ]
    rfl
  refine pure_ (i := 7) (N := some 11) (v := ?_) (a' := ?_) #[true, true, true, true, true, true, true, true, false, false, false, false, false, false, false] rfl rfl (by kernel_rfl) (fun _ _ _ h => h) (Or.inl ⟨by rfl, ?_⟩) ?_ ?_
  rotate_left
  · intro w'
    go_simp
    with_reducible rfl
  rotate_left
  · simp only [Act.put, List.setIfInBounds_toArray, List.set_cons_zero, List.set_cons_succ]
    rfl
  refine take_ (i := 8) (N := some 12) (v := ?_) (a' := ?_) #[true, true, true, true, true, true, true, true, true, false, false, false, false, false, false] rfl rfl (by kernel_rfl) (fun _ _ _ h => h) (Or.inl ⟨by rfl, ?_⟩) hHeld ?_ ?_
  rotate_left
  · rintro w' ⟨s0, s1⟩
    refine Lds.run s0 (x := ?_) ?_ ?_
    · exact (Operand.tmp 1)
    · rfl
    · rfl
  rotate_left
  · simp only [Act.put, List.setIfInBounds_toArray, List.set_cons_zero, List.set_cons_succ]
    rfl
  refine take_ (i := 9) (N := some 13) (v := ?_) (a' := ?_) #[true, true, true, true, true, true, true, true, true, true, false, false, false, false, false] rfl rfl (by kernel_rfl) (fun _ _ _ h => h) (Or.inl ⟨by rfl, ?_⟩) hHeld ?_ ?_
  rotate_left
  · rintro w' ⟨s0, s1⟩
    refine Lds.run s1 (x := ?_) ?_ ?_
    · exact (Operand.tmp 2)
    · rfl
    · rfl
  rotate_left
  · simp only [Act.put, List.setIfInBounds_toArray, List.set_cons_zero, List.set_cons_succ]
    rfl
  refine take_ (i := 11) (N := some 15) (v := ?_) (a' := ?_) #[true, true, true, true, true, true, true, true, true, true, false, true, false, false, false] rfl rfl (by kernel_rfl) (fun _ _ _ h => h) (Or.inl ⟨by rfl, ?_⟩) hHeld ?_ ?_
  rotate_left
  · rintro w' ⟨s0, s1⟩
    refine Lds.run s0 (x := ?_) ?_ ?_
    · exact (Operand.tmp 1)
    · rfl
    · rfl
  rotate_left
  · simp only [Act.put, List.setIfInBounds_toArray, List.set_cons_zero, List.set_cons_succ]
    rfl
  refine one_ (i := 10) (N := some 14) #[true, true, true, true, true, true, true, true, true, true, true, true, false, false, false] rfl rfl (by kernel_rfl) (by decide) (fun K hK => ?_)
  refine goes_ Tryd.func15 (by kernel_rfl) rfl #[.int .i64 0, .agg (bytes za).toArray, .agg (bytes zb).toArray] (by rfl) rfl rfl (by simp only [List.map_toArray, List.map_cons, List.map_nil]; rfl) ?_
  with_reducible refine (C1.out _ (HF2.out.trans Fa2.out (fun _ _ h => h))).mono ?_
  rintro e a3 ⟨rfl, hq⟩
  refine ⟨_, rfl, ?_⟩
  have Fa3 : Kp (Fr (fun _ => False) W2 a3) := ⟨Fa2.out.trans hq (fun _ _ h => h)⟩
  clear hq
  refine hK.out _ _ ⟨lds_blk (H12.out.fr Fa3.out (fun h => h)) HZ.out, lds_blk (H2.out.fr Fa3.out (fun h => h)) HH.out⟩ (fun hHeld => ?_)
  clear hK K
  refine norm_ (a' := ?_) ?_ ?_
  rotate_left
  · show Act.put _ (some 14) _ = _
    simp only [Act.put, List.setIfInBounds_toArray, List.set_cons_zero, List.set_cons_succ]
    rfl
  refine pure_ (i := 12) (N := some 16) (v := ?_) (a' := ?_) #[true, true, true, true, true, true, true, true, true, true, true, true, true, false, false] rfl rfl (by kernel_rfl) (fun _ _ _ h => h) (Or.inl ⟨by rfl, ?_⟩) ?_ ?_
  rotate_left
  · intro w'
    go_simp
    with_reducible rfl
  rotate_left
  · simp only [Act.put, List.setIfInBounds_toArray, List.set_cons_zero, List.set_cons_succ]
    rfl
  refine pure_ (i := 13) (N := some 17) (v := ?_) (a' := ?_) #[true, true, true, true, true, true, true, true, true, true, true, true, true, true, false] rfl rfl (by kernel_rfl) (fun _ _ _ h => h) (Or.inl ⟨by rfl, ?_⟩) ?_ ?_
  rotate_left
  · intro w'
    go_simp
    with_reducible rfl
  rotate_left
  · simp only [Act.put, List.setIfInBounds_toArray, List.set_cons_zero, List.set_cons_succ]
    rfl
  refine pure_ (i := 14) (N := some 0) (v := ?_) (a' := ?_) #[true, true, true, true, true, true, true, true, true, true, true, true, true, true, true] rfl rfl (by kernel_rfl) (fun _ _ _ h => h) (Or.inl ⟨by rfl, ?_⟩) ?_ ?_
  rotate_left
  · intro w'
    go_simp
    with_reducible rfl
  rotate_left
  · simp only [Act.put, List.setIfInBounds_toArray, List.set_cons_zero]
    rfl
  refine done_ (by kernel_rfl) ?_
  go_wp2_with (fail)
  go_ret
  exact ⟨rfl, HF2.out.trans Fa3.out (fun _ _ h => h)⟩
set_option maxHeartbeats 4000000 in
set_option maxRecDepth 100000 in
/-- peaksOf: the stored hashes at the peaks -/
theorem peaksOf_calls (A : Option Addr) (c : Nat) (L : List (List Int)) (n r : Nat) (w : World) (hX : HRow w (fun _ => False) A c L) (hr : cnt r = L.length) (hr2 : r ≤ 281474976710656) (hn : n ≤ r) (hb : L.length ≤ 131071) :
    Calls Tryd.prog 35 #[.slice A L.length c, .int .i64 (n : Int)] w fun e w' => ∃ v, e = .returned v ∧ HOwn w' w.heap.size v ((pks n 49 0).map fun p => L.getD p.toNat []) ∧ Fr (fun _ => False) w w' := by
  have CP := Kp.mk (fun W => Peaks_calls n (by omega) W)
  have hin := peak_in n r hn hr2
  rw [hr] at hin
  have hpl : (pks n 49 0).length ≤ 49 := pks_len n
  obtain ⟨P, hP⟩ : ∃ P, P = pks n 49 0 := ⟨_, rfl⟩
  rw [← hP] at CP hin hpl ⊢
  obtain ⟨PK, hPK⟩ : ∃ PK, PK = P.map fun p => L.getD p.toNat [] := ⟨_, rfl⟩
  have HPL : Kp (PK.length = P.length) := ⟨by rw [hPK, List.length_map]⟩
  have HPI : Kp (∀ i (h : i < P.length), ∃ q : Nat, P.getD i 0 = (q : Int) ∧ ∃ hq : q < L.length, PK.take (i + 1) = PK.take i ++ [L[q]'hq]) := ⟨fun i h => by
    obtain ⟨h1, h2⟩ := hin i h
    obtain ⟨q, hq⟩ : ∃ q : Nat, P.getD i 0 = (q : Int) := ⟨(P.getD i 0).toNat, by omega⟩
    have hql : q < L.length := by omega
    refine ⟨q, hq, hql, ?_⟩
    rw [List.take_succ_eq_append_getElem (by rw [HPL.out]; exact h)]
    congr 2
    have h3 : P[i] = (q : Int) := by
      rw [← hq]; simp only [List.getD, List.getElem?_eq_getElem h, Option.getD_some]
    subst hPK
    rw [List.getElem_map, h3, Int.toNat_natCast]
    simp only [List.getD, List.getElem?_eq_getElem hql, Option.getD_some]⟩
  rw [← hPK]
  have HX := Kp.mk hX
  obtain ⟨m, hm⟩ : ∃ m, m = P.length := ⟨_, rfl⟩
  obtain ⟨len, hlen⟩ : ∃ len, len = L.length := ⟨_, rfl⟩
  have HM := Kp.mk hm
  have HN := Kp.mk hlen
  rw [← hm] at hpl
  rw [← hlen] at hb ⊢
  clear hP hPK hin hX hm hlen hr hn
  go_enter Tryd.func35, Tryd.ntmps35
  go_wp2_with fail
  refine (CP.out w).mono ?_
  rintro e W1 ⟨pv, rfl, hO, hB⟩
  have HF1 := Kp.mk (Fr.of_below hB (fun _ => False))
  have hown : W1.ownsRow w.heap.size 2 1 pv P.length (P.map (Value.int .i64)) := Kd.own_of_R hO
  obtain ⟨A2, c2, rfl, hI⟩ := IRow.of_own hown (fun _ => False) (fun _ _ h => h)
  have HI := Kp.mk hI
  rw [← HM.out]
  clear hO hB hown hI CP
  go_wp2_with fail
  go_loopw [7, 8] (fun v a wr => ∃ i : Nat, a = .int .i64 i ∧ i ≤ m ∧ Kp (HOwn wr W1.heap.size v (PK.take i)) ∧ Kp (Fr (fun _ => False) W1 wr)) (fun _ a _ => m - (intOf a).toNat)
  case atStart => exact ⟨0, rfl, Nat.zero_le _, ⟨HOwn.nil _ _⟩, ⟨Fr.refl _ _⟩⟩
  case round =>
    obtain ⟨i, rfl, hi, HO, HF⟩ := hrel
    by_cases h : i < m
    · obtain ⟨q, hq, hql, hpk⟩ := HPI.out i (by rw [← HM.out]; exact h)
      have hq2 : (q : Int) < len := by rw [HN.out]; exact Int.ofNat_lt.2 hql
      obtain ⟨b2, o2, hA2, _, hc⟩ := (HI.out.fr HF.out).at i (by rw [← HM.out]; exact h)
      subst hA2
      rw [hq] at hc
      obtain ⟨b1, o1, hA1, _, _, _⟩ := HX.out.at q hql
      subst hA1
      have HFw := Kp.mk (HF1.out.trans HF.out (fun _ _ h => h))
      obtain ⟨m1, m2⟩ := (HX.out.fr HFw.out).mid q hql
      have hx32 : (L[q]'hql).length = 32 := HX.out.1 _ (List.getElem_mem _)
      have HPK := Kp.mk hpk
      generalize L[q]'hql = x at m2 hx32 HPK
      have hk := hashOk_bytes x hx32
      have HX32 := Kp.mk hx32
      have HXn : Kp (HRow (wr.alloc (.cells (bytes x).toArray 25)) (fun _ => False) (some ⟨wr.heap.size, 0, none⟩) 1 [x]) := ⟨hrow_new wr x HX32.out⟩
      have HOa := Kp.mk (HO.out.keep ((Fr.refl (fun _ => False) wr).alloc (.cells (bytes x).toArray 25)) (fun _ _ h => h))
      have HS : Kp ((PK.take i).length = i) := ⟨by rw [List.length_take, HPL.out, ← HM.out]; omega⟩
      clear hq hpk hx32
      go_wp2_with (at_builtin; refine wpList_appendH rfl _ _ rfl rfl W1.heap.size u7 (PK.take i) rfl HOa.out (some ⟨wr.heap.size, 0, none⟩) 1 1 [x] rfl rfl HXn.out (by rw [HS.out]; simp only [List.length_singleton]; omega) (by exact (HF.out.alloc (.cells (bytes x).toArray 25)).size) ?_; intro v5 w5 hown hgr hat; have HO5 := Kp.mk hown; have HG5 := Kp.mk hgr; clear hown hgr hat)
      refine ⟨⟨i + 1, rfl, by omega, ⟨by rw [HPK.out]; exact HO5.out⟩, ⟨(HF.out.alloc (.cells (bytes x).toArray 25)).grown HG5.out (fun q hq h => absurd (HO.out.lt q h).2 (by omega))⟩⟩, ?_⟩
      simp only [intOf]
      omega
    · obtain rfl : i = m := by omega
      clear h
      go_wp2_with fail
      go_ret
      refine ⟨_, rfl, ?_, HF1.out.trans HF.out (fun _ _ h => h)⟩
      have h := HO.out
      rw [List.take_of_length_le (by rw [HPL.out, ← HM.out]; exact Nat.le_refl _)] at h
      exact HOwn.low h HF1.out.size
end Go.Proofs.YtjbhaopocabfaaaDoor.Sha
