/-
  CollideRecords. CollideRecords, where a pair comes out.
-/
import Derived.Test.YtjcmgpiapbeodaaDoorCRec
import Derived.Test.YtjcmgpiapbeodaaDoorPartsW
set_option linter.unusedSimpArgs false
set_option linter.unusedVariables false
namespace Go.Proofs.YtjcmgpiapbeodaaDoor.Sha
open Go.Proofs.YtjcmgpiapbeodaaDoor.Pf Go.Proofs.YtjcmgpiapbeodaaDoor.Len Go.Proofs.YtjcmgpiapbeodaaDoor.PProofTakes
open Go.RowKit Go.Proofs.YtjcmgpiapbeodaaDoor.Mem Go.Proofs.YtjcmgpiapbeodaaDoorW.PrintWords Go.Proofs.YtjcmgpiapbeodaaDoorW.PrintLast Go.Proofs.YtjcmgpiapbeodaaDoor.Pl Go.Proofs.YtjcmgpiapbeodaaDoor.Wk
attribute [local go_sem ↓] Go.wp_at_zero Go.wp_at_succ wp_load_hash wp_store_hash wp_load_mid23 wp_load_mid25 wp_store_mid25 wp_build_hash
attribute [local go_sem] rowAt_drew rowOk_drew midOk_drew midAt_drew rowBlock rowCells rowOff midFree_drew
/-- the answer's code -/
def colR (s : Nat) (n i : Int) (a : List Int) (pa : List (List Int)) (b : List Int) (pb : List (List Int)) : Int :=
  if 1024 < a.length ∨ 1024 < b.length then 2 else if (climbR s n i pa (leafL s a)).2 ≠ 0 then (climbR s n i pa (leafL s a)).2 else if (climbR s n i pb (leafL s b)).2 ≠ 0 then (climbR s n i pb (leafL s b)).2 else
    if (climbR s n i pa (leafL s a)).1 ≠ (climbR s n i pb (leafL s b)).1 then 91 else if a = b then 92 else 0
set_option maxHeartbeats 4000000 in
set_option maxRecDepth 100000 in
theorem CollideRecords_not (k n i : Int) (A : Option Addr) (c : Nat) (a : List Int) (PA : Option Addr) (cA : Nat) (pa : List (List Int)) (B : Option Addr) (d : Nat) (b : List Int) (PB : Option Addr) (cB : Nat) (pb : List (List Int)) (w : World) (hL : Laid w)
    (hX : Src w (fun _ => False) A c a) (hP : HRow w (fun _ => False) PA cA pa) (hY : Src w (fun _ => False) B d b) (hQ : HRow w (fun _ => False) PB cB pb) (ha : Byt a) (hb : Byt b) (hla : a.length ≤ 140737488351232) (hlb : b.length ≤ 140737488351232) (h0 : colR (strength k) n i a pa b pb ≠ 0) :
    Calls Tryd.prog 22 #[.int .i64 k, .int .i64 n, .int .i64 i, .slice A a.length c, .slice PA pa.length cA, .slice B b.length d, .slice PB pb.length cB] w fun e w' => (e = .returned (.tuple #[.agg #[.slice none 0 0, .slice none 0 0], .int .i64 (colR (strength k) n i a pa b pb)])) ∧ Fr (fun _ => False) w w' := by
  obtain ⟨R, hR⟩ : ∃ R, R = colR (strength k) n i a pa b pb := ⟨_, rfl⟩
  rw [← hR] at h0 ⊢
  unfold colR at hR
  have CLa : Kp (∀ W, Fr (fun _ => False) w W → Calls Tryd.prog 14 #[.int .i64 k, .slice A a.length c] W fun e w' => e = .returned (.agg (bytes (leafL (strength k) a)).toArray) ∧ Fr (fun _ => False) W w') := ⟨fun W hf => leafHash_calls k A c a W (hL.fr hf (fun _ h => h.elim)) (hX.fr hf) hla⟩
  have CLb : Kp (∀ W, Fr (fun _ => False) w W → Calls Tryd.prog 14 #[.int .i64 k, .slice B b.length d] W fun e w' => e = .returned (.agg (bytes (leafL (strength k) b)).toArray) ∧ Fr (fun _ => False) W w') := ⟨fun W hf => leafHash_calls k B d b W (hL.fr hf (fun _ h => h.elim)) (hY.fr hf) hlb⟩
  have la32 : (leafL (strength k) a).length = 32 := ofL_len _ _ (strength_le k)
  have lb32 : (leafL (strength k) b).length = 32 := ofL_len _ _ (strength_le k)
  have CRa : Kp (∀ W, Fr (fun _ => False) w W → Calls Tryd.prog 23 #[.int .i64 k, .slice PA pa.length cA, .int .i64 n, .int .i64 i, .agg (bytes (leafL (strength k) a)).toArray] W fun e w' => e = .returned (.tuple #[.agg (bytes (climbR (strength k) n i pa (leafL (strength k) a)).1).toArray, .int .i64 (climbR (strength k) n i pa (leafL (strength k) a)).2]) ∧ Fr (fun _ => False) W w') := ⟨fun W hf => ClimbRecord_calls k PA cA pa n i _ W (hL.fr hf (fun _ h => h.elim)) (hP.fr hf) la32⟩
  have CRb : Kp (∀ W, Fr (fun _ => False) w W → Calls Tryd.prog 23 #[.int .i64 k, .slice PB pb.length cB, .int .i64 n, .int .i64 i, .agg (bytes (leafL (strength k) b)).toArray] W fun e w' => e = .returned (.tuple #[.agg (bytes (climbR (strength k) n i pb (leafL (strength k) b)).1).toArray, .int .i64 (climbR (strength k) n i pb (leafL (strength k) b)).2]) ∧ Fr (fun _ => False) W w') := ⟨fun W hf => ClimbRecord_calls k PB cB pb n i _ W (hL.fr hf (fun _ h => h.elim)) (hQ.fr hf) lb32⟩
  have CE : Kp (∀ W, Fr (fun _ => False) w W → Calls Tryd.prog 42 #[.slice A a.length c, .slice B b.length d] W fun e w' => e = .returned (.bool (decide (a = b))) ∧ Fr (fun _ => False) W w') := ⟨fun W hf => (equal_calls A B c d a b W (hX.fr hf) (hY.fr hf) ha hb).mono fun _ _ h => ⟨h.1, by rw [h.2]; exact Fr.refl _ _⟩⟩
  have HM132 := Kp.mk (climbR_32 (s := strength k) (strength_le k) (n := n) (i := i) hP.1 la32)
  have HM232 := Kp.mk (climbR_32 (s := strength k) (strength_le k) (n := n) (i := i) hQ.1 lb32)
  have hc1 := climbR_code (s := strength k) (n := n) (i := i) (p := pa) (leaf := leafL (strength k) a)
  have hc2 := climbR_code (s := strength k) (n := n) (i := i) (p := pb) (leaf := leafL (strength k) b)
  generalize (climbR (strength k) n i pa (leafL (strength k) a)).1 = M1 at CRa HM132 hR
  generalize (climbR (strength k) n i pa (leafL (strength k) a)).2 = E1 at CRa hc1 hR
  generalize (climbR (strength k) n i pb (leafL (strength k) b)).1 = M2 at CRb HM232 hR
  generalize (climbR (strength k) n i pb (leafL (strength k) b)).2 = E2 at CRb hc2 hR
  have HR := Kp.mk hR
  clear hR
  have hAB : Kp ((decide (a = b) = true) = (a = b)) := ⟨decide_eq_true_eq⟩
  generalize leafL (strength k) a = la at CLa CRa la32
  generalize leafL (strength k) b = lb at CLb CRb lb32
  obtain ⟨na, hna⟩ : ∃ na, na = a.length := ⟨_, rfl⟩
  obtain ⟨nb, hnb⟩ : ∃ nb, nb = b.length := ⟨_, rfl⟩
  obtain ⟨qa, hqa⟩ : ∃ q, q = pa.length := ⟨_, rfl⟩
  obtain ⟨qb, hqb⟩ : ∃ q, q = pb.length := ⟨_, rfl⟩
  rw [← hna] at CLa CE HR hla ⊢
  rw [← hnb] at CLb CE HR hlb ⊢
  rw [← hqa] at CRa ⊢
  rw [← hqb] at CRb ⊢
  have H0 := Kp.mk h0
  clear hna hnb hqa hqb h0 hL hX hP hY hQ ha hb la32 lb32
  go_enter Tryd.func22, Tryd.ntmps22
  go_upto_region 1 with (fail)
  obtain ⟨g14, hg14⟩ : ∃ g, g = w.heap.size := ⟨_, rfl⟩
  obtain ⟨W1, hW1⟩ : ∃ W1, W1 = w.alloc (.cells #[.slice none 0 0, .slice none 0 0] 36) := ⟨_, rfl⟩
  have H141 : Kp (Blk W1 g14 36 [.slice none 0 0, .slice none 0 0]) := ⟨by rw [hW1, hg14]; exact Blk.new w _ _⟩
  have HF1 : Kp (Fr (fun _ => False) w W1) := ⟨by rw [hW1]; exact (Fr.refl _ w).alloc _⟩
  have HG : Kp (w.heap.size ≤ g14) := ⟨by omega⟩
  rw [← hg14, ← hW1]
  clear hW1 hg14
  rcases (by omega : 1024 < na ∨ (na ≤ 1024 ∧ 1024 < nb) ∨ (na ≤ 1024 ∧ nb ≤ 1024)) with h1 | ⟨h1, h2⟩ | ⟨h1, h2⟩
  · have HC : Kp (R = 2) := ⟨by rw [HR.out, if_pos (.inl h1)]⟩
    have hd1 : decide ((1024 : Int) < (na : Int)) = true := decide_eq_true (by omega)
    have hfz := fr_setCells g14 [.slice none 0 0, .slice none 0 0] 0 W1
    have hbz := blk_put H141.out (ys := [.slice none 0 0, .slice none 0 0]) rfl
    have HFz := Kp.mk (HF1.out.trans (S := fun _ => False) hfz (fun q hq e => by have := HG.out; omega))
    have Hbz := Kp.mk hbz
    clear hfz hbz
    go_wp2_with (refine wpList_storeT rfl rfl 36 (Operand.tmp 14) (Operand.tmp 33) rfl g14 0 [.slice none 0 0, .slice none 0 0] rfl rfl (blk_there H141.out 0 _ (Nat.le_refl 2)) (by kernel_rfl) (by simp [Value.oneCell']) ?_)
    refine bodyPost_ret (results_cell_tmp rfl _ _ g14 36 _ (0, 0) _ (.int .i64 2) rfl rfl (show (World.setCells W1 g14 0 [.slice none 0 0, .slice none 0 0]).heap[g14]? = some (.cells ([.slice none 0 0, .slice none 0 0] : List Value).toArray 36 (0, 0)) from Hbz.out) Tryd.underlying36 rfl (by kernel_rfl)) rfl ?_
    exact ⟨by rw [HC.out], HFz.out⟩
  · have HC : Kp (R = 2) := ⟨by rw [HR.out, if_pos (.inr h2)]⟩
    have hd1 : decide ((1024 : Int) < (na : Int)) = false := decide_eq_false (by omega)
    have hd2 : decide ((1024 : Int) < (nb : Int)) = true := decide_eq_true (by omega)
    have hfz := fr_setCells g14 [.slice none 0 0, .slice none 0 0] 0 W1
    have hbz := blk_put H141.out (ys := [.slice none 0 0, .slice none 0 0]) rfl
    have HFz := Kp.mk (HF1.out.trans (S := fun _ => False) hfz (fun q hq e => by have := HG.out; omega))
    have Hbz := Kp.mk hbz
    clear hfz hbz
    go_wp2_with (refine wpList_storeT rfl rfl 36 (Operand.tmp 14) (Operand.tmp 33) rfl g14 0 [.slice none 0 0, .slice none 0 0] rfl rfl (blk_there H141.out 0 _ (Nat.le_refl 2)) (by kernel_rfl) (by simp [Value.oneCell']) ?_)
    refine bodyPost_ret (results_cell_tmp rfl _ _ g14 36 _ (0, 0) _ (.int .i64 2) rfl rfl (show (World.setCells W1 g14 0 [.slice none 0 0, .slice none 0 0]).heap[g14]? = some (.cells ([.slice none 0 0, .slice none 0 0] : List Value).toArray 36 (0, 0)) from Hbz.out) Tryd.underlying36 rfl (by kernel_rfl)) rfl ?_
    exact ⟨by rw [HC.out], HFz.out⟩
  · have HR1 : Kp (R = if E1 ≠ 0 then E1 else if E2 ≠ 0 then E2 else if M1 ≠ M2 then 91 else if a = b then 92 else 0) := ⟨by rw [HR.out, if_neg (by omega)]⟩
    clear HR
    have hd1 : decide ((1024 : Int) < (na : Int)) = false := decide_eq_false (by omega)
    have hd2 : decide ((1024 : Int) < (nb : Int)) = false := decide_eq_false (by omega)
    go_wp2_with (fail)
    refine (CLa.out W1 HF1.out).mono ?_
    rintro e W2 ⟨rfl, hf⟩
    have HF2 := Kp.mk (HF1.out.trans hf (fun _ _ h => h))
    have H142 := Kp.mk (H141.out.fr hf (fun h => h))
    clear hf
    go_wp2_with (fail)
    refine (CRa.out W2 HF2.out).mono ?_
    rintro e W3 ⟨rfl, hf⟩
    have HF3 := Kp.mk (HF2.out.trans hf (fun _ _ h => h))
    have H143 := Kp.mk (H142.out.fr hf (fun h => h))
    clear hf
    have HNEW : Kp (Blk (W3.alloc (.cells #[.int .u8 0, .int .u8 0, .int .u8 0, .int .u8 0, .int .u8 0, .int .u8 0, .int .u8 0, .int .u8 0, .int .u8 0, .int .u8 0, .int .u8 0, .int .u8 0, .int .u8 0, .int .u8 0, .int .u8 0, .int .u8 0, .int .u8 0, .int .u8 0, .int .u8 0, .int .u8 0, .int .u8 0, .int .u8 0, .int .u8 0, .int .u8 0, .int .u8 0, .int .u8 0, .int .u8 0, .int .u8 0, .int .u8 0, .int .u8 0, .int .u8 0, .int .u8 0] 29)) W3.heap.size 29 [.int .u8 0, .int .u8 0, .int .u8 0, .int .u8 0, .int .u8 0, .int .u8 0, .int .u8 0, .int .u8 0, .int .u8 0, .int .u8 0, .int .u8 0, .int .u8 0, .int .u8 0, .int .u8 0, .int .u8 0, .int .u8 0, .int .u8 0, .int .u8 0, .int .u8 0, .int .u8 0, .int .u8 0, .int .u8 0, .int .u8 0, .int .u8 0, .int .u8 0, .int .u8 0, .int .u8 0, .int .u8 0, .int .u8 0, .int .u8 0, .int .u8 0, .int .u8 0]) := ⟨Blk.new W3 _ _⟩
    go_upto_region 4 with (refine wpList_storeH rfl rfl (Operand.tmp 16) (Operand.tmp 43) rfl W3.heap.size _ _ M1 rfl rfl HNEW.out rfl HM132.out ?_)
    obtain ⟨g16, hg⟩ : ∃ g, g = W3.heap.size := ⟨_, rfl⟩
    obtain ⟨W4, hW⟩ : ∃ W, W = (W3.alloc (.cells #[.int .u8 0, .int .u8 0, .int .u8 0, .int .u8 0, .int .u8 0, .int .u8 0, .int .u8 0, .int .u8 0, .int .u8 0, .int .u8 0, .int .u8 0, .int .u8 0, .int .u8 0, .int .u8 0, .int .u8 0, .int .u8 0, .int .u8 0, .int .u8 0, .int .u8 0, .int .u8 0, .int .u8 0, .int .u8 0, .int .u8 0, .int .u8 0, .int .u8 0, .int .u8 0, .int .u8 0, .int .u8 0, .int .u8 0, .int .u8 0, .int .u8 0, .int .u8 0] 29)).setRow W3.heap.size (bytes M1).toArray := ⟨_, rfl⟩
    have hfr := fr_row (Fr.refl (fun _ => False) W3) (.cells #[.int .u8 0, .int .u8 0, .int .u8 0, .int .u8 0, .int .u8 0, .int .u8 0, .int .u8 0, .int .u8 0, .int .u8 0, .int .u8 0, .int .u8 0, .int .u8 0, .int .u8 0, .int .u8 0, .int .u8 0, .int .u8 0, .int .u8 0, .int .u8 0, .int .u8 0, .int .u8 0, .int .u8 0, .int .u8 0, .int .u8 0, .int .u8 0, .int .u8 0, .int .u8 0, .int .u8 0, .int .u8 0, .int .u8 0, .int .u8 0, .int .u8 0, .int .u8 0] 29) (bytes M1).toArray
    rw [← hW] at hfr
    have Hg164 : Kp (Blk W4 g16 29 (bytes M1)) := ⟨by rw [hW, hg]; exact blk_row W3 _ _ _⟩
    have HF4 := Kp.mk (HF3.out.trans hfr (fun _ _ h => h))
    have H144 := Kp.mk (H143.out.fr hfr (fun h => h))
    rw [← hW, ← hg]
    clear hg hW hfr HNEW
    rcases hc1 with hc | hc | hc
    rotate_left
    · subst hc
      have HC : Kp (R = 1) := ⟨by rw [HR1.out, if_pos (by decide)]⟩
      have hfz := fr_setCells g14 [.slice none 0 0, .slice none 0 0] 0 W4
      have hbz := blk_put H144.out (ys := [.slice none 0 0, .slice none 0 0]) rfl
      have HFz := Kp.mk (HF4.out.trans (S := fun _ => False) hfz (fun q hq e => by have := HG.out; omega))
      have Hbz := Kp.mk hbz
      clear hfz hbz
      go_wp2_with (refine wpList_storeT rfl rfl 36 (Operand.tmp 14) (Operand.tmp 47) rfl g14 0 [.slice none 0 0, .slice none 0 0] rfl rfl (blk_there H144.out 0 _ (Nat.le_refl 2)) (by kernel_rfl) (by simp [Value.oneCell']) ?_)
      refine bodyPost_ret (results_cell_tmp rfl _ _ g14 36 _ (0, 0) _ (.int .i64 1) rfl rfl (show (World.setCells W4 g14 0 [.slice none 0 0, .slice none 0 0]).heap[g14]? = some (.cells ([.slice none 0 0, .slice none 0 0] : List Value).toArray 36 (0, 0)) from Hbz.out) Tryd.underlying36 rfl (by kernel_rfl)) rfl ?_
      exact ⟨by rw [HC.out], HFz.out⟩
    · subst hc
      have HC : Kp (R = 90) := ⟨by rw [HR1.out, if_pos (by decide)]⟩
      have hfz := fr_setCells g14 [.slice none 0 0, .slice none 0 0] 0 W4
      have hbz := blk_put H144.out (ys := [.slice none 0 0, .slice none 0 0]) rfl
      have HFz := Kp.mk (HF4.out.trans (S := fun _ => False) hfz (fun q hq e => by have := HG.out; omega))
      have Hbz := Kp.mk hbz
      clear hfz hbz
      go_wp2_with (refine wpList_storeT rfl rfl 36 (Operand.tmp 14) (Operand.tmp 47) rfl g14 0 [.slice none 0 0, .slice none 0 0] rfl rfl (blk_there H144.out 0 _ (Nat.le_refl 2)) (by kernel_rfl) (by simp [Value.oneCell']) ?_)
      refine bodyPost_ret (results_cell_tmp rfl _ _ g14 36 _ (0, 0) _ (.int .i64 90) rfl rfl (show (World.setCells W4 g14 0 [.slice none 0 0, .slice none 0 0]).heap[g14]? = some (.cells ([.slice none 0 0, .slice none 0 0] : List Value).toArray 36 (0, 0)) from Hbz.out) Tryd.underlying36 rfl (by kernel_rfl)) rfl ?_
      exact ⟨by rw [HC.out], HFz.out⟩
    subst hc
    have HR2 : Kp (R = if E2 ≠ 0 then E2 else if M1 ≠ M2 then 91 else if a = b then 92 else 0) := ⟨by rw [HR1.out, if_neg (by decide)]⟩
    clear HR1 CLa CRa
    go_wp2_with (fail)
    refine (CLb.out W4 HF4.out).mono ?_
    rintro e W5 ⟨rfl, hf⟩
    have HF5 := Kp.mk (HF4.out.trans hf (fun _ _ h => h))
    have H145 := Kp.mk (H144.out.fr hf (fun h => h))
    have Hg165 := Kp.mk (Hg164.out.fr hf (fun h => h))
    clear hf
    go_wp2_with (fail)
    refine (CRb.out W5 HF5.out).mono ?_
    rintro e W6 ⟨rfl, hf⟩
    have HF6 := Kp.mk (HF5.out.trans hf (fun _ _ h => h))
    have H146 := Kp.mk (H145.out.fr hf (fun h => h))
    have Hg166 := Kp.mk (Hg165.out.fr hf (fun h => h))
    clear hf
    have HNEW : Kp (Blk (W6.alloc (.cells #[.int .u8 0, .int .u8 0, .int .u8 0, .int .u8 0, .int .u8 0, .int .u8 0, .int .u8 0, .int .u8 0, .int .u8 0, .int .u8 0, .int .u8 0, .int .u8 0, .int .u8 0, .int .u8 0, .int .u8 0, .int .u8 0, .int .u8 0, .int .u8 0, .int .u8 0, .int .u8 0, .int .u8 0, .int .u8 0, .int .u8 0, .int .u8 0, .int .u8 0, .int .u8 0, .int .u8 0, .int .u8 0, .int .u8 0, .int .u8 0, .int .u8 0, .int .u8 0] 29)) W6.heap.size 29 [.int .u8 0, .int .u8 0, .int .u8 0, .int .u8 0, .int .u8 0, .int .u8 0, .int .u8 0, .int .u8 0, .int .u8 0, .int .u8 0, .int .u8 0, .int .u8 0, .int .u8 0, .int .u8 0, .int .u8 0, .int .u8 0, .int .u8 0, .int .u8 0, .int .u8 0, .int .u8 0, .int .u8 0, .int .u8 0, .int .u8 0, .int .u8 0, .int .u8 0, .int .u8 0, .int .u8 0, .int .u8 0, .int .u8 0, .int .u8 0, .int .u8 0, .int .u8 0]) := ⟨Blk.new W6 _ _⟩
    go_upto_region 7 with (refine wpList_storeH rfl rfl (Operand.tmp 18) (Operand.tmp 58) rfl W6.heap.size _ _ M2 rfl rfl HNEW.out rfl HM232.out ?_)
    obtain ⟨g18, hg⟩ : ∃ g, g = W6.heap.size := ⟨_, rfl⟩
    obtain ⟨W7, hW⟩ : ∃ W, W = (W6.alloc (.cells #[.int .u8 0, .int .u8 0, .int .u8 0, .int .u8 0, .int .u8 0, .int .u8 0, .int .u8 0, .int .u8 0, .int .u8 0, .int .u8 0, .int .u8 0, .int .u8 0, .int .u8 0, .int .u8 0, .int .u8 0, .int .u8 0, .int .u8 0, .int .u8 0, .int .u8 0, .int .u8 0, .int .u8 0, .int .u8 0, .int .u8 0, .int .u8 0, .int .u8 0, .int .u8 0, .int .u8 0, .int .u8 0, .int .u8 0, .int .u8 0, .int .u8 0, .int .u8 0] 29)).setRow W6.heap.size (bytes M2).toArray := ⟨_, rfl⟩
    have hfr := fr_row (Fr.refl (fun _ => False) W6) (.cells #[.int .u8 0, .int .u8 0, .int .u8 0, .int .u8 0, .int .u8 0, .int .u8 0, .int .u8 0, .int .u8 0, .int .u8 0, .int .u8 0, .int .u8 0, .int .u8 0, .int .u8 0, .int .u8 0, .int .u8 0, .int .u8 0, .int .u8 0, .int .u8 0, .int .u8 0, .int .u8 0, .int .u8 0, .int .u8 0, .int .u8 0, .int .u8 0, .int .u8 0, .int .u8 0, .int .u8 0, .int .u8 0, .int .u8 0, .int .u8 0, .int .u8 0, .int .u8 0] 29) (bytes M2).toArray
    rw [← hW] at hfr
    have Hg187 : Kp (Blk W7 g18 29 (bytes M2)) := ⟨by rw [hW, hg]; exact blk_row W6 _ _ _⟩
    have HF7 := Kp.mk (HF6.out.trans hfr (fun _ _ h => h))
    have H147 := Kp.mk (H146.out.fr hfr (fun h => h))
    have Hg167 := Kp.mk (Hg166.out.fr hfr (fun h => h))
    rw [← hW, ← hg]
    clear hg hW hfr HNEW
    rcases hc2 with hc | hc | hc
    rotate_left
    · subst hc
      have HC : Kp (R = 1) := ⟨by rw [HR2.out, if_pos (by decide)]⟩
      have hfz := fr_setCells g14 [.slice none 0 0, .slice none 0 0] 0 W7
      have hbz := blk_put H147.out (ys := [.slice none 0 0, .slice none 0 0]) rfl
      have HFz := Kp.mk (HF7.out.trans (S := fun _ => False) hfz (fun q hq e => by have := HG.out; omega))
      have Hbz := Kp.mk hbz
      clear hfz hbz
      go_wp2_with (refine wpList_storeT rfl rfl 36 (Operand.tmp 14) (Operand.tmp 62) rfl g14 0 [.slice none 0 0, .slice none 0 0] rfl rfl (blk_there H147.out 0 _ (Nat.le_refl 2)) (by kernel_rfl) (by simp [Value.oneCell']) ?_)
      refine bodyPost_ret (results_cell_tmp rfl _ _ g14 36 _ (0, 0) _ (.int .i64 1) rfl rfl (show (World.setCells W7 g14 0 [.slice none 0 0, .slice none 0 0]).heap[g14]? = some (.cells ([.slice none 0 0, .slice none 0 0] : List Value).toArray 36 (0, 0)) from Hbz.out) Tryd.underlying36 rfl (by kernel_rfl)) rfl ?_
      exact ⟨by rw [HC.out], HFz.out⟩
    · subst hc
      have HC : Kp (R = 90) := ⟨by rw [HR2.out, if_pos (by decide)]⟩
      have hfz := fr_setCells g14 [.slice none 0 0, .slice none 0 0] 0 W7
      have hbz := blk_put H147.out (ys := [.slice none 0 0, .slice none 0 0]) rfl
      have HFz := Kp.mk (HF7.out.trans (S := fun _ => False) hfz (fun q hq e => by have := HG.out; omega))
      have Hbz := Kp.mk hbz
      clear hfz hbz
      go_wp2_with (refine wpList_storeT rfl rfl 36 (Operand.tmp 14) (Operand.tmp 62) rfl g14 0 [.slice none 0 0, .slice none 0 0] rfl rfl (blk_there H147.out 0 _ (Nat.le_refl 2)) (by kernel_rfl) (by simp [Value.oneCell']) ?_)
      refine bodyPost_ret (results_cell_tmp rfl _ _ g14 36 _ (0, 0) _ (.int .i64 90) rfl rfl (show (World.setCells W7 g14 0 [.slice none 0 0, .slice none 0 0]).heap[g14]? = some (.cells ([.slice none 0 0, .slice none 0 0] : List Value).toArray 36 (0, 0)) from Hbz.out) Tryd.underlying36 rfl (by kernel_rfl)) rfl ?_
      exact ⟨by rw [HC.out], HFz.out⟩
    subst hc
    have HR3 : Kp (R = if M1 ≠ M2 then 91 else if a = b then 92 else 0) := ⟨by rw [HR2.out, if_neg (by decide)]⟩
    clear HR2 CLb CRb
    obtain ⟨mo16, ma16⟩ := mid_blk Hg167.out HM132.out
    obtain ⟨mo18, ma18⟩ := mid_blk Hg187.out HM232.out
    have hcmp : ∀ W, (Op.equalIn 10000 29 (.agg (bytes M1).toArray) (.agg (bytes M2).toArray)).run Tryd.prog W = .ok (decide (M1 = M2)) W := fun W => eq32c M1 M2 HM132.out HM232.out W
    by_cases hm : M1 = M2
    · have hd : decide (M1 = M2) = true := decide_eq_true hm
      have HR4 : Kp (R = if a = b then 92 else 0) := ⟨by rw [HR3.out, if_neg (fun h => h hm)]⟩
      clear hm HR3
      simp only [hd] at hcmp
      clear hd
      by_cases hab : a = b
      · rw [decide_eq_true hab] at CE
        have HC : Kp (R = 92) := ⟨by rw [HR4.out, if_pos hab]⟩
        clear hab HR4
        go_wp2_with (fail)
        refine (CE.out W7 HF7.out).mono ?_
        rintro e W8 ⟨rfl, hf⟩
        have HF8 := Kp.mk (HF7.out.trans hf (fun _ _ h => h))
        have H148 := Kp.mk (H147.out.fr hf (fun h => h))
        clear hf
        clear mo16 ma16 mo18 ma18
        have hfz := fr_setCells g14 [.slice none 0 0, .slice none 0 0] 0 W8
        have hbz := blk_put H148.out (ys := [.slice none 0 0, .slice none 0 0]) rfl
        have HFz := Kp.mk (HF8.out.trans (S := fun _ => False) hfz (fun q hq e => by have := HG.out; omega))
        have Hbz := Kp.mk hbz
        clear hfz hbz
        go_wp2_with (refine wpList_storeT rfl rfl 36 (Operand.tmp 14) (Operand.tmp 71) rfl g14 0 [.slice none 0 0, .slice none 0 0] rfl rfl (blk_there H148.out 0 _ (Nat.le_refl 2)) (by kernel_rfl) (by simp [Value.oneCell']) ?_)
        refine bodyPost_ret (results_cell_tmp rfl _ _ g14 36 _ (0, 0) _ (.int .i64 92) rfl rfl (show (World.setCells W8 g14 0 [.slice none 0 0, .slice none 0 0]).heap[g14]? = some (.cells ([.slice none 0 0, .slice none 0 0] : List Value).toArray 36 (0, 0)) from Hbz.out) Tryd.underlying36 rfl (by kernel_rfl)) rfl ?_
        exact ⟨by rw [HC.out], HFz.out⟩
      · exact absurd (by rw [HR4.out, if_neg hab]) H0.out
    · have hd : decide (M1 = M2) = false := decide_eq_false hm
      have HC : Kp (R = 91) := ⟨by rw [HR3.out, if_pos hm]⟩
      clear hm HR3
      simp only [hd] at hcmp
      clear hd
      have hfz := fr_setCells g14 [.slice none 0 0, .slice none 0 0] 0 W7
      have hbz := blk_put H147.out (ys := [.slice none 0 0, .slice none 0 0]) rfl
      have HFz := Kp.mk (HF7.out.trans (S := fun _ => False) hfz (fun q hq e => by have := HG.out; omega))
      have Hbz := Kp.mk hbz
      clear hfz hbz
      go_wp2_with (refine wpList_storeT rfl rfl 36 (Operand.tmp 14) (Operand.tmp 67) rfl g14 0 [.slice none 0 0, .slice none 0 0] rfl rfl (blk_there H147.out 0 _ (Nat.le_refl 2)) (by kernel_rfl) (by simp [Value.oneCell']) ?_)
      refine bodyPost_ret (results_cell_tmp rfl _ _ g14 36 _ (0, 0) _ (.int .i64 91) rfl rfl (show (World.setCells W7 g14 0 [.slice none 0 0, .slice none 0 0]).heap[g14]? = some (.cells ([.slice none 0 0, .slice none 0 0] : List Value).toArray 36 (0, 0)) from Hbz.out) Tryd.underlying36 rfl (by kernel_rfl)) rfl ?_
      exact ⟨by rw [HC.out], HFz.out⟩
end Go.Proofs.YtjcmgpiapbeodaaDoor.Sha
set_option linter.unusedVariables false
namespace Go.Proofs.YtjcmgpiapbeodaaDoor.Sha
open Go.Proofs.YtjcmgpiapbeodaaDoor.Pf Go.Proofs.YtjcmgpiapbeodaaDoor.Len Go.Proofs.YtjcmgpiapbeodaaDoor.PProofTakes
open Go.RowKit Go.Proofs.YtjcmgpiapbeodaaDoor.Mem Go.Proofs.YtjcmgpiapbeodaaDoorW.PrintWords Go.Proofs.YtjcmgpiapbeodaaDoorW.PrintLast Go.Proofs.YtjcmgpiapbeodaaDoor.Pl Go.Proofs.YtjcmgpiapbeodaaDoor.Wk
attribute [local go_sem ↓] Go.wp_at_zero Go.wp_at_succ wp_load_hash wp_store_hash wp_load_mid23 wp_load_mid25 wp_store_mid25 wp_build_hash
attribute [local go_sem] rowAt_drew rowOk_drew midOk_drew midAt_drew rowBlock rowCells rowOff midFree_drew
theorem al_pair (ev : Operand → Value) (o : Oper) (w : World) (ho : o.op = .alloc 36) : (execOp ev o).run Tryd.prog w = .ok (.value (.pointer (some ⟨w.heap.size, 0, none⟩))) (w.alloc (.cells #[.slice none 0 0, .slice none 0 0] 36)) := by
  unfold execOp
  simp only [ho]
  go_simp
theorem World.cell_keep {w w1 : World} {b o : Nat} {v : Value} (h : w.cell? ⟨b, o, none⟩ = some v) (hf : Fr (fun _ => False) w w1) : w1.cell? ⟨b, o, none⟩ = some v :=
  (World.cell?_of_block (hf.block b (World.block_lt_of_cell? w _ h) (fun h => h))).trans h
set_option maxHeartbeats 4000000 in
set_option maxRecDepth 100000 in
theorem CollideRecords_yes (k : Int) (n i : Nat) (hi : i < n) (hn : n ≤ 281474976710656) (A : Option Addr) (c : Nat) (a : List Int) (PA : Option Addr) (cA : Nat) (pa : List (List Int)) (B : Option Addr) (d : Nat) (b : List Int) (PB : Option Addr) (cB : Nat) (pb : List (List Int)) (w : World) (hL : Laid w)
    (hX : Src w (fun _ => False) A c a) (hP : HRow w (fun _ => False) PA cA pa) (hY : Src w (fun _ => False) B d b) (hQ : HRow w (fun _ => False) PB cB pb) (ha : Byt a) (hb : Byt b) (hla : a.length ≤ 1024) (hlb : b.length ≤ 1024)
    (hpa : pa.length = (way i n).length) (hpb : pb.length = (way i n).length) (hM : ((top (.giv (leafL (strength k) a)) (way i n) pa).sum (nodeL (strength k))) = ((top (.giv (leafL (strength k) b)) (way i n) pb).sum (nodeL (strength k)))) (hab : a ≠ b) :
    Calls Tryd.prog 22 #[.int .i64 k, .int .i64 (n : Int), .int .i64 (i : Int), .slice A a.length c, .slice PA pa.length cA, .slice B b.length d, .slice PB pb.length cB] w fun e w' => ∃ P1 P2 A1 c1 A2 c2, e = .returned (.tuple #[.agg #[.slice A1 P1.length c1, .slice A2 P2.length c2], .int .i64 0]) ∧ Src w' (fun _ => False) A1 c1 P1 ∧ Src w' (fun _ => False) A2 c2 P2 ∧
      IsPair (nodeL (strength k)) (0 :: a) (0 :: b) (nodes (.giv (leafL (strength k) a)) (way i n) pa) (nodes (.giv (leafL (strength k) b)) (way i n) pb) (P1, P2) ∧ Fr (fun _ => False) w w' := by
  have hro : recOk (n : Int) (i : Int) := by unfold recOk; omega
  have la32 : (leafL (strength k) a).length = 32 := ofL_len _ _ (strength_le k)
  have lb32 : (leafL (strength k) b).length = 32 := ofL_len _ _ (strength_le k)
  have CLa : Kp (∀ W, Fr (fun _ => False) w W → Calls Tryd.prog 14 #[.int .i64 k, .slice A a.length c] W fun e w' => e = .returned (.agg (bytes (leafL (strength k) a)).toArray) ∧ Fr (fun _ => False) W w') := ⟨fun W hf => leafHash_calls k A c a W (hL.fr hf (fun _ h => h.elim)) (hX.fr hf) (by omega)⟩
  have CLb : Kp (∀ W, Fr (fun _ => False) w W → Calls Tryd.prog 14 #[.int .i64 k, .slice B b.length d] W fun e w' => e = .returned (.agg (bytes (leafL (strength k) b)).toArray) ∧ Fr (fun _ => False) W w') := ⟨fun W hf => leafHash_calls k B d b W (hL.fr hf (fun _ h => h.elim)) (hY.fr hf) (by omega)⟩
  have CRa : Kp (∀ W, Fr (fun _ => False) w W → Calls Tryd.prog 23 #[.int .i64 k, .slice PA pa.length cA, .int .i64 (n : Int), .int .i64 (i : Int), .agg (bytes (leafL (strength k) a)).toArray] W fun e w' => e = .returned (.tuple #[.agg (bytes ((top (.giv (leafL (strength k) a)) (way i n) pa).sum (nodeL (strength k)))).toArray, .int .i64 0]) ∧ Fr (fun _ => False) W w') := ⟨fun W hf => by
    have h := ClimbRecord_calls k PA cA pa n i _ W (hL.fr hf (fun _ h => h.elim)) (hP.fr hf) la32
    rw [climbR_yes hro (by simp only [Int.toNat_natCast]; exact hpa)] at h
    simp only [Int.toNat_natCast] at h
    exact h⟩
  have CCa : Kp (∀ W base vw, Fr (fun _ => False) w W → ROwn 95 3 W base vw ((way i n).map stC) → Calls Tryd.prog 51 #[.int .i64 k, .slice PA pa.length cA, vw, .agg (bytes (leafL (strength k) a)).toArray] W fun e w' =>
      ∃ v rows, e = .returned v ∧ ROwn 98 1 w' W.heap.size v rows ∧ NRows w' (strength k) rows (nodes (.giv (leafL (strength k) a)) (way i n) pa) ∧ Fr (fun _ => False) W w') := ⟨fun W base vw hf hw => climbed_calls k PA cA pa vw base _ _ W (hL.fr hf (fun _ h => h.elim)) (hP.fr hf) hw hpa.symm (by have := way_len (i := i) (n := n) hn; omega) la32⟩
  have CRb : Kp (∀ W, Fr (fun _ => False) w W → Calls Tryd.prog 23 #[.int .i64 k, .slice PB pb.length cB, .int .i64 (n : Int), .int .i64 (i : Int), .agg (bytes (leafL (strength k) b)).toArray] W fun e w' => e = .returned (.tuple #[.agg (bytes ((top (.giv (leafL (strength k) b)) (way i n) pb).sum (nodeL (strength k)))).toArray, .int .i64 0]) ∧ Fr (fun _ => False) W w') := ⟨fun W hf => by
    have h := ClimbRecord_calls k PB cB pb n i _ W (hL.fr hf (fun _ h => h.elim)) (hQ.fr hf) lb32
    rw [climbR_yes hro (by simp only [Int.toNat_natCast]; exact hpb)] at h
    simp only [Int.toNat_natCast] at h
    exact h⟩
  have CCb : Kp (∀ W base vw, Fr (fun _ => False) w W → ROwn 95 3 W base vw ((way i n).map stC) → Calls Tryd.prog 51 #[.int .i64 k, .slice PB pb.length cB, vw, .agg (bytes (leafL (strength k) b)).toArray] W fun e w' =>
      ∃ v rows, e = .returned v ∧ ROwn 98 1 w' W.heap.size v rows ∧ NRows w' (strength k) rows (nodes (.giv (leafL (strength k) b)) (way i n) pb) ∧ Fr (fun _ => False) W w') := ⟨fun W base vw hf hw => climbed_calls k PB cB pb vw base _ _ W (hL.fr hf (fun _ h => h.elim)) (hQ.fr hf) hw hpb.symm (by have := way_len (i := i) (n := n) hn; omega) lb32⟩
  have CE : Kp (∀ W, Fr (fun _ => False) w W → Calls Tryd.prog 42 #[.slice A a.length c, .slice B b.length d] W fun e w' => e = .returned (.bool false) ∧ Fr (fun _ => False) W w') := ⟨fun W hf => (equal_calls A B c d a b W (hX.fr hf) (hY.fr hf) ha hb).mono fun _ _ h => ⟨by rw [h.1, decide_eq_false hab], by rw [h.2]; exact Fr.refl _ _⟩⟩
  have CBa : Kp (∀ W, Fr (fun _ => False) w W → Calls Tryd.prog 10 #[.slice A a.length c] W fun e w' => ∃ v, e = .returned v ∧ w'.ownsRow W.heap.size 5 1 v (0 :: a).length (bytes (0 :: a)) ∧ Fr (fun _ => False) W w') := ⟨fun W hf => leafBytes_calls A c a W (hX.fr hf) (by omega)⟩
  have CBb : Kp (∀ W, Fr (fun _ => False) w W → Calls Tryd.prog 10 #[.slice B b.length d] W fun e w' => ∃ v, e = .returned v ∧ w'.ownsRow W.heap.size 5 1 v (0 :: b).length (bytes (0 :: b)) ∧ Fr (fun _ => False) W w') := ⟨fun W hf => leafBytes_calls B d b W (hY.fr hf) (by omega)⟩
  have CW := Kp.mk (fun W => wayOf_step i n hi hn W)
  have HM132 : Kp (((top (.giv (leafL (strength k) a)) (way i n) pa).sum (nodeL (strength k))).length = 32) := ⟨Pf.sum_len (nodeL (strength k)) (fun l r => ofL_len _ _ (strength_le k)) (top_ok _ _ _ la32 hP.1)⟩
  have hnla := nodes_len (way i n) pa (.giv (leafL (strength k) a)) hpa.symm
  have hnlb := nodes_len (way i n) pb (.giv (leafL (strength k) b)) hpb.symm
  obtain ⟨j, hj, x, y, hx, hy, hxy, hbe, hpp⟩ := pair_there (nodeL (strength k)) (way i n) pa pb (leafL (strength k) a) (leafL (strength k) b) (0 :: a) (0 :: b) hpa.symm hpb.symm hM
  rw [← hM] at CRb
  have hwl := way_len (i := i) (n := n) hn
  generalize ((top (.giv (leafL (strength k) a)) (way i n) pa).sum (nodeL (strength k))) = M1 at CRa CRb HM132 hM
  generalize leafL (strength k) a = la at *
  generalize leafL (strength k) b = lb at *
  generalize (nodes (.giv la) (way i n) pa) = NA at *
  generalize (nodes (.giv lb) (way i n) pb) = NB at *
  have hs := strength_le k
  generalize strength k = s at *
  have HS := Kp.mk hs
  obtain ⟨na, hna⟩ : ∃ na, na = a.length := ⟨_, rfl⟩
  obtain ⟨nb, hnb⟩ : ∃ nb, nb = b.length := ⟨_, rfl⟩
  obtain ⟨qa, hqa⟩ : ∃ q, q = pa.length := ⟨_, rfl⟩
  obtain ⟨qb, hqb⟩ : ∃ q, q = pb.length := ⟨_, rfl⟩
  rw [← hna] at CLa CE CBa hla ⊢
  rw [← hnb] at CLb CE CBb hlb ⊢
  rw [← hqa] at CRa CCa ⊢
  rw [← hqb] at CRb CCb ⊢
  have HP := Kp.mk (And.intro hx (And.intro hy (And.intro hxy (And.intro hbe hpp))))
  have HJ := Kp.mk hj
  have HN := Kp.mk (And.intro hnla hnlb)
  have hd1 : decide ((1024 : Int) < (na : Int)) = false := decide_eq_false (by omega)
  have hd2 : decide ((1024 : Int) < (nb : Int)) = false := decide_eq_false (by omega)
  have HWL := Kp.mk hwl
  clear hna hnb hqa hqb hs hx hy hxy hbe hpp hj hnla hnlb hL hX hP hY hQ ha hb la32 lb32 hM hab hro hpa hpb hwl
  go_enter Tryd.func22, Tryd.ntmps22
  go_upto_region 1 with (fail)
  obtain ⟨g14, hg14⟩ : ∃ g, g = w.heap.size := ⟨_, rfl⟩
  obtain ⟨W1, hW1⟩ : ∃ W1, W1 = w.alloc (.cells #[.slice none 0 0, .slice none 0 0] 36) := ⟨_, rfl⟩
  have H141 : Kp (Blk W1 g14 36 [.slice none 0 0, .slice none 0 0]) := ⟨by rw [hW1, hg14]; exact Blk.new w _ _⟩
  have HF1 : Kp (Fr (fun _ => False) w W1) := ⟨by rw [hW1]; exact (Fr.refl _ w).alloc _⟩
  have HG : Kp (w.heap.size ≤ g14) := ⟨by omega⟩
  rw [← hg14, ← hW1]
  clear hW1 hg14
  go_wp2_with (fail)
  refine (CLa.out W1 HF1.out).mono ?_
  rintro e W2 ⟨rfl, hf⟩
  have HF2 := Kp.mk (HF1.out.trans hf (fun _ _ h => h))
  have H142 := Kp.mk (H141.out.fr hf (fun h => h))
  clear hf
  go_wp2_with (fail)
  refine (CRa.out W2 HF2.out).mono ?_
  rintro e W3 ⟨rfl, hf⟩
  have HF3 := Kp.mk (HF2.out.trans hf (fun _ _ h => h))
  have H143 := Kp.mk (H142.out.fr hf (fun h => h))
  clear hf
  have HNEW : Kp (Blk (W3.alloc (.cells #[.int .u8 0, .int .u8 0, .int .u8 0, .int .u8 0, .int .u8 0, .int .u8 0, .int .u8 0, .int .u8 0, .int .u8 0, .int .u8 0, .int .u8 0, .int .u8 0, .int .u8 0, .int .u8 0, .int .u8 0, .int .u8 0, .int .u8 0, .int .u8 0, .int .u8 0, .int .u8 0, .int .u8 0, .int .u8 0, .int .u8 0, .int .u8 0, .int .u8 0, .int .u8 0, .int .u8 0, .int .u8 0, .int .u8 0, .int .u8 0, .int .u8 0, .int .u8 0] 29)) W3.heap.size 29 [.int .u8 0, .int .u8 0, .int .u8 0, .int .u8 0, .int .u8 0, .int .u8 0, .int .u8 0, .int .u8 0, .int .u8 0, .int .u8 0, .int .u8 0, .int .u8 0, .int .u8 0, .int .u8 0, .int .u8 0, .int .u8 0, .int .u8 0, .int .u8 0, .int .u8 0, .int .u8 0, .int .u8 0, .int .u8 0, .int .u8 0, .int .u8 0, .int .u8 0, .int .u8 0, .int .u8 0, .int .u8 0, .int .u8 0, .int .u8 0, .int .u8 0, .int .u8 0]) := ⟨Blk.new W3 _ _⟩
  go_upto_region 4 with (refine wpList_storeH rfl rfl (Operand.tmp 16) (Operand.tmp 43) rfl W3.heap.size _ _ M1 rfl rfl HNEW.out rfl HM132.out ?_)
  obtain ⟨g16, hg⟩ : ∃ g, g = W3.heap.size := ⟨_, rfl⟩
  obtain ⟨W4, hW⟩ : ∃ W, W = (W3.alloc (.cells #[.int .u8 0, .int .u8 0, .int .u8 0, .int .u8 0, .int .u8 0, .int .u8 0, .int .u8 0, .int .u8 0, .int .u8 0, .int .u8 0, .int .u8 0, .int .u8 0, .int .u8 0, .int .u8 0, .int .u8 0, .int .u8 0, .int .u8 0, .int .u8 0, .int .u8 0, .int .u8 0, .int .u8 0, .int .u8 0, .int .u8 0, .int .u8 0, .int .u8 0, .int .u8 0, .int .u8 0, .int .u8 0, .int .u8 0, .int .u8 0, .int .u8 0, .int .u8 0] 29)).setRow W3.heap.size (bytes M1).toArray := ⟨_, rfl⟩
  have hfr := fr_row (Fr.refl (fun _ => False) W3) (.cells #[.int .u8 0, .int .u8 0, .int .u8 0, .int .u8 0, .int .u8 0, .int .u8 0, .int .u8 0, .int .u8 0, .int .u8 0, .int .u8 0, .int .u8 0, .int .u8 0, .int .u8 0, .int .u8 0, .int .u8 0, .int .u8 0, .int .u8 0, .int .u8 0, .int .u8 0, .int .u8 0, .int .u8 0, .int .u8 0, .int .u8 0, .int .u8 0, .int .u8 0, .int .u8 0, .int .u8 0, .int .u8 0, .int .u8 0, .int .u8 0, .int .u8 0, .int .u8 0] 29) (bytes M1).toArray
  rw [← hW] at hfr
  have Hg164 : Kp (Blk W4 g16 29 (bytes M1)) := ⟨by rw [hW, hg]; exact blk_row W3 _ _ _⟩
  have HF4 := Kp.mk (HF3.out.trans hfr (fun _ _ h => h))
  have H144 := Kp.mk (H143.out.fr hfr (fun h => h))
  rw [← hW, ← hg]
  clear hg hW hfr HNEW
  go_wp2_with (fail)
  refine (CLb.out W4 HF4.out).mono ?_
  rintro e W5 ⟨rfl, hf⟩
  have HF5 := Kp.mk (HF4.out.trans hf (fun _ _ h => h))
  have H145 := Kp.mk (H144.out.fr hf (fun h => h))
  have Hg165 := Kp.mk (Hg164.out.fr hf (fun h => h))
  clear hf
  go_wp2_with (fail)
  refine (CRb.out W5 HF5.out).mono ?_
  rintro e W6 ⟨rfl, hf⟩
  have HF6 := Kp.mk (HF5.out.trans hf (fun _ _ h => h))
  have H146 := Kp.mk (H145.out.fr hf (fun h => h))
  have Hg166 := Kp.mk (Hg165.out.fr hf (fun h => h))
  clear hf
  have HNEW : Kp (Blk (W6.alloc (.cells #[.int .u8 0, .int .u8 0, .int .u8 0, .int .u8 0, .int .u8 0, .int .u8 0, .int .u8 0, .int .u8 0, .int .u8 0, .int .u8 0, .int .u8 0, .int .u8 0, .int .u8 0, .int .u8 0, .int .u8 0, .int .u8 0, .int .u8 0, .int .u8 0, .int .u8 0, .int .u8 0, .int .u8 0, .int .u8 0, .int .u8 0, .int .u8 0, .int .u8 0, .int .u8 0, .int .u8 0, .int .u8 0, .int .u8 0, .int .u8 0, .int .u8 0, .int .u8 0] 29)) W6.heap.size 29 [.int .u8 0, .int .u8 0, .int .u8 0, .int .u8 0, .int .u8 0, .int .u8 0, .int .u8 0, .int .u8 0, .int .u8 0, .int .u8 0, .int .u8 0, .int .u8 0, .int .u8 0, .int .u8 0, .int .u8 0, .int .u8 0, .int .u8 0, .int .u8 0, .int .u8 0, .int .u8 0, .int .u8 0, .int .u8 0, .int .u8 0, .int .u8 0, .int .u8 0, .int .u8 0, .int .u8 0, .int .u8 0, .int .u8 0, .int .u8 0, .int .u8 0, .int .u8 0]) := ⟨Blk.new W6 _ _⟩
  go_upto_region 7 with (refine wpList_storeH rfl rfl (Operand.tmp 18) (Operand.tmp 58) rfl W6.heap.size _ _ M1 rfl rfl HNEW.out rfl HM132.out ?_)
  obtain ⟨g18, hg⟩ : ∃ g, g = W6.heap.size := ⟨_, rfl⟩
  obtain ⟨W7, hW⟩ : ∃ W, W = (W6.alloc (.cells #[.int .u8 0, .int .u8 0, .int .u8 0, .int .u8 0, .int .u8 0, .int .u8 0, .int .u8 0, .int .u8 0, .int .u8 0, .int .u8 0, .int .u8 0, .int .u8 0, .int .u8 0, .int .u8 0, .int .u8 0, .int .u8 0, .int .u8 0, .int .u8 0, .int .u8 0, .int .u8 0, .int .u8 0, .int .u8 0, .int .u8 0, .int .u8 0, .int .u8 0, .int .u8 0, .int .u8 0, .int .u8 0, .int .u8 0, .int .u8 0, .int .u8 0, .int .u8 0] 29)).setRow W6.heap.size (bytes M1).toArray := ⟨_, rfl⟩
  have hfr := fr_row (Fr.refl (fun _ => False) W6) (.cells #[.int .u8 0, .int .u8 0, .int .u8 0, .int .u8 0, .int .u8 0, .int .u8 0, .int .u8 0, .int .u8 0, .int .u8 0, .int .u8 0, .int .u8 0, .int .u8 0, .int .u8 0, .int .u8 0, .int .u8 0, .int .u8 0, .int .u8 0, .int .u8 0, .int .u8 0, .int .u8 0, .int .u8 0, .int .u8 0, .int .u8 0, .int .u8 0, .int .u8 0, .int .u8 0, .int .u8 0, .int .u8 0, .int .u8 0, .int .u8 0, .int .u8 0, .int .u8 0] 29) (bytes M1).toArray
  rw [← hW] at hfr
  have Hg187 : Kp (Blk W7 g18 29 (bytes M1)) := ⟨by rw [hW, hg]; exact blk_row W6 _ _ _⟩
  have HF7 := Kp.mk (HF6.out.trans hfr (fun _ _ h => h))
  have H147 := Kp.mk (H146.out.fr hfr (fun h => h))
  have Hg167 := Kp.mk (Hg166.out.fr hfr (fun h => h))
  rw [← hW, ← hg]
  clear hg hW hfr HNEW
  obtain ⟨mo16, ma16⟩ := mid_blk Hg167.out HM132.out
  obtain ⟨mo18, ma18⟩ := mid_blk Hg187.out HM132.out
  have hcmp : ∀ W, (Op.equalIn 10000 29 (.agg (bytes M1).toArray) (.agg (bytes M1).toArray)).run Tryd.prog W = .ok true W := fun W => by
    have h := eq32c M1 M1 HM132.out HM132.out W
    rw [decide_eq_true rfl] at h; exact h
  go_wp2_with (fail)
  refine (CE.out W7 HF7.out).mono ?_
  rintro e W8 ⟨rfl, hf⟩
  have HF8 := Kp.mk (HF7.out.trans hf (fun _ _ h => h))
  have H148 := Kp.mk (H147.out.fr hf (fun h => h))
  clear hf
  clear mo16 ma16 mo18 ma18 hcmp
  go_wp2_with (fail)
  refine (CW.out W8).mono ?_
  rintro e W9 ⟨vw, rfl, hO, hf⟩
  have HF9 := Kp.mk (HF8.out.trans hf (fun _ _ h => h))
  have H149 := Kp.mk (H148.out.fr hf (fun h => h))
  have HO9 := Kp.mk hO
  clear hO hf CW
  go_wp2_with (fail)
  refine (CLa.out W9 HF9.out).mono ?_
  rintro e W10 ⟨rfl, hf⟩
  have HF10 := Kp.mk (HF9.out.trans hf (fun _ _ h => h))
  have H1410 := Kp.mk (H149.out.fr hf (fun h => h))
  have HO10 := Kp.mk (HO9.out.keep hf (fun _ _ h => h))
  clear hf
  go_wp2_with (fail)
  refine (CCa.out W10 _ vw HF10.out HO10.out).mono ?_
  rintro e W11 ⟨va, ra, rfl, hOa, hRa, hf⟩
  have HF11 := Kp.mk (HF10.out.trans hf (fun _ _ h => h))
  have H1411 := Kp.mk (H1410.out.fr hf (fun h => h))
  have HO11 := Kp.mk (HO10.out.keep hf (fun _ _ h => h))
  have HOa11 := Kp.mk hOa
  have HRa11 := Kp.mk hRa
  clear hOa hRa hf
  go_wp2_with (fail)
  refine (CLb.out W11 HF11.out).mono ?_
  rintro e W12 ⟨rfl, hf⟩
  have HF12 := Kp.mk (HF11.out.trans hf (fun _ _ h => h))
  have H1412 := Kp.mk (H1411.out.fr hf (fun h => h))
  have HO12 := Kp.mk (HO11.out.keep hf (fun _ _ h => h))
  have HOa12 := Kp.mk (HOa11.out.keep hf (fun _ _ h => h))
  have HRa12 := Kp.mk (HRa11.out.keep hf (fun _ _ _ h => h))
  clear hf
  go_wp2_with (fail)
  refine (CCb.out W12 _ vw HF12.out HO12.out).mono ?_
  rintro e W13 ⟨vb, rb, rfl, hOb, hRb, hf⟩
  have HF13 := Kp.mk (HF12.out.trans hf (fun _ _ h => h))
  have H1413 := Kp.mk (H1412.out.fr hf (fun h => h))
  have HOa13 := Kp.mk (HOa12.out.keep hf (fun _ _ h => h))
  have HRa13 := Kp.mk (HRa12.out.keep hf (fun _ _ _ h => h))
  have HOb13 := Kp.mk hOb
  have HRb13 := Kp.mk hRb
  clear hOb hRb hf
  obtain ⟨qq, hqq⟩ : ∃ q, q = ra.length := ⟨_, rfl⟩
  have hqa2 : qq = NA.length := by rw [hqq]; exact HRa13.out.len
  have hqb2 : rb.length = NB.length := HRb13.out.len
  have hqab : qq = rb.length := by rw [hqa2, hqb2, HN.out.1, HN.out.2]
  have hjq : j < qq ∧ qq ≤ 49 := by have h1 := HJ.out; have h2 := HN.out.1; have h3 := HWL.out; omega
  obtain ⟨ga, ca, hva, -⟩ := HOa13.out.form (by omega)
  obtain ⟨gb, cb, hvb, -⟩ := HOb13.out.form (by omega)
  rw [← hqq] at hva
  rw [← hqab] at hvb
  subst hva
  subst hvb
  have HQ := Kp.mk (And.intro hqq (And.intro hqa2 (And.intro hqb2 hqab)))
  have HJQ := Kp.mk hjq
  have hjq1 := hjq.2
  clear hqq hqa2 hqb2 hqab hjq HO12
  go_wp2_with (fail)
  go_loopw [91] (fun v wr => ∃ m : Nat, v = .int .i64 (m : Int) ∧ Kp (m ≤ j) ∧ Kp (Fr (fun _ => False) W13 wr)) (fun v _ => 100 - (intOf v).toNat)
  case atStart => exact ⟨0, rfl, ⟨Nat.zero_le _⟩, ⟨Fr.refl _ _⟩⟩
  case round =>
    obtain ⟨m, rfl, hm, HFm⟩ := hrel
    have hmq : m < qq := by have h1 := hm.out; have h2 := HJQ.out; omega
    have hmq' : (m : Int) < (qq : Int) := by omega
    obtain ⟨xm, hxm⟩ : ∃ x, NA[m]? = some x := ⟨_, List.getElem?_eq_getElem (by have := HQ.out.2.1; omega)⟩
    obtain ⟨ym, hym⟩ : ∃ y, NB[m]? = some y := ⟨_, List.getElem?_eq_getElem (by have := HQ.out; omega)⟩
    obtain ⟨vx, hvx, hnx⟩ := HRa13.out.at m xm hxm
    obtain ⟨vy, hvy, hny⟩ := HRb13.out.at m ym hym
    have ct1 : wr.cell? ⟨ga, m, none⟩ = some vx := by
      have hl := (List.getElem?_eq_some_iff.1 hvx).1
      have h1 : ra[m] = [vx] := by rw [List.getElem?_eq_getElem hl] at hvx; exact Option.some.inj hvx
      have h2 := (HOa13.out.keep HFm.out (fun _ _ h => h)).cell m 0 vx hl (by rw [h1]; rfl)
      rwa [Nat.mul_one, Nat.add_zero] at h2
    have ct2 : wr.cell? ⟨gb, m, none⟩ = some vy := by
      have hl := (List.getElem?_eq_some_iff.1 hvy).1
      have h1 : rb[m] = [vy] := by rw [List.getElem?_eq_getElem hl] at hvy; exact Option.some.inj hvy
      have h2 := (HOb13.out.keep HFm.out (fun _ _ h => h)).cell m 0 vy hl (by rw [h1]; rfl)
      rwa [Nat.mul_one, Nat.add_zero] at h2
    have HSx := Kp.mk (fun (W : World) (hf : Fr (fun _ => False) wr W) => sums_of HS.out (hnx.kept (HFm.out.trans hf (fun _ _ h => h))))
    have HSy := Kp.mk (fun (W : World) (hf : Fr (fun _ => False) wr W) => sums_of HS.out (hny.kept (HFm.out.trans hf (fun _ _ h => h))))
    have HX32 := Kp.mk (hnx.sum_len HS.out)
    have HY32 := Kp.mk (hny.sum_len HS.out)
    have hcmp : ∀ W, (Op.equalIn 10000 29 (.agg (bytes (xm.sum (nodeL s))).toArray) (.agg (bytes (ym.sum (nodeL s))).toArray)).run Tryd.prog W = .ok (decide (xm.sum (nodeL s) = ym.sum (nodeL s))) W := fun W => eq32c _ _ HX32.out HY32.out W
    have HXY := Kp.mk (And.intro hxm hym)
    have HND := Kp.mk (And.intro hnx hny)
    have Lx := Kp.mk (fun (W : World) (hf : Fr (fun _ => False) wr W) => lds_nod (w := W) (World.cell_keep ct1 hf))
    have Ly := Kp.mk (fun (W : World) (hf : Fr (fun _ => False) wr W) => lds_nod (w := W) (World.cell_keep ct2 hf))
    clear hxm hym hvx hvy hnx hny
    go_upto_region 18 with (fail)
    by_cases hlt : m < j
    · have hd : decide (xm.sum (nodeL s) = ym.sum (nodeL s)) = false := decide_eq_false (HP.out.2.2.2.1 m xm ym hlt HXY.out.1 HXY.out.2)
      simp only [hd] at hcmp
      clear hd
      have HFd : Kp (Fr (fun _ => False) wr wr.drew) := ⟨(Fr.refl _ wr).drew⟩
      refine start_ (n := 11) (S := fun w' => Lds w' 98 (.pointer (some ⟨ga, m, none⟩)) vx ∧ Lds w' 98 (.pointer (some ⟨gb, m, none⟩)) vy) (ds := []) #[false, false, false, false, false, false, false, false, false, false, false] (by kernel_rfl) rfl rfl ⟨Lx.out _ HFd.out, Ly.out _ HFd.out⟩ (fun hHeld => ?_)
      refine pure_ (i := 0) (N := some 94) (v := ?_) (a' := ?_) #[true, false, false, false, false, false, false, false, false, false, false] rfl rfl (by kernel_rfl) (fun _ _ _ h => h) (Or.inl ⟨by rfl, ?_⟩) ?_ ?_
      rotate_left
      · intro w'
        go_simp
        with_reducible rfl
      rotate_left
      · simp only [Act.put, List.setIfInBounds_toArray, List.set_cons_zero, List.set_cons_succ]
        rfl
      refine pure_ (i := 1) (N := some 95) (v := ?_) (a' := ?_) #[true, true, false, false, false, false, false, false, false, false, false] rfl rfl (by kernel_rfl) (fun _ _ _ h => h) (Or.inl ⟨by rfl, ?_⟩) ?_ ?_
      rotate_left
      · intro w'
        go_simp
        with_reducible rfl
      rotate_left
      · simp only [Act.put, List.setIfInBounds_toArray, List.set_cons_zero, List.set_cons_succ]
        rfl
      refine pure_ (i := 2) (N := some 96) (v := ?_) (a' := ?_) #[true, true, true, false, false, false, false, false, false, false, false] rfl rfl (by kernel_rfl) (fun _ _ _ h => h) (Or.inl ⟨by rfl, ?_⟩) ?_ ?_
      rotate_left
      · intro w'
        go_simp
        with_reducible rfl
      rotate_left
      · simp only [Act.put, List.setIfInBounds_toArray, List.set_cons_zero, List.set_cons_succ]
        rfl
      refine pure_ (i := 5) (N := some 99) (v := ?_) (a' := ?_) #[true, true, true, false, false, true, false, false, false, false, false] rfl rfl (by kernel_rfl) (fun _ _ _ h => h) (Or.inl ⟨by rfl, ?_⟩) ?_ ?_
      rotate_left
      · intro w'
        go_simp
        with_reducible rfl
      rotate_left
      · simp only [Act.put, List.setIfInBounds_toArray, List.set_cons_zero, List.set_cons_succ]
        rfl
      refine pure_ (i := 6) (N := some 100) (v := ?_) (a' := ?_) #[true, true, true, false, false, true, true, false, false, false, false] rfl rfl (by kernel_rfl) (fun _ _ _ h => h) (Or.inl ⟨by rfl, ?_⟩) ?_ ?_
      rotate_left
      · intro w'
        go_simp
        with_reducible rfl
      rotate_left
      · simp only [Act.put, List.setIfInBounds_toArray, List.set_cons_zero, List.set_cons_succ]
        rfl
      refine pure_ (i := 7) (N := some 101) (v := ?_) (a' := ?_) #[true, true, true, false, false, true, true, true, false, false, false] rfl rfl (by kernel_rfl) (fun _ _ _ h => h) (Or.inl ⟨by rfl, ?_⟩) ?_ ?_
      rotate_left
      · intro w'
        go_simp
        with_reducible rfl
      rotate_left
      · simp only [Act.put, List.setIfInBounds_toArray, List.set_cons_zero, List.set_cons_succ]
        rfl
      refine take_ (i := 3) (N := some 97) (v := ?_) (a' := ?_) #[true, true, true, true, false, true, true, true, false, false, false] rfl rfl (by kernel_rfl) (fun _ _ _ h => h) (Or.inl ⟨by rfl, ?_⟩) hHeld ?_ ?_
      rotate_left
      · rintro w' ⟨s0, s1⟩
        refine Lds.run s0 (x := ?_) ?_ ?_
        · exact (Operand.tmp 96)
        · rfl
        · rfl
      rotate_left
      · simp only [Act.put, List.setIfInBounds_toArray, List.set_cons_zero, List.set_cons_succ]
        rfl
      refine take_ (i := 8) (N := some 102) (v := ?_) (a' := ?_) #[true, true, true, true, false, true, true, true, true, false, false] rfl rfl (by kernel_rfl) (fun _ _ _ h => h) (Or.inl ⟨by rfl, ?_⟩) hHeld ?_ ?_
      rotate_left
      · rintro w' ⟨s0, s1⟩
        refine Lds.run s1 (x := ?_) ?_ ?_
        · exact (Operand.tmp 101)
        · rfl
        · rfl
      rotate_left
      · simp only [Act.put, List.setIfInBounds_toArray, List.set_cons_zero, List.set_cons_succ]
        rfl
      refine one_ (i := 4) (N := some 98) #[true, true, true, true, true, true, true, true, true, false, false] rfl rfl (by kernel_rfl) (by decide) (fun K hK => ?_)
      refine goesSum_ (Operand.tmp 97) (by kernel_rfl) rfl rfl _ rfl (xm.sum (nodeL s)) (HSx.out _ HFd.out) ?_
      intro Wb hf
      have HFb := Kp.mk (HFd.out.trans hf (fun _ _ h => h))
      clear hf
      refine hK.out _ _ ⟨Lx.out _ HFb.out, Ly.out _ HFb.out⟩ (fun hHeld => ?_)
      clear hK K
      refine norm_ (a' := ?_) ?_ ?_
      rotate_left
      · show Act.put _ (some 98) _ = _
        simp only [Act.put, List.setIfInBounds_toArray, List.set_cons_zero, List.set_cons_succ]
        rfl
      refine one_ (i := 9) (N := some 103) #[true, true, true, true, true, true, true, true, true, true, false] rfl rfl (by kernel_rfl) (by decide) (fun K hK => ?_)
      refine goesSum_ (Operand.tmp 102) (by kernel_rfl) rfl rfl _ rfl (ym.sum (nodeL s)) (HSy.out _ HFb.out) ?_
      intro Wc hf
      have HFc := Kp.mk (HFb.out.trans hf (fun _ _ h => h))
      clear hf
      refine hK.out _ _ ⟨Lx.out _ HFc.out, Ly.out _ HFc.out⟩ (fun hHeld => ?_)
      clear hK K
      refine norm_ (a' := ?_) ?_ ?_
      rotate_left
      · show Act.put _ (some 103) _ = _
        simp only [Act.put, List.setIfInBounds_toArray, List.set_cons_zero, List.set_cons_succ]
        rfl
      refine pure_ (i := 10) (N := some 104) (v := ?_) (a' := ?_) #[true, true, true, true, true, true, true, true, true, true, true] rfl rfl (by kernel_rfl) (fun _ _ _ h => h) (Or.inl ⟨by rfl, ?_⟩) ?_ ?_
      rotate_left
      · intro w'
        go_simp
        with_reducible rfl
      rotate_left
      · simp only [Act.put, List.setIfInBounds_toArray, List.set_cons_zero, List.set_cons_succ]
        rfl
      refine done_ (by kernel_rfl) ?_
      have HFn := Kp.mk (HFm.out.trans HFc.out (fun _ _ h => h))
      have Hlt := Kp.mk hlt
      clear hHeld
      go_wp2_with (fail)
      refine ⟨⟨m + 1, by go_num, ⟨Hlt.out⟩, HFn⟩, ?_⟩
      simp [intOf]; omega
    · have hmj : m = j := by have := hm.out; omega
      subst hmj
      have hxe : xm = x := Option.some.inj (HXY.out.1.symm.trans HP.out.1)
      have hye : ym = y := Option.some.inj (HXY.out.2.symm.trans HP.out.2.1)
      subst hxe
      subst hye
      have HXE := Kp.mk HP.out.2.2.1
      have hd : decide (xm.sum (nodeL s) = ym.sum (nodeL s)) = true := decide_eq_true HXE.out
      simp only [hd] at hcmp
      clear hd hlt
      rcases Nat.eq_zero_or_pos m with h0 | h0
      · have hz : ((m : Int) == 0) = true := by rw [h0]; rfl
        have H0 := Kp.mk h0
        clear h0
        have HFd : Kp (Fr (fun _ => False) wr wr.drew) := ⟨(Fr.refl _ wr).drew⟩
        refine start_ (n := 11) (S := fun w' => Lds w' 98 (.pointer (some ⟨ga, m, none⟩)) vx ∧ Lds w' 98 (.pointer (some ⟨gb, m, none⟩)) vy) (ds := []) #[false, false, false, false, false, false, false, false, false, false, false] (by kernel_rfl) rfl rfl ⟨Lx.out _ HFd.out, Ly.out _ HFd.out⟩ (fun hHeld => ?_)
        refine pure_ (i := 0) (N := some 94) (v := ?_) (a' := ?_) #[true, false, false, false, false, false, false, false, false, false, false] rfl rfl (by kernel_rfl) (fun _ _ _ h => h) (Or.inl ⟨by rfl, ?_⟩) ?_ ?_
        rotate_left
        · intro w'
          go_simp
          with_reducible rfl
        rotate_left
        · simp only [Act.put, List.setIfInBounds_toArray, List.set_cons_zero, List.set_cons_succ]
          rfl
        refine pure_ (i := 1) (N := some 95) (v := ?_) (a' := ?_) #[true, true, false, false, false, false, false, false, false, false, false] rfl rfl (by kernel_rfl) (fun _ _ _ h => h) (Or.inl ⟨by rfl, ?_⟩) ?_ ?_
        rotate_left
        · intro w'
          go_simp
          with_reducible rfl
        rotate_left
        · simp only [Act.put, List.setIfInBounds_toArray, List.set_cons_zero, List.set_cons_succ]
          rfl
        refine pure_ (i := 2) (N := some 96) (v := ?_) (a' := ?_) #[true, true, true, false, false, false, false, false, false, false, false] rfl rfl (by kernel_rfl) (fun _ _ _ h => h) (Or.inl ⟨by rfl, ?_⟩) ?_ ?_
        rotate_left
        · intro w'
          go_simp
          with_reducible rfl
        rotate_left
        · simp only [Act.put, List.setIfInBounds_toArray, List.set_cons_zero, List.set_cons_succ]
          rfl
        refine pure_ (i := 5) (N := some 99) (v := ?_) (a' := ?_) #[true, true, true, false, false, true, false, false, false, false, false] rfl rfl (by kernel_rfl) (fun _ _ _ h => h) (Or.inl ⟨by rfl, ?_⟩) ?_ ?_
        rotate_left
        · intro w'
          go_simp
          with_reducible rfl
        rotate_left
        · simp only [Act.put, List.setIfInBounds_toArray, List.set_cons_zero, List.set_cons_succ]
          rfl
        refine pure_ (i := 6) (N := some 100) (v := ?_) (a' := ?_) #[true, true, true, false, false, true, true, false, false, false, false] rfl rfl (by kernel_rfl) (fun _ _ _ h => h) (Or.inl ⟨by rfl, ?_⟩) ?_ ?_
        rotate_left
        · intro w'
          go_simp
          with_reducible rfl
        rotate_left
        · simp only [Act.put, List.setIfInBounds_toArray, List.set_cons_zero, List.set_cons_succ]
          rfl
        refine pure_ (i := 7) (N := some 101) (v := ?_) (a' := ?_) #[true, true, true, false, false, true, true, true, false, false, false] rfl rfl (by kernel_rfl) (fun _ _ _ h => h) (Or.inl ⟨by rfl, ?_⟩) ?_ ?_
        rotate_left
        · intro w'
          go_simp
          with_reducible rfl
        rotate_left
        · simp only [Act.put, List.setIfInBounds_toArray, List.set_cons_zero, List.set_cons_succ]
          rfl
        refine take_ (i := 3) (N := some 97) (v := ?_) (a' := ?_) #[true, true, true, true, false, true, true, true, false, false, false] rfl rfl (by kernel_rfl) (fun _ _ _ h => h) (Or.inl ⟨by rfl, ?_⟩) hHeld ?_ ?_
        rotate_left
        · rintro w' ⟨s0, s1⟩
          refine Lds.run s0 (x := ?_) ?_ ?_
          · exact (Operand.tmp 96)
          · rfl
          · rfl
        rotate_left
        · simp only [Act.put, List.setIfInBounds_toArray, List.set_cons_zero, List.set_cons_succ]
          rfl
        refine take_ (i := 8) (N := some 102) (v := ?_) (a' := ?_) #[true, true, true, true, false, true, true, true, true, false, false] rfl rfl (by kernel_rfl) (fun _ _ _ h => h) (Or.inl ⟨by rfl, ?_⟩) hHeld ?_ ?_
        rotate_left
        · rintro w' ⟨s0, s1⟩
          refine Lds.run s1 (x := ?_) ?_ ?_
          · exact (Operand.tmp 101)
          · rfl
          · rfl
        rotate_left
        · simp only [Act.put, List.setIfInBounds_toArray, List.set_cons_zero, List.set_cons_succ]
          rfl
        refine one_ (i := 4) (N := some 98) #[true, true, true, true, true, true, true, true, true, false, false] rfl rfl (by kernel_rfl) (by decide) (fun K hK => ?_)
        refine goesSum_ (Operand.tmp 97) (by kernel_rfl) rfl rfl _ rfl (xm.sum (nodeL s)) (HSx.out _ HFd.out) ?_
        intro Wb hf
        have HFb := Kp.mk (HFd.out.trans hf (fun _ _ h => h))
        clear hf
        refine hK.out _ _ ⟨Lx.out _ HFb.out, Ly.out _ HFb.out⟩ (fun hHeld => ?_)
        clear hK K
        refine norm_ (a' := ?_) ?_ ?_
        rotate_left
        · show Act.put _ (some 98) _ = _
          simp only [Act.put, List.setIfInBounds_toArray, List.set_cons_zero, List.set_cons_succ]
          rfl
        refine one_ (i := 9) (N := some 103) #[true, true, true, true, true, true, true, true, true, true, false] rfl rfl (by kernel_rfl) (by decide) (fun K hK => ?_)
        refine goesSum_ (Operand.tmp 102) (by kernel_rfl) rfl rfl _ rfl (ym.sum (nodeL s)) (HSy.out _ HFb.out) ?_
        intro Wc hf
        have HFc := Kp.mk (HFb.out.trans hf (fun _ _ h => h))
        clear hf
        refine hK.out _ _ ⟨Lx.out _ HFc.out, Ly.out _ HFc.out⟩ (fun hHeld => ?_)
        clear hK K
        refine norm_ (a' := ?_) ?_ ?_
        rotate_left
        · show Act.put _ (some 103) _ = _
          simp only [Act.put, List.setIfInBounds_toArray, List.set_cons_zero, List.set_cons_succ]
          rfl
        refine pure_ (i := 10) (N := some 104) (v := ?_) (a' := ?_) #[true, true, true, true, true, true, true, true, true, true, true] rfl rfl (by kernel_rfl) (fun _ _ _ h => h) (Or.inl ⟨by rfl, ?_⟩) ?_ ?_
        rotate_left
        · intro w'
          go_simp
          with_reducible rfl
        rotate_left
        · simp only [Act.put, List.setIfInBounds_toArray, List.set_cons_zero, List.set_cons_succ]
          rfl
        refine done_ (by kernel_rfl) ?_
        have HFk := Kp.mk (HF13.out.trans (HFm.out.trans HFc.out (fun _ _ h => h)) (fun _ _ h => h))
        have H14k := Kp.mk (H1413.out.fr (HFm.out.trans HFc.out (fun _ _ h => h)) (fun h => h))
        generalize hWk : Wc = Wk at HFk H14k ⊢
        clear hWk hHeld
        go_wp2_with (fail)
        refine (CBa.out Wk HFk.out).mono ?_
        rintro e Wd ⟨v, rfl, hO, hf⟩
        obtain ⟨gbA, cbA, rfl, hge, -, hcl, hrd⟩ := own_form (xs := 0 :: a) hO (by simp)
        have HTAd := Kp.mk (show Src Wd (fun q => q = g14) (some ⟨gbA, 0, none⟩) cbA (0 :: a) from ⟨hcl, .inr (.inr ⟨gbA, 0, rfl, hrd, fun h => by have := H14k.out.lt; omega⟩)⟩)
        have HFd := Kp.mk (HFk.out.trans hf (fun _ _ h => h))
        have H14d := Kp.mk (H14k.out.fr hf (fun h => h))
        obtain ⟨qA, hqA⟩ : ∃ q, q = (0 :: a).length := ⟨_, rfl⟩
        rw [← hqA]
        have HQA := Kp.mk hqA
        clear hO hf hge hcl hrd hqA
        go_wp2_with (fail)
        refine (CBb.out Wd HFd.out).mono ?_
        rintro e We ⟨v, rfl, hO, hf⟩
        obtain ⟨gbB, cbB, rfl, hge, -, hcl, hrd⟩ := own_form (xs := 0 :: b) hO (by simp)
        have HTBe := Kp.mk (show Src We (fun q => q = g14) (some ⟨gbB, 0, none⟩) cbB (0 :: b) from ⟨hcl, .inr (.inr ⟨gbB, 0, rfl, hrd, fun h => by have := H14d.out.lt; omega⟩)⟩)
        have HFe := Kp.mk (HFd.out.trans hf (fun _ _ h => h))
        have H14e := Kp.mk (H14d.out.fr hf (fun h => h))
        obtain ⟨qB, hqB⟩ : ∃ q, q = (0 :: b).length := ⟨_, rfl⟩
        rw [← hqB]
        have HQB := Kp.mk hqB
        have HTAe := Kp.mk (HTAd.out.fr (hf.mono (S' := fun q => q = g14) (fun _ _ h => h.elim)))
        clear hO hf hge hcl hrd hqB
        obtain ⟨vs, hvs⟩ : ∃ vs : List Value, vs = [.slice (some ⟨gbA, 0, none⟩) qA cbA, .slice (some ⟨gbB, 0, none⟩) qB cbB] := ⟨_, rfl⟩
        have HVS := Kp.mk hvs
        have hv2 : vs.length = 2 := by rw [hvs]; rfl
        have hv1 : ∀ u ∈ vs, u.oneCell' = true := by rw [hvs]; simp [Value.oneCell']
        have hfz := fr_setCells g14 vs 0 We
        have hbz := blk_put H14e.out (ys := vs) (by rw [hv2]; rfl)
        have HFz := Kp.mk (HFe.out.trans (S := fun _ => False) hfz (fun q hq e => by have := HG.out; omega))
        have HSAz := Kp.mk ((HTAe.out.fr hfz).mono (S' := fun _ => False) (fun _ _ h => h.elim))
        have HSBz := Kp.mk ((HTBe.out.fr hfz).mono (S' := fun _ => False) (fun _ _ h => h.elim))
        have Hbz := Kp.mk hbz
        have HV := Kp.mk (And.intro hv2 hv1)
        clear hfz hbz hv2 hv1 hvs
        go_wp2_with (refine wpList_storeT rfl rfl 36 (Operand.tmp 14) (Operand.tmp 111) rfl g14 0 vs rfl (by rw [HVS.out]; rfl) (blk_there H14e.out 0 _ (by rw [HV.out.1]; exact Nat.le_refl 2)) (by rw [HV.out.1]; kernel_rfl) HV.out.2 ?_)
        refine bodyPost_ret (results_cell_tmp rfl _ _ g14 36 _ (0, 0) _ (.int .i64 0) rfl rfl (show (World.setCells We g14 0 vs).heap[g14]? = some (.cells vs.toArray 36 (0, 0)) from Hbz.out) Tryd.underlying36 rfl (by rw [List.size_toArray, HV.out.1]; kernel_rfl)) rfl ?_
        exact ⟨0 :: a, 0 :: b, some ⟨gbA, 0, none⟩, cbA, some ⟨gbB, 0, none⟩, cbB, by rw [HVS.out, HQA.out, HQB.out], HSAz.out, HSBz.out, ⟨m, xm, ym, HXY.out.1, HXY.out.2, HXE.out, HP.out.2.2.2.1, .inl ⟨H0.out, rfl⟩⟩, HFz.out⟩
      · have hz : ((m : Int) == 0) = false := by rw [beq_eq_false_iff_ne]; omega
        have H0 := Kp.mk h0
        obtain ⟨⟨P1, P2⟩, hpp⟩ := HP.out.2.2.2.2 h0
        have HPP := Kp.mk hpp
        clear h0
        cases xm with
        | giv _ => simp [parts] at hpp
        | join xl xr =>
        cases ym with
        | giv _ => simp [parts] at hpp
        | join yl yr =>
        obtain ⟨jx, vx1, vx2, hvx, hbx, nx1, nx2⟩ := HND.out.1
        obtain ⟨jy, vy1, vy2, hvy, hby, ny1, ny2⟩ := HND.out.2
        subst hvx
        subst hvy
        have CPP : Kp (∀ W, Fr (fun _ => False) wr W → Calls Tryd.prog 47 #[.iface 143 (.pointer (some ⟨jx, 0, none⟩)), .iface 143 (.pointer (some ⟨jy, 0, none⟩))] W fun e w' => ∃ A1 c1 A2 c2, e = .returned (.tuple #[.agg #[.slice A1 P1.length c1, .slice A2 P2.length c2], .bool true]) ∧ Src w' (fun q => q < W.heap.size) A1 c1 P1 ∧ Src w' (fun q => q < W.heap.size) A2 c2 P2 ∧ Fr (fun _ => False) W w') :=
          ⟨fun W hf => by
            have hf' := HFm.out.trans hf (fun _ _ h => h)
            exact parts_join s HS.out jx jy xl xr yl yr _ _ _ _ _ _ W (hbx.fr hf' (fun h => h)) (hby.fr hf' (fun h => h)) (nx1.kept hf') (nx2.kept hf') (ny1.kept hf') (ny2.kept hf') P1 P2 HPP.out⟩
        clear hpp hbx hby nx1 nx2 ny1 ny2
        have HFd : Kp (Fr (fun _ => False) wr wr.drew) := ⟨(Fr.refl _ wr).drew⟩
        refine start_ (n := 11) (S := fun w' => Lds w' 98 (.pointer (some ⟨ga, m, none⟩)) (.iface 143 (.pointer (some ⟨jx, 0, none⟩))) ∧ Lds w' 98 (.pointer (some ⟨gb, m, none⟩)) (.iface 143 (.pointer (some ⟨jy, 0, none⟩)))) (ds := []) #[false, false, false, false, false, false, false, false, false, false, false] (by kernel_rfl) rfl rfl ⟨Lx.out _ HFd.out, Ly.out _ HFd.out⟩ (fun hHeld => ?_)
        refine pure_ (i := 0) (N := some 94) (v := ?_) (a' := ?_) #[true, false, false, false, false, false, false, false, false, false, false] rfl rfl (by kernel_rfl) (fun _ _ _ h => h) (Or.inl ⟨by rfl, ?_⟩) ?_ ?_
        rotate_left
        · intro w'
          go_simp
          with_reducible rfl
        rotate_left
        · simp only [Act.put, List.setIfInBounds_toArray, List.set_cons_zero, List.set_cons_succ]
          rfl
        refine pure_ (i := 1) (N := some 95) (v := ?_) (a' := ?_) #[true, true, false, false, false, false, false, false, false, false, false] rfl rfl (by kernel_rfl) (fun _ _ _ h => h) (Or.inl ⟨by rfl, ?_⟩) ?_ ?_
        rotate_left
        · intro w'
          go_simp
          with_reducible rfl
        rotate_left
        · simp only [Act.put, List.setIfInBounds_toArray, List.set_cons_zero, List.set_cons_succ]
          rfl
        refine pure_ (i := 2) (N := some 96) (v := ?_) (a' := ?_) #[true, true, true, false, false, false, false, false, false, false, false] rfl rfl (by kernel_rfl) (fun _ _ _ h => h) (Or.inl ⟨by rfl, ?_⟩) ?_ ?_
        rotate_left
        · intro w'
          go_simp
          with_reducible rfl
        rotate_left
        · simp only [Act.put, List.setIfInBounds_toArray, List.set_cons_zero, List.set_cons_succ]
          rfl
        refine pure_ (i := 5) (N := some 99) (v := ?_) (a' := ?_) #[true, true, true, false, false, true, false, false, false, false, false] rfl rfl (by kernel_rfl) (fun _ _ _ h => h) (Or.inl ⟨by rfl, ?_⟩) ?_ ?_
        rotate_left
        · intro w'
          go_simp
          with_reducible rfl
        rotate_left
        · simp only [Act.put, List.setIfInBounds_toArray, List.set_cons_zero, List.set_cons_succ]
          rfl
        refine pure_ (i := 6) (N := some 100) (v := ?_) (a' := ?_) #[true, true, true, false, false, true, true, false, false, false, false] rfl rfl (by kernel_rfl) (fun _ _ _ h => h) (Or.inl ⟨by rfl, ?_⟩) ?_ ?_
        rotate_left
        · intro w'
          go_simp
          with_reducible rfl
        rotate_left
        · simp only [Act.put, List.setIfInBounds_toArray, List.set_cons_zero, List.set_cons_succ]
          rfl
        refine pure_ (i := 7) (N := some 101) (v := ?_) (a' := ?_) #[true, true, true, false, false, true, true, true, false, false, false] rfl rfl (by kernel_rfl) (fun _ _ _ h => h) (Or.inl ⟨by rfl, ?_⟩) ?_ ?_
        rotate_left
        · intro w'
          go_simp
          with_reducible rfl
        rotate_left
        · simp only [Act.put, List.setIfInBounds_toArray, List.set_cons_zero, List.set_cons_succ]
          rfl
        refine take_ (i := 3) (N := some 97) (v := ?_) (a' := ?_) #[true, true, true, true, false, true, true, true, false, false, false] rfl rfl (by kernel_rfl) (fun _ _ _ h => h) (Or.inl ⟨by rfl, ?_⟩) hHeld ?_ ?_
        rotate_left
        · rintro w' ⟨s0, s1⟩
          refine Lds.run s0 (x := ?_) ?_ ?_
          · exact (Operand.tmp 96)
          · rfl
          · rfl
        rotate_left
        · simp only [Act.put, List.setIfInBounds_toArray, List.set_cons_zero, List.set_cons_succ]
          rfl
        refine take_ (i := 8) (N := some 102) (v := ?_) (a' := ?_) #[true, true, true, true, false, true, true, true, true, false, false] rfl rfl (by kernel_rfl) (fun _ _ _ h => h) (Or.inl ⟨by rfl, ?_⟩) hHeld ?_ ?_
        rotate_left
        · rintro w' ⟨s0, s1⟩
          refine Lds.run s1 (x := ?_) ?_ ?_
          · exact (Operand.tmp 101)
          · rfl
          · rfl
        rotate_left
        · simp only [Act.put, List.setIfInBounds_toArray, List.set_cons_zero, List.set_cons_succ]
          rfl
        refine one_ (i := 4) (N := some 98) #[true, true, true, true, true, true, true, true, true, false, false] rfl rfl (by kernel_rfl) (by decide) (fun K hK => ?_)
        refine goesSum_ (Operand.tmp 97) (by kernel_rfl) rfl rfl _ rfl ((Nd.join xl xr).sum (nodeL s)) (HSx.out _ HFd.out) ?_
        intro Wb hf
        have HFb := Kp.mk (HFd.out.trans hf (fun _ _ h => h))
        clear hf
        refine hK.out _ _ ⟨Lx.out _ HFb.out, Ly.out _ HFb.out⟩ (fun hHeld => ?_)
        clear hK K
        refine norm_ (a' := ?_) ?_ ?_
        rotate_left
        · show Act.put _ (some 98) _ = _
          simp only [Act.put, List.setIfInBounds_toArray, List.set_cons_zero, List.set_cons_succ]
          rfl
        refine one_ (i := 9) (N := some 103) #[true, true, true, true, true, true, true, true, true, true, false] rfl rfl (by kernel_rfl) (by decide) (fun K hK => ?_)
        refine goesSum_ (Operand.tmp 102) (by kernel_rfl) rfl rfl _ rfl ((Nd.join yl yr).sum (nodeL s)) (HSy.out _ HFb.out) ?_
        intro Wc hf
        have HFc := Kp.mk (HFb.out.trans hf (fun _ _ h => h))
        clear hf
        refine hK.out _ _ ⟨Lx.out _ HFc.out, Ly.out _ HFc.out⟩ (fun hHeld => ?_)
        clear hK K
        refine norm_ (a' := ?_) ?_ ?_
        rotate_left
        · show Act.put _ (some 103) _ = _
          simp only [Act.put, List.setIfInBounds_toArray, List.set_cons_zero, List.set_cons_succ]
          rfl
        refine pure_ (i := 10) (N := some 104) (v := ?_) (a' := ?_) #[true, true, true, true, true, true, true, true, true, true, true] rfl rfl (by kernel_rfl) (fun _ _ _ h => h) (Or.inl ⟨by rfl, ?_⟩) ?_ ?_
        rotate_left
        · intro w'
          go_simp
          with_reducible rfl
        rotate_left
        · simp only [Act.put, List.setIfInBounds_toArray, List.set_cons_zero, List.set_cons_succ]
          rfl
        refine done_ (by kernel_rfl) ?_
        have HFk := Kp.mk (HF13.out.trans HFm.out (fun _ _ h => h))
        have H14p := Kp.mk (H1413.out.fr (HFm.out.trans HFc.out (fun _ _ h => h)) (fun h => h))
        have HFrp := HFc
        generalize hWk : Wc = Wp at HFrp H14p ⊢
        clear hWk hHeld
        go_upto_region 21 with (fail)
        have HFrd : Kp (Fr (fun _ => False) wr Wp.drew) := ⟨HFrp.out.drew⟩
        have H14d := Kp.mk H14p.out.drew
        refine start_ (n := 15) (S := fun w' => Lds w' 98 (.pointer (some ⟨ga, m, none⟩)) (.iface 143 (.pointer (some ⟨jx, 0, none⟩))) ∧ Lds w' 98 (.pointer (some ⟨gb, m, none⟩)) (.iface 143 (.pointer (some ⟨jy, 0, none⟩)))) (ds := []) #[false, false, false, false, false, false, false, false, false, false, false, false, false, false, false] (by kernel_rfl) rfl rfl ⟨Lx.out _ HFrd.out, Ly.out _ HFrd.out⟩ (fun hHeld => ?_)
        generalize Wp.drew = Wd at HFrd H14d hHeld ⊢
        refine pure_ (i := 0) (N := some 113) (v := ?_) (a' := ?_) #[true, false, false, false, false, false, false, false, false, false, false, false, false, false, false] rfl rfl (by kernel_rfl) (fun _ _ _ h => h) (Or.inl ⟨by rfl, ?_⟩) ?_ ?_
        rotate_left
        · intro w'
          go_simp
          with_reducible rfl
        rotate_left
        · simp only [Act.put, List.setIfInBounds_toArray, List.set_cons_zero, List.set_cons_succ]
          rfl
        refine pure_ (i := 1) (N := some 114) (v := ?_) (a' := ?_) #[true, true, false, false, false, false, false, false, false, false, false, false, false, false, false] rfl rfl (by kernel_rfl) (fun _ _ _ h => h) (Or.inl ⟨by rfl, ?_⟩) ?_ ?_
        rotate_left
        · intro w'
          go_simp
          with_reducible rfl
        rotate_left
        · simp only [Act.put, List.setIfInBounds_toArray, List.set_cons_zero, List.set_cons_succ]
          rfl
        refine pure_ (i := 2) (N := some 115) (v := ?_) (a' := ?_) #[true, true, true, false, false, false, false, false, false, false, false, false, false, false, false] rfl rfl (by kernel_rfl) (fun _ _ _ h => h) (Or.inl ⟨by rfl, ?_⟩) ?_ ?_
        rotate_left
        · intro w'
          go_simp
          with_reducible rfl
        rotate_left
        · simp only [Act.put, List.setIfInBounds_toArray, List.set_cons_zero, List.set_cons_succ]
          rfl
        refine pure_ (i := 4) (N := some 117) (v := ?_) (a' := ?_) #[true, true, true, false, true, false, false, false, false, false, false, false, false, false, false] rfl rfl (by kernel_rfl) (fun _ _ _ h => h) (Or.inl ⟨by rfl, ?_⟩) ?_ ?_
        rotate_left
        · intro w'
          go_simp
          with_reducible rfl
        rotate_left
        · simp only [Act.put, List.setIfInBounds_toArray, List.set_cons_zero, List.set_cons_succ]
          rfl
        refine pure_ (i := 5) (N := some 118) (v := ?_) (a' := ?_) #[true, true, true, false, true, true, false, false, false, false, false, false, false, false, false] rfl rfl (by kernel_rfl) (fun _ _ _ h => h) (Or.inl ⟨by rfl, ?_⟩) ?_ ?_
        rotate_left
        · intro w'
          go_simp
          with_reducible rfl
        rotate_left
        · simp only [Act.put, List.setIfInBounds_toArray, List.set_cons_zero, List.set_cons_succ]
          rfl
        refine pure_ (i := 6) (N := some 119) (v := ?_) (a' := ?_) #[true, true, true, false, true, true, true, false, false, false, false, false, false, false, false] rfl rfl (by kernel_rfl) (fun _ _ _ h => h) (Or.inl ⟨by rfl, ?_⟩) ?_ ?_
        rotate_left
        · intro w'
          go_simp
          with_reducible rfl
        rotate_left
        · simp only [Act.put, List.setIfInBounds_toArray, List.set_cons_zero, List.set_cons_succ]
          rfl
        refine take_ (i := 3) (N := some 116) (v := ?_) (a' := ?_) #[true, true, true, true, true, true, true, false, false, false, false, false, false, false, false] rfl rfl (by kernel_rfl) (fun _ _ _ h => h) (Or.inl ⟨by rfl, ?_⟩) hHeld ?_ ?_
        rotate_left
        · rintro w' ⟨s0, s1⟩
          refine Lds.run s0 (x := ?_) ?_ ?_
          · exact (Operand.tmp 115)
          · rfl
          · rfl
        rotate_left
        · simp only [Act.put, List.setIfInBounds_toArray, List.set_cons_zero, List.set_cons_succ]
          rfl
        refine take_ (i := 7) (N := some 120) (v := ?_) (a' := ?_) #[true, true, true, true, true, true, true, true, false, false, false, false, false, false, false] rfl rfl (by kernel_rfl) (fun _ _ _ h => h) (Or.inl ⟨by rfl, ?_⟩) hHeld ?_ ?_
        rotate_left
        · rintro w' ⟨s0, s1⟩
          refine Lds.run s1 (x := ?_) ?_ ?_
          · exact (Operand.tmp 119)
          · rfl
          · rfl
        rotate_left
        · simp only [Act.put, List.setIfInBounds_toArray, List.set_cons_zero, List.set_cons_succ]
          rfl
        refine two_ (i := 8) (j := 12) (Ni := some 121) (Nj := some 23) #[true, true, true, true, true, true, true, true, true, false, false, false, false, false, false] #[true, true, true, true, true, true, true, true, false, false, false, false, true, false, false] rfl rfl rfl rfl (by kernel_rfl) (by decide) (by decide) (fun K hK => ?_) (fun K hK => ?_)
        · skip
          refine goes_ Tryd.func47 (by kernel_rfl) rfl #[.iface 143 (.pointer (some ⟨jx, 0, none⟩)), .iface 143 (.pointer (some ⟨jy, 0, none⟩))] (by rfl) rfl rfl (by simp only [List.map_toArray, List.map_cons, List.map_nil]; rfl) ?_
          with_reducible refine (CPP.out _ HFrd.out).mono ?_
          rintro e Wdc ⟨A1, c1, A2, c2, rfl, hs1, hs2, hf⟩
          refine ⟨_, rfl, ?_⟩
          have HFrdc := Kp.mk (HFrd.out.trans hf (fun _ _ h => h))
          have H14dc := Kp.mk (H14d.out.fr hf (fun h => h))
          have HT1dc := Kp.mk hs1
          have HT2dc := Kp.mk hs2
          clear hs1 hs2 hf
          refine hK.out _ _ ⟨Lx.out _ HFrdc.out, Ly.out _ HFrdc.out⟩ (fun hHeld => ?_)
          clear hK K
          refine norm_ (a' := ?_) ?_ ?_
          rotate_left
          · show Act.put _ (some 121) _ = _
            simp only [Act.put, List.setIfInBounds_toArray, List.set_cons_zero, List.set_cons_succ]
            rfl
          refine pure_ (i := 9) (N := some 112) (v := ?_) (a' := ?_) #[true, true, true, true, true, true, true, true, true, true, false, false, false, false, false] rfl rfl (by kernel_rfl) (fun _ _ _ h => h) (Or.inl ⟨by rfl, ?_⟩) ?_ ?_
          rotate_left
          · intro w'
            go_simp
            with_reducible rfl
          rotate_left
          · simp only [Act.put, List.setIfInBounds_toArray, List.set_cons_zero, List.set_cons_succ]
            rfl
          refine pure_ (i := 10) (N := some 122) (v := ?_) (a' := ?_) #[true, true, true, true, true, true, true, true, true, true, true, false, false, false, false] rfl rfl (by kernel_rfl) (fun _ _ _ h => h) (Or.inl ⟨by rfl, ?_⟩) ?_ ?_
          rotate_left
          · intro w'
            go_simp
            with_reducible rfl
          rotate_left
          · simp only [Act.put, List.setIfInBounds_toArray, List.set_cons_zero, List.set_cons_succ]
            rfl
          refine pure_ (i := 11) (N := some 123) (v := ?_) (a' := ?_) #[true, true, true, true, true, true, true, true, true, true, true, true, false, false, false] rfl rfl (by kernel_rfl) (fun _ _ _ h => h) (Or.inl ⟨by rfl, ?_⟩) ?_ ?_
          rotate_left
          · intro w'
            go_simp
            with_reducible rfl
          rotate_left
          · simp only [Act.put, List.setIfInBounds_toArray, List.set_cons_zero, List.set_cons_succ]
            rfl
          refine one_ (i := 12) (N := some 23) #[true, true, true, true, true, true, true, true, true, true, true, true, true, false, false] rfl rfl (by kernel_rfl) (by decide) (fun K hK => ?_)
          refine value_ (by rfl) rfl (al_pair _ _ _ rfl) ?_
          obtain ⟨g23, hg23⟩ : ∃ g : Nat, g = Wdc.heap.size := ⟨_, rfl⟩
          obtain ⟨Wdca, hW⟩ : ∃ W, W = Wdc.alloc (.cells #[.slice none 0 0, .slice none 0 0] 36) := ⟨_, rfl⟩
          have hf : Fr (fun _ => False) Wdc Wdca := by rw [hW]; exact (Fr.refl _ _).alloc _
          have H23dca : Kp (Blk Wdca g23 36 [.slice none 0 0, .slice none 0 0]) := ⟨by rw [hW, hg23]; exact Blk.new Wdc _ _⟩
          have HG23 : Kp (wr.heap.size ≤ g23 ∧ g14 ≠ g23) := ⟨⟨by rw [hg23]; exact HFrdc.out.size, by rw [hg23]; exact Nat.ne_of_lt H14dc.out.lt⟩⟩
          have HFrdca := Kp.mk (HFrdc.out.trans hf (fun _ _ h => h))
          have H14dca := Kp.mk (H14dc.out.fr hf (fun h => h))
          have HT1dca := Kp.mk ((HT1dc.out.mono (S' := fun q => q = g14 ∨ q = g23) (fun q hq h => by have := H14d.out.lt; omega)).fr (hf.mono (S' := fun q => q = g14 ∨ q = g23) (fun _ _ h => h.elim)))
          have HT2dca := Kp.mk ((HT2dc.out.mono (S' := fun q => q = g14 ∨ q = g23) (fun q hq h => by have := H14d.out.lt; omega)).fr (hf.mono (S' := fun q => q = g14 ∨ q = g23) (fun _ _ h => h.elim)))
          rw [← hW, ← hg23]
          clear hW hg23 hf
          refine hK.out _ _ ⟨Lx.out _ HFrdca.out, Ly.out _ HFrdca.out⟩ (fun hHeld => ?_)
          clear hK K
          refine norm_ (a' := ?_) ?_ ?_
          rotate_left
          · show Act.put _ (some 23) _ = _
            simp only [Act.put, List.setIfInBounds_toArray, List.set_cons_zero, List.set_cons_succ]
            rfl
          refine one_ (i := 13) (N := none) #[true, true, true, true, true, true, true, true, true, true, true, true, true, true, false] rfl rfl (by kernel_rfl) (by decide) (fun K hK => ?_)
          obtain ⟨n1, hn1⟩ : ∃ q, q = P1.length := ⟨_, rfl⟩
          obtain ⟨n2, hn2⟩ : ∃ q, q = P2.length := ⟨_, rfl⟩
          refine skip_ (by rfl) rfl (st_agg _ _ (Operand.tmp 23) (Operand.tmp 122) Wdca 36 g23 0 [.slice A1 P1.length c1, .slice A2 P2.length c2] rfl rfl rfl (blk_there H23dca.out 0 2 (Nat.le_refl 2)) (by kernel_rfl) (by simp [Value.oneCell'])) ?_
          obtain ⟨Wdcas, hW⟩ : ∃ W, W = Wdca.setCells g23 0 [.slice A1 P1.length c1, .slice A2 P2.length c2] := ⟨_, rfl⟩
          have hf : Fr (fun q => q = g23) Wdca Wdcas := by rw [hW]; exact fr_setCells g23 _ 0 _
          have H23dcas : Kp (Blk Wdcas g23 36 [.slice A1 P1.length c1, .slice A2 P2.length c2]) := ⟨by rw [hW]; exact blk_put H23dca.out rfl⟩
          have HFrdcas := Kp.mk (HFrdca.out.trans (S := fun _ => False) hf (fun q hq e => by have := HG23.out.1; omega))
          have H14dcas := Kp.mk (H14dca.out.fr hf HG23.out.2)
          have HT1dcas := Kp.mk (HT1dca.out.fr (hf.mono (S' := fun q => q = g14 ∨ q = g23) (fun _ _ h => .inr h)))
          have HT2dcas := Kp.mk (HT2dca.out.fr (hf.mono (S' := fun q => q = g14 ∨ q = g23) (fun _ _ h => .inr h)))
          rw [← hW]
          clear hW hf hn1 hn2
          refine hK.out _ _ ⟨Lx.out _ HFrdcas.out, Ly.out _ HFrdcas.out⟩ (fun hHeld => ?_)
          clear hK K
          refine pure_ (i := 14) (N := some 24) (v := ?_) (a' := ?_) #[true, true, true, true, true, true, true, true, true, true, true, true, true, true, true] rfl rfl (by kernel_rfl) (fun _ _ _ h => h) (Or.inl ⟨by rfl, ?_⟩) ?_ ?_
          rotate_left
          · intro w'
            go_simp
            with_reducible rfl
          rotate_left
          · simp only [Act.put, List.setIfInBounds_toArray, List.set_cons_zero, List.set_cons_succ]
            rfl
          refine done_ (by kernel_rfl) ?_
          have HFt := Kp.mk (HF13.out.trans (HFm.out.trans HFrdcas.out (fun _ _ h => h)) (fun _ _ h => h))
          have H23r := Kp.mk (blk_range H23dcas.out)
          have hfz := fr_setCells g14 [.slice A1 P1.length c1, .slice A2 P2.length c2] 0 Wdcas
          have hbz := blk_put H14dcas.out (ys := [.slice A1 P1.length c1, .slice A2 P2.length c2]) rfl
          have HFz := Kp.mk (HFt.out.trans (S := fun _ => False) hfz (fun q hq e => by have := HG.out; omega))
          have HSAz := Kp.mk ((HT1dcas.out.fr (hfz.mono (S' := fun q => q = g14 ∨ q = g23) (fun _ _ h => .inl h))).mono (S' := fun _ => False) (fun _ _ h => h.elim))
          have HSBz := Kp.mk ((HT2dcas.out.fr (hfz.mono (S' := fun q => q = g14 ∨ q = g23) (fun _ _ h => .inl h))).mono (S' := fun _ => False) (fun _ _ h => h.elim))
          have Hbz := Kp.mk hbz
          have H14t := H14dcas
          generalize hWt : Wdcas = Wt at H23r H14t Hbz HFz HSAz HSBz ⊢
          clear hfz hbz hWt hHeld
          go_wp2_with (first
            | refine wpList_load_mid rfl 36 _ rfl g23 0 rfl [.slice A1 P1.length c1, .slice A2 P2.length c2] _ H23r.out Tryd.underlying36 rfl (by kernel_rfl) ?_
            | refine wpList_storeT rfl rfl 36 (Operand.tmp 14) (Operand.tmp 124) rfl g14 0 [.slice A1 P1.length c1, .slice A2 P2.length c2] rfl rfl (blk_there H14t.out 0 2 (Nat.le_refl 2)) (by kernel_rfl) (by simp [Value.oneCell']) ?_)
          refine bodyPost_ret (results_cell_tmp rfl _ _ g14 36 _ (0, 0) _ (.int .i64 0) rfl rfl (show (World.setCells Wt g14 0 [.slice A1 P1.length c1, .slice A2 P2.length c2]).heap[g14]? = some (.cells ([.slice A1 P1.length c1, .slice A2 P2.length c2] : List Value).toArray 36 (0, 0)) from Hbz.out) Tryd.underlying36 rfl (by kernel_rfl)) rfl ?_
          exact ⟨P1, P2, A1, c1, A2, c2, rfl, HSAz.out, HSBz.out, ⟨m, _, _, HXY.out.1, HXY.out.2, HXE.out, HP.out.2.2.2.1, .inr ⟨H0.out, HPP.out⟩⟩, HFz.out⟩
        · skip
          refine value_ (by rfl) rfl (al_pair _ _ _ rfl) ?_
          obtain ⟨g23, hg23⟩ : ∃ g : Nat, g = Wd.heap.size := ⟨_, rfl⟩
          obtain ⟨Wda, hW⟩ : ∃ W, W = Wd.alloc (.cells #[.slice none 0 0, .slice none 0 0] 36) := ⟨_, rfl⟩
          have hf : Fr (fun _ => False) Wd Wda := by rw [hW]; exact (Fr.refl _ _).alloc _
          have H23da : Kp (Blk Wda g23 36 [.slice none 0 0, .slice none 0 0]) := ⟨by rw [hW, hg23]; exact Blk.new Wd _ _⟩
          have HG23 : Kp (wr.heap.size ≤ g23 ∧ g14 ≠ g23) := ⟨⟨by rw [hg23]; exact HFrd.out.size, by rw [hg23]; exact Nat.ne_of_lt H14d.out.lt⟩⟩
          have HFrda := Kp.mk (HFrd.out.trans hf (fun _ _ h => h))
          have H14da := Kp.mk (H14d.out.fr hf (fun h => h))
          rw [← hW, ← hg23]
          clear hW hg23 hf
          refine hK.out _ _ ⟨Lx.out _ HFrda.out, Ly.out _ HFrda.out⟩ (fun hHeld => ?_)
          clear hK K
          refine norm_ (a' := ?_) ?_ ?_
          rotate_left
          · show Act.put _ (some 23) _ = _
            simp only [Act.put, List.setIfInBounds_toArray, List.set_cons_zero, List.set_cons_succ]
            rfl
          refine one_ (i := 8) (N := some 121) #[true, true, true, true, true, true, true, true, true, false, false, false, true, false, false] rfl rfl (by kernel_rfl) (by decide) (fun K hK => ?_)
          refine goes_ Tryd.func47 (by kernel_rfl) rfl #[.iface 143 (.pointer (some ⟨jx, 0, none⟩)), .iface 143 (.pointer (some ⟨jy, 0, none⟩))] (by rfl) rfl rfl (by simp only [List.map_toArray, List.map_cons, List.map_nil]; rfl) ?_
          with_reducible refine (CPP.out _ HFrda.out).mono ?_
          rintro e Wdac ⟨A1, c1, A2, c2, rfl, hs1, hs2, hf⟩
          refine ⟨_, rfl, ?_⟩
          have HFrdac := Kp.mk (HFrda.out.trans hf (fun _ _ h => h))
          have H14dac := Kp.mk (H14da.out.fr hf (fun h => h))
          have H23dac := Kp.mk (H23da.out.fr hf (fun h => h))
          have HT1dac := Kp.mk (hs1.mono (S' := fun q => q = g14 ∨ q = g23) (fun q hq h => by have := H14da.out.lt; have := H23da.out.lt; omega))
          have HT2dac := Kp.mk (hs2.mono (S' := fun q => q = g14 ∨ q = g23) (fun q hq h => by have := H14da.out.lt; have := H23da.out.lt; omega))
          clear hs1 hs2 hf
          refine hK.out _ _ ⟨Lx.out _ HFrdac.out, Ly.out _ HFrdac.out⟩ (fun hHeld => ?_)
          clear hK K
          refine norm_ (a' := ?_) ?_ ?_
          rotate_left
          · show Act.put _ (some 121) _ = _
            simp only [Act.put, List.setIfInBounds_toArray, List.set_cons_zero, List.set_cons_succ]
            rfl
          refine pure_ (i := 9) (N := some 112) (v := ?_) (a' := ?_) #[true, true, true, true, true, true, true, true, true, true, false, false, true, false, false] rfl rfl (by kernel_rfl) (fun _ _ _ h => h) (Or.inl ⟨by rfl, ?_⟩) ?_ ?_
          rotate_left
          · intro w'
            go_simp
            with_reducible rfl
          rotate_left
          · simp only [Act.put, List.setIfInBounds_toArray, List.set_cons_zero, List.set_cons_succ]
            rfl
          refine pure_ (i := 10) (N := some 122) (v := ?_) (a' := ?_) #[true, true, true, true, true, true, true, true, true, true, true, false, true, false, false] rfl rfl (by kernel_rfl) (fun _ _ _ h => h) (Or.inl ⟨by rfl, ?_⟩) ?_ ?_
          rotate_left
          · intro w'
            go_simp
            with_reducible rfl
          rotate_left
          · simp only [Act.put, List.setIfInBounds_toArray, List.set_cons_zero, List.set_cons_succ]
            rfl
          refine pure_ (i := 11) (N := some 123) (v := ?_) (a' := ?_) #[true, true, true, true, true, true, true, true, true, true, true, true, true, false, false] rfl rfl (by kernel_rfl) (fun _ _ _ h => h) (Or.inl ⟨by rfl, ?_⟩) ?_ ?_
          rotate_left
          · intro w'
            go_simp
            with_reducible rfl
          rotate_left
          · simp only [Act.put, List.setIfInBounds_toArray, List.set_cons_zero, List.set_cons_succ]
            rfl
          refine one_ (i := 13) (N := none) #[true, true, true, true, true, true, true, true, true, true, true, true, true, true, false] rfl rfl (by kernel_rfl) (by decide) (fun K hK => ?_)
          obtain ⟨n1, hn1⟩ : ∃ q, q = P1.length := ⟨_, rfl⟩
          obtain ⟨n2, hn2⟩ : ∃ q, q = P2.length := ⟨_, rfl⟩
          refine skip_ (by rfl) rfl (st_agg _ _ (Operand.tmp 23) (Operand.tmp 122) Wdac 36 g23 0 [.slice A1 P1.length c1, .slice A2 P2.length c2] rfl rfl rfl (blk_there H23dac.out 0 2 (Nat.le_refl 2)) (by kernel_rfl) (by simp [Value.oneCell'])) ?_
          obtain ⟨Wdacs, hW⟩ : ∃ W, W = Wdac.setCells g23 0 [.slice A1 P1.length c1, .slice A2 P2.length c2] := ⟨_, rfl⟩
          have hf : Fr (fun q => q = g23) Wdac Wdacs := by rw [hW]; exact fr_setCells g23 _ 0 _
          have H23dacs : Kp (Blk Wdacs g23 36 [.slice A1 P1.length c1, .slice A2 P2.length c2]) := ⟨by rw [hW]; exact blk_put H23dac.out rfl⟩
          have HFrdacs := Kp.mk (HFrdac.out.trans (S := fun _ => False) hf (fun q hq e => by have := HG23.out.1; omega))
          have H14dacs := Kp.mk (H14dac.out.fr hf HG23.out.2)
          have HT1dacs := Kp.mk (HT1dac.out.fr (hf.mono (S' := fun q => q = g14 ∨ q = g23) (fun _ _ h => .inr h)))
          have HT2dacs := Kp.mk (HT2dac.out.fr (hf.mono (S' := fun q => q = g14 ∨ q = g23) (fun _ _ h => .inr h)))
          rw [← hW]
          clear hW hf hn1 hn2
          refine hK.out _ _ ⟨Lx.out _ HFrdacs.out, Ly.out _ HFrdacs.out⟩ (fun hHeld => ?_)
          clear hK K
          refine pure_ (i := 14) (N := some 24) (v := ?_) (a' := ?_) #[true, true, true, true, true, true, true, true, true, true, true, true, true, true, true] rfl rfl (by kernel_rfl) (fun _ _ _ h => h) (Or.inl ⟨by rfl, ?_⟩) ?_ ?_
          rotate_left
          · intro w'
            go_simp
            with_reducible rfl
          rotate_left
          · simp only [Act.put, List.setIfInBounds_toArray, List.set_cons_zero, List.set_cons_succ]
            rfl
          refine done_ (by kernel_rfl) ?_
          have HFt := Kp.mk (HF13.out.trans (HFm.out.trans HFrdacs.out (fun _ _ h => h)) (fun _ _ h => h))
          have H23r := Kp.mk (blk_range H23dacs.out)
          have hfz := fr_setCells g14 [.slice A1 P1.length c1, .slice A2 P2.length c2] 0 Wdacs
          have hbz := blk_put H14dacs.out (ys := [.slice A1 P1.length c1, .slice A2 P2.length c2]) rfl
          have HFz := Kp.mk (HFt.out.trans (S := fun _ => False) hfz (fun q hq e => by have := HG.out; omega))
          have HSAz := Kp.mk ((HT1dacs.out.fr (hfz.mono (S' := fun q => q = g14 ∨ q = g23) (fun _ _ h => .inl h))).mono (S' := fun _ => False) (fun _ _ h => h.elim))
          have HSBz := Kp.mk ((HT2dacs.out.fr (hfz.mono (S' := fun q => q = g14 ∨ q = g23) (fun _ _ h => .inl h))).mono (S' := fun _ => False) (fun _ _ h => h.elim))
          have Hbz := Kp.mk hbz
          have H14t := H14dacs
          generalize hWt : Wdacs = Wt at H23r H14t Hbz HFz HSAz HSBz ⊢
          clear hfz hbz hWt hHeld
          go_wp2_with (first
            | refine wpList_load_mid rfl 36 _ rfl g23 0 rfl [.slice A1 P1.length c1, .slice A2 P2.length c2] _ H23r.out Tryd.underlying36 rfl (by kernel_rfl) ?_
            | refine wpList_storeT rfl rfl 36 (Operand.tmp 14) (Operand.tmp 124) rfl g14 0 [.slice A1 P1.length c1, .slice A2 P2.length c2] rfl rfl (blk_there H14t.out 0 2 (Nat.le_refl 2)) (by kernel_rfl) (by simp [Value.oneCell']) ?_)
          refine bodyPost_ret (results_cell_tmp rfl _ _ g14 36 _ (0, 0) _ (.int .i64 0) rfl rfl (show (World.setCells Wt g14 0 [.slice A1 P1.length c1, .slice A2 P2.length c2]).heap[g14]? = some (.cells ([.slice A1 P1.length c1, .slice A2 P2.length c2] : List Value).toArray 36 (0, 0)) from Hbz.out) Tryd.underlying36 rfl (by kernel_rfl)) rfl ?_
          exact ⟨P1, P2, A1, c1, A2, c2, rfl, HSAz.out, HSBz.out, ⟨m, _, _, HXY.out.1, HXY.out.2, HXE.out, HP.out.2.2.2.1, .inr ⟨H0.out, HPP.out⟩⟩, HFz.out⟩
end Go.Proofs.YtjcmgpiapbeodaaDoor.Sha
