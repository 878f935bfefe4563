/-
  NodeHash.
-/
import Derived.Test.YtjbhaopocabfaaaDoorHasher
namespace Go.Proofs.YtjbhaopocabfaaaDoor.Sha
open Go.RowKit Go.Proofs.YtjbhaopocabfaaaDoor.Mem Go.Proofs.YtjbhaopocabfaaaDoorW.PrintWords
attribute [local go_sem ↓] Go.wp_at_zero Go.wp_at_succ wp_load_hash wp_store_hash
attribute [local go_sem] rowAt_drew rowOk_drew rowBlock rowCells
set_option maxHeartbeats 2000000 in
set_option maxRecDepth 100000 in
theorem nodeHash_calls (k : Int) (l r : List Int) (hl : l.length = 32) (hr : r.length = 32) (w : World) (hL : Laid w) :
    Calls Tryd.prog 15 #[.int .i64 k, .agg (bytes l).toArray, .agg (bytes r).toArray] w fun e w' => e = .returned (.agg (bytes (nodeL (strength k) l r)).toArray) ∧ Fr (fun _ => False) w w' := by
  have hll : (nodeL (strength k) l r).length = 32 := ofL_len _ _ (strength_le k)
  have C0 : Kp (∀ gk go W, Fr (fun _ => False) w W → Hs W gk go (strength k) → Calls Tryd.prog 81 #[.agg (bytes l).toArray, .agg (bytes r).toArray, .pointer (some ⟨go, 0, none⟩)] W fun e w' => e = .returned (.agg (bytes (nodeL (strength k) l r)).toArray) ∧ Fr (fun _ => False) W w') :=
    ⟨fun gk go W hf hH => node_calls l r hl hr gk go (strength k) W (hL.fr hf (fun _ h => h.elim)) hH⟩
  obtain ⟨s, hs⟩ : ∃ s, s = strength k := ⟨_, rfl⟩
  have CH := Kp.mk (fun W => hasherOf_calls k W)
  rw [← hs] at C0 CH hll ⊢
  generalize nodeL s l r = M at C0 hll ⊢
  have HL := Kp.mk hll
  have hbl1 : (bytes l).length = 32 := by rw [bytes_length, hl]
  have hbl2 : (bytes r).length = 32 := by rw [bytes_length, hr]
  generalize bytes l = lv at C0 hbl1 ⊢
  generalize bytes r = rv at C0 hbl2 ⊢
  clear hs hll hL hl hr l r
  go_enter Tryd.func15, Tryd.ntmps15
  go_upto_region 1 with (fail)
  obtain ⟨g4, hg4⟩ : ∃ g4, g4 = w.heap.size := ⟨_, rfl⟩
  obtain ⟨g5, hg5⟩ : ∃ g5, g5 = w.heap.size + 1 := ⟨_, rfl⟩
  obtain ⟨g6, hg6⟩ : ∃ g6, g6 = w.heap.size + 1 + 1 := ⟨_, rfl⟩
  rw [← hg6, ← hg5, ← hg4]
  obtain ⟨W1, hW1⟩ : ∃ W1, W1 = ((w.alloc (.cells lv.toArray 25)).alloc (.cells rv.toArray 25)).alloc (.cells #[.int .u8 0, .int .u8 0, .int .u8 0, .int .u8 0, .int .u8 0, .int .u8 0, .int .u8 0, .int .u8 0, .int .u8 0, .int .u8 0, .int .u8 0, .int .u8 0, .int .u8 0, .int .u8 0, .int .u8 0, .int .u8 0, .int .u8 0, .int .u8 0, .int .u8 0, .int .u8 0, .int .u8 0, .int .u8 0, .int .u8 0, .int .u8 0, .int .u8 0, .int .u8 0, .int .u8 0, .int .u8 0, .int .u8 0, .int .u8 0, .int .u8 0, .int .u8 0] 25) := ⟨_, rfl⟩
  have H4 : Kp (Blk W1 g4 25 lv) := ⟨by rw [hW1, hg4]; exact ((Blk.new w lv.toArray _).alloc _).alloc _⟩
  have H5 : Kp (Blk W1 g5 25 rv) := ⟨by rw [hW1, hg5]; exact (Blk.new' (w.alloc (.cells lv.toArray 25)) rv.toArray _ (by simp)).alloc _⟩
  have H6 : Kp (Blk W1 g6 25 [.int .u8 0, .int .u8 0, .int .u8 0, .int .u8 0, .int .u8 0, .int .u8 0, .int .u8 0, .int .u8 0, .int .u8 0, .int .u8 0, .int .u8 0, .int .u8 0, .int .u8 0, .int .u8 0, .int .u8 0, .int .u8 0, .int .u8 0, .int .u8 0, .int .u8 0, .int .u8 0, .int .u8 0, .int .u8 0, .int .u8 0, .int .u8 0, .int .u8 0, .int .u8 0, .int .u8 0, .int .u8 0, .int .u8 0, .int .u8 0, .int .u8 0, .int .u8 0]) := ⟨by rw [hW1, hg6]; exact Blk.new' _ _ _ (by simp)⟩
  have HF1 : Kp (Fr (fun _ => False) w W1) := ⟨by rw [hW1]; exact (((Fr.refl _ w).alloc _).alloc _).alloc _⟩
  have HG : Kp (w.heap.size ≤ g6 ∧ g4 ≠ g6 ∧ g5 ≠ g6) := ⟨by omega⟩
  rw [← hW1]
  clear hW1 hg4 hg5 hg6
  have hi32 : (Tryd.prog.info? 25).map (·.size) = some 32 := by kernel_rfl
  have Z4 : Kp ((Tryd.prog.info? 25).map (·.size) = some lv.length) := ⟨by rw [hbl1]; exact hi32⟩
  have Z5 : Kp ((Tryd.prog.info? 25).map (·.size) = some rv.length) := ⟨by rw [hbl2]; exact hi32⟩
  have Z6 : Kp ((Tryd.prog.info? 25).map (·.size) = some ([.int .u8 0, .int .u8 0, .int .u8 0, .int .u8 0, .int .u8 0, .int .u8 0, .int .u8 0, .int .u8 0, .int .u8 0, .int .u8 0, .int .u8 0, .int .u8 0, .int .u8 0, .int .u8 0, .int .u8 0, .int .u8 0, .int .u8 0, .int .u8 0, .int .u8 0, .int .u8 0, .int .u8 0, .int .u8 0, .int .u8 0, .int .u8 0, .int .u8 0, .int .u8 0, .int .u8 0, .int .u8 0, .int .u8 0, .int .u8 0, .int .u8 0, .int .u8 0] : List Value).length) := ⟨hi32⟩
  have hMok := hashOk_bytes M HL.out
  have ok4 := rowOk_blk H4.out Z4.out
  have ok5 := rowOk_blk H5.out Z5.out
  have at4 := rowAt_blk H4.out
  have at5 := rowAt_blk H5.out
  clear hi32
  go_region_with (first
    | (go_at_call 52; (refine (CH.out _).mono ?_); rintro e' W2 ⟨gk, go, rfl, hH, hk, ho, hf⟩; have hfa : Fr (fun _ => False) W1 W2 := ((Fr.refl (fun _ => False) W1).drew).trans hf (fun _ _ h => h); have HH := Kp.mk hH; have HF2 := Kp.mk (HF1.out.trans hfa (fun _ _ h => h)); have H42 := Kp.mk (H4.out.fr hfa (fun h => h)); have H52 := Kp.mk (H5.out.fr hfa (fun h => h)); have H62 := Kp.mk (H6.out.fr hfa (fun h => h)); have ok42 := rowOk_blk H42.out Z4.out; have ok52 := rowOk_blk H52.out Z5.out; have at42 := rowAt_blk H42.out; have at52 := rowAt_blk H52.out; have hfd := fun W => field3 W gk go s; generalize hasherV gk go s = HV at hfd ⊢; clear hH hk ho hf hfa)
    | (go_at_call 81; (refine (C0.out gk go W2 HF2.out HH.out).mono ?_); rintro e' W3 ⟨rfl, hf⟩; have HF3 := Kp.mk (HF2.out.trans hf (fun _ _ h => h)); have H63 := Kp.mk (H62.out.fr hf (fun h => h)); have hrow := rowOk_blk H63.out Z6.out; clear hf))
  all_goals
    go_wp2
    refine bodyPost_ret (results_cell_row rfl _ _ g6 25 _ (0, 0) _ rfl (setRow_heap _ g6 _ _ _ _ (show W3.heap[g6]? = _ from H63.out)) Tryd.underlying25 rfl (by rw [show (bytes M).toArray.size = 32 by simp [bytes, HL.out]]; kernel_rfl)) rfl ?_
    refine ⟨rfl, ?_⟩
    exact HF3.out.trans (S' := fun q => q = g6) ⟨rfl, rfl, rfl, by simp [World.setRow], fun q _ hq => setRow_other _ _ q _ hq⟩ (fun q hq he => by have := HG.out.1; omega)
end Go.Proofs.YtjbhaopocabfaaaDoor.Sha
