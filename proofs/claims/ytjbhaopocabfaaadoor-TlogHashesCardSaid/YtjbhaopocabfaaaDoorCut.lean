/-
  cut: a hash cut to a strength, by the law.
-/
import Derived.Test.YtjbhaopocabfaaaDoorLeaf
namespace Go.Proofs.YtjbhaopocabfaaaDoor.Sha
open Go.RowKit Go.Proofs.YtjbhaopocabfaaaDoor.Mem Go.Proofs.YtjbhaopocabfaaaDoorW.PrintWords
def cutUp (s : Nat) (h : List Int) (i : Nat) : List Int := (List.range 32).map fun j => if j < i ∧ s ≤ j then 0 else h.getD j 0
theorem cutUp_len (s : Nat) (h : List Int) (i : Nat) : (cutUp s h i).length = 32 := by simp [cutUp]
theorem cutUp_zero (s : Nat) (h : List Int) (hl : h.length = 32) : cutUp s h 0 = h := by
  apply List.ext_getElem
  · simp [cutUp, hl]
  · intro j h1 h2
    simp [cutUp, List.getD_eq_getElem?_getD, h2]
theorem cutUp_all (s : Nat) (h : List Int) (hl : h.length = 32) (hs : s ≤ 32) : cutUp s h 32 = cutL s h := by
  apply List.ext_getElem
  · rw [cutUp_len, cutL_len s h hl hs]
  · intro j h1 h2
    rw [cutUp_len] at h1
    simp only [cutUp, cutL, List.getElem_map, List.getElem_range, List.getElem_append, List.length_take, List.getElem_take, List.getElem_replicate]
    by_cases hj : s ≤ j
    · rw [if_pos ⟨h1, hj⟩, dif_neg (by omega)]
    · rw [if_neg (by omega), dif_pos (by omega)]
      simp [List.getD_eq_getElem?_getD, hl, h1]
theorem cutUp_same (s : Nat) (h : List Int) (i : Nat) (_hi : i < 32) (hs : i < s) : cutUp s h (i + 1) = cutUp s h i := by
  unfold cutUp
  apply List.map_congr_left
  intro j _
  by_cases h1 : j < i ∧ s ≤ j
  · rw [if_pos h1, if_pos ⟨by omega, h1.2⟩]
  · rw [if_neg h1, if_neg (by omega)]
theorem cutUp_set (s : Nat) (h : List Int) (i : Nat) (hi : i < 32) (hs : s ≤ i) : (bytes (cutUp s h i)).set i (.int .u8 0) = bytes (cutUp s h (i + 1)) := by
  apply List.ext_getElem?
  intro j
  rw [List.getElem?_set]
  by_cases hij : i = j
  · subst hij
    simp [bytes, cutUp, hi, hs]
  · rw [if_neg hij]
    rcases Nat.lt_or_ge j 32 with hj | hj
    · simp only [bytes, cutUp, List.getElem?_map, List.getElem?_range hj, Option.map_some]
      by_cases h1 : j < i ∧ s ≤ j
      · rw [if_pos h1, if_pos ⟨by omega, h1.2⟩]
      · rw [if_neg h1, if_neg (by omega)]
    · rw [List.getElem?_eq_none (by simpa [bytes, cutUp] using hj), List.getElem?_eq_none (by simpa [bytes, cutUp] using hj)]
set_option maxHeartbeats 2000000 in
set_option maxRecDepth 100000 in
theorem cut_calls (k : Int) (h : List Int) (hl : h.length = 32) (w : World) :
    Calls Tryd.prog 12 #[.int .i64 k, .agg (bytes h).toArray] w fun e w' => e = .returned (.agg (bytes (cutL (strength k) h)).toArray) ∧ Fr (fun _ => False) w w' := by
  have HR := Kp.mk (cutUp_all (strength k) h hl (strength_le k))
  have HZ := Kp.mk (cutUp_zero (strength k) h hl)
  have HL := Kp.mk hl
  clear hl
  obtain ⟨R, hR⟩ : ∃ R, R = cutL (strength k) h := ⟨_, rfl⟩
  rw [← hR]
  have HRR := Kp.mk hR
  clear hR
  go_enter Tryd.func12, Tryd.ntmps12
  go_upto_region 1 with (fail)
  obtain ⟨g3, hg3⟩ : ∃ g3, g3 = w.heap.size := ⟨_, rfl⟩
  obtain ⟨g4, hg4⟩ : ∃ g4, g4 = w.heap.size + 1 := ⟨_, rfl⟩
  rw [← hg4, ← hg3]
  obtain ⟨W1, hW1⟩ : ∃ W1, W1 = (w.alloc (.cells (bytes h).toArray 25)).alloc (.cells #[.int .u8 0, .int .u8 0, .int .u8 0, .int .u8 0, .int .u8 0, .int .u8 0, .int .u8 0, .int .u8 0, .int .u8 0, .int .u8 0, .int .u8 0, .int .u8 0, .int .u8 0, .int .u8 0, .int .u8 0, .int .u8 0, .int .u8 0, .int .u8 0, .int .u8 0, .int .u8 0, .int .u8 0, .int .u8 0, .int .u8 0, .int .u8 0, .int .u8 0, .int .u8 0, .int .u8 0, .int .u8 0, .int .u8 0, .int .u8 0, .int .u8 0, .int .u8 0] 25) := ⟨_, rfl⟩
  have H3 : Kp (Blk W1 g3 25 (bytes (cutUp (strength k) h 0))) := ⟨by rw [hW1, hg3, HZ.out]; exact (Blk.new w (bytes h).toArray _).alloc _⟩
  have H4 : Kp (Blk W1 g4 25 [.int .u8 0, .int .u8 0, .int .u8 0, .int .u8 0, .int .u8 0, .int .u8 0, .int .u8 0, .int .u8 0, .int .u8 0, .int .u8 0, .int .u8 0, .int .u8 0, .int .u8 0, .int .u8 0, .int .u8 0, .int .u8 0, .int .u8 0, .int .u8 0, .int .u8 0, .int .u8 0, .int .u8 0, .int .u8 0, .int .u8 0, .int .u8 0, .int .u8 0, .int .u8 0, .int .u8 0, .int .u8 0, .int .u8 0, .int .u8 0, .int .u8 0, .int .u8 0]) := ⟨by rw [hW1, hg4]; exact Blk.new' _ _ _ (by simp)⟩
  have HG : Kp (w.heap.size ≤ g3 ∧ w.heap.size ≤ g4 ∧ g3 ≠ g4) := ⟨by omega⟩
  have HF : Kp (Fr (fun _ => False) w W1) := ⟨by rw [hW1]; exact ((Fr.refl _ w).alloc _).alloc _⟩
  rw [← hW1]
  clear hW1 hg3 hg4
  go_wp2
  go_loopw [5] (fun s5 wr => ∃ (i : Nat), s5 = .int .i64 (i : Int) ∧ Kp (i ≤ 32) ∧ Kp (Blk wr g3 25 (bytes (cutUp (strength k) h i))) ∧ Kp (Blk wr g4 25 [.int .u8 0, .int .u8 0, .int .u8 0, .int .u8 0, .int .u8 0, .int .u8 0, .int .u8 0, .int .u8 0, .int .u8 0, .int .u8 0, .int .u8 0, .int .u8 0, .int .u8 0, .int .u8 0, .int .u8 0, .int .u8 0, .int .u8 0, .int .u8 0, .int .u8 0, .int .u8 0, .int .u8 0, .int .u8 0, .int .u8 0, .int .u8 0, .int .u8 0, .int .u8 0, .int .u8 0, .int .u8 0, .int .u8 0, .int .u8 0, .int .u8 0, .int .u8 0]) ∧ Kp (Fr (fun _ => False) w wr)) (fun s5 _ => 32 - (intOf s5).toNat)
  case atStart => exact ⟨0, rfl, ⟨by omega⟩, H3, H4, HF⟩
  case round =>
    clear H3 H4 HF
    obtain ⟨i, rfl, hi, H3, H4, HF⟩ := hrel
    have hi' := hi.out
    by_cases hlt : i < 32
    · have hlt2 := hlt
      rcases (by omega : k < 1 ∨ 1 ≤ k) with hk1 | hk1
      · skip
        have HN : Kp (cutUp (strength k) h (i + 1) = cutUp (strength k) h i) := ⟨cutUp_same _ h i hlt (by unfold strength; rw [if_neg (by omega)]; exact hlt)⟩
        clear hlt2
        go_wp2
        refine ⟨⟨i + 1, by go_num, ⟨hlt⟩, ⟨by rw [HN.out]; exact H3.out⟩, H4, HF⟩, ?_⟩
        simp [intOf]; omega
      rcases (by omega : 31 < k ∨ k ≤ 31) with hk2 | hk2
      · skip
        have HN : Kp (cutUp (strength k) h (i + 1) = cutUp (strength k) h i) := ⟨cutUp_same _ h i hlt (by unfold strength; rw [if_neg (by omega)]; exact hlt)⟩
        clear hlt2
        go_wp2
        refine ⟨⟨i + 1, by go_num, ⟨hlt⟩, ⟨by rw [HN.out]; exact H3.out⟩, H4, HF⟩, ?_⟩
        simp [intOf]; omega
      rcases (by omega : (i : Int) < k ∨ k ≤ (i : Int)) with hk3 | hk3
      · skip
        have HN : Kp (cutUp (strength k) h (i + 1) = cutUp (strength k) h i) := ⟨cutUp_same _ h i hlt (by unfold strength; rw [if_pos ⟨hk1, hk2⟩]; omega)⟩
        clear hlt2
        go_wp2
        refine ⟨⟨i + 1, by go_num, ⟨hlt⟩, ⟨by rw [HN.out]; exact H3.out⟩, H4, HF⟩, ?_⟩
        simp [intOf]; omega
      obtain ⟨cy, cz⟩ : ∃ y, wr.cell? ⟨g3, i, none⟩ = some (.int .u8 y) := ⟨_, H3.out.cell i _ (bytes_get _ i (by rw [cutUp_len]; exact hlt))⟩
      have fz : wr.frozen? ⟨g3, i, none⟩ = false := H3.out.free _
      have H3n : Kp (Blk (wr.setCell ⟨g3, i, none⟩ (.int .u8 0)) g3 25 (bytes (cutUp (strength k) h (i + 1)))) := ⟨by rw [← cutUp_set _ h i hlt (by unfold strength; rw [if_pos ⟨hk1, hk2⟩]; omega)]; exact H3.out.set i _⟩
      have hfr : Fr (fun q => q = g3) wr (wr.setCell ⟨g3, i, none⟩ (.int .u8 0)) := Fr.set (S := fun q => q = g3) (a := ⟨g3, i, none⟩) (Fr.refl (fun q => q = g3) wr) (fun _ => rfl) _
      have H4n := Kp.mk (H4.out.fr hfr (fun he => HG.out.2.2 he.symm))
      have HFn := Kp.mk (HF.out.trans hfr (fun q hq he => by have := HG.out.1; omega))
      clear hfr H3 H4 HF hlt2
      go_wp2
      generalize World.setCell wr _ _ = Wn at H3n H4n HFn ⊢
      refine ⟨⟨i + 1, by go_num, ⟨hlt⟩, H3n, H4n, HFn⟩, ?_⟩
      simp [intOf]; omega
    · obtain rfl : i = 32 := by omega
      have hRl : (cutL (strength k) h).length = 32 := cutL_len _ h HL.out (strength_le k)
      have H3z : Kp (Blk wr g3 25 (bytes (cutL (strength k) h))) := ⟨by have q := H3.out; rw [HR.out] at q; exact q⟩
      rw [← HRR.out] at H3z hRl
      have hi32 : (Tryd.prog.info? 25).map (·.size) = some 32 := by kernel_rfl
      have hsz : (bytes R).toArray.size = 32 := by simp [bytes, hRl]
      have hln : (bytes R).length = 32 := by simp [bytes, hRl]
      have Hln := Kp.mk hln
      have hone := bytes_ones R
      have H3r := Kp.mk (blk_range H3z.out)
      have H4h := Kp.mk (show wr.heap[g4]? = some (.cells #[.int .u8 0, .int .u8 0, .int .u8 0, .int .u8 0, .int .u8 0, .int .u8 0, .int .u8 0, .int .u8 0, .int .u8 0, .int .u8 0, .int .u8 0, .int .u8 0, .int .u8 0, .int .u8 0, .int .u8 0, .int .u8 0, .int .u8 0, .int .u8 0, .int .u8 0, .int .u8 0, .int .u8 0, .int .u8 0, .int .u8 0, .int .u8 0, .int .u8 0, .int .u8 0, .int .u8 0, .int .u8 0, .int .u8 0, .int .u8 0, .int .u8 0, .int .u8 0] 25 (0, 0)) from H4.out)
      clear H3 H3z H4 hi hi' hlt hRl hln
      go_wp2_with (first
        | refine wpList_load_mid rfl 25 _ rfl g3 0 rfl (bytes R) _ H3r.out Tryd.underlying25 rfl (by rw [Hln.out]; exact hi32) ?_
        | refine wpList_store_row rfl 25 _ _ rfl g4 (bytes R).toArray rfl rfl 25 #[.int .u8 0, .int .u8 0, .int .u8 0, .int .u8 0, .int .u8 0, .int .u8 0, .int .u8 0, .int .u8 0, .int .u8 0, .int .u8 0, .int .u8 0, .int .u8 0, .int .u8 0, .int .u8 0, .int .u8 0, .int .u8 0, .int .u8 0, .int .u8 0, .int .u8 0, .int .u8 0, .int .u8 0, .int .u8 0, .int .u8 0, .int .u8 0, .int .u8 0, .int .u8 0, .int .u8 0, .int .u8 0, .int .u8 0, .int .u8 0, .int .u8 0, .int .u8 0] (by exact H4h.out) (by rw [hsz]; exact hi32) (by rw [hsz]; rfl) hone ?_)
      refine bodyPost_ret (results_cell_row rfl _ _ g4 25 _ (0, 0) _ rfl (setRow_heap _ g4 _ _ _ _ H4h.out) Tryd.underlying25 rfl (by rw [hsz]; exact hi32)) rfl ?_
      refine ⟨rfl, ?_⟩
      exact HF.out.trans (S' := fun q => q = g4) ⟨rfl, rfl, rfl, by simp [World.setRow], fun q _ hq => setRow_other _ _ q _ hq⟩ (fun q hq he => by have := HG.out.2.1; omega)
end Go.Proofs.YtjbhaopocabfaaaDoor.Sha
