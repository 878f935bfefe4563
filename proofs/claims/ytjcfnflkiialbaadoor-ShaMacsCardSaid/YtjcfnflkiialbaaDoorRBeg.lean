/-
  The words behind one whole block, by the document, kind 2. The words behind one whole block, by the document, kind 1. The state behind bytes, by the document, for either kind. Begin, by the document, for either kind.
-/
import Derived.Test.YtjcfnflkiialbaaDoorRPlan64
import Derived.Deep.MidRow
import Derived.StillTailTactics
import Derived.Test.YtjcfnflkiialbaaDoorRPlan32
namespace Go.Proofs.YtjcfnflkiialbaaDoor.Sha
open Go.RowKit Go.Proofs.YtjcfnflkiialbaaDoor.Mem Go.Proofs.YtjcfnflkiialbaaDoorW.PrintWords
theorem v8ok_v64 (v : Eight 64) : v8ok (.agg (v64 v).toArray) = true := by
  show ((v64 v).toArray.size == 8 && (v64 v).toArray.all (fun v => v.oneCell')) = true
  rw [List.all_toArray]
  rfl
/-- the words, the first i of them with the old ones added -/
def msum64 (v h : Eight 64) (i : Nat) : List Value := (List.range 8).map fun j => if j < i then .int .u64 ((v.list.getD j 0 + h.list.getD j 0).toNat : Int) else .int .u64 ((v.list.getD j 0).toNat : Int)
theorem msum64_zero (v h : Eight 64) : msum64 v h 0 = v64 v := by
  obtain ⟨a, b, c, d, e, f, g, k⟩ := v
  rfl
theorem msum64_all (v h : Eight 64) : msum64 v h 8 = v64 (v.add h) := by
  obtain ⟨a, b, c, d, e, f, g, k⟩ := v
  obtain ⟨a', b', c', d', e', f', g', k'⟩ := h
  rfl
theorem eight_comm64 (v h : Eight 64) : v.add h = h.add v := by
  obtain ⟨a, b, c, d, e, f, g, k⟩ := v
  obtain ⟨a', b', c', d', e', f', g', k'⟩ := h
  simp only [Eight.add, BitVec.add_comm]
theorem msum64_len (v h : Eight 64) (i : Nat) : (msum64 v h i).length = 8 := by simp [msum64]
theorem msum64_at (v h : Eight 64) (i : Nat) (hi : i < 8) : (msum64 v h i)[i]? = some (.int .u64 ((v.list.getD i 0).toNat : Int)) := by
  simp [msum64, hi]
theorem msum64_set (v h : Eight 64) (i : Nat) (hi : i < 8) : (msum64 v h i).set i (.int .u64 ((v.list.getD i 0 + h.list.getD i 0).toNat : Int)) = msum64 v h (i + 1) := by
  apply List.ext_getElem?
  intro j
  rw [List.getElem?_set]
  by_cases hij : i = j
  · subst hij
    simp [msum64, hi]
  · rw [if_neg hij]
    unfold msum64
    rcases Nat.lt_or_ge j 8 with hj | hj
    · simp only [List.getElem?_map, List.getElem?_range hj, Option.map_some]
      by_cases h1 : j < i
      · rw [if_pos h1, if_pos (by omega)]
      · rw [if_neg h1, if_neg (by omega)]
    · rw [List.getElem?_eq_none (by simpa using hj), List.getElem?_eq_none (by simpa using hj)]
theorem v64_at (v : Eight 64) (i : Nat) (hi : i < 8) : (v64 v)[i]? = some (.int .u64 ((v.list.getD i 0).toNat : Int)) := by
  rw [← msum64_zero v v]; simp [msum64, hi]
theorem wst64 (z : Int) (w : World) : Calls Tryd.prog 79 #[.int .i64 2, .int .u64 z] w fun e w' => e = .returned (.int .u64 z) ∧ w' = w := by
  go_enter Tryd.func79, Tryd.ntmps79
  go_wp2
  go_ret
  exact ⟨rfl, rfl⟩
attribute [local go_sem ↓] wp_store_v8
attribute [local go_sem] rowOk_drew rowOk_drewN rowBlock rowCells v8ok_v64
set_option maxHeartbeats 2000000 in
set_option maxRecDepth 100000 in
theorem rmixed64_calls (A : Option Addr) (c : Nat) (b : List Int) (hb : Bs b) (hl : b.length = 128) (h : Eight 64) (w : World) (hL : RLaid w) {S : Nat → Prop} (hX : Src w S A c b) :
    Calls Tryd.prog 73 #[.int .i64 2, .agg (v64 h).toArray, .slice A 128 c] w fun e w' => e = .returned (.agg (v64 (block turns64 K512 h (wordsOf 8 b 16))).toArray) ∧ Fr (fun _ => False) w w' := by
  obtain ⟨R, hR⟩ : ∃ R, R = block turns64 K512 h (wordsOf 8 b 16) := ⟨_, rfl⟩
  rw [← hR]
  unfold block at hR
  have hp0 : ∀ w1, Fr (fun _ => False) w w1 → Calls Tryd.prog 77 #[.int .i64 2, .slice A 128 c] w1 fun e w' => ∃ v, e = .returned v ∧ OwnL w' 58 1 v 80 (ws64 (sched turns64 (wordsOf 8 b 16) 64)) ∧ (∀ k, v.ownBlock = some k → w1.heap.size ≤ k) ∧ Fr (fun _ => False) w1 w' :=
    fun w1 hf => rplan64_calls A c b hb hl w1 (hL.fr hf) ((hX.mono (S' := fun _ => False) (fun _ _ h => h.elim)).fr hf)
  have hKl : K512.length = 80 := by decide +kernel
  rw [hKl] at hR
  obtain ⟨Sx, hSx⟩ : ∃ Sx, Sx = sched turns64 (wordsOf 8 b 16 : List (BitVec 64)) 64 := ⟨_, rfl⟩
  have hSl : Sx.length = 80 := by rw [hSx, sched_length]; simp [wordsOf]
  have hR' : R = (rounds turns64 h K512 Sx 80).add h := by rw [hR, hSx, eight_comm64]
  rw [← hSx] at hp0
  have HP := Kp.mk hp0
  have HRR := Kp.mk hR'
  have HSl := Kp.mk hSl
  have HL := Kp.mk hL
  clear hp0 hR hR' hSl hSx hKl hL hX hb hl
  obtain ⟨H, hH⟩ : ∃ H : List Value, H = v64 h := ⟨_, rfl⟩
  have hbox : ∃ a0 a1 a2 a3 a4 a5 a6 a7 : Int, H = [.int .u64 a0, .int .u64 a1, .int .u64 a2, .int .u64 a3, .int .u64 a4, .int .u64 a5, .int .u64 a6, .int .u64 a7] := by
    rw [hH]; obtain ⟨a, b, c, d, e, f, g, k⟩ := h; exact ⟨_, _, _, _, _, _, _, _, rfl⟩
  obtain ⟨a0, a1, a2, a3, a4, a5, a6, a7, hHx⟩ := hbox
  have HH := Kp.mk hH
  rw [← hH]
  clear hH
  subst hHx
  go_enter Tryd.func73, Tryd.ntmps73
  go_upto_region 1 with (fail)
  obtain ⟨g4, hg4⟩ : ∃ g4, g4 = w.heap.size := ⟨_, rfl⟩
  obtain ⟨g6, hg6⟩ : ∃ g6, g6 = w.heap.size + 1 := ⟨_, rfl⟩
  rw [← hg6, ← hg4]
  obtain ⟨W1, hW1⟩ : ∃ W1, W1 = (w.alloc (.cells #[.int .u64 a0, .int .u64 a1, .int .u64 a2, .int .u64 a3, .int .u64 a4, .int .u64 a5, .int .u64 a6, .int .u64 a7] 65)).alloc (.cells #[.int .u64 0, .int .u64 0, .int .u64 0, .int .u64 0, .int .u64 0, .int .u64 0, .int .u64 0, .int .u64 0] 65) := ⟨_, rfl⟩
  have H4 : Kp (Blk W1 g4 65 (v64 h)) := ⟨by rw [hW1, hg4, ← HH.out]; exact (Blk.new w _ _).alloc _⟩
  have H6 : Kp (Blk W1 g6 65 [.int .u64 0, .int .u64 0, .int .u64 0, .int .u64 0, .int .u64 0, .int .u64 0, .int .u64 0, .int .u64 0]) := ⟨by rw [hW1, hg6]; exact Blk.new' _ _ _ (by simp)⟩
  have HG : Kp (w.heap.size ≤ g4 ∧ w.heap.size ≤ g6 ∧ g4 ≠ g6) := ⟨by omega⟩
  have HF1 : Kp (Fr (fun _ => False) w W1) := ⟨by rw [hW1]; exact ((Fr.refl _ w).alloc _).alloc _⟩
  rw [← hW1]
  clear hW1 hg4 hg6 HH
  go_wp2_with fail
  refine (HP.out W1 HF1.out).mono ?_
  rintro e W2 ⟨pv, rfl, hO, hown, hf⟩
  obtain ⟨g, cz, rfl⟩ : ∃ g cz, pv = .slice (some ⟨g, 0, none⟩) 80 cz := by
    rcases hO.2 with ⟨_, h⟩ | ⟨g, cap, cur, h, _⟩
    · omega
    · exact ⟨g, cap, h⟩
  have HO := Kp.mk hO
  have H4b := Kp.mk (H4.out.fr hf (fun h => h))
  have H6b := Kp.mk (H6.out.fr hf (fun h => h))
  have HFb := Kp.mk (HF1.out.trans hf (fun _ _ h => h))
  have HPG : Kp (∀ k, (Value.slice (some ⟨g, 0, none⟩) 80 cz).ownBlock = some k → w.heap.size ≤ k ∧ k ≠ g4 ∧ k ≠ g6) := ⟨fun k hk => by
    have h1 := hown k hk
    have h2 := HF1.out.size
    have h3 := H4.out.lt
    have h4 := H6.out.lt
    exact ⟨by omega, by omega, by omega⟩⟩
  clear hO hown hf H4 H6 HF1 HP
  have hi8 : (Tryd.prog.info? 65).map (·.size) = some 8 := by kernel_rfl
  have h4r : Kp (W2.rangeAt g4 0 (v64 h)) := ⟨fun j v hv => by rw [Nat.zero_add]; exact H4b.out.cell j v hv⟩
  have hrow : Kp ((W2.alloc (.cells #[.int .u64 0, .int .u64 0, .int .u64 0, .int .u64 0, .int .u64 0, .int .u64 0, .int .u64 0, .int .u64 0] 65)).heap[W2.heap.size]? = some (.cells #[.int .u64 0, .int .u64 0, .int .u64 0, .int .u64 0, .int .u64 0, .int .u64 0, .int .u64 0, .int .u64 0] 65 (0, 0))) := ⟨Blk.new W2 _ _⟩
  have hone : (v64 h).toArray.all (fun v => v.oneCell') = true := by rw [List.all_toArray]; rfl
  go_wp2_with (first
    | refine wpList_load_mid rfl 65 _ rfl g4 0 rfl (v64 h) _ h4r.out Tryd.underlying65 rfl hi8 ?_
    | refine wpList_store_row rfl 65 _ _ rfl W2.heap.size (v64 h).toArray rfl rfl 65 #[.int .u64 0, .int .u64 0, .int .u64 0, .int .u64 0, .int .u64 0, .int .u64 0, .int .u64 0, .int .u64 0] (by exact hrow.out) hi8 rfl hone ?_)
  obtain ⟨g8, hg8⟩ : ∃ g8, g8 = W2.heap.size := ⟨_, rfl⟩
  have H8 : Kp (Blk ((W2.alloc (.cells #[.int .u64 0, .int .u64 0, .int .u64 0, .int .u64 0, .int .u64 0, .int .u64 0, .int .u64 0, .int .u64 0] 65)).setRow W2.heap.size (v64 h).toArray) g8 65 (v64 h)) := ⟨by rw [hg8]; exact blk_row W2 _ _ _⟩
  have hz := fr_row (Fr.refl (fun _ => False) W2) (.cells #[.int .u64 0, .int .u64 0, .int .u64 0, .int .u64 0, .int .u64 0, .int .u64 0, .int .u64 0, .int .u64 0] 65) (v64 h).toArray
  have HF3 := Kp.mk (HFb.out.trans hz (fun _ _ h => h))
  have H43 := Kp.mk (H4b.out.fr hz (fun h => h))
  have H63 := Kp.mk (H6b.out.fr hz (fun h => h))
  have HO3 := Kp.mk (HO.out.fr hz (fun _ _ h => h))
  have HG8 : Kp (w.heap.size ≤ g8 ∧ g8 ≠ g4 ∧ g8 ≠ g6 ∧ ∀ k, (Value.slice (some ⟨g, 0, none⟩) 80 cz).ownBlock = some k → k ≠ g8) := ⟨by
    have h1 := HFb.out.size
    have h2 := H4b.out.lt
    have h3 := H6b.out.lt
    refine ⟨by omega, by omega, by omega, fun k hk => ?_⟩
    have := HO.out.lt k hk
    omega⟩
  rw [← hg8] at H8 HF3 H43 H63 HO3 ⊢
  clear hz
  generalize hW3 : World.setRow _ g8 _ = W3 at H8 HF3 H43 H63 HO3 ⊢
  clear hW3 hg8 hrow h4r hone H4b H6b HFb HO
  go_loopw [9] (fun s9 wr => ∃ (i : Nat) (v : Eight 64), s9 = .int .i64 (i : Int) ∧ Kp (i ≤ 80) ∧ Kp (v = rounds turns64 h K512 Sx i) ∧ Kp (Blk wr g8 65 (v64 v)) ∧ Kp (Blk wr g4 65 (v64 h)) ∧ Kp (Blk wr g6 65 [.int .u64 0, .int .u64 0, .int .u64 0, .int .u64 0, .int .u64 0, .int .u64 0, .int .u64 0, .int .u64 0]) ∧ Kp (OwnL wr 58 1 (.slice (some ⟨g, 0, none⟩) 80 cz) 80 (ws64 Sx)) ∧ Kp (Fr (fun _ => False) w wr)) (fun s9 _ => 80 - (intOf s9).toNat)
  case atStart => exact ⟨0, h, rfl, ⟨by omega⟩, ⟨rfl⟩, H8, H43, H63, HO3, HF3⟩
  case round =>
    clear H8 H43 H63 HO3 HF3
    obtain ⟨i, v, rfl, hi, hv, H8, H4, H6, HO, HF⟩ := hrel
    have hi' := hi.out
    by_cases hlt : i < 80
    · have hcu := (HL.out.fr HF.out).cubes i (by omega)
      obtain ⟨x, hx⟩ : ∃ x, x = Sx.getD i 0 := ⟨_, rfl⟩
      have hcx : wr.cell? ⟨g, i, none⟩ = some (.int .u64 (x.toNat : Int)) := HO.out.cell (by rw [hx]; simp [ws64, Sha.u64, HSl.out, hlt])
      obtain ⟨k, hk⟩ : ∃ k, k = K512.getD i 0 := ⟨_, rfl⟩
      rw [← hk] at hcu
      have hv1 : round turns64 v k x = rounds turns64 h K512 Sx (i + 1) := by rw [hv.out, hk, hx]; rfl
      have HV1 := Kp.mk hv1
      have HLr := Kp.mk (HL.out.fr HF.out)
      clear hx hk hv1
      go_upto_region 9 with (fail)
      obtain ⟨v0, v1, v2, v3, v4, v5, v6, v7⟩ := v
      have cv0 : wr.cell? ⟨g8, 0, none⟩ = some (.int .u64 (v0.toNat : Int)) := H8.out.cell 0 _ rfl
      have cv1 : wr.cell? ⟨g8, 1, none⟩ = some (.int .u64 (v1.toNat : Int)) := H8.out.cell 1 _ rfl
      have cv2 : wr.cell? ⟨g8, 2, none⟩ = some (.int .u64 (v2.toNat : Int)) := H8.out.cell 2 _ rfl
      have cv3 : wr.cell? ⟨g8, 3, none⟩ = some (.int .u64 (v3.toNat : Int)) := H8.out.cell 3 _ rfl
      have cv4 : wr.cell? ⟨g8, 4, none⟩ = some (.int .u64 (v4.toNat : Int)) := H8.out.cell 4 _ rfl
      have cv5 : wr.cell? ⟨g8, 5, none⟩ = some (.int .u64 (v5.toNat : Int)) := H8.out.cell 5 _ rfl
      have cv6 : wr.cell? ⟨g8, 6, none⟩ = some (.int .u64 (v6.toNat : Int)) := H8.out.cell 6 _ rfl
      have cv7 : wr.cell? ⟨g8, 7, none⟩ = some (.int .u64 (v7.toNat : Int)) := H8.out.cell 7 _ rfl
      have hbl := H8.out
      have hb8 := hbl.lt
      have hbg := HO.out.lt g rfl
      have hrr : ∀ W, RLaid W → Calls Tryd.prog 78 #[.int .i64 2, .agg #[.int .u64 (v0.toNat : Int), .int .u64 (v1.toNat : Int), .int .u64 (v2.toNat : Int), .int .u64 (v3.toNat : Int), .int .u64 (v4.toNat : Int), .int .u64 (v5.toNat : Int), .int .u64 (v6.toNat : Int), .int .u64 (v7.toNat : Int)], .int .u64 (k.toNat : Int), .int .u64 (x.toNat : Int)] W fun e w' => e = .returned (.agg (v64 (round turns64 ⟨v0, v1, v2, v3, v4, v5, v6, v7⟩ k x)).toArray) ∧ Fr (fun _ => False) W w' := fun W h => rround64_calls ⟨v0, v1, v2, v3, v4, v5, v6, v7⟩ k x W h
      clear hv
      go_still_tail 7, (by kernel_rfl)
      change wpList _ _ _ _ _ wr.drew
      have HFd := Kp.mk (HF.out.drew)
      have H4d := Kp.mk (H4.out.drew)
      have H6d := Kp.mk (H6.out.drew)
      have H8d := Kp.mk (H8.out.drew)
      have HOd := Kp.mk (HO.out.fr ((Fr.refl (fun _ => False) wr).drew) (fun _ _ h => h))
      generalize World.drew wr = W4 at HFd H4d H6d H8d HOd ⊢
      clear cv0 cv1 cv2 cv3 cv4 cv5 cv6 cv7 hcx hbl hb8 hbg hcu HF H4 H6 H8 HO HLr
      go_wp2_with fail
      refine (hrr W4 (HL.out.fr HFd.out)).mono ?_
      rintro e W5 ⟨rfl, hf⟩
      clear hrr
      obtain ⟨v', hv'⟩ : ∃ v', v' = round turns64 ⟨v0, v1, v2, v3, v4, v5, v6, v7⟩ k x := ⟨_, rfl⟩
      rw [← hv'] at HV1 ⊢
      have HR1 : Kp (v' = rounds turns64 h K512 Sx (i + 1)) := ⟨HV1.out⟩
      have hone : (v64 v').toArray.all (fun v => v.oneCell') = true := by rw [List.all_toArray]; rfl
      have H8e := Kp.mk (H8d.out.fr hf (fun h => h))
      have hst := setRow_heap W5 g8 _ (v64 v').toArray _ _ H8e.out
      have hfr : Fr (fun k => k = g8) W5 (W5.setRow g8 (v64 v').toArray) := ⟨rfl, rfl, rfl, by simp [World.setRow], fun k _ hk => setRow_other _ _ k _ hk⟩
      have H8f : Kp (Blk (W5.setRow g8 (v64 v').toArray) g8 65 (v64 v')) := ⟨hst⟩
      have HFf : Kp (Fr (fun _ => False) w (W5.setRow g8 (v64 v').toArray)) := ⟨(HFd.out.trans hf (fun _ _ h => h)).trans hfr (fun k hk he => by have := HG8.out.1; omega)⟩
      have H4f : Kp (Blk (W5.setRow g8 (v64 v').toArray) g4 65 (v64 h)) := ⟨(H4d.out.fr hf (fun h => h)).fr hfr (fun he => HG8.out.2.1 he.symm)⟩
      have H6f : Kp (Blk (W5.setRow g8 (v64 v').toArray) g6 65 [.int .u64 0, .int .u64 0, .int .u64 0, .int .u64 0, .int .u64 0, .int .u64 0, .int .u64 0, .int .u64 0]) := ⟨(H6d.out.fr hf (fun h => h)).fr hfr (fun he => HG8.out.2.2.1 he.symm)⟩
      have HOf := Kp.mk ((HOd.out.fr hf (fun _ _ h => h)).fr hfr (fun k hk he => HG8.out.2.2.2 k hk he))
      have hro := rowOk_blk H8e.out hi8
      clear hf hv' hst hfr HFd H4d H6d H8d HOd H8e HV1
      clear hone
      go_wp2
      generalize World.setRow W5 g8 _ = W6 at H8f HFf H4f H6f HOf ⊢
      go_roundw
      case rel => exact ⟨i + 1, v', by go_num, ⟨hlt⟩, HR1, H8f, H4f, H6f, HOf, HFf⟩
      case measure => simp [intOf] <;> omega
    · obtain rfl : i = 80 := by omega
      have HR2 : Kp (R = v.add h) := ⟨by rw [HRR.out, hv.out]⟩
      have H80 : Kp (Blk wr g8 65 (msum64 v h 0)) := ⟨by rw [msum64_zero]; exact H8.out⟩
      clear HRR hv H8 HO hi hi' hlt
      go_wp2
      go_loopw [11] (fun s11 wr => ∃ (i : Nat), s11 = .int .i64 (i : Int) ∧ Kp (i ≤ 8) ∧ Kp (Blk wr g8 65 (msum64 v h i)) ∧ Kp (Blk wr g4 65 (v64 h)) ∧ Kp (Blk wr g6 65 [.int .u64 0, .int .u64 0, .int .u64 0, .int .u64 0, .int .u64 0, .int .u64 0, .int .u64 0, .int .u64 0]) ∧ Kp (Fr (fun _ => False) w wr)) (fun s11 _ => 8 - (intOf s11).toNat)
      case atStart => exact ⟨0, rfl, ⟨by omega⟩, H80, H4, H6, HF⟩
      case round =>
        clear H80 H4 H6 HF
        obtain ⟨i, rfl, hi, H8, H4, H6, HF⟩ := hrel
        have hi' := hi.out
        by_cases hlt : i < 8
        · have c8 := H8.out.cell i _ (msum64_at v h i hlt)
          have c4 := H4.out.cell i _ (v64_at h i hlt)
          have hf8 : wr.frozen? ⟨g8, i, none⟩ = false := H8.out.free i
          have HN : Kp ((msum64 v h i).set i (.int .u64 ((v.list.getD i 0 + h.list.getD i 0).toNat : Int)) = msum64 v h (i + 1)) := ⟨msum64_set v h i hlt⟩
          generalize v.list.getD i 0 = x at c8 HN
          generalize h.list.getD i 0 = y at c4 HN
          go_upto_region 13 with (fail)
          go_still_tail 11, (by kernel_rfl)
          still_call (wst64 _ _)
          (repeat still_step)
          refine wpStill_nil ?_
          change wpList _ _ _ _ _ wr.drew
          have H8d : Kp (Blk (wr.drew.setCell ⟨g8, i, none⟩ (.int .u64 ((x + y).toNat : Int))) g8 65 (msum64 v h (i + 1))) := ⟨by rw [← HN.out]; exact H8.out.drew.set i _⟩
          have hfr : Fr (fun k => k = g8) wr (wr.drew.setCell ⟨g8, i, none⟩ (.int .u64 ((x + y).toNat : Int))) := Fr.set (S := fun k => k = g8) (a := ⟨g8, i, none⟩) ((Fr.refl (fun k => k = g8) wr).drew) (fun _ => rfl) _
          have H4d := Kp.mk (H4.out.fr hfr (fun he => HG8.out.2.1 he.symm))
          have H6d := Kp.mk (H6.out.fr hfr (fun he => HG8.out.2.2.1 he.symm))
          have HFd := Kp.mk (HF.out.trans hfr (fun k hk he => by have := HG8.out.1; omega))
          have c8' : wr.drew.cell? ⟨g8, i, none⟩ = _ := c8
          have hf8' : wr.drew.frozen? ⟨g8, i, none⟩ = false := hf8
          generalize hWd : World.drew wr = Wd at H8d H4d H6d HFd c8' hf8' ⊢
          clear hWd c8 c4 hf8 H8 H4 H6 HF HN hfr
          go_wp2
          simp only [add64]
          generalize World.setCell Wd _ _ = We at H8d H4d H6d HFd ⊢
          refine ⟨?_, ?_⟩
          · repeat apply Exists.intro
            exact ⟨⟨i + 1, rfl, ⟨hlt⟩, H8d, H4d, H6d, HFd⟩, rfl⟩
          · simp [intOf] <;> omega
        · obtain rfl : i = 8 := by omega
          have H8g : Kp (Blk wr g8 65 (v64 R)) := ⟨by rw [HR2.out, ← msum64_all]; exact H8.out⟩
          have h8r : Kp (wr.rangeAt g8 0 (v64 R)) := ⟨fun j v hv => by rw [Nat.zero_add]; exact H8g.out.cell j v hv⟩
          have hone : (v64 R).toArray.all (fun v => v.oneCell') = true := by rw [List.all_toArray]; rfl
          have hro := rowOk_blk H6.out hi8
          clear hi hi' hlt H8 HR2
          go_wp2_with (refine wpList_load_mid rfl 65 _ rfl g8 0 rfl (v64 R) _ h8r.out Tryd.underlying65 rfl hi8 ?_)
          refine bodyPost_ret (results_cell_row rfl _ _ g6 65 _ (0, 0) _ rfl (setRow_heap _ g6 _ _ _ _ H6.out) Tryd.underlying65 rfl hi8) rfl ?_
          refine ⟨rfl, ?_⟩
          exact HF.out.trans (S' := fun k => k = g6) ⟨rfl, rfl, rfl, by simp [World.setRow], fun k _ hk => setRow_other _ _ k _ hk⟩ (fun k hk he => by have := HG.out.2.1; omega)
end Go.Proofs.YtjcfnflkiialbaaDoor.Sha
namespace Go.Proofs.YtjcfnflkiialbaaDoor.Sha
open Go.RowKit Go.Proofs.YtjcfnflkiialbaaDoor.Mem Go.Proofs.YtjcfnflkiialbaaDoorW.PrintWords
theorem sum2 (v h : BitVec 32) : Int.tmod (IntKind.u64.wrap ((v.toNat : Int) + (h.toNat : Int))) 4294967296 = ((v + h).toNat : Int) := by
  simp only [wrap64u, BitVec.toNat_add]
  have := h.isLt; have := v.isLt
  rw [Int.tmod_eq_emod_of_nonneg (by omega)]
  omega
theorem sum2e (v h : BitVec 32) : ((v.toNat : Int) + (h.toNat : Int)) % 4294967296 = ((v + h).toNat : Int) := by
  rw [BitVec.toNat_add]
  omega
theorem v8ok_v32w (v : Eight 32) : v8ok (.agg (v32w v).toArray) = true := by
  show ((v32w v).toArray.size == 8 && (v32w v).toArray.all (fun v => v.oneCell')) = true
  rw [List.all_toArray]
  rfl
/-- the words, the first i of them with the old ones added -/
def msum32 (v h : Eight 32) (i : Nat) : List Value := (List.range 8).map fun j => if j < i then .int .u64 ((v.list.getD j 0 + h.list.getD j 0).toNat : Int) else .int .u64 ((v.list.getD j 0).toNat : Int)
theorem msum32_zero (v h : Eight 32) : msum32 v h 0 = v32w v := by
  obtain ⟨a, b, c, d, e, f, g, k⟩ := v
  rfl
theorem msum32_all (v h : Eight 32) : msum32 v h 8 = v32w (v.add h) := by
  obtain ⟨a, b, c, d, e, f, g, k⟩ := v
  obtain ⟨a', b', c', d', e', f', g', k'⟩ := h
  rfl
theorem eight_comm32 (v h : Eight 32) : v.add h = h.add v := by
  obtain ⟨a, b, c, d, e, f, g, k⟩ := v
  obtain ⟨a', b', c', d', e', f', g', k'⟩ := h
  simp only [Eight.add, BitVec.add_comm]
theorem msum32_len (v h : Eight 32) (i : Nat) : (msum32 v h i).length = 8 := by simp [msum32]
theorem msum32_at (v h : Eight 32) (i : Nat) (hi : i < 8) : (msum32 v h i)[i]? = some (.int .u64 ((v.list.getD i 0).toNat : Int)) := by
  simp [msum32, hi]
theorem msum32_set (v h : Eight 32) (i : Nat) (hi : i < 8) : (msum32 v h i).set i (.int .u64 ((v.list.getD i 0 + h.list.getD i 0).toNat : Int)) = msum32 v h (i + 1) := by
  apply List.ext_getElem?
  intro j
  rw [List.getElem?_set]
  by_cases hij : i = j
  · subst hij
    simp [msum32, hi]
  · rw [if_neg hij]
    unfold msum32
    rcases Nat.lt_or_ge j 8 with hj | hj
    · simp only [List.getElem?_map, List.getElem?_range hj, Option.map_some]
      by_cases h1 : j < i
      · rw [if_pos h1, if_pos (by omega)]
      · rw [if_neg h1, if_neg (by omega)]
    · rw [List.getElem?_eq_none (by simpa using hj), List.getElem?_eq_none (by simpa using hj)]
theorem v32w_at (v : Eight 32) (i : Nat) (hi : i < 8) : (v32w v)[i]? = some (.int .u64 ((v.list.getD i 0).toNat : Int)) := by
  rw [← msum32_zero v v]; simp [msum32, hi]
theorem wst32 (z : Int) (w : World) : Calls Tryd.prog 79 #[.int .i64 1, .int .u64 z] w fun e w' => e = .returned (.int .u64 (Int.tmod z 4294967296)) ∧ w' = w := by
  go_enter Tryd.func79, Tryd.ntmps79
  go_wp2
  go_ret
  exact ⟨rfl, rfl⟩
attribute [local go_sem ↓] wp_store_v8
attribute [local go_sem] rowOk_drew rowOk_drewN rowBlock rowCells v8ok_v32w
set_option maxHeartbeats 2000000 in
set_option maxRecDepth 100000 in
theorem rmixed32_calls (A : Option Addr) (c : Nat) (b : List Int) (hb : Bs b) (hl : b.length = 64) (h : Eight 32) (w : World) (hL : RLaid w) {S : Nat → Prop} (hX : Src w S A c b) :
    Calls Tryd.prog 73 #[.int .i64 1, .agg (v32w h).toArray, .slice A 64 c] w fun e w' => e = .returned (.agg (v32w (block turns32 K256 h (wordsOf 4 b 16))).toArray) ∧ Fr (fun _ => False) w w' := by
  obtain ⟨R, hR⟩ : ∃ R, R = block turns32 K256 h (wordsOf 4 b 16) := ⟨_, rfl⟩
  rw [← hR]
  unfold block at hR
  have hp0 : ∀ w1, Fr (fun _ => False) w w1 → Calls Tryd.prog 77 #[.int .i64 1, .slice A 64 c] w1 fun e w' => ∃ v, e = .returned v ∧ OwnL w' 58 1 v 64 (ws32 (sched turns32 (wordsOf 4 b 16) 48)) ∧ (∀ k, v.ownBlock = some k → w1.heap.size ≤ k) ∧ Fr (fun _ => False) w1 w' :=
    fun w1 hf => rplan32_calls A c b hb hl w1 (hL.fr hf) ((hX.mono (S' := fun _ => False) (fun _ _ h => h.elim)).fr hf)
  have hKl : K256.length = 64 := by decide +kernel
  rw [hKl] at hR
  obtain ⟨Sx, hSx⟩ : ∃ Sx, Sx = sched turns32 (wordsOf 4 b 16 : List (BitVec 32)) 48 := ⟨_, rfl⟩
  have hSl : Sx.length = 64 := by rw [hSx, sched_length]; simp [wordsOf]
  have hR' : R = (rounds turns32 h K256 Sx 64).add h := by rw [hR, hSx, eight_comm32]
  rw [← hSx] at hp0
  have HP := Kp.mk hp0
  have HRR := Kp.mk hR'
  have HSl := Kp.mk hSl
  have HL := Kp.mk hL
  clear hp0 hR hR' hSl hSx hKl hL hX hb hl
  obtain ⟨H, hH⟩ : ∃ H : List Value, H = v32w h := ⟨_, rfl⟩
  have hbox : ∃ a0 a1 a2 a3 a4 a5 a6 a7 : Int, H = [.int .u64 a0, .int .u64 a1, .int .u64 a2, .int .u64 a3, .int .u64 a4, .int .u64 a5, .int .u64 a6, .int .u64 a7] := by
    rw [hH]; obtain ⟨a, b, c, d, e, f, g, k⟩ := h; exact ⟨_, _, _, _, _, _, _, _, rfl⟩
  obtain ⟨a0, a1, a2, a3, a4, a5, a6, a7, hHx⟩ := hbox
  have HH := Kp.mk hH
  rw [← hH]
  clear hH
  subst hHx
  go_enter Tryd.func73, Tryd.ntmps73
  go_upto_region 1 with (fail)
  obtain ⟨g4, hg4⟩ : ∃ g4, g4 = w.heap.size := ⟨_, rfl⟩
  obtain ⟨g6, hg6⟩ : ∃ g6, g6 = w.heap.size + 1 := ⟨_, rfl⟩
  rw [← hg6, ← hg4]
  obtain ⟨W1, hW1⟩ : ∃ W1, W1 = (w.alloc (.cells #[.int .u64 a0, .int .u64 a1, .int .u64 a2, .int .u64 a3, .int .u64 a4, .int .u64 a5, .int .u64 a6, .int .u64 a7] 65)).alloc (.cells #[.int .u64 0, .int .u64 0, .int .u64 0, .int .u64 0, .int .u64 0, .int .u64 0, .int .u64 0, .int .u64 0] 65) := ⟨_, rfl⟩
  have H4 : Kp (Blk W1 g4 65 (v32w h)) := ⟨by rw [hW1, hg4, ← HH.out]; exact (Blk.new w _ _).alloc _⟩
  have H6 : Kp (Blk W1 g6 65 [.int .u64 0, .int .u64 0, .int .u64 0, .int .u64 0, .int .u64 0, .int .u64 0, .int .u64 0, .int .u64 0]) := ⟨by rw [hW1, hg6]; exact Blk.new' _ _ _ (by simp)⟩
  have HG : Kp (w.heap.size ≤ g4 ∧ w.heap.size ≤ g6 ∧ g4 ≠ g6) := ⟨by omega⟩
  have HF1 : Kp (Fr (fun _ => False) w W1) := ⟨by rw [hW1]; exact ((Fr.refl _ w).alloc _).alloc _⟩
  rw [← hW1]
  clear hW1 hg4 hg6 HH
  go_wp2_with fail
  refine (HP.out W1 HF1.out).mono ?_
  rintro e W2 ⟨pv, rfl, hO, hown, hf⟩
  obtain ⟨g, cz, rfl⟩ : ∃ g cz, pv = .slice (some ⟨g, 0, none⟩) 64 cz := by
    rcases hO.2 with ⟨_, h⟩ | ⟨g, cap, cur, h, _⟩
    · omega
    · exact ⟨g, cap, h⟩
  have HO := Kp.mk hO
  have H4b := Kp.mk (H4.out.fr hf (fun h => h))
  have H6b := Kp.mk (H6.out.fr hf (fun h => h))
  have HFb := Kp.mk (HF1.out.trans hf (fun _ _ h => h))
  have HPG : Kp (∀ k, (Value.slice (some ⟨g, 0, none⟩) 64 cz).ownBlock = some k → w.heap.size ≤ k ∧ k ≠ g4 ∧ k ≠ g6) := ⟨fun k hk => by
    have h1 := hown k hk
    have h2 := HF1.out.size
    have h3 := H4.out.lt
    have h4 := H6.out.lt
    exact ⟨by omega, by omega, by omega⟩⟩
  clear hO hown hf H4 H6 HF1 HP
  have hi8 : (Tryd.prog.info? 65).map (·.size) = some 8 := by kernel_rfl
  have h4r : Kp (W2.rangeAt g4 0 (v32w h)) := ⟨fun j v hv => by rw [Nat.zero_add]; exact H4b.out.cell j v hv⟩
  have hrow : Kp ((W2.alloc (.cells #[.int .u64 0, .int .u64 0, .int .u64 0, .int .u64 0, .int .u64 0, .int .u64 0, .int .u64 0, .int .u64 0] 65)).heap[W2.heap.size]? = some (.cells #[.int .u64 0, .int .u64 0, .int .u64 0, .int .u64 0, .int .u64 0, .int .u64 0, .int .u64 0, .int .u64 0] 65 (0, 0))) := ⟨Blk.new W2 _ _⟩
  have hone : (v32w h).toArray.all (fun v => v.oneCell') = true := by rw [List.all_toArray]; rfl
  go_wp2_with (first
    | refine wpList_load_mid rfl 65 _ rfl g4 0 rfl (v32w h) _ h4r.out Tryd.underlying65 rfl hi8 ?_
    | refine wpList_store_row rfl 65 _ _ rfl W2.heap.size (v32w h).toArray rfl rfl 65 #[.int .u64 0, .int .u64 0, .int .u64 0, .int .u64 0, .int .u64 0, .int .u64 0, .int .u64 0, .int .u64 0] (by exact hrow.out) hi8 rfl hone ?_)
  obtain ⟨g8, hg8⟩ : ∃ g8, g8 = W2.heap.size := ⟨_, rfl⟩
  have H8 : Kp (Blk ((W2.alloc (.cells #[.int .u64 0, .int .u64 0, .int .u64 0, .int .u64 0, .int .u64 0, .int .u64 0, .int .u64 0, .int .u64 0] 65)).setRow W2.heap.size (v32w h).toArray) g8 65 (v32w h)) := ⟨by rw [hg8]; exact blk_row W2 _ _ _⟩
  have hz := fr_row (Fr.refl (fun _ => False) W2) (.cells #[.int .u64 0, .int .u64 0, .int .u64 0, .int .u64 0, .int .u64 0, .int .u64 0, .int .u64 0, .int .u64 0] 65) (v32w h).toArray
  have HF3 := Kp.mk (HFb.out.trans hz (fun _ _ h => h))
  have H43 := Kp.mk (H4b.out.fr hz (fun h => h))
  have H63 := Kp.mk (H6b.out.fr hz (fun h => h))
  have HO3 := Kp.mk (HO.out.fr hz (fun _ _ h => h))
  have HG8 : Kp (w.heap.size ≤ g8 ∧ g8 ≠ g4 ∧ g8 ≠ g6 ∧ ∀ k, (Value.slice (some ⟨g, 0, none⟩) 64 cz).ownBlock = some k → k ≠ g8) := ⟨by
    have h1 := HFb.out.size
    have h2 := H4b.out.lt
    have h3 := H6b.out.lt
    refine ⟨by omega, by omega, by omega, fun k hk => ?_⟩
    have := HO.out.lt k hk
    omega⟩
  rw [← hg8] at H8 HF3 H43 H63 HO3 ⊢
  clear hz
  generalize hW3 : World.setRow _ g8 _ = W3 at H8 HF3 H43 H63 HO3 ⊢
  clear hW3 hg8 hrow h4r hone H4b H6b HFb HO
  go_loopw [9] (fun s9 wr => ∃ (i : Nat) (v : Eight 32), s9 = .int .i64 (i : Int) ∧ Kp (i ≤ 64) ∧ Kp (v = rounds turns32 h K256 Sx i) ∧ Kp (Blk wr g8 65 (v32w v)) ∧ Kp (Blk wr g4 65 (v32w h)) ∧ Kp (Blk wr g6 65 [.int .u64 0, .int .u64 0, .int .u64 0, .int .u64 0, .int .u64 0, .int .u64 0, .int .u64 0, .int .u64 0]) ∧ Kp (OwnL wr 58 1 (.slice (some ⟨g, 0, none⟩) 64 cz) 64 (ws32 Sx)) ∧ Kp (Fr (fun _ => False) w wr)) (fun s9 _ => 64 - (intOf s9).toNat)
  case atStart => exact ⟨0, h, rfl, ⟨by omega⟩, ⟨rfl⟩, H8, H43, H63, HO3, HF3⟩
  case round =>
    clear H8 H43 H63 HO3 HF3
    obtain ⟨i, v, rfl, hi, hv, H8, H4, H6, HO, HF⟩ := hrel
    have hi' := hi.out
    by_cases hlt : i < 64
    · have hcu := (HL.out.fr HF.out).cubes i (by omega)
      obtain ⟨x, hx⟩ : ∃ x, x = Sx.getD i 0 := ⟨_, rfl⟩
      have hcx : wr.cell? ⟨g, i, none⟩ = some (.int .u64 (x.toNat : Int)) := HO.out.cell (by rw [hx]; simp [ws32, HSl.out, hlt])
      obtain ⟨k, hk⟩ : ∃ k, k = K256.getD i 0 := ⟨_, rfl⟩
      have hhi : (K512.getD i 0).toNat / 4294967296 = k.toNat := by
        have := List.all_eq_true.1 cubes_high i (List.mem_range.2 hlt)
        rw [hk]
        simpa using this
      obtain ⟨cu, hce⟩ : ∃ cu, cu = (K512.getD i 0).toNat := ⟨_, rfl⟩
      rw [← hce] at hcu hhi
      have HHI := Kp.mk hhi
      clear hce hhi
      have hv1 : round turns32 v k x = rounds turns32 h K256 Sx (i + 1) := by rw [hv.out, hk, hx]; rfl
      have HV1 := Kp.mk hv1
      have HLr := Kp.mk (HL.out.fr HF.out)
      clear hx hk hv1
      go_upto_region 9 with (fail)
      rw [show ((cu : Nat) : Int) / 4294967296 = ((cu / 4294967296 : Nat) : Int) from by omega, HHI.out]
      obtain ⟨v0, v1, v2, v3, v4, v5, v6, v7⟩ := v
      have cv0 : wr.cell? ⟨g8, 0, none⟩ = some (.int .u64 (v0.toNat : Int)) := H8.out.cell 0 _ rfl
      have cv1 : wr.cell? ⟨g8, 1, none⟩ = some (.int .u64 (v1.toNat : Int)) := H8.out.cell 1 _ rfl
      have cv2 : wr.cell? ⟨g8, 2, none⟩ = some (.int .u64 (v2.toNat : Int)) := H8.out.cell 2 _ rfl
      have cv3 : wr.cell? ⟨g8, 3, none⟩ = some (.int .u64 (v3.toNat : Int)) := H8.out.cell 3 _ rfl
      have cv4 : wr.cell? ⟨g8, 4, none⟩ = some (.int .u64 (v4.toNat : Int)) := H8.out.cell 4 _ rfl
      have cv5 : wr.cell? ⟨g8, 5, none⟩ = some (.int .u64 (v5.toNat : Int)) := H8.out.cell 5 _ rfl
      have cv6 : wr.cell? ⟨g8, 6, none⟩ = some (.int .u64 (v6.toNat : Int)) := H8.out.cell 6 _ rfl
      have cv7 : wr.cell? ⟨g8, 7, none⟩ = some (.int .u64 (v7.toNat : Int)) := H8.out.cell 7 _ rfl
      have hbl := H8.out
      have hb8 := hbl.lt
      have hbg := HO.out.lt g rfl
      have hrr : ∀ W, RLaid W → Calls Tryd.prog 78 #[.int .i64 1, .agg #[.int .u64 (v0.toNat : Int), .int .u64 (v1.toNat : Int), .int .u64 (v2.toNat : Int), .int .u64 (v3.toNat : Int), .int .u64 (v4.toNat : Int), .int .u64 (v5.toNat : Int), .int .u64 (v6.toNat : Int), .int .u64 (v7.toNat : Int)], .int .u64 (k.toNat : Int), .int .u64 (x.toNat : Int)] W fun e w' => e = .returned (.agg (v32w (round turns32 ⟨v0, v1, v2, v3, v4, v5, v6, v7⟩ k x)).toArray) ∧ Fr (fun _ => False) W w' := fun W h => rround32_calls ⟨v0, v1, v2, v3, v4, v5, v6, v7⟩ k x W h
      clear hv
      go_still_tail 7, (by kernel_rfl)
      change wpList _ _ _ _ _ wr.drew
      have HFd := Kp.mk (HF.out.drew)
      have H4d := Kp.mk (H4.out.drew)
      have H6d := Kp.mk (H6.out.drew)
      have H8d := Kp.mk (H8.out.drew)
      have HOd := Kp.mk (HO.out.fr ((Fr.refl (fun _ => False) wr).drew) (fun _ _ h => h))
      generalize World.drew wr = W4 at HFd H4d H6d H8d HOd ⊢
      clear cv0 cv1 cv2 cv3 cv4 cv5 cv6 cv7 hcx hbl hb8 hbg hcu HF H4 H6 H8 HO HLr
      go_wp2_with fail
      refine (hrr W4 (HL.out.fr HFd.out)).mono ?_
      rintro e W5 ⟨rfl, hf⟩
      clear hrr
      obtain ⟨v', hv'⟩ : ∃ v', v' = round turns32 ⟨v0, v1, v2, v3, v4, v5, v6, v7⟩ k x := ⟨_, rfl⟩
      rw [← hv'] at HV1 ⊢
      have HR1 : Kp (v' = rounds turns32 h K256 Sx (i + 1)) := ⟨HV1.out⟩
      have hone : (v32w v').toArray.all (fun v => v.oneCell') = true := by rw [List.all_toArray]; rfl
      have H8e := Kp.mk (H8d.out.fr hf (fun h => h))
      have hst := setRow_heap W5 g8 _ (v32w v').toArray _ _ H8e.out
      have hfr : Fr (fun k => k = g8) W5 (W5.setRow g8 (v32w v').toArray) := ⟨rfl, rfl, rfl, by simp [World.setRow], fun k _ hk => setRow_other _ _ k _ hk⟩
      have H8f : Kp (Blk (W5.setRow g8 (v32w v').toArray) g8 65 (v32w v')) := ⟨hst⟩
      have HFf : Kp (Fr (fun _ => False) w (W5.setRow g8 (v32w v').toArray)) := ⟨(HFd.out.trans hf (fun _ _ h => h)).trans hfr (fun k hk he => by have := HG8.out.1; omega)⟩
      have H4f : Kp (Blk (W5.setRow g8 (v32w v').toArray) g4 65 (v32w h)) := ⟨(H4d.out.fr hf (fun h => h)).fr hfr (fun he => HG8.out.2.1 he.symm)⟩
      have H6f : Kp (Blk (W5.setRow g8 (v32w v').toArray) g6 65 [.int .u64 0, .int .u64 0, .int .u64 0, .int .u64 0, .int .u64 0, .int .u64 0, .int .u64 0, .int .u64 0]) := ⟨(H6d.out.fr hf (fun h => h)).fr hfr (fun he => HG8.out.2.2.1 he.symm)⟩
      have HOf := Kp.mk ((HOd.out.fr hf (fun _ _ h => h)).fr hfr (fun k hk he => HG8.out.2.2.2 k hk he))
      have hro := rowOk_blk H8e.out hi8
      clear hf hv' hst hfr HFd H4d H6d H8d HOd H8e HV1
      clear hone
      go_wp2
      generalize World.setRow W5 g8 _ = W6 at H8f HFf H4f H6f HOf ⊢
      go_roundw
      case rel => exact ⟨i + 1, v', by go_num, ⟨hlt⟩, HR1, H8f, H4f, H6f, HOf, HFf⟩
      case measure => simp [intOf] <;> omega
    · obtain rfl : i = 64 := by omega
      have HR2 : Kp (R = v.add h) := ⟨by rw [HRR.out, hv.out]⟩
      have H80 : Kp (Blk wr g8 65 (msum32 v h 0)) := ⟨by rw [msum32_zero]; exact H8.out⟩
      clear HRR hv H8 HO hi hi' hlt
      go_wp2
      go_loopw [11] (fun s11 wr => ∃ (i : Nat), s11 = .int .i64 (i : Int) ∧ Kp (i ≤ 8) ∧ Kp (Blk wr g8 65 (msum32 v h i)) ∧ Kp (Blk wr g4 65 (v32w h)) ∧ Kp (Blk wr g6 65 [.int .u64 0, .int .u64 0, .int .u64 0, .int .u64 0, .int .u64 0, .int .u64 0, .int .u64 0, .int .u64 0]) ∧ Kp (Fr (fun _ => False) w wr)) (fun s11 _ => 8 - (intOf s11).toNat)
      case atStart => exact ⟨0, rfl, ⟨by omega⟩, H80, H4, H6, HF⟩
      case round =>
        clear H80 H4 H6 HF
        obtain ⟨i, rfl, hi, H8, H4, H6, HF⟩ := hrel
        have hi' := hi.out
        by_cases hlt : i < 8
        · have c8 := H8.out.cell i _ (msum32_at v h i hlt)
          have c4 := H4.out.cell i _ (v32w_at h i hlt)
          have hf8 : wr.frozen? ⟨g8, i, none⟩ = false := H8.out.free i
          have HN : Kp ((msum32 v h i).set i (.int .u64 ((v.list.getD i 0 + h.list.getD i 0).toNat : Int)) = msum32 v h (i + 1)) := ⟨msum32_set v h i hlt⟩
          generalize v.list.getD i 0 = x at c8 HN
          generalize h.list.getD i 0 = y at c4 HN
          go_upto_region 13 with (fail)
          go_still_tail 11, (by kernel_rfl)
          still_call (wst32 _ _)
          (repeat still_step)
          refine wpStill_nil ?_
          change wpList _ _ _ _ _ wr.drew
          have H8d : Kp (Blk (wr.drew.setCell ⟨g8, i, none⟩ (.int .u64 ((x + y).toNat : Int))) g8 65 (msum32 v h (i + 1))) := ⟨by rw [← HN.out]; exact H8.out.drew.set i _⟩
          have hfr : Fr (fun k => k = g8) wr (wr.drew.setCell ⟨g8, i, none⟩ (.int .u64 ((x + y).toNat : Int))) := Fr.set (S := fun k => k = g8) (a := ⟨g8, i, none⟩) ((Fr.refl (fun k => k = g8) wr).drew) (fun _ => rfl) _
          have H4d := Kp.mk (H4.out.fr hfr (fun he => HG8.out.2.1 he.symm))
          have H6d := Kp.mk (H6.out.fr hfr (fun he => HG8.out.2.2.1 he.symm))
          have HFd := Kp.mk (HF.out.trans hfr (fun k hk he => by have := HG8.out.1; omega))
          have c8' : wr.drew.cell? ⟨g8, i, none⟩ = _ := c8
          have hf8' : wr.drew.frozen? ⟨g8, i, none⟩ = false := hf8
          generalize hWd : World.drew wr = Wd at H8d H4d H6d HFd c8' hf8' ⊢
          clear hWd c8 c4 hf8 H8 H4 H6 HF HN hfr
          go_wp2
          simp only [sum2e]
          generalize World.setCell Wd _ _ = We at H8d H4d H6d HFd ⊢
          refine ⟨?_, ?_⟩
          · repeat apply Exists.intro
            exact ⟨⟨i + 1, rfl, ⟨hlt⟩, H8d, H4d, H6d, HFd⟩, rfl⟩
          · simp [intOf] <;> omega
        · obtain rfl : i = 8 := by omega
          have H8g : Kp (Blk wr g8 65 (v32w R)) := ⟨by rw [HR2.out, ← msum32_all]; exact H8.out⟩
          have h8r : Kp (wr.rangeAt g8 0 (v32w R)) := ⟨fun j v hv => by rw [Nat.zero_add]; exact H8g.out.cell j v hv⟩
          have hone : (v32w R).toArray.all (fun v => v.oneCell') = true := by rw [List.all_toArray]; rfl
          have hro := rowOk_blk H6.out hi8
          clear hi hi' hlt H8 HR2
          go_wp2_with (refine wpList_load_mid rfl 65 _ rfl g8 0 rfl (v32w R) _ h8r.out Tryd.underlying65 rfl hi8 ?_)
          refine bodyPost_ret (results_cell_row rfl _ _ g6 65 _ (0, 0) _ rfl (setRow_heap _ g6 _ _ _ _ H6.out) Tryd.underlying65 rfl hi8) rfl ?_
          refine ⟨rfl, ?_⟩
          exact HF.out.trans (S' := fun k => k = g6) ⟨rfl, rfl, rfl, by simp [World.setRow], fun k _ hk => setRow_other _ _ k _ hk⟩ (fun k hk he => by have := HG.out.2.1; omega)
end Go.Proofs.YtjcfnflkiialbaaDoor.Sha
namespace Go.Proofs.YtjcfnflkiialbaaDoor.Sha
open Go.RowKit Go.Proofs.YtjcfnflkiialbaaDoor.Mem Go.Proofs.YtjcfnflkiialbaaDoor.PShaConstants Go.Proofs.YtjcfnflkiialbaaDoorW.PrintWords
/-- the state behind p, whatever the count -/
def given (s : St) (p : List Int) : St := absorb s (s.rest ++ p) (s.cnt + p.length)
/-- the eight words as the document's answer holds them -/
def hw (B : Bool) (c : Chain) : List Value :=
  match B with
  | true => v64 c.l
  | false => v32w c.s
theorem hw_len (B : Bool) (c : Chain) : (hw B c).length = 8 := by cases B <;> rfl
theorem hw_one (B : Bool) (c : Chain) : (hw B c).toArray.all (fun v => v.oneCell') = true := by
  cases B <;> (rw [List.all_toArray]; rfl)
theorem hw_ints (B : Bool) (c : Chain) : ∃ a0 a1 a2 a3 a4 a5 a6 a7 : Int, hw B c = [.int .u64 a0, .int .u64 a1, .int .u64 a2, .int .u64 a3, .int .u64 a4, .int .u64 a5, .int .u64 a6, .int .u64 a7] := by
  cases B
  · exact ⟨_, _, _, _, _, _, _, _, rfl⟩
  · exact ⟨_, _, _, _, _, _, _, _, rfl⟩
theorem rmixed_calls (B : Bool) (A : Option Addr) (c : Nat) (b : List Int) (hb : Bs b) (hl : b.length = blk B) (ch : Chain) (w : World) (hL : RLaid w) {S : Nat → Prop} (hX : Src w S A c b) :
    Calls Tryd.prog 73 #[.int .i64 (rk B), .agg (hw B ch).toArray, .slice A (blk B) c] w fun e w' => e = .returned (.agg (hw B (mixC B ch b)).toArray) ∧ Fr (fun _ => False) w w' := by
  cases B
  · exact rmixed32_calls A c b hb hl ch.s w hL hX
  · exact rmixed64_calls A c b hb hl ch.l w hL hX
theorem rblock_calls (B : Bool) (w : World) : Calls Tryd.prog 72 #[.int .i64 (rk B)] w fun e w' => e = .returned (.int .i64 (blk B : Nat)) ∧ Fr (fun _ => False) w w' := by
  cases B
  · exact (block_calls1 w).mono fun _ _ h => ⟨h.1, Fr.of_below h.2.below _⟩
  · exact (block_calls2 w).mono fun _ _ h => ⟨h.1, Fr.of_below h.2.below _⟩
theorem Blk.setCells (b : Nat) (e : TypeId) (post : List Value) : ∀ (xs pre mid : List Value) (w : World), mid.length = xs.length → Blk w b e (pre ++ (mid ++ post)) → Blk (w.setCells b pre.length xs) b e (pre ++ (xs ++ post))
  | [], pre, [], w, _, h => h
  | [], pre, m :: mid, w, hl, h => by simp at hl
  | x :: xs, pre, [], w, hl, h => by simp at hl
  | x :: xs, pre, m :: mid, w, hl, h => by
    have h1 := h.set pre.length x
    have e1 : (pre ++ (m :: mid ++ post)).set pre.length x = (pre ++ [x]) ++ (mid ++ post) := by simp
    rw [e1] at h1
    have h2 := Blk.setCells b e post xs (pre ++ [x]) mid _ (by simpa using hl) h1
    rw [List.length_append, List.length_singleton] at h2
    rw [World.setCells]
    have e2 : pre ++ [x] ++ (xs ++ post) = pre ++ (x :: xs ++ post) := by simp
    rw [← e2]
    exact h2
theorem fr_setCells (b : Nat) : ∀ (xs : List Value) (o : Nat) (w : World), Fr (fun k => k = b) w (w.setCells b o xs)
  | [], _, w => Fr.refl _ w
  | x :: xs, o, w => by
    rw [World.setCells]
    exact (Fr.set (S := fun k => k = b) (a := ⟨b, o, none⟩) (Fr.refl _ w) (fun _ => rfl) x).trans (fr_setCells b xs (o + 1) _) (fun _ _ h => h)
theorem blk_words {w : World} {b : Nat} {e : TypeId} {x : Value} {hs hs' post : List Value} (h : Blk w b e (x :: (hs ++ post))) (hl : hs.length = 8) (hl' : hs'.length = 8) : Blk (w.setCells b 1 hs') b e (x :: (hs' ++ post)) :=
  Blk.setCells b e post hs' [x] hs w (hl.trans hl'.symm) h
theorem OwnL.reads {w : World} {g n c : Nat} {xs : List Int} (h : OwnL w 5 1 (.slice (some ⟨g, 0, none⟩) n c) n (bytes xs)) : Reads w g 0 xs := by
  have hl := h.lt g rfl
  rcases (h.src (fun _ => False) (fun _ _ h => h)).2.2 with ⟨h1, _⟩ | ⟨h1, _⟩ | ⟨bs, os, h1, h2, _⟩
  · cases h1
  · rw [h1]; exact ⟨hl, fun i hi => by simp at hi⟩
  · cases h1; exact h2
theorem blk_there {w : World} {b : Nat} {e : TypeId} {vs : List Value} (h : Blk w b e vs) (o n : Nat) (hn : o + n ≤ vs.length) : w.there b o n := fun j hj =>
  ⟨by rw [h.cell? (o + j), List.getElem?_eq_getElem (by omega)]; rfl, h.free _⟩
theorem blk_range {w : World} {b : Nat} {e : TypeId} {vs : List Value} (h : Blk w b e vs) : w.rangeAt b 0 vs := fun j v hv => by rw [Nat.zero_add]; exact h.cell j v hv
/-- what a slice from u to the end reads -/
theorem src_tail {w : World} {g u n c N : Nat} {xs : List Int} (h : Reads w g 0 xs) (hn : xs.length = n) (hc : n ≤ c) : Src w (fun _ => False) (if c = u then some ⟨g, 0, none⟩ else some ⟨g, u, none⟩) (c - u) ((xs.drop u).take N) := by
  refine ⟨by rw [List.length_take, List.length_drop]; omega, ?_⟩
  by_cases he : c = u
  · rw [if_pos he]
    exact .inr (.inl ⟨List.eq_nil_of_length_eq_zero (by rw [List.length_take, List.length_drop]; omega), _, rfl⟩)
  · rw [if_neg he]
    have h1 := (h.drop u).take N
    rw [Nat.zero_add] at h1
    exact .inr (.inr ⟨g, u, rfl, h1, fun h => h⟩)
theorem fr_ctrans {w a b : World} {S : Nat → Prop} {n : Nat} (h : Fr (fun _ => False) w a) (k : Fr S a b) (hS : ∀ i, S i → n ≤ i) (hn : w.heap.size ≤ n) : Fr (fun _ => False) w b :=
  h.trans k (fun i hi hs => by have := hS i hs; omega)
/-- a state's cells -/
def rcells (s : St) (t : Value) : List Value := .int .i64 (rk s.B) :: (hw s.B s.c ++ [.int .u64 (s.cnt : Int), t])
set_option maxHeartbeats 2000000 in
set_option maxRecDepth 100000 in
theorem given_calls (s : St) (At Ap : Option Addr) (ct cp : Nat) (p : List Int) (hbr : Bs s.rest) (hbp : Bs p) (hlen : s.rest.length + p.length ≤ 140737488355328) (hcnt : s.cnt + p.length < 18446744073709551616)
    (w : World) (hL : RLaid w) {S1 S2 : Nat → Prop} (hT : Src w S1 At ct s.rest) (hX : Src w S2 Ap cp p) :
    Calls Tryd.prog 66 #[.agg (rcells s (.slice At s.rest.length ct)).toArray, .slice Ap p.length cp] w fun e w' =>
      ∃ A c, e = .returned (.agg (rcells (given s p) (.slice A (given s p).rest.length c)).toArray) ∧ OwnL w' 5 1 (.slice A (given s p).rest.length c) (given s p).rest.length (bytes (given s p).rest) ∧
        (∀ k, (Value.slice A (given s p).rest.length c).ownBlock = some k → w.heap.size ≤ k) ∧ Fr (fun _ => False) w w' := by
  obtain ⟨B, cnt, ch, rest⟩ := s
  simp only at hbr hlen hcnt hT ⊢
  have hT0 := Kp.mk (hT.mono (S' := fun _ => False) (fun _ _ h => h.elim))
  have hX0 := Kp.mk (hX.mono (S' := fun _ => False) (fun _ _ h => h.elim))
  have HL := Kp.mk hL
  have HBs := Kp.mk (And.intro hbr hbp)
  clear hT hX hL hbr hbp
  obtain ⟨a0, a1, a2, a3, a4, a5, a6, a7, hh⟩ := hw_ints B ch
  have hrc : (rcells ⟨B, cnt, ch, rest⟩ (.slice At rest.length ct)).toArray = #[.int .i64 (rk B), .int .u64 a0, .int .u64 a1, .int .u64 a2, .int .u64 a3, .int .u64 a4, .int .u64 a5, .int .u64 a6, .int .u64 a7, .int .u64 (cnt : Int), .slice At rest.length ct] := by
    unfold rcells
    simp only [hh]
    rfl
  rw [hrc]
  have HH := Kp.mk hh
  clear hh hrc
  obtain ⟨rl, hrl⟩ : ∃ rl, rl = rest.length := ⟨_, rfl⟩
  obtain ⟨pl, hpl⟩ : ∃ pl, pl = p.length := ⟨_, rfl⟩
  rw [← hrl, ← hpl] at hlen
  rw [← hpl] at hcnt
  rw [← hrl, ← hpl]
  have HRL := Kp.mk hrl
  have HPL := Kp.mk hpl
  clear hrl hpl
  obtain ⟨R, hR⟩ : ∃ R, R = given ⟨B, cnt, ch, rest⟩ p := ⟨_, rfl⟩
  rw [← hR]
  have HR := Kp.mk hR
  clear hR
  obtain ⟨K, hK⟩ : ∃ K, K = rk B := ⟨_, rfl⟩
  rw [← hK]
  have hbl : ∀ w, Calls Tryd.prog 72 #[.int .i64 K] w fun e w' => e = .returned (.int .i64 (blk B : Nat)) ∧ Fr (fun _ => False) w w' := fun w => by rw [hK]; exact rblock_calls B w
  have HBL := Kp.mk hbl
  have HK := Kp.mk hK
  clear hbl hK
  go_enter Tryd.func66, Tryd.ntmps66
  go_upto_region 1 with (fail)
  obtain ⟨g2, hg2⟩ : ∃ g2, g2 = w.heap.size := ⟨_, rfl⟩
  obtain ⟨g4, hg4⟩ : ∃ g4, g4 = w.heap.size + 1 := ⟨_, rfl⟩
  rw [← hg4, ← hg2]
  obtain ⟨W1, hW1⟩ : ∃ W1, W1 = (w.alloc (.cells #[.int .i64 K, .int .u64 a0, .int .u64 a1, .int .u64 a2, .int .u64 a3, .int .u64 a4, .int .u64 a5, .int .u64 a6, .int .u64 a7, .int .u64 (cnt : Int), .slice At rl ct] 67)).alloc (.cells #[.int .i64 0, .int .u64 0, .int .u64 0, .int .u64 0, .int .u64 0, .int .u64 0, .int .u64 0, .int .u64 0, .int .u64 0, .int .u64 0, .slice none 0 0] 67) := ⟨_, rfl⟩
  have H2 : Kp (Blk W1 g2 67 [.int .i64 K, .int .u64 a0, .int .u64 a1, .int .u64 a2, .int .u64 a3, .int .u64 a4, .int .u64 a5, .int .u64 a6, .int .u64 a7, .int .u64 (cnt : Int), .slice At rl ct]) := ⟨by rw [hW1, hg2]; exact (Blk.new w _ _).alloc _⟩
  have H4 : Kp (Blk W1 g4 67 [.int .i64 0, .int .u64 0, .int .u64 0, .int .u64 0, .int .u64 0, .int .u64 0, .int .u64 0, .int .u64 0, .int .u64 0, .int .u64 0, .slice none 0 0]) := ⟨by rw [hW1, hg4]; exact Blk.new' _ _ _ (by simp)⟩
  have HG : Kp (w.heap.size ≤ g2 ∧ w.heap.size ≤ g4 ∧ g2 ≠ g4) := ⟨by omega⟩
  have HF1 : Kp (Fr (fun _ => False) w W1) := ⟨by rw [hW1]; exact ((Fr.refl _ w).alloc _).alloc _⟩
  rw [← hW1]
  clear hW1 hg2 hg4
  have ck : W1.cell? ⟨g2, 0, none⟩ = some (.int .i64 K) := H2.out.cell 0 _ rfl
  go_wp2_with fail
  refine (HBL.out W1).mono ?_
  rintro e W2 ⟨rfl, hf⟩
  have H2b := Kp.mk (H2.out.fr hf (fun h => h))
  have H4b := Kp.mk (H4.out.fr hf (fun h => h))
  have HFb := Kp.mk (HF1.out.trans hf (fun _ _ h => h))
  clear ck hf H2 H4 HF1
  have ct10 : W2.cell? ⟨g2, 10, none⟩ = some (.slice At rl ct) := H2b.out.cell 10 _ rfl
  obtain ⟨N, hN⟩ : ∃ N, N = blk B := ⟨_, rfl⟩
  rw [← hN]
  have HTb := Kp.mk (hT0.out.fr HFb.out)
  have Hown0 : Kp (W2.ownsRow W2.heap.size 5 1 (.slice none 0 0) ([] : List Int).length (bytes ([] : List Int))) := ⟨⟨rfl, .inl ⟨rfl, rfl⟩⟩⟩
  go_upto_region 4 with (at_builtin; refine wpList_appendS rfl (.tmp 12) (.tmp 14) rfl rfl W2.heap.size (.slice none 0 0) [] rfl Hown0.out At rl ct rest HRL.out rfl HTb.out (by rw [← HRL.out]; simp only [List.length_nil]; omega) (Nat.le_refl _) ?_; intro v5 w5 hown hgr hat; have HO5 := Kp.mk hown; have HGr5 := Kp.mk hgr; have HAt5 := Kp.mk hat; clear hown hgr hat)
  have hfg5 : Fr (fun _ => False) W2 w5 := Fr.grown (Fr.refl _ W2) HGr5.out (fun k _ h => by cases h)
  have HF5 := Kp.mk (HFb.out.trans hfg5 (fun _ _ h => h))
  have HXb := Kp.mk (hX0.out.fr HF5.out)
  go_upto_region 5 with (at_builtin; refine wpList_appendS rfl (.tmp 16) (.tmp 17) rfl rfl W2.heap.size v5 rest rfl HO5.out Ap pl cp p HPL.out rfl HXb.out (by rw [← HRL.out, ← HPL.out]; omega) hfg5.size ?_; intro v6 w6 hown hgr hat; have HO6 := Kp.mk hown; have HGr6 := Kp.mk hgr; have HAt6 := Kp.mk hat; clear hown hgr hat)
  obtain ⟨Lx, hLx⟩ : ∃ Lx, Lx = rest ++ p := ⟨_, rfl⟩
  rw [← hLx] at HO6
  have hll : Lx.length = rl + pl := by rw [hLx, List.length_append, ← HRL.out, ← HPL.out]
  obtain ⟨ll, hle⟩ : ∃ ll, ll = Lx.length := ⟨_, rfl⟩
  have HLl : Kp (Lx.length = ll) := ⟨hle.symm⟩
  have hl47 : ll ≤ 140737488355328 := by omega
  clear hll hle
  obtain ⟨A6, c6, hv6, hc6⟩ := own_shape HO6.out
  subst hv6
  rw [HLl.out] at HO6 hc6 ⊢
  have hfg6 : Fr (fun _ => False) W2 w6 := hfg5.trans (S' := fun k => v5.ownBlock = some k) (Fr.grown (Fr.refl _ w5) HGr6.out (fun k _ h => h)) (fun k hk h => by
    rcases HAt5.out with h1 | h1
    · rw [h1] at h; cases h
    · rw [h1] at h; have := Option.some.inj h; omega)
  have HF6 := Kp.mk (HFb.out.trans hfg6 (fun _ _ h => h))
  have H26 := Kp.mk (H2b.out.fr hfg6 (fun h => h))
  have H46 := Kp.mk (H4b.out.fr hfg6 (fun h => h))
  have HOL : Kp (OwnL w6 5 1 (.slice A6 (ll) c6) (ll) (bytes Lx)) := ⟨OwnL.of_own HO6.out⟩
  have HOB : Kp (∀ k, (Value.slice A6 (ll) c6).ownBlock = some k → w.heap.size ≤ k ∧ k ≠ g2 ∧ k ≠ g4) := ⟨fun k hk => by
    have h1 : W2.heap.size ≤ k := by
      rcases HO6.out.2 with ⟨h2, _⟩ | ⟨g, cap, cur, h2, hb, _⟩
      · rw [h2] at hk; cases hk
      · rw [h2] at hk; cases hk; exact hb
    have h2 := HFb.out.size
    have h3 := H2b.out.lt
    have h4 := H4b.out.lt
    exact ⟨by omega, by omega, by omega⟩⟩
  have HLx := Kp.mk hLx
  clear hLx HO6 hfg5 hfg6 HGr5 HAt5 HGr6 HAt6 HO5 HF5 H2b H4b HFb HXb HTb Hown0 ct10 hT0 hX0
  have c0 : w6.cell? ⟨g2, 0, none⟩ = some (.int .i64 K) := H26.out.cell 0 _ rfl
  have c1 : w6.cell? ⟨g2, 1, none⟩ = some (.int .u64 a0) := H26.out.cell 1 _ rfl
  have c2 : w6.cell? ⟨g2, 2, none⟩ = some (.int .u64 a1) := H26.out.cell 2 _ rfl
  have c3 : w6.cell? ⟨g2, 3, none⟩ = some (.int .u64 a2) := H26.out.cell 3 _ rfl
  have c4 : w6.cell? ⟨g2, 4, none⟩ = some (.int .u64 a3) := H26.out.cell 4 _ rfl
  have c5 : w6.cell? ⟨g2, 5, none⟩ = some (.int .u64 a4) := H26.out.cell 5 _ rfl
  have c6' : w6.cell? ⟨g2, 6, none⟩ = some (.int .u64 a5) := H26.out.cell 6 _ rfl
  have c7 : w6.cell? ⟨g2, 7, none⟩ = some (.int .u64 a6) := H26.out.cell 7 _ rfl
  have c8 : w6.cell? ⟨g2, 8, none⟩ = some (.int .u64 a7) := H26.out.cell 8 _ rfl
  have c9 : w6.cell? ⟨g2, 9, none⟩ = some (.int .u64 (cnt : Int)) := H26.out.cell 9 _ rfl
  go_upto_region 6 with (fail)
  clear c1 c2 c3 c4 c5 c6' c7 c8 c9 c0
  rw [← hN]
  have hNb : 0 < N ∧ N ≤ 128 := by rw [hN]; cases B <;> decide
  have HN := Kp.mk hN
  clear hN
  obtain ⟨g7, hg7⟩ : ∃ g7, g7 = w6.heap.size := ⟨_, rfl⟩
  rw [← hg7]
  obtain ⟨W7, hW7⟩ : ∃ W7, W7 = w6.alloc (.cells #[.int .i64 K, .int .u64 a0, .int .u64 a1, .int .u64 a2, .int .u64 a3, .int .u64 a4, .int .u64 a5, .int .u64 a6, .int .u64 a7, .int .u64 ((cnt : Int) + (pl : Int)), .slice none 0 0] 67) := ⟨_, rfl⟩
  have H7 : Kp (Blk W7 g7 67 (.int .i64 K :: (hw B (runC B ch Lx 0) ++ [.int .u64 ((cnt : Int) + (pl : Int)), .slice none 0 0]))) := ⟨by
    rw [hW7, hg7]
    show Blk _ _ _ (.int .i64 K :: (hw B ch ++ _))
    rw [HH.out]
    exact Blk.new w6 _ _⟩
  have hfg7 : Fr (fun _ => False) w6 W7 := by rw [hW7]; exact (Fr.refl _ w6).alloc _
  have HF7 := Kp.mk (HF6.out.trans hfg7 (fun _ _ h => h))
  have H27 := Kp.mk (H26.out.fr hfg7 (fun h => h))
  have H47 := Kp.mk (H46.out.fr hfg7 (fun h => h))
  have HO7 := Kp.mk (HOL.out.fr hfg7 (fun _ _ h => h))
  have HG7 : Kp (w.heap.size ≤ g7 ∧ g7 ≠ g2 ∧ g7 ≠ g4 ∧ ∀ k, (Value.slice A6 (ll) c6).ownBlock = some k → k ≠ g7) := ⟨by
    have h1 := HF6.out.size
    have h2 := H26.out.lt
    have h3 := H46.out.lt
    refine ⟨by omega, by omega, by omega, fun k hk => ?_⟩
    have := HOL.out.lt k hk
    omega⟩
  rw [← hW7]
  clear hW7 hg7 hfg7 HF6 H26 H46 HOL HH
  go_wp2
  go_loopw [8] (fun s8 wr => ∃ (k u : Nat), s8 = .int .i64 (u : Int) ∧ Kp (u = N * k) ∧ Kp (u ≤ ll) ∧ Kp (Blk wr g7 67 (.int .i64 K :: (hw B (runC B ch Lx k) ++ [.int .u64 ((cnt : Int) + (pl : Int)), .slice none 0 0]))) ∧ Kp (Blk wr g2 67 [.int .i64 K, .int .u64 a0, .int .u64 a1, .int .u64 a2, .int .u64 a3, .int .u64 a4, .int .u64 a5, .int .u64 a6, .int .u64 a7, .int .u64 (cnt : Int), .slice At rl ct]) ∧ Kp (Blk wr g4 67 [.int .i64 0, .int .u64 0, .int .u64 0, .int .u64 0, .int .u64 0, .int .u64 0, .int .u64 0, .int .u64 0, .int .u64 0, .int .u64 0, .slice none 0 0]) ∧ Kp (OwnL wr 5 1 (.slice A6 (ll) c6) (ll) (bytes Lx)) ∧ Kp (Fr (fun _ => False) w wr)) (fun s8 _ => ll - (intOf s8).toNat)
  case atStart => exact ⟨0, 0, rfl, ⟨rfl⟩, ⟨Nat.zero_le _⟩, H7, H27, H47, HO7, HF7⟩
  case round =>
    clear H7 H27 H47 HO7 HF7
    obtain ⟨k, u, rfl, hu, hul, H7, H2, H4, HO, HF⟩ := hrel
    have hul' := hul.out
    by_cases hlt : u + N ≤ ll
    · obtain ⟨g, cur, rfl, _, _, hcm, _⟩ := HO.out.open (by omega)
      obtain ⟨b0, b1, b2, b3, b4, b5, b6, b7, hh⟩ := hw_ints B (runC B ch Lx k)
      have H7' := H7.out
      rw [hh] at H7'
      have d1 : wr.cell? ⟨g7, 1, none⟩ = some (.int .u64 b0) := H7'.cell 1 _ rfl
      have d2 : wr.cell? ⟨g7, 2, none⟩ = some (.int .u64 b1) := H7'.cell 2 _ rfl
      have d3 : wr.cell? ⟨g7, 3, none⟩ = some (.int .u64 b2) := H7'.cell 3 _ rfl
      have d4 : wr.cell? ⟨g7, 4, none⟩ = some (.int .u64 b3) := H7'.cell 4 _ rfl
      have d5 : wr.cell? ⟨g7, 5, none⟩ = some (.int .u64 b4) := H7'.cell 5 _ rfl
      have d6 : wr.cell? ⟨g7, 6, none⟩ = some (.int .u64 b5) := H7'.cell 6 _ rfl
      have d7 : wr.cell? ⟨g7, 7, none⟩ = some (.int .u64 b6) := H7'.cell 7 _ rfl
      have d8 : wr.cell? ⟨g7, 8, none⟩ = some (.int .u64 b7) := H7'.cell 8 _ rfl
      have c0 : wr.cell? ⟨g2, 0, none⟩ = some (.int .i64 K) := H2.out.cell 0 _ rfl
      clear H7'
      have HHk := Kp.mk hh
      clear hh
      go_upto_region 8 with (fail)
      obtain ⟨ue, hue⟩ : ∃ ue, ue = u + N := ⟨_, rfl⟩
      have q1 : IntKind.i64.wrap ((u : Int) + (N : Int)) = (ue : Int) := by rw [IntKind.wrap_i64]; omega
      have q2 : (u : Int) ≤ (ue : Int) := by omega
      have q3 : (ue : Int) ≤ (c6 : Int) := by omega
      have q4 : u ≤ ue := by omega
      have q5 : ue - u = N := by omega
      have q6 : ((ue : Int) - (u : Int)).toNat = N := by omega
      have q7 : ue ≤ c6 := by omega
      have HUE := Kp.mk hue
      clear hue
      go_still_tail 10, (by kernel_rfl)
      change wpList _ _ _ _ _ wr.drew
      have HFd := Kp.mk (HF.out.drew)
      have H2d := Kp.mk (H2.out.drew)
      have H4d := Kp.mk (H4.out.drew)
      have H7d := Kp.mk (H7.out.drew)
      have HOd := Kp.mk (HO.out.fr ((Fr.refl (fun _ => False) wr).drew) (fun _ _ h => h))
      generalize World.drew wr = W8 at HFd H2d H4d H7d HOd ⊢
      have HA : Kp ((if c6 = u then some (⟨g, 0, none⟩ : Addr) else some ⟨g, u, none⟩) = some ⟨g, u, none⟩) := ⟨if_neg (by omega)⟩
      rw [HA.out]
      have hsrc : Src W8 (fun _ => False) (some ⟨g, u, none⟩) (c6 - u) ((Lx.drop u).take N) := by
        have h := src_tail (u := u) (N := N) HOd.out.reads HLl.out (show ll ≤ c6 by omega)
        rw [HA.out] at h
        exact h
      have hmx := rmixed_calls B (some ⟨g, u, none⟩) (c6 - u) ((Lx.drop u).take N) (((by rw [HLx.out]; exact fun b hb => (List.mem_append.1 hb).elim (HBs.out.1 b) (HBs.out.2 b) : Bs Lx).drop u).take N)
        (by rw [List.length_take, List.length_drop, HLl.out, ← HN.out]; omega) (runC B ch Lx k) W8 (HL.out.fr HFd.out) hsrc
      have hrun : mixC B (runC B ch Lx k) ((Lx.drop u).take N) = runC B ch Lx (k + 1) := by rw [hu.out, HN.out]; rfl
      rw [hrun, HHk.out, ← HK.out, ← HN.out] at hmx
      have HMX := Kp.mk hmx
      have HU : Kp (ue = N * (k + 1)) := ⟨by rw [HUE.out, hu.out, Nat.mul_succ]⟩
      clear hmx hrun hsrc HA d1 d2 d3 d4 d5 d6 d7 d8 c0 q1 q2 q3 q4 q5 q6 HF H2 H4 H7 HO HHk hu
      go_wp2_with fail
      refine HMX.out.mono ?_
      rintro e W9 ⟨rfl, hf⟩
      obtain ⟨hs, hhs⟩ : ∃ hs, hs = hw B (runC B ch Lx (k + 1)) := ⟨_, rfl⟩
      have hsl : hs.length = 8 := by rw [hhs]; exact hw_len _ _
      have hso : hs.toArray.all (fun v => v.oneCell') = true := by rw [hhs]; exact hw_one _ _
      rw [← hhs]
      have H7e := H7d.out.fr hf (fun h => h)
      have hth : W9.there g7 1 8 := blk_there H7e 1 8 (by simp [hw_len])
      have hi8 : (Tryd.prog.info? 65).map (·.size) = some 8 := by kernel_rfl
      have hst := fr_setCells g7 hs 1 W9
      have H7f : Kp (Blk (W9.setCells g7 1 hs.toArray.toList) g7 67 (.int .i64 K :: (hw B (runC B ch Lx (k + 1)) ++ [.int .u64 ((cnt : Int) + (pl : Int)), .slice none 0 0]))) := ⟨by rw [← hhs]; exact blk_words H7e (hw_len _ _) hsl⟩
      have H2f : Kp (Blk (W9.setCells g7 1 hs.toArray.toList) g2 67 [.int .i64 K, .int .u64 a0, .int .u64 a1, .int .u64 a2, .int .u64 a3, .int .u64 a4, .int .u64 a5, .int .u64 a6, .int .u64 a7, .int .u64 (cnt : Int), .slice At rl ct]) := ⟨(H2d.out.fr hf (fun h => h)).fr hst (fun he => HG7.out.2.1 he.symm)⟩
      have H4f : Kp (Blk (W9.setCells g7 1 hs.toArray.toList) g4 67 [.int .i64 0, .int .u64 0, .int .u64 0, .int .u64 0, .int .u64 0, .int .u64 0, .int .u64 0, .int .u64 0, .int .u64 0, .int .u64 0, .slice none 0 0]) := ⟨(H4d.out.fr hf (fun h => h)).fr hst (fun he => HG7.out.2.2.1 he.symm)⟩
      have HOf : Kp (OwnL (W9.setCells g7 1 hs.toArray.toList) 5 1 (.slice (some ⟨g, 0, none⟩) (ll) c6) (ll) (bytes Lx)) := ⟨(HOd.out.fr hf (fun _ _ h => h)).fr hst (fun k hk he => HG7.out.2.2.2 k hk he)⟩
      have HFf : Kp (Fr (fun _ => False) w (W9.setCells g7 1 hs.toArray.toList)) := ⟨(HFd.out.trans hf (fun _ _ h => h)).trans hst (fun k hk he => by have := HG7.out.1; omega)⟩
      have Hth := Kp.mk hth
      have hsz : hs.toArray.size = 8 := by simpa using hsl
      clear hth H7e hf hst hhs hsl HMX H7d H2d H4d HOd HFd
      go_wp2_with (refine wpList_store_mid rfl 65 _ _ rfl g7 1 hs.toArray rfl rfl (by rw [hsz]; exact Hth.out) (by rw [hsz]; exact hi8) hso ?_)
      clear hso hsz
      generalize World.setCells W9 g7 1 _ = W10 at H7f H2f H4f HOf HFf ⊢
      go_wp2
      refine ⟨⟨k + 1, ue, by rw [HUE.out]; go_num, HU, ⟨by rw [HUE.out]; exact hlt⟩, H7f, H2f, H4f, HOf, HFf⟩, ?_⟩
      simp [intOf]; omega
    · -- the rest
      have hk : k = (ll) / N := by
        have h1 := hu.out
        have h2 : N * k ≤ ll := by rw [← h1]; exact hul'
        have h3 : ll < N * (k + 1) := by rw [Nat.mul_succ, ← h1]; omega
        refine Nat.le_antisymm ?_ ?_
        · rw [Nat.le_div_iff_mul_le hNb.1, Nat.mul_comm]; exact h2
        · have := (Nat.div_lt_iff_lt_mul hNb.1).2 (by rw [Nat.mul_comm] at h3; exact h3)
          omega
      have hRR : R = ⟨B, cnt + pl, runC B ch Lx k, Lx.drop u⟩ := by
        rw [HR.out]
        unfold given absorb
        simp only
        rw [← HLx.out, HLl.out, ← HN.out, ← HPL.out, ← hk, ← hu.out]
      have HRR := Kp.mk hRR
      clear hRR hk
      -- the slice
      obtain ⟨AA, cA, hAA⟩ : ∃ AA cA, (A6 = none ∧ AA = none ∧ u = 0 ∧ ll = 0 ∧ c6 = 0 ∧ cA = 0) ∨ (∃ g, A6 = some ⟨g, 0, none⟩ ∧ AA = (if c6 = u then some (⟨g, 0, none⟩ : Addr) else some ⟨g, u, none⟩) ∧ cA = c6 - u) := by
        rcases HO.out.2 with ⟨h1, h2⟩ | ⟨g, cap, cur, h1, _⟩
        · simp only [Value.slice.injEq] at h1
          exact ⟨none, 0, .inl ⟨h1.1, rfl, by omega, h2, h1.2.2, rfl⟩⟩
        · simp only [Value.slice.injEq] at h1
          exact ⟨_, _, .inr ⟨g, h1.1, rfl, rfl⟩⟩
      obtain ⟨dl, hdl⟩ : ∃ dl, dl = ll - u := ⟨_, rfl⟩
      have HDL : Kp (dl = (Lx.drop u).length) := ⟨by rw [hdl, List.length_drop, HLl.out]⟩
      have HAS : Kp (Src wr (fun _ => False) AA cA (Lx.drop u)) := ⟨by
        rcases hAA with ⟨h1, h2, h3, h4, h5, h6⟩ | ⟨g, h1, h2, h3⟩
        · subst h2 h6
          have : Lx.drop u = [] := List.eq_nil_of_length_eq_zero (by rw [List.length_drop, HLl.out]; omega)
          rw [this]
          exact ⟨Nat.le_refl _, .inl ⟨rfl, rfl, rfl⟩⟩
        · subst h1 h2 h3
          have h := src_tail (u := u) (N := ll) HO.out.reads HLl.out hc6
          rw [List.take_of_length_le (by rw [List.length_drop, HLl.out]; omega)] at h
          exact h⟩
      have e10 : wr.cell? ⟨g7, 10, none⟩ = some (.slice none 0 0) := H7.out.cell 10 _ (by obtain ⟨b0, b1, b2, b3, b4, b5, b6, b7, hh⟩ := hw_ints B (runC B ch Lx k); rw [hh]; rfl)
      have f10 : wr.frozen? ⟨g7, 10, none⟩ = false := H7.out.free 10
      have hgt : (ll : Int) < (u : Int) + (N : Int) := by omega
      have hN128 := hNb.2
      clear HR hNb HBs hu hlt
      have q1 : (u : Int) ≤ (ll : Int) := by omega
      have q2 : ((ll : Int) - (u : Int)).toNat = dl := by omega
      have HDl := Kp.mk hdl
      clear hdl
      go_upto_region 10 with (fail)
      rcases hAA with ⟨rfl, rfl, rfl, h4, rfl, rfl⟩ | ⟨g, rfl, h2, h3⟩
      · obtain rfl : dl = 0 := by have := HDl.out; omega
        go_still_tail 5, (by kernel_rfl)
        change wpList _ _ _ _ _ wr.drew
        have HFd := Kp.mk (HF.out.drew)
        have H4d := Kp.mk (H4.out.drew)
        have H7d := Kp.mk (H7.out.drew)
        have HSd := Kp.mk (HAS.out.fr (Fr.refl (fun _ => False) wr).drew)
        have hlow : wr.drew.heap.size = wr.heap.size := rfl
        clear e10 f10 q1 q2 hlow HF H2 H4 H7 HO HAS
        generalize World.drew wr = W8 at HFd H4d H7d HSd ⊢
        obtain ⟨b0, b1, b2, b3, b4, b5, b6, b7, hh⟩ := hw_ints B (runC B ch Lx k)
        have HHk := Kp.mk hh
        rw [hh] at H7d
        clear hh
        have Hown0 : Kp (W8.ownsRow W8.heap.size 5 1 (.slice none 0 0) ([] : List Int).length (bytes ([] : List Int))) := ⟨⟨rfl, .inl ⟨rfl, rfl⟩⟩⟩
        have e10' : W8.cell? ⟨g7, 10, none⟩ = some (.slice none 0 0) := H7d.out.cell 10 _ rfl
        have f10' : W8.frozen? ⟨g7, 10, none⟩ = false := H7d.out.free 10
        go_upto_region 11 with (fail)
        have hnil : Lx.drop 0 = [] := List.eq_nil_of_length_eq_zero HDL.out.symm
        obtain ⟨w', hw'⟩ : ∃ w', w' = W8 := ⟨_, rfl⟩
        have HO' : Kp (W8.ownsRow W8.heap.size 5 1 (.slice none 0 0) 0 (bytes (Lx.drop 0))) := ⟨by rw [hnil]; exact Hown0.out⟩
        have Hfg : Kp (Fr (fun _ => False) W8 w') := ⟨by rw [hw']; exact Fr.refl _ _⟩
        have H7e := H7d
        rw [← hw'] at H7e HO' e10' f10' ⊢
        have hset := fr_setCells g7 [.slice none 0 0] 10 w'
        have H7f : Kp (Blk (w'.setCell ⟨g7, 10, none⟩ (.slice none 0 0)) g7 67 [.int .i64 K, .int .u64 b0, .int .u64 b1, .int .u64 b2, .int .u64 b3, .int .u64 b4, .int .u64 b5, .int .u64 b6, .int .u64 b7, .int .u64 ((cnt : Int) + (pl : Int)), .slice none 0 0]) := ⟨H7e.out.set 10 _⟩
        have H4f : Kp (Blk (w'.setCell ⟨g7, 10, none⟩ (.slice none 0 0)) g4 67 [.int .i64 0, .int .u64 0, .int .u64 0, .int .u64 0, .int .u64 0, .int .u64 0, .int .u64 0, .int .u64 0, .int .u64 0, .int .u64 0, .slice none 0 0]) := ⟨(H4d.out.fr Hfg.out (fun h => h)).fr hset (fun he => HG7.out.2.2.1 he.symm)⟩
        have HOf : Kp (OwnL (w'.setCell ⟨g7, 10, none⟩ (.slice none 0 0)) 5 1 (.slice none 0 0) 0 (bytes (Lx.drop 0)) ∧ ∀ i, (Value.slice none 0 0).ownBlock = some i → w.heap.size ≤ i ∧ i ≠ g4) := ⟨by
          exact ⟨(OwnL.of_own HO'.out).fr hset (fun i hi he => by cases hi), fun i hi => by cases hi⟩⟩
        have HFf : Kp (Fr (fun _ => False) w (w'.setCell ⟨g7, 10, none⟩ (.slice none 0 0))) := ⟨(HFd.out.trans Hfg.out (fun _ _ h => h)).trans hset (fun k hk he => by have := HG7.out.1; omega)⟩
        clear hset e10' f10' HO' H7e Hfg
        generalize World.setCell w' _ _ = Wz at H7f H4f HOf HFf ⊢
        have hi11 : (Tryd.prog.info? 67).map (·.size) = some 11 := by kernel_rfl
        have hone : (#[.int .i64 K, .int .u64 b0, .int .u64 b1, .int .u64 b2, .int .u64 b3, .int .u64 b4, .int .u64 b5, .int .u64 b6, .int .u64 b7, .int .u64 ((cnt : Int) + (pl : Int)), .slice none 0 0] : Array Value).all (fun v => v.oneCell') = true := by
          show (([.int .i64 K, .int .u64 b0, .int .u64 b1, .int .u64 b2, .int .u64 b3, .int .u64 b4, .int .u64 b5, .int .u64 b6, .int .u64 b7, .int .u64 ((cnt : Int) + (pl : Int)), .slice none 0 0] : List Value).toArray).all (fun v => v.oneCell') = true
          rw [List.all_toArray]; rfl
        have H4h := Kp.mk (show Wz.heap[g4]? = some (.cells #[.int .i64 0, .int .u64 0, .int .u64 0, .int .u64 0, .int .u64 0, .int .u64 0, .int .u64 0, .int .u64 0, .int .u64 0, .int .u64 0, .slice none 0 0] 67 (0, 0)) from H4f.out)
        have H7r := Kp.mk (blk_range H7f.out)
        go_wp2_with (first
          | refine wpList_load_mid rfl 67 _ rfl g7 0 rfl [.int .i64 K, .int .u64 b0, .int .u64 b1, .int .u64 b2, .int .u64 b3, .int .u64 b4, .int .u64 b5, .int .u64 b6, .int .u64 b7, .int .u64 ((cnt : Int) + (pl : Int)), .slice none 0 0] _ H7r.out Tryd.underlying67 rfl hi11 ?_
          | refine wpList_store_row rfl 67 _ _ rfl g4 #[.int .i64 K, .int .u64 b0, .int .u64 b1, .int .u64 b2, .int .u64 b3, .int .u64 b4, .int .u64 b5, .int .u64 b6, .int .u64 b7, .int .u64 ((cnt : Int) + (pl : Int)), .slice none 0 0] rfl rfl 67 #[.int .i64 0, .int .u64 0, .int .u64 0, .int .u64 0, .int .u64 0, .int .u64 0, .int .u64 0, .int .u64 0, .int .u64 0, .int .u64 0, .slice none 0 0] (by exact H4h.out) hi11 rfl hone ?_)
        refine bodyPost_ret (results_cell_row rfl _ _ g4 67 _ (0, 0) _ rfl (setRow_heap _ g4 _ _ _ _ H4f.out) Tryd.underlying67 rfl hi11) rfl ?_
        have hfz : Fr (fun k => k = g4) Wz (Wz.setRow g4 #[.int .i64 K, .int .u64 b0, .int .u64 b1, .int .u64 b2, .int .u64 b3, .int .u64 b4, .int .u64 b5, .int .u64 b6, .int .u64 b7, .int .u64 ((cnt : Int) + (pl : Int)), .slice none 0 0]) := ⟨rfl, rfl, rfl, by simp [World.setRow], fun k _ hk => setRow_other _ _ k _ hk⟩
        have hRl : R.rest.length = 0 := by rw [HRR.out]; exact HDL.out.symm
        rw [hRl]
        refine ⟨none, 0, ?_, ?_, fun i hi => (HOf.out.2 i hi).1, ?_⟩
        · rw [HRR.out]
          unfold rcells
          simp only [HHk.out]
          rw [HK.out, Int.natCast_add]
          rfl
        · rw [HRR.out]
          exact HOf.out.1.fr hfz (fun i hi he => (HOf.out.2 i hi).2 he)
        · exact HFf.out.trans hfz (fun k hk he => by have := HG.out.2.1; omega)
      · go_still_tail 5, (by kernel_rfl)
        rw [← h2, ← h3, ← HDl.out]
        clear h2 h3
        have hdl47 : dl ≤ 140737488355328 := by have := HDl.out; omega
        change wpList _ _ _ _ _ wr.drew
        have HFd := Kp.mk (HF.out.drew)
        have H4d := Kp.mk (H4.out.drew)
        have H7d := Kp.mk (H7.out.drew)
        have HSd := Kp.mk (HAS.out.fr (Fr.refl (fun _ => False) wr).drew)
        have hlow : wr.drew.heap.size = wr.heap.size := rfl
        clear e10 f10 q1 q2 hlow HF H2 H4 H7 HO HAS
        generalize World.drew wr = W8 at HFd H4d H7d HSd ⊢
        obtain ⟨b0, b1, b2, b3, b4, b5, b6, b7, hh⟩ := hw_ints B (runC B ch Lx k)
        have HHk := Kp.mk hh
        rw [hh] at H7d
        clear hh
        have Hown0 : Kp (W8.ownsRow W8.heap.size 5 1 (.slice none 0 0) ([] : List Int).length (bytes ([] : List Int))) := ⟨⟨rfl, .inl ⟨rfl, rfl⟩⟩⟩
        go_upto_region 11 with (at_builtin; refine wpList_appendS rfl (.tmp 52) (.tmp 55) rfl rfl W8.heap.size (.slice none 0 0) [] rfl Hown0.out AA dl cA (Lx.drop u) HDL.out rfl HSd.out (by rw [← HDL.out, List.length_nil, Nat.zero_add]; exact hdl47) (Nat.le_refl _) ?_; intro v' w' hown hgr hat; rw [List.nil_append] at hown; obtain ⟨A', c', hv', hc'⟩ := own_shape hown; subst hv'; rw [← HDL.out] at hown hc' ⊢; have HO' := Kp.mk hown; have hfg : Fr (fun _ => False) W8 w' := Fr.grown (Fr.refl _ W8) hgr (fun k _ h => by cases h); have H7e := Kp.mk (H7d.out.fr hfg (fun h => h)); have e10' : w'.cell? ⟨g7, 10, none⟩ = some (.slice none 0 0) := H7e.out.cell 10 _ rfl; have f10' : w'.frozen? ⟨g7, 10, none⟩ = false := H7e.out.free 10; have Hfg := Kp.mk hfg; clear hown hgr hat hfg)
        have hset := fr_setCells g7 [.slice A' dl c'] 10 w'
        have H7f : Kp (Blk (w'.setCell ⟨g7, 10, none⟩ (.slice A' dl c')) g7 67 [.int .i64 K, .int .u64 b0, .int .u64 b1, .int .u64 b2, .int .u64 b3, .int .u64 b4, .int .u64 b5, .int .u64 b6, .int .u64 b7, .int .u64 ((cnt : Int) + (pl : Int)), .slice A' dl c']) := ⟨H7e.out.set 10 _⟩
        have H4f : Kp (Blk (w'.setCell ⟨g7, 10, none⟩ (.slice A' dl c')) g4 67 [.int .i64 0, .int .u64 0, .int .u64 0, .int .u64 0, .int .u64 0, .int .u64 0, .int .u64 0, .int .u64 0, .int .u64 0, .int .u64 0, .slice none 0 0]) := ⟨(H4d.out.fr Hfg.out (fun h => h)).fr hset (fun he => HG7.out.2.2.1 he.symm)⟩
        have HOf : Kp (OwnL (w'.setCell ⟨g7, 10, none⟩ (.slice A' dl c')) 5 1 (.slice A' dl c') dl (bytes (Lx.drop u)) ∧ ∀ i, (Value.slice A' dl c').ownBlock = some i → w.heap.size ≤ i ∧ i ≠ g4) := ⟨by
          have hb : ∀ i, (Value.slice A' dl c').ownBlock = some i → W8.heap.size ≤ i := fun i hi => by
            rcases HO'.out.2 with ⟨h2, _⟩ | ⟨g, cap, cur, h2, hb, _⟩
            · rw [h2] at hi; cases hi
            · rw [h2] at hi; cases hi; exact hb
          have h7 := H7d.out.lt
          have h4 := H4d.out.lt
          have hs := HFd.out.size
          exact ⟨(OwnL.of_own HO'.out).fr hset (fun i hi he => by have := hb i hi; omega), fun i hi => by have := hb i hi; exact ⟨by omega, by omega⟩⟩⟩
        have HFf : Kp (Fr (fun _ => False) w (w'.setCell ⟨g7, 10, none⟩ (.slice A' dl c'))) := ⟨(HFd.out.trans Hfg.out (fun _ _ h => h)).trans hset (fun k hk he => by have := HG7.out.1; omega)⟩
        clear hset e10' f10' HO' H7e Hfg
        generalize World.setCell w' _ _ = Wz at H7f H4f HOf HFf ⊢
        have hi11 : (Tryd.prog.info? 67).map (·.size) = some 11 := by kernel_rfl
        have hone : (#[.int .i64 K, .int .u64 b0, .int .u64 b1, .int .u64 b2, .int .u64 b3, .int .u64 b4, .int .u64 b5, .int .u64 b6, .int .u64 b7, .int .u64 ((cnt : Int) + (pl : Int)), .slice A' dl c'] : Array Value).all (fun v => v.oneCell') = true := by
          show (([.int .i64 K, .int .u64 b0, .int .u64 b1, .int .u64 b2, .int .u64 b3, .int .u64 b4, .int .u64 b5, .int .u64 b6, .int .u64 b7, .int .u64 ((cnt : Int) + (pl : Int)), .slice A' dl c'] : List Value).toArray).all (fun v => v.oneCell') = true
          rw [List.all_toArray]; rfl
        have H4h := Kp.mk (show Wz.heap[g4]? = some (.cells #[.int .i64 0, .int .u64 0, .int .u64 0, .int .u64 0, .int .u64 0, .int .u64 0, .int .u64 0, .int .u64 0, .int .u64 0, .int .u64 0, .slice none 0 0] 67 (0, 0)) from H4f.out)
        have H7r := Kp.mk (blk_range H7f.out)
        go_wp2_with (first
          | refine wpList_load_mid rfl 67 _ rfl g7 0 rfl [.int .i64 K, .int .u64 b0, .int .u64 b1, .int .u64 b2, .int .u64 b3, .int .u64 b4, .int .u64 b5, .int .u64 b6, .int .u64 b7, .int .u64 ((cnt : Int) + (pl : Int)), .slice A' dl c'] _ H7r.out Tryd.underlying67 rfl hi11 ?_
          | refine wpList_store_row rfl 67 _ _ rfl g4 #[.int .i64 K, .int .u64 b0, .int .u64 b1, .int .u64 b2, .int .u64 b3, .int .u64 b4, .int .u64 b5, .int .u64 b6, .int .u64 b7, .int .u64 ((cnt : Int) + (pl : Int)), .slice A' dl c'] rfl rfl 67 #[.int .i64 0, .int .u64 0, .int .u64 0, .int .u64 0, .int .u64 0, .int .u64 0, .int .u64 0, .int .u64 0, .int .u64 0, .int .u64 0, .slice none 0 0] (by exact H4h.out) hi11 rfl hone ?_)
        refine bodyPost_ret (results_cell_row rfl _ _ g4 67 _ (0, 0) _ rfl (setRow_heap _ g4 _ _ _ _ H4f.out) Tryd.underlying67 rfl hi11) rfl ?_
        have hfz : Fr (fun k => k = g4) Wz (Wz.setRow g4 #[.int .i64 K, .int .u64 b0, .int .u64 b1, .int .u64 b2, .int .u64 b3, .int .u64 b4, .int .u64 b5, .int .u64 b6, .int .u64 b7, .int .u64 ((cnt : Int) + (pl : Int)), .slice A' dl c']) := ⟨rfl, rfl, rfl, by simp [World.setRow], fun k _ hk => setRow_other _ _ k _ hk⟩
        have hRl : R.rest.length = dl := by rw [HRR.out]; exact HDL.out.symm
        rw [hRl]
        refine ⟨A', c', ?_, ?_, fun i hi => (HOf.out.2 i hi).1, ?_⟩
        · rw [HRR.out]
          unfold rcells
          simp only [HHk.out]
          rw [HK.out, Int.natCast_add]
          rfl
        · rw [HRR.out]
          exact HOf.out.1.fr hfz (fun i hi he => (HOf.out.2 i hi).2 he)
        · exact HFf.out.trans hfz (fun k hk he => by have := HG.out.2.1; omega)
end Go.Proofs.YtjcfnflkiialbaaDoor.Sha
namespace Go.Proofs.YtjcfnflkiialbaaDoor.Sha
open Go.RowKit Go.Proofs.YtjcfnflkiialbaaDoor.Mem Go.Proofs.YtjcfnflkiialbaaDoorW.PrintWords
/-- n cells, the first i of them told by f, the others z -/
def upTo (n : Nat) (f : Nat → Value) (z : Value) (i : Nat) : List Value := (List.range n).map fun j => if j < i then f j else z
theorem upTo_len (n : Nat) (f : Nat → Value) (z : Value) (i : Nat) : (upTo n f z i).length = n := by simp [upTo]
theorem upTo_set (n : Nat) (f : Nat → Value) (z : Value) (i : Nat) (hi : i < n) : (upTo n f z i).set i (f i) = upTo n f z (i + 1) := by
  apply List.ext_getElem?
  intro j
  rw [List.getElem?_set]
  by_cases hij : i = j
  · subst hij
    simp [upTo, hi]
  · rw [if_neg hij]
    unfold upTo
    rcases Nat.lt_or_ge j n with hj | hj
    · simp only [List.getElem?_map, List.getElem?_range hj, Option.map_some]
      by_cases h1 : j < i
      · rw [if_pos h1, if_pos (by omega)]
      · rw [if_neg h1, if_neg (by omega)]
    · rw [List.getElem?_eq_none (by simpa using hj), List.getElem?_eq_none (by simpa using hj)]
theorem upTo_mid (n : Nat) (f : Nat → Value) (z : Value) (i : Nat) (hi : i < n) (x : Value) (post : List Value) : (x :: (upTo n f z i ++ post)).set (1 + i) (f i) = x :: (upTo n f z (i + 1) ++ post) := by
  rw [← upTo_set n f z i hi, Nat.add_comm 1 i, List.set_cons_succ, List.set_append_left _ _ (by rw [upTo_len]; exact hi)]
theorem upTo_at (n : Nat) (f : Nat → Value) (z : Value) (i : Nat) (hi : i < n) (x : Value) (post : List Value) : (x :: (upTo n f z i ++ post))[1 + i]? = some z := by
  rw [Nat.add_comm 1 i, List.getElem?_cons_succ, List.getElem?_append_left (by rw [upTo_len]; exact hi)]
  simp [upTo, hi]
theorem rcells_one (s : St) (A : Option Addr) (n c : Nat) : (rcells s (.slice A n c)).toArray.all (fun v => v.oneCell') = true := by
  unfold rcells
  obtain ⟨a0, a1, a2, a3, a4, a5, a6, a7, hh⟩ := hw_ints s.B s.c
  rw [hh, List.all_toArray]
  rfl
theorem rcells_len (s : St) (t : Value) : (rcells s t).length = 11 := by
  unfold rcells
  simp [hw_len]
theorem start_high : (List.range 8).all (fun i => (start64.list.getD i 0).toNat / 4294967296 == (start32.list.getD i 0).toNat) = true := by decide +kernel
set_option maxHeartbeats 2000000 in
set_option maxRecDepth 100000 in
theorem rbegin64_calls (w : World) (hL : RLaid w) :
    Calls Tryd.prog 63 #[.int .i64 2] w fun e w' => e = .returned (.agg (rcells (St.new true) (.slice none 0 0)).toArray) ∧ Fr (fun _ => False) w w' := by
  have HL := Kp.mk hL
  clear hL
  go_enter Tryd.func63, Tryd.ntmps63
  go_upto_region 2 with (fail)
  obtain ⟨g2, hg2⟩ : ∃ g2, g2 = w.heap.size := ⟨_, rfl⟩
  obtain ⟨g3, hg3⟩ : ∃ g3, g3 = w.heap.size + 1 := ⟨_, rfl⟩
  rw [← hg3, ← hg2]
  obtain ⟨f, hf⟩ : ∃ f : Nat → Value, f = fun j => .int .u64 ((start64.list.getD j 0).toNat : Int) := ⟨_, rfl⟩
  obtain ⟨W1, hW1⟩ : ∃ W1, W1 = (w.alloc (.cells #[.int .i64 0, .int .u64 0, .int .u64 0, .int .u64 0, .int .u64 0, .int .u64 0, .int .u64 0, .int .u64 0, .int .u64 0, .int .u64 0, .slice none 0 0] 67)).alloc (.cells #[.int .i64 2, .int .u64 0, .int .u64 0, .int .u64 0, .int .u64 0, .int .u64 0, .int .u64 0, .int .u64 0, .int .u64 0, .int .u64 0, .slice none 0 0] 67) := ⟨_, rfl⟩
  have H2 : Kp (Blk W1 g2 67 [.int .i64 0, .int .u64 0, .int .u64 0, .int .u64 0, .int .u64 0, .int .u64 0, .int .u64 0, .int .u64 0, .int .u64 0, .int .u64 0, .slice none 0 0]) := ⟨by rw [hW1, hg2]; exact (Blk.new w _ _).alloc _⟩
  have H3 : Kp (Blk W1 g3 67 (.int .i64 2 :: (upTo 8 f (.int .u64 0) 0 ++ [.int .u64 0, .slice none 0 0]))) := ⟨by rw [hW1, hg3]; exact Blk.new' _ _ _ (by simp)⟩
  have HG : Kp (w.heap.size ≤ g2 ∧ w.heap.size ≤ g3 ∧ g2 ≠ g3) := ⟨by omega⟩
  have HF : Kp (Fr (fun _ => False) w W1) := ⟨by rw [hW1]; exact ((Fr.refl _ w).alloc _).alloc _⟩
  rw [← hW1]
  have Hf := Kp.mk hf
  clear hW1 hg2 hg3 hf
  go_wp2
  go_loopw [4] (fun s4 wr => ∃ (i : Nat), s4 = .int .i64 (i : Int) ∧ Kp (i ≤ 8) ∧ Kp (Blk wr g2 67 [.int .i64 0, .int .u64 0, .int .u64 0, .int .u64 0, .int .u64 0, .int .u64 0, .int .u64 0, .int .u64 0, .int .u64 0, .int .u64 0, .slice none 0 0]) ∧ Kp (Blk wr g3 67 (.int .i64 2 :: (upTo 8 f (.int .u64 0) i ++ [.int .u64 0, .slice none 0 0]))) ∧ Kp (Fr (fun _ => False) w wr)) (fun s4 _ => 8 - (intOf s4).toNat)
  case atStart => exact ⟨0, rfl, ⟨by omega⟩, H2, H3, HF⟩
  case round =>
    clear H2 H3 HF
    obtain ⟨i, rfl, hi, H2, H3, HF⟩ := hrel
    have hi' := hi.out
    by_cases hlt : i < 8
    · have hc := (HL.out.fr HF.out).squares i hlt
      have hz := H3.out.cell (1 + i) _ (upTo_at 8 f _ i hlt _ _)
      have hfz : wr.frozen? ⟨g3, 1 + i, none⟩ = false := H3.out.free _
      have hfi : f i = .int .u64 ((start64.list.getD i 0).toNat : Int) := by rw [Hf.out]
      obtain ⟨ci, hci⟩ : ∃ ci, ci = (start64.list.getD i 0).toNat := ⟨_, rfl⟩
      rw [← hci] at hc hfi
      have H3n : Kp (Blk (wr.setCell ⟨g3, 1 + i, none⟩ (.int .u64 (ci : Int))) g3 67 (.int .i64 2 :: (upTo 8 f (.int .u64 0) (i + 1) ++ [.int .u64 0, .slice none 0 0]))) := ⟨by
        have h := H3.out.set (1 + i) (f i)
        rw [upTo_mid 8 f _ i hlt] at h
        rw [hfi] at h; exact h⟩
      have hfr : Fr (fun k => k = g3) wr (wr.setCell ⟨g3, 1 + i, none⟩ (.int .u64 (ci : Int))) := Fr.set (S := fun k => k = g3) (a := ⟨g3, 1 + i, none⟩) (Fr.refl (fun k => k = g3) wr) (fun _ => rfl) _
      have H2n := Kp.mk (H2.out.fr hfr (fun he => HG.out.2.2 he))
      have HFn := Kp.mk (HF.out.trans hfr (fun k hk he => by have := HG.out.2.1; omega))
      clear H2 H3 HF hfr hfi hci
      go_wp2
      generalize (World.setCell wr _ _) = Wn at H2n H3n HFn ⊢
      refine ⟨⟨i + 1, by go_num, ⟨hlt⟩, H2n, H3n, HFn⟩, ?_⟩
      simp [intOf]; omega
    · obtain rfl : i = 8 := by omega
      have hall : upTo 8 f (.int .u64 0) 8 = hw true (start true) := by rw [Hf.out]; rfl
      have H3z : Kp (Blk wr g3 67 (rcells (St.new true) (.slice none 0 0))) := ⟨by have h := H3.out; rw [hall] at h; exact h⟩
      have hi11 : (Tryd.prog.info? 67).map (·.size) = some 11 := by kernel_rfl
      have hi11b : (Tryd.prog.info? 67).map (·.size) = some (rcells (St.new true) (.slice none 0 0)).length := by rw [rcells_len]; exact hi11
      have hone := rcells_one (St.new true) none 0 0
      have hsz : (rcells (St.new true) (.slice none 0 0)).toArray.size = 11 := by simp [rcells_len]
      have H3r := Kp.mk (blk_range H3z.out)
      have H2h := Kp.mk (show wr.heap[g2]? = some (.cells #[.int .i64 0, .int .u64 0, .int .u64 0, .int .u64 0, .int .u64 0, .int .u64 0, .int .u64 0, .int .u64 0, .int .u64 0, .int .u64 0, .slice none 0 0] 67 (0, 0)) from H2.out)
      obtain ⟨cs, hcs⟩ : ∃ cs, cs = rcells (St.new true) (.slice none 0 0) := ⟨_, rfl⟩
      rw [← hcs] at H3r hi11b hone hsz
      have Hcs := Kp.mk hcs
      have Hcl : Kp (cs.length = 11) := ⟨by rw [hcs, rcells_len]⟩
      clear H3 H3z H2 hall hcs hi hi' hlt
      go_wp2_with (first
        | refine wpList_load_mid rfl 67 _ rfl g3 0 rfl cs _ H3r.out Tryd.underlying67 rfl hi11b ?_
        | refine wpList_store_row rfl 67 _ _ rfl g2 cs.toArray rfl rfl 67 #[.int .i64 0, .int .u64 0, .int .u64 0, .int .u64 0, .int .u64 0, .int .u64 0, .int .u64 0, .int .u64 0, .int .u64 0, .int .u64 0, .slice none 0 0] (by exact H2h.out) (by rw [hsz]; exact hi11) (by rw [hsz]; rfl) hone ?_)
      refine bodyPost_ret (results_cell_row rfl _ _ g2 67 _ (0, 0) _ rfl (setRow_heap _ g2 _ _ _ _ H2h.out) Tryd.underlying67 rfl (by rw [hsz]; exact hi11)) rfl ?_
      refine ⟨by rw [Hcs.out], ?_⟩
      exact HF.out.trans (S' := fun k => k = g2) ⟨rfl, rfl, rfl, by simp [World.setRow], fun k _ hk => setRow_other _ _ k _ hk⟩ (fun k hk he => by have := HG.out.1; omega)
set_option maxHeartbeats 2000000 in
set_option maxRecDepth 100000 in
theorem rbegin32_calls (w : World) (hL : RLaid w) :
    Calls Tryd.prog 63 #[.int .i64 1] w fun e w' => e = .returned (.agg (rcells (St.new false) (.slice none 0 0)).toArray) ∧ Fr (fun _ => False) w w' := by
  have HL := Kp.mk hL
  clear hL
  go_enter Tryd.func63, Tryd.ntmps63
  go_upto_region 2 with (fail)
  obtain ⟨g2, hg2⟩ : ∃ g2, g2 = w.heap.size := ⟨_, rfl⟩
  obtain ⟨g3, hg3⟩ : ∃ g3, g3 = w.heap.size + 1 := ⟨_, rfl⟩
  rw [← hg3, ← hg2]
  obtain ⟨f, hf⟩ : ∃ f : Nat → Value, f = fun j => .int .u64 ((start32.list.getD j 0).toNat : Int) := ⟨_, rfl⟩
  obtain ⟨W1, hW1⟩ : ∃ W1, W1 = (w.alloc (.cells #[.int .i64 0, .int .u64 0, .int .u64 0, .int .u64 0, .int .u64 0, .int .u64 0, .int .u64 0, .int .u64 0, .int .u64 0, .int .u64 0, .slice none 0 0] 67)).alloc (.cells #[.int .i64 1, .int .u64 0, .int .u64 0, .int .u64 0, .int .u64 0, .int .u64 0, .int .u64 0, .int .u64 0, .int .u64 0, .int .u64 0, .slice none 0 0] 67) := ⟨_, rfl⟩
  have H2 : Kp (Blk W1 g2 67 [.int .i64 0, .int .u64 0, .int .u64 0, .int .u64 0, .int .u64 0, .int .u64 0, .int .u64 0, .int .u64 0, .int .u64 0, .int .u64 0, .slice none 0 0]) := ⟨by rw [hW1, hg2]; exact (Blk.new w _ _).alloc _⟩
  have H3 : Kp (Blk W1 g3 67 (.int .i64 1 :: (upTo 8 f (.int .u64 0) 0 ++ [.int .u64 0, .slice none 0 0]))) := ⟨by rw [hW1, hg3]; exact Blk.new' _ _ _ (by simp)⟩
  have HG : Kp (w.heap.size ≤ g2 ∧ w.heap.size ≤ g3 ∧ g2 ≠ g3) := ⟨by omega⟩
  have HF : Kp (Fr (fun _ => False) w W1) := ⟨by rw [hW1]; exact ((Fr.refl _ w).alloc _).alloc _⟩
  rw [← hW1]
  have Hf := Kp.mk hf
  clear hW1 hg2 hg3 hf
  go_wp2
  go_loopw [4] (fun s4 wr => ∃ (i : Nat), s4 = .int .i64 (i : Int) ∧ Kp (i ≤ 8) ∧ Kp (Blk wr g2 67 [.int .i64 0, .int .u64 0, .int .u64 0, .int .u64 0, .int .u64 0, .int .u64 0, .int .u64 0, .int .u64 0, .int .u64 0, .int .u64 0, .slice none 0 0]) ∧ Kp (Blk wr g3 67 (.int .i64 1 :: (upTo 8 f (.int .u64 0) i ++ [.int .u64 0, .slice none 0 0]))) ∧ Kp (Fr (fun _ => False) w wr)) (fun s4 _ => 8 - (intOf s4).toNat)
  case atStart => exact ⟨0, rfl, ⟨by omega⟩, H2, H3, HF⟩
  case round =>
    clear H2 H3 HF
    obtain ⟨i, rfl, hi, H2, H3, HF⟩ := hrel
    have hi' := hi.out
    by_cases hlt : i < 8
    · have hc := (HL.out.fr HF.out).squares i hlt
      have hz := H3.out.cell (1 + i) _ (upTo_at 8 f _ i hlt _ _)
      have hfz : wr.frozen? ⟨g3, 1 + i, none⟩ = false := H3.out.free _
      have hfi : f i = .int .u64 ((start32.list.getD i 0).toNat : Int) := by rw [Hf.out]
      have hhi : (start64.list.getD i 0).toNat / 4294967296 = (start32.list.getD i 0).toNat := by
        have := List.all_eq_true.1 start_high i (List.mem_range.2 hlt)
        simpa using this
      rw [← hhi] at hfi
      obtain ⟨ci, hci⟩ : ∃ ci, ci = (start64.list.getD i 0).toNat := ⟨_, rfl⟩
      rw [← hci] at hc hfi hhi
      have H3n : Kp (Blk ((wr.setCell ⟨g3, 1 + i, none⟩ (.int .u64 (ci : Int))).setCell ⟨g3, 1 + i, none⟩ (.int .u64 ((ci : Int) / 4294967296))) g3 67 (.int .i64 1 :: (upTo 8 f (.int .u64 0) (i + 1) ++ [.int .u64 0, .slice none 0 0]))) := ⟨by
        have h := H3.out.set (1 + i) (f i)
        rw [upTo_mid 8 f _ i hlt] at h
        have h2 := (H3.out.set (1 + i) (.int .u64 (ci : Int))).set (1 + i) (f i)
        rw [List.set_set, upTo_mid 8 f _ i hlt, hfi, Int.natCast_ediv] at h2; exact h2⟩
      have hfr : Fr (fun k => k = g3) wr ((wr.setCell ⟨g3, 1 + i, none⟩ (.int .u64 (ci : Int))).setCell ⟨g3, 1 + i, none⟩ (.int .u64 ((ci : Int) / 4294967296))) := Fr.set (S := fun k => k = g3) (a := ⟨g3, 1 + i, none⟩) (Fr.set (S := fun k => k = g3) (a := ⟨g3, 1 + i, none⟩) (Fr.refl (fun k => k = g3) wr) (fun _ => rfl) _) (fun _ => rfl) _
      have H2n := Kp.mk (H2.out.fr hfr (fun he => HG.out.2.2 he))
      have HFn := Kp.mk (HF.out.trans hfr (fun k hk he => by have := HG.out.2.1; omega))
      clear H2 H3 HF hfr hfi hci
      go_wp2
      generalize (World.setCell _ _ _) = Wn at H2n H3n HFn ⊢
      refine ⟨⟨i + 1, by go_num, ⟨hlt⟩, H2n, H3n, HFn⟩, ?_⟩
      simp [intOf]; omega
    · obtain rfl : i = 8 := by omega
      have hall : upTo 8 f (.int .u64 0) 8 = hw false (start false) := by rw [Hf.out]; rfl
      have H3z : Kp (Blk wr g3 67 (rcells (St.new false) (.slice none 0 0))) := ⟨by have h := H3.out; rw [hall] at h; exact h⟩
      have hi11 : (Tryd.prog.info? 67).map (·.size) = some 11 := by kernel_rfl
      have hi11b : (Tryd.prog.info? 67).map (·.size) = some (rcells (St.new false) (.slice none 0 0)).length := by rw [rcells_len]; exact hi11
      have hone := rcells_one (St.new false) none 0 0
      have hsz : (rcells (St.new false) (.slice none 0 0)).toArray.size = 11 := by simp [rcells_len]
      have H3r := Kp.mk (blk_range H3z.out)
      have H2h := Kp.mk (show wr.heap[g2]? = some (.cells #[.int .i64 0, .int .u64 0, .int .u64 0, .int .u64 0, .int .u64 0, .int .u64 0, .int .u64 0, .int .u64 0, .int .u64 0, .int .u64 0, .slice none 0 0] 67 (0, 0)) from H2.out)
      obtain ⟨cs, hcs⟩ : ∃ cs, cs = rcells (St.new false) (.slice none 0 0) := ⟨_, rfl⟩
      rw [← hcs] at H3r hi11b hone hsz
      have Hcs := Kp.mk hcs
      have Hcl : Kp (cs.length = 11) := ⟨by rw [hcs, rcells_len]⟩
      clear H3 H3z H2 hall hcs hi hi' hlt
      go_wp2_with (first
        | refine wpList_load_mid rfl 67 _ rfl g3 0 rfl cs _ H3r.out Tryd.underlying67 rfl hi11b ?_
        | refine wpList_store_row rfl 67 _ _ rfl g2 cs.toArray rfl rfl 67 #[.int .i64 0, .int .u64 0, .int .u64 0, .int .u64 0, .int .u64 0, .int .u64 0, .int .u64 0, .int .u64 0, .int .u64 0, .int .u64 0, .slice none 0 0] (by exact H2h.out) (by rw [hsz]; exact hi11) (by rw [hsz]; rfl) hone ?_)
      refine bodyPost_ret (results_cell_row rfl _ _ g2 67 _ (0, 0) _ rfl (setRow_heap _ g2 _ _ _ _ H2h.out) Tryd.underlying67 rfl (by rw [hsz]; exact hi11)) rfl ?_
      refine ⟨by rw [Hcs.out], ?_⟩
      exact HF.out.trans (S' := fun k => k = g2) ⟨rfl, rfl, rfl, by simp [World.setRow], fun k _ hk => setRow_other _ _ k _ hk⟩ (fun k hk he => by have := HG.out.1; omega)
end Go.Proofs.YtjcfnflkiialbaaDoor.Sha
