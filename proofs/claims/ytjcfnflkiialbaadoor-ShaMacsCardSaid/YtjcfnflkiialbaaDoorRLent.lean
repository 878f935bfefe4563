/-
  Told, by the document, for either kind. Hash, Sum256 and Sum512, by the document. lent and whole of the laws, as plain lists.
-/
import Derived.Test.YtjcfnflkiialbaaDoorRBeg
import Derived.Test.YtjcfnflkiialbaaDoorRNum
import Derived.Test.YtjcfnflkiialbaaDoorOwnSrc
import Derived.Test.YtjcfnflkiialbaaDoorKept
namespace Go.Proofs.YtjcfnflkiialbaaDoor.Sha
open Go.RowKit Go.Proofs.YtjcfnflkiialbaaDoor.Mem Go.Proofs.YtjcfnflkiialbaaDoorW.PrintWords
theorem zeros_lt (B : Bool) (r j : Nat) (h : j < zerosFor B r) : (r + (1 + j) + blk B / 8) % blk B ≠ 0 := by
  cases B <;> simp only [zerosFor, blk] at h ⊢ <;> omega
theorem zeros_eq (B : Bool) (r : Nat) : (r + (1 + zerosFor B r) + blk B / 8) % blk B = 0 := by
  cases B <;> simp only [zerosFor, blk] <;> omega
theorem zeros_le (B : Bool) (r : Nat) : zerosFor B r < 128 := by
  cases B <;> simp only [zerosFor, blk] <;> omega
theorem padding_len (B : Bool) (r cnt : Nat) : (padding B r cnt).length ≤ 300 := by
  have := zeros_le B r
  cases B <;> simp [padding, be8, layWord] <;> omega
theorem bs_layWord {w : Nat} (x : BitVec w) (sz : Nat) : Bs (layWord x sz) := fun b hb => by
  obtain ⟨i, _, rfl⟩ := List.mem_map.1 hb
  omega
theorem bs_padding (B : Bool) (r cnt : Nat) : Bs (padding B r cnt) := fun b hb => by
  unfold padding at hb
  simp only [List.mem_append, List.cons_append, List.mem_cons] at hb
  rcases hb with rfl | (hb | hb) | hb
  · decide
  · have := (List.mem_replicate.1 hb).2; omega
  · split at hb
    · have := (List.mem_replicate.1 hb).2; omega
    · cases hb
  · exact bs_layWord _ _ b hb
theorem sum_given (s : St) : s.sum = words s.B (given s (padding s.B s.rest.length s.cnt)).c := rfl
theorem own_first (w : World) (x : Int) : (w.alloc (.cells #[.int .u8 x] 5)).ownsRow w.heap.size 5 1 (.slice (some ⟨w.heap.size, 0, none⟩) 1 1) 1 (bytes [x]) :=
  ⟨rfl, .inr ⟨w.heap.size, 1, #[.int .u8 x], rfl, Nat.le_refl _, Blk.new w #[.int .u8 x] 5, Nat.le_refl _, by decide, rfl, rfl⟩⟩
set_option maxHeartbeats 2000000 in
set_option maxRecDepth 100000 in
theorem rtold64_calls (cnt : Nat) (ch : Chain) (rest : List Int) (hcnt : cnt ≤ maxCount) (hbr : Bs rest) (hr : rest.length ≤ 1000) (At : Option Addr) (ct : Nat) (w : World) (hL : RLaid w) {S1 : Nat → Prop} (hT : Src w S1 At ct rest) :
    Calls Tryd.prog 65 #[.agg (rcells ⟨true, cnt, ch, rest⟩ (.slice At rest.length ct)).toArray] w fun e w' =>
      ∃ A c, e = .returned (.slice A (St.mk true cnt ch rest).sum.length c) ∧ OwnL w' 5 1 (.slice A (St.mk true cnt ch rest).sum.length c) (St.mk true cnt ch rest).sum.length (bytes (St.mk true cnt ch rest).sum) ∧
        (∀ k, (Value.slice A (St.mk true cnt ch rest).sum.length c).ownBlock = some k → w.heap.size ≤ k) ∧ Fr (fun _ => False) w w' := by
  have hT0 := Kp.mk (hT.mono (S' := fun _ => False) (fun _ _ h => h.elim))
  have HL := Kp.mk hL
  have HBs := Kp.mk hbr
  have hcnt' : cnt ≤ 2305843009213693951 := hcnt
  clear hT hL hbr hcnt
  obtain ⟨a0, a1, a2, a3, a4, a5, a6, a7, hh⟩ := hw_ints true ch
  have hrc : (rcells ⟨true, cnt, ch, rest⟩ (.slice At rest.length ct)) = [.int .i64 2, .int .u64 a0, .int .u64 a1, .int .u64 a2, .int .u64 a3, .int .u64 a4, .int .u64 a5, .int .u64 a6, .int .u64 a7, .int .u64 (cnt : Int), .slice At rest.length ct] := by
    unfold rcells
    simp only [hh]
    rfl
  have hgc := fun (Ap : Option Addr) (cp : Nat) (w1 : World) (hf : Fr (fun _ => False) w w1) (hX : Src w1 (fun _ => False) Ap cp (padding true rest.length cnt)) =>
    given_calls ⟨true, cnt, ch, rest⟩ At Ap ct cp (padding true rest.length cnt) HBs.out (bs_padding _ _ _) (by have := padding_len true rest.length cnt; simp only; omega) (by have := padding_len true rest.length cnt; simp only; omega) w1 (HL.out.fr hf) (hT0.out.fr hf) hX
  rw [hrc]
  simp only at hgc
  rw [hrc] at hgc
  clear hrc hh
  obtain ⟨R, hR⟩ : ∃ R, R = given ⟨true, cnt, ch, rest⟩ (padding true rest.length cnt) := ⟨_, rfl⟩
  obtain ⟨SM, hSM⟩ : ∃ SM, SM = (St.mk true cnt ch rest).sum := ⟨_, rfl⟩
  have hSR : SM = words true R.c := by rw [hSM, hR]; rfl
  rw [← hSM]
  rw [← hR] at hgc
  obtain ⟨rl, hrl⟩ : ∃ rl, rl = rest.length := ⟨_, rfl⟩
  rw [← hrl] at hr hgc ⊢
  have HGC := Kp.mk hgc
  have HSR := Kp.mk hSR
  have HRL := Kp.mk hrl
  have hRB : Kp (R.B = true) := ⟨by rw [hR]; rfl⟩
  clear hgc hSR hR hSM hrl
  go_enter Tryd.func65, Tryd.ntmps65
  go_upto_region 1 with (fail)
  obtain ⟨g1, hg1⟩ : ∃ g1, g1 = w.heap.size := ⟨_, rfl⟩
  obtain ⟨W1, hW1⟩ : ∃ W1, W1 = w.alloc (.cells #[.int .i64 2, .int .u64 a0, .int .u64 a1, .int .u64 a2, .int .u64 a3, .int .u64 a4, .int .u64 a5, .int .u64 a6, .int .u64 a7, .int .u64 (cnt : Int), .slice At rl ct] 67) := ⟨_, rfl⟩
  have H1 : Kp (Blk W1 g1 67 [.int .i64 2, .int .u64 a0, .int .u64 a1, .int .u64 a2, .int .u64 a3, .int .u64 a4, .int .u64 a5, .int .u64 a6, .int .u64 a7, .int .u64 (cnt : Int), .slice At rl ct]) := ⟨by rw [hW1, hg1]; exact Blk.new w _ _⟩
  have HF1 : Kp (Fr (fun _ => False) w W1) := ⟨by rw [hW1]; exact (Fr.refl _ w).alloc _⟩
  have HG : Kp (w.heap.size ≤ g1) := ⟨by omega⟩
  rw [← hg1, ← hW1]
  clear hW1 hg1
  have ck : W1.cell? ⟨g1, 0, none⟩ = some (.int .i64 2) := H1.out.cell 0 _ rfl
  go_wp2_with fail
  refine (block_calls2 W1).mono ?_
  rintro e W2 ⟨rfl, hd⟩
  have hf := Fr.of_below hd.below (fun _ => False)
  have H2 := Kp.mk (H1.out.fr hf (fun h => h))
  have HF2 := Kp.mk (HF1.out.trans hf (fun _ _ h => h))
  clear ck hf hd H1 HF1
  have ck : W2.cell? ⟨g1, 0, none⟩ = some (.int .i64 2) := H2.out.cell 0 _ rfl
  go_wp2
  have O3 : Kp ((W2.alloc (.cells #[.int .u8 128] 5)).ownsRow w.heap.size 5 1 (.slice (some ⟨W2.heap.size, 0, none⟩) (1 + 0) 1) (1 + 0) (bytes (128 :: List.replicate 0 0))) := ⟨own_base (own_first W2 128) HF2.out.size⟩
  have H3 := Kp.mk (H2.out.alloc (.cells #[.int .u8 128] 5))
  have HF3 := Kp.mk (HF2.out.alloc (.cells #[.int .u8 128] 5))
  clear ck
  go_loopw [5] (fun s5 wr => ∃ k g cp : Nat, s5 = .slice (some ⟨g, 0, none⟩) (1 + k) cp ∧ Kp (k ≤ zerosFor true rl) ∧ Kp (wr.ownsRow w.heap.size 5 1 (.slice (some ⟨g, 0, none⟩) (1 + k) cp) (1 + k) (bytes (128 :: List.replicate k 0))) ∧ Kp (Fr (fun _ => False) w wr) ∧ Kp (Blk wr g1 67 [.int .i64 2, .int .u64 a0, .int .u64 a1, .int .u64 a2, .int .u64 a3, .int .u64 a4, .int .u64 a5, .int .u64 a6, .int .u64 a7, .int .u64 (cnt : Int), .slice At rl ct])) (fun s5 _ => 400 - lenOf s5)
  case atStart => exact ⟨0, W2.heap.size, 1, rfl, ⟨Nat.zero_le _⟩, O3, HF3, H3⟩
  case round =>
    clear O3 H3 HF3 H2 HF2
    obtain ⟨k, g, cp, rfl, A1, HO, HF, H1⟩ := hrel
    have hk : k < 128 := Nat.lt_of_le_of_lt A1.out (zeros_le _ _)
    have ct10 : wr.cell? ⟨g1, 10, none⟩ = some (.slice At rl ct) := H1.out.cell 10 _ rfl
    have HXL : Kp ((128 :: List.replicate k (0 : Int)).length = 1 + k) := ⟨by simp; omega⟩
    have HOx : Kp (wr.ownsRow w.heap.size 5 1 (.slice (some ⟨g, 0, none⟩) (1 + k) cp) (128 :: List.replicate k (0 : Int)).length (bytes (128 :: List.replicate k 0))) := ⟨by rw [HXL.out]; exact HO.out⟩
    by_cases hlt : k < zerosFor true rl
    · have hne : (rl + (1 + k) + 16) % 128 ≠ 0 := zeros_lt true rl k hlt
      have hdec : (((rl : Int) + (1 + (k : Int)) + 16) % 128 != 0) = true := by rw [bne_iff_ne]; omega
      have HS1 : Kp ((128 :: List.replicate k (0 : Int)) ++ [0] = 128 :: List.replicate (k + 1) 0) := ⟨by rw [List.replicate_succ']; rfl⟩
      have HL2 : Kp ((128 :: List.replicate (k + 1) (0 : Int)).length = 1 + (k + 1)) := ⟨by simp; omega⟩
      generalize hxs : 128 :: List.replicate k (0 : Int) = xs at HXL HOx HS1
      clear hxs HO hne
      go_wp2_with (at_builtin; refine wpList_appendS rfl _ _ rfl rfl w.heap.size (.slice (some ⟨g, 0, none⟩) (1 + k) cp) xs rfl (by exact own_keep HOx.out ((Fr.refl (fun _ => False) wr).alloc _) (fun _ _ h => h)) (some ⟨wr.heap.size, 0, none⟩) 1 1 [0] rfl rfl (by exact src_new wr [0] 5 1 (Nat.le_refl _)) (by rw [HXL.out]; simp only [List.length_cons, List.length_nil]; omega) (by exact (HF.out.alloc (.cells #[.int .u8 0] 5)).size) ?_; intro v5 w5 hown hgr hat; obtain ⟨g5, cp5, hv, _⟩ := own_form hown (by simp); subst hv; obtain ⟨hF, hE⟩ := app_step (HF.out.alloc (.cells #[.int .u8 0] 5)) (by exact own_keep HOx.out ((Fr.refl (fun _ => False) wr).alloc _) (fun _ _ h => h)) (H1.out.alloc _) (by decide) hgr; have HO5 := Kp.mk hown; have HF5 := Kp.mk hF; have HE5 := Kp.mk hE; clear hown hgr hat hF hE)
      go_roundw
      case rel =>
        refine ⟨k + 1, g5, cp5, ?_, ⟨hlt⟩, ⟨?_⟩, HF5, HE5⟩
        · congr 1; have := HXL.out; omega
        · have h := HO5.out
          rw [HS1.out, HL2.out] at h
          exact h
      case measure => simp [lenOf]; have := HXL.out; omega
    · have hz : k = zerosFor true rl := Nat.le_antisymm A1.out (Nat.le_of_not_lt hlt)
      have heq : (rl + (1 + k) + 16) % 128 = 0 := by rw [hz]; exact zeros_eq true rl
      have hdec : (((rl : Int) + (1 + (k : Int)) + 16) % 128 != 0) = false := by rw [bne_eq_false_iff_eq]; omega
      have HK := Kp.mk hz
      clear hz heq hlt A1
      go_upto_region 6 with (fail)
      obtain ⟨xs, hxs⟩ : ∃ xs, xs = 128 :: List.replicate k (0 : Int) := ⟨_, rfl⟩
      rw [← hxs] at HXL HOx
      have hpad : xs ++ layWord 0#64 8 ++ layWord (BitVec.ofNat 64 (8 * cnt)) 8 = padding true rl cnt := by rw [hxs, HK.out]; unfold padding; simp [be8, List.append_assoc]; rfl
      have HPAD := Kp.mk hpad
      clear hxs hpad HO ct10 hdec HK
      have c0 : wr.cell? ⟨g1, 0, none⟩ = some (.int .i64 2) := H1.out.cell 0 _ rfl
      have c9 : wr.cell? ⟨g1, 9, none⟩ = some (.int .u64 (cnt : Int)) := H1.out.cell 9 _ rfl
      go_wp2_with fail
      have hs61 : (cnt : Int) / 2305843009213693952 = 0 := by omega
      rw [hs61]
      refine (bo_calls8 0#64 wr).mono ?_
      rintro e wa ⟨Aa, ca, rfl, hsrc, hf⟩
      have HSa := Kp.mk hsrc
      have HOa := Kp.mk (own_keep HOx.out hf (fun _ _ h => h))
      have HFa := Kp.mk (HF.out.trans hf (fun _ _ h => h))
      have H1a := Kp.mk (H1.out.fr hf (fun h => h))
      clear hsrc hf HOx HF H1 c9 c0 hs61
      go_upto_region 8 with (at_builtin; refine wpList_appendS rfl _ _ rfl rfl w.heap.size (.slice (some ⟨g, 0, none⟩) (1 + k) cp) xs rfl HOa.out Aa 8 ca (layWord 0#64 8) (by simp [layWord]) rfl HSa.out (by rw [HXL.out]; simp only [layWord, List.length_map, List.length_range]; omega) HFa.out.size ?_; intro v6 w6 hown hgr hat; obtain ⟨g6, cp6, hv, _⟩ := own_form hown (by simp [layWord]); subst hv; obtain ⟨n6, hn6⟩ : ∃ n6, n6 = (xs ++ (layWord 0#64 8)).length := ⟨_, rfl⟩; rw [← hn6] at hown ⊢; have HN6 := Kp.mk hn6; clear hn6; obtain ⟨hF, hE⟩ := app_step HFa.out HOa.out H1a.out (by decide) hgr; have HO6 := Kp.mk hown; have HF6 := Kp.mk hF; have H16 := Kp.mk hE; clear hown hgr hat hF hE)
      obtain ⟨ys, hys⟩ : ∃ ys, ys = xs ++ layWord 0#64 8 := ⟨_, rfl⟩
      have hpd := HPAD.out
      rw [← hys] at hpd
      have HPAD := Kp.mk hpd
      rw [← hys] at HO6 HN6
      have hn6 : n6 ≤ 200 := by rw [HN6.out, hys, List.length_append, HXL.out]; simp [layWord]; omega
      have HYL : Kp (ys.length = n6) := ⟨HN6.out.symm⟩
      have HO6 : Kp (w6.ownsRow w.heap.size 5 1 (.slice (some ⟨g6, 0, none⟩) n6 cp6) ys.length (bytes ys)) := ⟨by rw [HYL.out]; exact HO6.out⟩
      clear hpd
      clear hys HSa HOa HFa H1a
      obtain ⟨wb, hwb⟩ : ∃ wb, wb = w6 := ⟨_, rfl⟩
      rw [← hwb] at HO6 HF6 H16 ⊢
      have HOb := HO6
      have HFb := HF6
      have H1b := H16
      clear hwb HO6 HF6 H16
      have c9 : wb.cell? ⟨g1, 9, none⟩ = some (.int .u64 (cnt : Int)) := H1b.out.cell 9 _ rfl
      have hsh : (cnt : Int) * 8 = ((BitVec.ofNat 64 (8 * cnt)).toNat : Int) := by rw [BitVec.toNat_ofNat]; omega
      have hsw : IntKind.u64.wrap ((cnt : Int) * 8) = (cnt : Int) * 8 := by rw [wrap64u]; omega
      obtain ⟨X8, hX8⟩ : ∃ X8, X8 = BitVec.ofNat 64 (8 * cnt) := ⟨_, rfl⟩
      rw [← hX8] at hsh HPAD
      have HSH := Kp.mk hsh
      clear hX8 hsh
      go_wp2_with fail
      (try rw [hsw])
      rw [HSH.out]
      refine (bo_calls8 X8 wb).mono ?_
      rintro e wc ⟨Ac, cc, rfl, hsrc, hf⟩
      have HSc := Kp.mk hsrc
      have HOc := Kp.mk (own_keep HOb.out hf (fun _ _ h => h))
      have HFc := Kp.mk (HFb.out.trans hf (fun _ _ h => h))
      have H1c := Kp.mk (H1b.out.fr hf (fun h => h))
      clear hsrc hf HOb HFb H1b c9 hsw
      go_upto_region 9 with (at_builtin; refine wpList_appendS rfl _ _ rfl rfl w.heap.size (.slice (some ⟨g6, 0, none⟩) n6 cp6) ys rfl HOc.out Ac 8 cc (layWord X8 8) (by simp [layWord]) rfl HSc.out (by rw [HYL.out]; simp only [layWord, List.length_map, List.length_range]; omega) HFc.out.size ?_; intro v7 w7 hown hgr hat; obtain ⟨g7, cp7, hv, _⟩ := own_form hown (by simp [layWord]); subst hv; obtain ⟨n7, hn7⟩ : ∃ n7, n7 = (ys ++ (layWord X8 8)).length := ⟨_, rfl⟩; rw [← hn7] at hown ⊢; have HN7 := Kp.mk hn7; clear hn7; obtain ⟨hF, hE⟩ := app_step HFc.out HOc.out H1c.out (by decide) hgr; have HO7 := Kp.mk hown; have HF7 := Kp.mk hF; have H17 := Kp.mk hE; clear hown hgr hat hF hE)
      rw [HPAD.out] at HO7 HN7
      have hi11 : (Tryd.prog.info? 67).map (·.size) = some 11 := by kernel_rfl
      have H1r := Kp.mk (blk_range H17.out)
      obtain ⟨hxx, hsrc⟩ := (OwnL.of_own HO7.out).src (fun _ => False) (fun _ _ h => h)
      have HCL := Kp.mk (HGC.out (some ⟨g7, 0, none⟩) cp7 w7 HF7.out hsrc)
      rw [← HN7.out] at HCL
      clear hxx hsrc HOc HSc HPAD HO7 HGC HN7
      go_wp2_with (refine wpList_load_mid rfl 67 _ rfl g1 0 rfl [.int .i64 2, .int .u64 a0, .int .u64 a1, .int .u64 a2, .int .u64 a3, .int .u64 a4, .int .u64 a5, .int .u64 a6, .int .u64 a7, .int .u64 (cnt : Int), .slice At rl ct] _ H1r.out Tryd.underlying67 rfl hi11 ?_)
      refine HCL.out.mono ?_
      rintro e W9 ⟨A9, c9, rfl, _, _, hf9⟩
      have HF9 := Kp.mk (HF7.out.trans hf9 (fun _ _ h => h))
      have H19 := Kp.mk (H17.out.fr hf9 (fun h => h))
      clear hf9 HCL H1r HFc H1c
      obtain ⟨cs, hcs⟩ : ∃ cs, cs = rcells R (.slice A9 R.rest.length c9) := ⟨_, rfl⟩
      have hone := rcells_one R A9 R.rest.length c9
      have hsz : cs.toArray.size = 11 := by rw [hcs]; simp [rcells_len]
      rw [← hcs] at hone ⊢
      have hform : cs = .int .i64 2 :: (v64 R.c.l ++ [.int .u64 (R.cnt : Int), .slice A9 R.rest.length c9]) := by
        rw [hcs]; unfold rcells; rw [hRB.out]; rfl
      have HForm := Kp.mk hform
      clear hcs hform
      have hrow : Kp ((W9.alloc (.cells #[.int .i64 0, .int .u64 0, .int .u64 0, .int .u64 0, .int .u64 0, .int .u64 0, .int .u64 0, .int .u64 0, .int .u64 0, .int .u64 0, .slice none 0 0] 67)).heap[W9.heap.size]? = some (.cells #[.int .i64 0, .int .u64 0, .int .u64 0, .int .u64 0, .int .u64 0, .int .u64 0, .int .u64 0, .int .u64 0, .int .u64 0, .int .u64 0, .slice none 0 0] 67 (0, 0))) := ⟨Blk.new W9 _ _⟩
      go_upto_region 10 with (refine wpList_store_row rfl 67 _ _ rfl W9.heap.size cs.toArray rfl rfl 67 #[.int .i64 0, .int .u64 0, .int .u64 0, .int .u64 0, .int .u64 0, .int .u64 0, .int .u64 0, .int .u64 0, .int .u64 0, .int .u64 0, .slice none 0 0] (by exact hrow.out) (by rw [hsz]; exact hi11) (by rw [hsz]; rfl) hone ?_)
      obtain ⟨g6, hg6⟩ : ∃ g6, g6 = W9.heap.size := ⟨_, rfl⟩
      have H6 : Kp (Blk ((W9.alloc (.cells #[.int .i64 0, .int .u64 0, .int .u64 0, .int .u64 0, .int .u64 0, .int .u64 0, .int .u64 0, .int .u64 0, .int .u64 0, .int .u64 0, .slice none 0 0] 67)).setRow W9.heap.size cs.toArray) g6 67 (.int .i64 2 :: (v64 R.c.l ++ [.int .u64 (R.cnt : Int), .slice A9 R.rest.length c9]))) := ⟨by rw [hg6, ← HForm.out]; exact blk_row W9 _ _ _⟩
      have HFx := Kp.mk (fr_row HF9.out (.cells #[.int .i64 0, .int .u64 0, .int .u64 0, .int .u64 0, .int .u64 0, .int .u64 0, .int .u64 0, .int .u64 0, .int .u64 0, .int .u64 0, .slice none 0 0] 67) cs.toArray)
      have H1x := Kp.mk (H19.out.fr (fr_row (Fr.refl (fun _ => False) W9) (.cells #[.int .i64 0, .int .u64 0, .int .u64 0, .int .u64 0, .int .u64 0, .int .u64 0, .int .u64 0, .int .u64 0, .int .u64 0, .int .u64 0, .slice none 0 0] 67) cs.toArray) (fun h => h))
      have HG6 : Kp (w.heap.size ≤ g6) := ⟨by rw [hg6]; exact HF9.out.size⟩
      rw [← hg6] at H6 HFx H1x ⊢
      generalize World.setRow _ g6 _ = Wx at H6 HFx H1x ⊢
      clear hg6 hrow hone hsz HF9 H19 HForm
      have O0 : Kp (Wx.ownsRow w.heap.size 5 1 (.slice none 0 0) 0 (bytes ((R.c.l.list.take 0).flatMap fun x => layWord x 8))) := ⟨⟨rfl, .inl ⟨rfl, rfl⟩⟩⟩
      go_wp2
      go_loopw [7, 8] (fun s7 s8 wr => ∃ (i len c : Nat) (A : Option Addr), s7 = .slice A len c ∧ s8 = .int .i64 (i : Int) ∧ Kp (i ≤ 8) ∧ Kp (len = 8 * i) ∧ Kp (wr.ownsRow w.heap.size 5 1 (.slice A len c) len (bytes ((R.c.l.list.take i).flatMap fun x => layWord x 8))) ∧ Kp (Fr (fun _ => False) w wr) ∧ Kp (Blk wr g1 67 [.int .i64 2, .int .u64 a0, .int .u64 a1, .int .u64 a2, .int .u64 a3, .int .u64 a4, .int .u64 a5, .int .u64 a6, .int .u64 a7, .int .u64 (cnt : Int), .slice At rl ct]) ∧ Kp (Blk wr g6 67 (.int .i64 2 :: (v64 R.c.l ++ [.int .u64 (R.cnt : Int), .slice A9 R.rest.length c9])))) (fun _ s8 _ => 8 - (intOf s8).toNat)
      case atStart => exact ⟨0, 0, 0, none, rfl, rfl, ⟨by omega⟩, ⟨rfl⟩, O0, HFx, H1x, H6⟩
      case round =>
        clear O0 HFx H1x H6
        obtain ⟨i, len, cz, Az, rfl, rfl, hi, hlen, HO, HF, H1, H6⟩ := hrel
        have hi' := hi.out
        by_cases hlt : i < 8
        · have c0 : wr.cell? ⟨g1, 0, none⟩ = some (.int .i64 2) := H1.out.cell 0 _ rfl
          obtain ⟨x, hx⟩ : ∃ x, x = R.c.l.list.getD i 0 := ⟨_, rfl⟩
          have HAT : Kp ((.int .i64 2 :: (v64 R.c.l ++ [.int .u64 (R.cnt : Int), .slice A9 R.rest.length c9]) : List Value)[1 + i]? = some (.int .u64 (x.toNat : Int))) := ⟨by
            rw [Nat.add_comm 1 i, List.getElem?_cons_succ, List.getElem?_append_left (by have : (v64 R.c.l).length = 8 := rfl; omega), v64_at R.c.l i hlt, hx]⟩
          have c6 : wr.cell? ⟨g6, 1 + i, none⟩ = some (.int .u64 (x.toNat : Int)) := H6.out.cell (1 + i) _ HAT.out
          have hsn := cl_snoc R.c.l.list 8 i (by show i < 8; exact hlt)
          have htl : ((R.c.l.list.take i).flatMap fun x => layWord x 8).length = len := by rw [cl_len, List.length_take, hlen.out]; show min i 8 * 8 = _; omega
          rw [← hx] at hsn
          generalize ((R.c.l.list.take i).flatMap fun x => layWord x 8) = L at HO hsn htl
          have HSN := Kp.mk hsn
          have HTL := Kp.mk htl
          have HOx : Kp (wr.ownsRow w.heap.size 5 1 (.slice Az len cz) L.length (bytes L)) := ⟨by rw [htl]; exact HO.out⟩
          clear hx hsn htl HO
          go_upto_region 14 with (fail)
          have hll : L.length ≤ 64 := by rw [HTL.out, hlen.out]; omega
          have hlw : (layWord x 8).length = 8 := by simp [layWord]
          go_region_held3 (fun w' => w'.cell? ⟨g6, 1 + i, none⟩ = some (.int .u64 (x.toNat : Int)) ∧ w'.cell? ⟨g1, 0, none⟩ = some (.int .i64 2)) (first | go_keep | exact ⟨H6z.out.cell _ _ HAT.out, H1z.out.cell 0 _ rfl⟩ | exact ⟨H6B.out.cell _ _ HAT.out, H1B.out.cell 0 _ rfl⟩ | exact ⟨H6A.out.cell _ _ HAT.out, H1A.out.cell 0 _ rfl⟩) (first
            | (go_at_call 48; (refine (wide_calls2 _).mono ?_); rintro e' wA ⟨rfl, hfA⟩; have hfa : Fr (fun _ => False) wr wA := ((Fr.refl (fun _ => False) wr).drew).trans hfA (fun _ _ h => h); have HFA := Kp.mk (HF.out.trans hfa (fun _ _ h => h)); have H1A := Kp.mk (H1.out.fr hfa (fun h => h)); have H6A := Kp.mk (H6.out.fr hfa (fun h => h)); have HOA := Kp.mk (own_keep HOx.out hfa (fun _ _ h => h)); clear hfA hfa)
            | (go_at_call 47; (refine (bo_calls8 x _).mono ?_); rintro e' wB ⟨Af, cf, rfl, hsrc, hfB⟩; have HSB := Kp.mk hsrc; have HFB := Kp.mk (HFA.out.trans hfB (fun _ _ h => h)); have H1B := Kp.mk (H1A.out.fr hfB (fun h => h)); have H6B := Kp.mk (H6A.out.fr hfB (fun h => h)); have HOB := Kp.mk (own_keep HOA.out hfB (fun _ _ h => h)); clear hfB hsrc)
            | (refine step_appendS (by rfl) _ _ (by rfl) (by rfl) w.heap.size (.slice Az len cz) L (by rfl) HOB.out Af 8 cf (layWord x 8) hlw.symm (by rfl) HSB.out (by rw [hlw]; omega) HFB.out.size ?_; intro vz wz hown hgr hat; obtain ⟨gz, cpz, hv, hvv⟩ := own_form hown (by rw [List.length_append, hlw]; omega); subst hv; obtain ⟨hF, hE⟩ := app_step HFB.out HOB.out H1B.out (by decide) hgr; have HOz := Kp.mk hown; have HFz := Kp.mk hF; have H1z := Kp.mk hE; have H6z := Kp.mk (app_step HFB.out HOB.out H6B.out (by decide) hgr).2; clear hown hgr hat hF hE hvv))
          (try go_wp2)
          have hOn : wz.ownsRow w.heap.size 5 1 (.slice (some ⟨gz, 0, none⟩) (L.length + 8) cpz) (L.length + 8) (bytes ((R.c.l.list.take (i + 1)).flatMap fun x => layWord x 8)) := by
            have h := HOz.out
            rw [List.length_append, hlw, HSN.out] at h
            exact h
          refine ⟨⟨i + 1, _, cpz, some ⟨gz, 0, none⟩, rfl, by go_num, ⟨hlt⟩, ⟨by rw [HTL.out, hlen.out]; omega⟩, ⟨hOn⟩, HFz, H1z, H6z⟩, ?_⟩
          simp [intOf]; omega
        · obtain rfl : i = 8 := by omega
          have HE : Kp (len = SM.length ∧ wr.ownsRow w.heap.size 5 1 (.slice Az len cz) len (bytes SM)) := ⟨by
            have h := HO.out
            have hall : (R.c.l.list.take 8) = R.c.l.list := rfl
            rw [hall] at h
            rw [HSR.out]
            refine ⟨?_, h⟩
            have h1 := hlen.out
            show len = (R.c.l.list.flatMap fun x => layWord x 8).length
            rw [cl_len, h1]
            rfl⟩
          obtain ⟨rfl, hO⟩ := HE.out
          clear HE HO H1 H6
          have HOZ := Kp.mk hO
          clear hO
          go_wp2
          go_ret
          exact ⟨Az, cz, rfl, OwnL.of_own HOZ.out, fun k hk => (own_lt HOZ.out hk).2, HF.out⟩
set_option maxHeartbeats 2000000 in
set_option maxRecDepth 100000 in
theorem rtold32_calls (cnt : Nat) (ch : Chain) (rest : List Int) (hcnt : cnt ≤ maxCount) (hbr : Bs rest) (hr : rest.length ≤ 1000) (At : Option Addr) (ct : Nat) (w : World) (hL : RLaid w) {S1 : Nat → Prop} (hT : Src w S1 At ct rest) :
    Calls Tryd.prog 65 #[.agg (rcells ⟨false, cnt, ch, rest⟩ (.slice At rest.length ct)).toArray] w fun e w' =>
      ∃ A c, e = .returned (.slice A (St.mk false cnt ch rest).sum.length c) ∧ OwnL w' 5 1 (.slice A (St.mk false cnt ch rest).sum.length c) (St.mk false cnt ch rest).sum.length (bytes (St.mk false cnt ch rest).sum) ∧
        (∀ k, (Value.slice A (St.mk false cnt ch rest).sum.length c).ownBlock = some k → w.heap.size ≤ k) ∧ Fr (fun _ => False) w w' := by
  have hT0 := Kp.mk (hT.mono (S' := fun _ => False) (fun _ _ h => h.elim))
  have HL := Kp.mk hL
  have HBs := Kp.mk hbr
  have hcnt' : cnt ≤ 2305843009213693951 := hcnt
  clear hT hL hbr hcnt
  obtain ⟨a0, a1, a2, a3, a4, a5, a6, a7, hh⟩ := hw_ints false ch
  have hrc : (rcells ⟨false, cnt, ch, rest⟩ (.slice At rest.length ct)) = [.int .i64 1, .int .u64 a0, .int .u64 a1, .int .u64 a2, .int .u64 a3, .int .u64 a4, .int .u64 a5, .int .u64 a6, .int .u64 a7, .int .u64 (cnt : Int), .slice At rest.length ct] := by
    unfold rcells
    simp only [hh]
    rfl
  have hgc := fun (Ap : Option Addr) (cp : Nat) (w1 : World) (hf : Fr (fun _ => False) w w1) (hX : Src w1 (fun _ => False) Ap cp (padding false rest.length cnt)) =>
    given_calls ⟨false, cnt, ch, rest⟩ At Ap ct cp (padding false rest.length cnt) HBs.out (bs_padding _ _ _) (by have := padding_len false rest.length cnt; simp only; omega) (by have := padding_len false rest.length cnt; simp only; omega) w1 (HL.out.fr hf) (hT0.out.fr hf) hX
  rw [hrc]
  simp only at hgc
  rw [hrc] at hgc
  clear hrc hh
  obtain ⟨R, hR⟩ : ∃ R, R = given ⟨false, cnt, ch, rest⟩ (padding false rest.length cnt) := ⟨_, rfl⟩
  obtain ⟨SM, hSM⟩ : ∃ SM, SM = (St.mk false cnt ch rest).sum := ⟨_, rfl⟩
  have hSR : SM = words false R.c := by rw [hSM, hR]; rfl
  rw [← hSM]
  rw [← hR] at hgc
  obtain ⟨rl, hrl⟩ : ∃ rl, rl = rest.length := ⟨_, rfl⟩
  rw [← hrl] at hr hgc ⊢
  have HGC := Kp.mk hgc
  have HSR := Kp.mk hSR
  have HRL := Kp.mk hrl
  have hRB : Kp (R.B = false) := ⟨by rw [hR]; rfl⟩
  clear hgc hSR hR hSM hrl
  go_enter Tryd.func65, Tryd.ntmps65
  go_upto_region 1 with (fail)
  obtain ⟨g1, hg1⟩ : ∃ g1, g1 = w.heap.size := ⟨_, rfl⟩
  obtain ⟨W1, hW1⟩ : ∃ W1, W1 = w.alloc (.cells #[.int .i64 1, .int .u64 a0, .int .u64 a1, .int .u64 a2, .int .u64 a3, .int .u64 a4, .int .u64 a5, .int .u64 a6, .int .u64 a7, .int .u64 (cnt : Int), .slice At rl ct] 67) := ⟨_, rfl⟩
  have H1 : Kp (Blk W1 g1 67 [.int .i64 1, .int .u64 a0, .int .u64 a1, .int .u64 a2, .int .u64 a3, .int .u64 a4, .int .u64 a5, .int .u64 a6, .int .u64 a7, .int .u64 (cnt : Int), .slice At rl ct]) := ⟨by rw [hW1, hg1]; exact Blk.new w _ _⟩
  have HF1 : Kp (Fr (fun _ => False) w W1) := ⟨by rw [hW1]; exact (Fr.refl _ w).alloc _⟩
  have HG : Kp (w.heap.size ≤ g1) := ⟨by omega⟩
  rw [← hg1, ← hW1]
  clear hW1 hg1
  have ck : W1.cell? ⟨g1, 0, none⟩ = some (.int .i64 1) := H1.out.cell 0 _ rfl
  go_wp2_with fail
  refine (block_calls1 W1).mono ?_
  rintro e W2 ⟨rfl, hd⟩
  have hf := Fr.of_below hd.below (fun _ => False)
  have H2 := Kp.mk (H1.out.fr hf (fun h => h))
  have HF2 := Kp.mk (HF1.out.trans hf (fun _ _ h => h))
  clear ck hf hd H1 HF1
  have ck : W2.cell? ⟨g1, 0, none⟩ = some (.int .i64 1) := H2.out.cell 0 _ rfl
  go_wp2
  have O3 : Kp ((W2.alloc (.cells #[.int .u8 128] 5)).ownsRow w.heap.size 5 1 (.slice (some ⟨W2.heap.size, 0, none⟩) (1 + 0) 1) (1 + 0) (bytes (128 :: List.replicate 0 0))) := ⟨own_base (own_first W2 128) HF2.out.size⟩
  have H3 := Kp.mk (H2.out.alloc (.cells #[.int .u8 128] 5))
  have HF3 := Kp.mk (HF2.out.alloc (.cells #[.int .u8 128] 5))
  clear ck
  go_loopw [5] (fun s5 wr => ∃ k g cp : Nat, s5 = .slice (some ⟨g, 0, none⟩) (1 + k) cp ∧ Kp (k ≤ zerosFor false rl) ∧ Kp (wr.ownsRow w.heap.size 5 1 (.slice (some ⟨g, 0, none⟩) (1 + k) cp) (1 + k) (bytes (128 :: List.replicate k 0))) ∧ Kp (Fr (fun _ => False) w wr) ∧ Kp (Blk wr g1 67 [.int .i64 1, .int .u64 a0, .int .u64 a1, .int .u64 a2, .int .u64 a3, .int .u64 a4, .int .u64 a5, .int .u64 a6, .int .u64 a7, .int .u64 (cnt : Int), .slice At rl ct])) (fun s5 _ => 400 - lenOf s5)
  case atStart => exact ⟨0, W2.heap.size, 1, rfl, ⟨Nat.zero_le _⟩, O3, HF3, H3⟩
  case round =>
    clear O3 H3 HF3 H2 HF2
    obtain ⟨k, g, cp, rfl, A1, HO, HF, H1⟩ := hrel
    have hk : k < 128 := Nat.lt_of_le_of_lt A1.out (zeros_le _ _)
    have ct10 : wr.cell? ⟨g1, 10, none⟩ = some (.slice At rl ct) := H1.out.cell 10 _ rfl
    have HXL : Kp ((128 :: List.replicate k (0 : Int)).length = 1 + k) := ⟨by simp; omega⟩
    have HOx : Kp (wr.ownsRow w.heap.size 5 1 (.slice (some ⟨g, 0, none⟩) (1 + k) cp) (128 :: List.replicate k (0 : Int)).length (bytes (128 :: List.replicate k 0))) := ⟨by rw [HXL.out]; exact HO.out⟩
    by_cases hlt : k < zerosFor false rl
    · have hne : (rl + (1 + k) + 8) % 64 ≠ 0 := zeros_lt false rl k hlt
      have hdec : (((rl : Int) + (1 + (k : Int)) + 8) % 64 != 0) = true := by rw [bne_iff_ne]; omega
      have HS1 : Kp ((128 :: List.replicate k (0 : Int)) ++ [0] = 128 :: List.replicate (k + 1) 0) := ⟨by rw [List.replicate_succ']; rfl⟩
      have HL2 : Kp ((128 :: List.replicate (k + 1) (0 : Int)).length = 1 + (k + 1)) := ⟨by simp; omega⟩
      generalize hxs : 128 :: List.replicate k (0 : Int) = xs at HXL HOx HS1
      clear hxs HO hne
      go_wp2_with (at_builtin; refine wpList_appendS rfl _ _ rfl rfl w.heap.size (.slice (some ⟨g, 0, none⟩) (1 + k) cp) xs rfl (by exact own_keep HOx.out ((Fr.refl (fun _ => False) wr).alloc _) (fun _ _ h => h)) (some ⟨wr.heap.size, 0, none⟩) 1 1 [0] rfl rfl (by exact src_new wr [0] 5 1 (Nat.le_refl _)) (by rw [HXL.out]; simp only [List.length_cons, List.length_nil]; omega) (by exact (HF.out.alloc (.cells #[.int .u8 0] 5)).size) ?_; intro v5 w5 hown hgr hat; obtain ⟨g5, cp5, hv, _⟩ := own_form hown (by simp); subst hv; obtain ⟨hF, hE⟩ := app_step (HF.out.alloc (.cells #[.int .u8 0] 5)) (by exact own_keep HOx.out ((Fr.refl (fun _ => False) wr).alloc _) (fun _ _ h => h)) (H1.out.alloc _) (by decide) hgr; have HO5 := Kp.mk hown; have HF5 := Kp.mk hF; have HE5 := Kp.mk hE; clear hown hgr hat hF hE)
      go_roundw
      case rel =>
        refine ⟨k + 1, g5, cp5, ?_, ⟨hlt⟩, ⟨?_⟩, HF5, HE5⟩
        · congr 1; have := HXL.out; omega
        · have h := HO5.out
          rw [HS1.out, HL2.out] at h
          exact h
      case measure => simp [lenOf]; have := HXL.out; omega
    · have hz : k = zerosFor false rl := Nat.le_antisymm A1.out (Nat.le_of_not_lt hlt)
      have heq : (rl + (1 + k) + 8) % 64 = 0 := by rw [hz]; exact zeros_eq false rl
      have hdec : (((rl : Int) + (1 + (k : Int)) + 8) % 64 != 0) = false := by rw [bne_eq_false_iff_eq]; omega
      have HK := Kp.mk hz
      clear hz heq hlt A1
      go_upto_region 6 with (fail)
      obtain ⟨xs, hxs⟩ : ∃ xs, xs = 128 :: List.replicate k (0 : Int) := ⟨_, rfl⟩
      rw [← hxs] at HXL HOx
      have hpad : xs ++ layWord (BitVec.ofNat 64 (8 * cnt)) 8 = padding false rl cnt := by rw [hxs, HK.out]; unfold padding; simp [be8]
      have HPAD := Kp.mk hpad
      clear hxs hpad HO ct10 hdec HK
      have c0 : wr.cell? ⟨g1, 0, none⟩ = some (.int .i64 1) := H1.out.cell 0 _ rfl
      go_upto_region 8 with (fail)
      obtain ⟨wb, hwb⟩ : ∃ wb, wb = wr := ⟨_, rfl⟩
      rw [← hwb] at HOx HF H1 ⊢
      have HOb := HOx
      have HFb := HF
      have H1b := H1
      clear hwb HOx HF H1 c0
      have c9 : wb.cell? ⟨g1, 9, none⟩ = some (.int .u64 (cnt : Int)) := H1b.out.cell 9 _ rfl
      have hsh : (cnt : Int) * 8 = ((BitVec.ofNat 64 (8 * cnt)).toNat : Int) := by rw [BitVec.toNat_ofNat]; omega
      have hsw : IntKind.u64.wrap ((cnt : Int) * 8) = (cnt : Int) * 8 := by rw [wrap64u]; omega
      obtain ⟨X8, hX8⟩ : ∃ X8, X8 = BitVec.ofNat 64 (8 * cnt) := ⟨_, rfl⟩
      rw [← hX8] at hsh HPAD
      have HSH := Kp.mk hsh
      clear hX8 hsh
      go_wp2_with fail
      (try rw [hsw])
      rw [HSH.out]
      refine (bo_calls8 X8 wb).mono ?_
      rintro e wc ⟨Ac, cc, rfl, hsrc, hf⟩
      have HSc := Kp.mk hsrc
      have HOc := Kp.mk (own_keep HOb.out hf (fun _ _ h => h))
      have HFc := Kp.mk (HFb.out.trans hf (fun _ _ h => h))
      have H1c := Kp.mk (H1b.out.fr hf (fun h => h))
      clear hsrc hf HOb HFb H1b c9 hsw
      go_upto_region 9 with (at_builtin; refine wpList_appendS rfl _ _ rfl rfl w.heap.size (.slice (some ⟨g, 0, none⟩) (1 + k) cp) xs rfl HOc.out Ac 8 cc (layWord X8 8) (by simp [layWord]) rfl HSc.out (by rw [HXL.out]; simp only [layWord, List.length_map, List.length_range]; omega) HFc.out.size ?_; intro v7 w7 hown hgr hat; obtain ⟨g7, cp7, hv, _⟩ := own_form hown (by simp [layWord]); subst hv; obtain ⟨n7, hn7⟩ : ∃ n7, n7 = (xs ++ (layWord X8 8)).length := ⟨_, rfl⟩; rw [← hn7] at hown ⊢; have HN7 := Kp.mk hn7; clear hn7; obtain ⟨hF, hE⟩ := app_step HFc.out HOc.out H1c.out (by decide) hgr; have HO7 := Kp.mk hown; have HF7 := Kp.mk hF; have H17 := Kp.mk hE; clear hown hgr hat hF hE)
      rw [HPAD.out] at HO7 HN7
      have hi11 : (Tryd.prog.info? 67).map (·.size) = some 11 := by kernel_rfl
      have H1r := Kp.mk (blk_range H17.out)
      obtain ⟨hxx, hsrc⟩ := (OwnL.of_own HO7.out).src (fun _ => False) (fun _ _ h => h)
      have HCL := Kp.mk (HGC.out (some ⟨g7, 0, none⟩) cp7 w7 HF7.out hsrc)
      rw [← HN7.out] at HCL
      clear hxx hsrc HOc HSc HPAD HO7 HGC HN7
      go_wp2_with (refine wpList_load_mid rfl 67 _ rfl g1 0 rfl [.int .i64 1, .int .u64 a0, .int .u64 a1, .int .u64 a2, .int .u64 a3, .int .u64 a4, .int .u64 a5, .int .u64 a6, .int .u64 a7, .int .u64 (cnt : Int), .slice At rl ct] _ H1r.out Tryd.underlying67 rfl hi11 ?_)
      refine HCL.out.mono ?_
      rintro e W9 ⟨A9, c9, rfl, _, _, hf9⟩
      have HF9 := Kp.mk (HF7.out.trans hf9 (fun _ _ h => h))
      have H19 := Kp.mk (H17.out.fr hf9 (fun h => h))
      clear hf9 HCL H1r HFc H1c
      obtain ⟨cs, hcs⟩ : ∃ cs, cs = rcells R (.slice A9 R.rest.length c9) := ⟨_, rfl⟩
      have hone := rcells_one R A9 R.rest.length c9
      have hsz : cs.toArray.size = 11 := by rw [hcs]; simp [rcells_len]
      rw [← hcs] at hone ⊢
      have hform : cs = .int .i64 1 :: (v32w R.c.s ++ [.int .u64 (R.cnt : Int), .slice A9 R.rest.length c9]) := by
        rw [hcs]; unfold rcells; rw [hRB.out]; rfl
      have HForm := Kp.mk hform
      clear hcs hform
      have hrow : Kp ((W9.alloc (.cells #[.int .i64 0, .int .u64 0, .int .u64 0, .int .u64 0, .int .u64 0, .int .u64 0, .int .u64 0, .int .u64 0, .int .u64 0, .int .u64 0, .slice none 0 0] 67)).heap[W9.heap.size]? = some (.cells #[.int .i64 0, .int .u64 0, .int .u64 0, .int .u64 0, .int .u64 0, .int .u64 0, .int .u64 0, .int .u64 0, .int .u64 0, .int .u64 0, .slice none 0 0] 67 (0, 0))) := ⟨Blk.new W9 _ _⟩
      go_upto_region 10 with (refine wpList_store_row rfl 67 _ _ rfl W9.heap.size cs.toArray rfl rfl 67 #[.int .i64 0, .int .u64 0, .int .u64 0, .int .u64 0, .int .u64 0, .int .u64 0, .int .u64 0, .int .u64 0, .int .u64 0, .int .u64 0, .slice none 0 0] (by exact hrow.out) (by rw [hsz]; exact hi11) (by rw [hsz]; rfl) hone ?_)
      obtain ⟨g6, hg6⟩ : ∃ g6, g6 = W9.heap.size := ⟨_, rfl⟩
      have H6 : Kp (Blk ((W9.alloc (.cells #[.int .i64 0, .int .u64 0, .int .u64 0, .int .u64 0, .int .u64 0, .int .u64 0, .int .u64 0, .int .u64 0, .int .u64 0, .int .u64 0, .slice none 0 0] 67)).setRow W9.heap.size cs.toArray) g6 67 (.int .i64 1 :: (v32w R.c.s ++ [.int .u64 (R.cnt : Int), .slice A9 R.rest.length c9]))) := ⟨by rw [hg6, ← HForm.out]; exact blk_row W9 _ _ _⟩
      have HFx := Kp.mk (fr_row HF9.out (.cells #[.int .i64 0, .int .u64 0, .int .u64 0, .int .u64 0, .int .u64 0, .int .u64 0, .int .u64 0, .int .u64 0, .int .u64 0, .int .u64 0, .slice none 0 0] 67) cs.toArray)
      have H1x := Kp.mk (H19.out.fr (fr_row (Fr.refl (fun _ => False) W9) (.cells #[.int .i64 0, .int .u64 0, .int .u64 0, .int .u64 0, .int .u64 0, .int .u64 0, .int .u64 0, .int .u64 0, .int .u64 0, .int .u64 0, .slice none 0 0] 67) cs.toArray) (fun h => h))
      have HG6 : Kp (w.heap.size ≤ g6) := ⟨by rw [hg6]; exact HF9.out.size⟩
      rw [← hg6] at H6 HFx H1x ⊢
      generalize World.setRow _ g6 _ = Wx at H6 HFx H1x ⊢
      clear hg6 hrow hone hsz HF9 H19 HForm
      have O0 : Kp (Wx.ownsRow w.heap.size 5 1 (.slice none 0 0) 0 (bytes ((R.c.s.list.take 0).flatMap fun x => layWord x 4))) := ⟨⟨rfl, .inl ⟨rfl, rfl⟩⟩⟩
      go_wp2
      go_loopw [7, 8] (fun s7 s8 wr => ∃ (i len c : Nat) (A : Option Addr), s7 = .slice A len c ∧ s8 = .int .i64 (i : Int) ∧ Kp (i ≤ 8) ∧ Kp (len = 4 * i) ∧ Kp (wr.ownsRow w.heap.size 5 1 (.slice A len c) len (bytes ((R.c.s.list.take i).flatMap fun x => layWord x 4))) ∧ Kp (Fr (fun _ => False) w wr) ∧ Kp (Blk wr g1 67 [.int .i64 1, .int .u64 a0, .int .u64 a1, .int .u64 a2, .int .u64 a3, .int .u64 a4, .int .u64 a5, .int .u64 a6, .int .u64 a7, .int .u64 (cnt : Int), .slice At rl ct]) ∧ Kp (Blk wr g6 67 (.int .i64 1 :: (v32w R.c.s ++ [.int .u64 (R.cnt : Int), .slice A9 R.rest.length c9])))) (fun _ s8 _ => 8 - (intOf s8).toNat)
      case atStart => exact ⟨0, 0, 0, none, rfl, rfl, ⟨by omega⟩, ⟨rfl⟩, O0, HFx, H1x, H6⟩
      case round =>
        clear O0 HFx H1x H6
        obtain ⟨i, len, cz, Az, rfl, rfl, hi, hlen, HO, HF, H1, H6⟩ := hrel
        have hi' := hi.out
        by_cases hlt : i < 8
        · have c0 : wr.cell? ⟨g1, 0, none⟩ = some (.int .i64 1) := H1.out.cell 0 _ rfl
          obtain ⟨x, hx⟩ : ∃ x, x = R.c.s.list.getD i 0 := ⟨_, rfl⟩
          have HAT : Kp ((.int .i64 1 :: (v32w R.c.s ++ [.int .u64 (R.cnt : Int), .slice A9 R.rest.length c9]) : List Value)[1 + i]? = some (.int .u64 (x.toNat : Int))) := ⟨by
            rw [Nat.add_comm 1 i, List.getElem?_cons_succ, List.getElem?_append_left (by have : (v32w R.c.s).length = 8 := rfl; omega), v32w_at R.c.s i hlt, hx]⟩
          have c6 : wr.cell? ⟨g6, 1 + i, none⟩ = some (.int .u64 (x.toNat : Int)) := H6.out.cell (1 + i) _ HAT.out
          have hsn := cl_snoc R.c.s.list 4 i (by show i < 8; exact hlt)
          have htl : ((R.c.s.list.take i).flatMap fun x => layWord x 4).length = len := by rw [cl_len, List.length_take, hlen.out]; show min i 8 * 4 = _; omega
          rw [← hx] at hsn
          generalize ((R.c.s.list.take i).flatMap fun x => layWord x 4) = L at HO hsn htl
          have HSN := Kp.mk hsn
          have HTL := Kp.mk htl
          have HOx : Kp (wr.ownsRow w.heap.size 5 1 (.slice Az len cz) L.length (bytes L)) := ⟨by rw [htl]; exact HO.out⟩
          clear hx hsn htl HO
          go_upto_region 14 with (fail)
          have hll : L.length ≤ 64 := by rw [HTL.out, hlen.out]; omega
          have hlw : (layWord x 4).length = 4 := by simp [layWord]
          go_region_held3 (fun w' => w'.cell? ⟨g6, 1 + i, none⟩ = some (.int .u64 (x.toNat : Int)) ∧ w'.cell? ⟨g1, 0, none⟩ = some (.int .i64 1)) (first | go_keep | exact ⟨H6z.out.cell _ _ HAT.out, H1z.out.cell 0 _ rfl⟩ | exact ⟨H6B.out.cell _ _ HAT.out, H1B.out.cell 0 _ rfl⟩ | exact ⟨H6A.out.cell _ _ HAT.out, H1A.out.cell 0 _ rfl⟩) (first
            | (go_at_call 48; (refine (wide_calls1 _).mono ?_); rintro e' wA ⟨rfl, hfA⟩; have hfa : Fr (fun _ => False) wr wA := ((Fr.refl (fun _ => False) wr).drew).trans hfA (fun _ _ h => h); have HFA := Kp.mk (HF.out.trans hfa (fun _ _ h => h)); have H1A := Kp.mk (H1.out.fr hfa (fun h => h)); have H6A := Kp.mk (H6.out.fr hfa (fun h => h)); have HOA := Kp.mk (own_keep HOx.out hfa (fun _ _ h => h)); clear hfA hfa)
            | (go_at_call 47; (refine (bo_calls4 x _).mono ?_); rintro e' wB ⟨Af, cf, rfl, hsrc, hfB⟩; have HSB := Kp.mk hsrc; have HFB := Kp.mk (HFA.out.trans hfB (fun _ _ h => h)); have H1B := Kp.mk (H1A.out.fr hfB (fun h => h)); have H6B := Kp.mk (H6A.out.fr hfB (fun h => h)); have HOB := Kp.mk (own_keep HOA.out hfB (fun _ _ h => h)); clear hfB hsrc)
            | (refine step_appendS (by rfl) _ _ (by rfl) (by rfl) w.heap.size (.slice Az len cz) L (by rfl) HOB.out Af 4 cf (layWord x 4) hlw.symm (by rfl) HSB.out (by rw [hlw]; omega) HFB.out.size ?_; intro vz wz hown hgr hat; obtain ⟨gz, cpz, hv, hvv⟩ := own_form hown (by rw [List.length_append, hlw]; omega); subst hv; obtain ⟨hF, hE⟩ := app_step HFB.out HOB.out H1B.out (by decide) hgr; have HOz := Kp.mk hown; have HFz := Kp.mk hF; have H1z := Kp.mk hE; have H6z := Kp.mk (app_step HFB.out HOB.out H6B.out (by decide) hgr).2; clear hown hgr hat hF hE hvv))
          (try go_wp2)
          have hOn : wz.ownsRow w.heap.size 5 1 (.slice (some ⟨gz, 0, none⟩) (L.length + 4) cpz) (L.length + 4) (bytes ((R.c.s.list.take (i + 1)).flatMap fun x => layWord x 4)) := by
            have h := HOz.out
            rw [List.length_append, hlw, HSN.out] at h
            exact h
          refine ⟨⟨i + 1, _, cpz, some ⟨gz, 0, none⟩, rfl, by go_num, ⟨hlt⟩, ⟨by rw [HTL.out, hlen.out]; omega⟩, ⟨hOn⟩, HFz, H1z, H6z⟩, ?_⟩
          simp [intOf]; omega
        · obtain rfl : i = 8 := by omega
          have HE : Kp (len = SM.length ∧ wr.ownsRow w.heap.size 5 1 (.slice Az len cz) len (bytes SM)) := ⟨by
            have h := HO.out
            have hall : (R.c.s.list.take 8) = R.c.s.list := rfl
            rw [hall] at h
            rw [HSR.out]
            refine ⟨?_, h⟩
            have h1 := hlen.out
            show len = (R.c.s.list.flatMap fun x => layWord x 4).length
            rw [cl_len, h1]
            rfl⟩
          obtain ⟨rfl, hO⟩ := HE.out
          clear HE HO H1 H6
          have HOZ := Kp.mk hO
          clear hO
          go_wp2
          go_ret
          exact ⟨Az, cz, rfl, OwnL.of_own HOZ.out, fun k hk => (own_lt HOZ.out hk).2, HF.out⟩
end Go.Proofs.YtjcfnflkiialbaaDoor.Sha
namespace Go.Proofs.YtjcfnflkiialbaaDoor.Sha
open Go.RowKit Go.Proofs.YtjcfnflkiialbaaDoor.Mem Go.Proofs.YtjcfnflkiialbaaDoorW.PrintWords
theorem rbegin_calls (B : Bool) (w : World) (hL : RLaid w) :
    Calls Tryd.prog 63 #[.int .i64 (rk B)] w fun e w' => e = .returned (.agg (rcells (St.new B) (.slice none 0 0)).toArray) ∧ Fr (fun _ => False) w w' := by
  cases B
  · exact rbegin32_calls w hL
  · exact rbegin64_calls w hL
theorem rtold_calls (s : St) (hcnt : s.cnt ≤ maxCount) (hbr : Bs s.rest) (hr : s.rest.length ≤ 1000) (At : Option Addr) (ct : Nat) (w : World) (hL : RLaid w) {S1 : Nat → Prop} (hT : Src w S1 At ct s.rest) :
    Calls Tryd.prog 65 #[.agg (rcells s (.slice At s.rest.length ct)).toArray] w fun e w' =>
      ∃ A c, e = .returned (.slice A s.sum.length c) ∧ OwnL w' 5 1 (.slice A s.sum.length c) s.sum.length (bytes s.sum) ∧
        (∀ k, (Value.slice A s.sum.length c).ownBlock = some k → w.heap.size ≤ k) ∧ Fr (fun _ => False) w w' := by
  obtain ⟨B, cnt, ch, rest⟩ := s
  cases B
  · exact rtold32_calls cnt ch rest hcnt hbr hr At ct w hL hT
  · exact rtold64_calls cnt ch rest hcnt hbr hr At ct w hL hT
theorem given_rest_len (s : St) (p : List Int) : (given s p).rest.length < blk s.B := by
  simp only [given, absorb, List.length_drop]
  have := Nat.div_add_mod (s.rest ++ p).length (blk s.B)
  have h2 := Nat.mod_lt (s.rest ++ p).length (blk_pos s.B)
  omega
theorem blk_le (B : Bool) : blk B ≤ 128 := by cases B <;> decide
theorem given_bs (s : St) (p : List Int) (h1 : Bs s.rest) (h2 : Bs p) : Bs (given s p).rest := by
  simp only [given, absorb]
  exact Bs.drop (fun b hb => (List.mem_append.1 hb).elim (h1 b) (h2 b)) _
theorem hash_given (B : Bool) (p : List Int) (h : p.length ≤ maxCount) : (given (St.new B) p).sum = hash B p := by
  unfold hash St.write
  rw [if_pos (by show 0 + p.length ≤ maxCount; omega)]
  rfl
set_option maxHeartbeats 2000000 in
set_option maxRecDepth 100000 in
theorem rhash_calls (B : Bool) (Ap : Option Addr) (cp : Nat) (p : List Int) (hbp : Bs p) (hlen : p.length ≤ 140737488355328) (w : World) (hL : RLaid w) {S1 : Nat → Prop} (hX : Src w S1 Ap cp p) :
    Calls Tryd.prog 53 #[.int .i64 (rk B), .slice Ap p.length cp] w fun e w' =>
      ∃ A c, e = .returned (.slice A (hash B p).length c) ∧ OwnL w' 5 1 (.slice A (hash B p).length c) (hash B p).length (bytes (hash B p)) ∧
        (∀ k, (Value.slice A (hash B p).length c).ownBlock = some k → w.heap.size ≤ k) ∧ Fr (fun _ => False) w w' := by
  have hpm : p.length ≤ maxCount := by unfold maxCount; omega
  obtain ⟨pl, hpl⟩ : ∃ pl, pl = p.length := ⟨_, rfl⟩
  have h2 : ∀ w1, Fr (fun _ => False) w w1 → _ := fun w1 hf => given_calls (St.new B) none Ap 0 cp p (fun b hb => by cases hb) hbp (by show 0 + p.length ≤ _; omega) (by show 0 + p.length < _; omega) w1 (hL.fr hf) (S1 := fun _ => False) (S2 := fun _ => False) ⟨Nat.le_refl _, .inl ⟨rfl, rfl, rfl⟩⟩ ((hX.mono (S' := fun _ => False) (fun _ _ h => h.elim)).fr hf)
  rw [← hpl] at h2 ⊢
  have h1 := rbegin_calls B w hL
  have h3 : ∀ A c w1, Fr (fun _ => False) w w1 → OwnL w1 5 1 (.slice A (given (St.new B) p).rest.length c) (given (St.new B) p).rest.length (bytes (given (St.new B) p).rest) → _ := fun A c w1 hf hO =>
    rtold_calls (given (St.new B) p) (by show 0 + p.length ≤ maxCount; omega) (given_bs _ p (fun b hb => by cases hb) hbp) (by have := given_rest_len (St.new B) p; have := blk_le (St.new B).B; omega) A c w1 (hL.fr hf) (S1 := fun _ => False) (hO.src (fun _ => False) (fun _ _ h => h)).2
  rw [hash_given B p hpm] at h3
  obtain ⟨G, hG⟩ : ∃ G, G = given (St.new B) p := ⟨_, rfl⟩
  obtain ⟨HS, hHS⟩ : ∃ HS, HS = hash B p := ⟨_, rfl⟩
  obtain ⟨K, hK⟩ : ∃ K, K = rk B := ⟨_, rfl⟩
  obtain ⟨N, hN⟩ : ∃ N, N = rcells (St.new B) (.slice none 0 0) := ⟨_, rfl⟩
  have e2 : rcells (St.new B) (.slice none (St.new B).rest.length 0) = N := hN.symm
  rw [e2] at h2
  rw [← hG] at h2 h3
  rw [← hHS] at h3 ⊢
  rw [← hK, ← hN] at h1
  rw [← hK]
  have K1 := Kp.mk h1
  have K2 := Kp.mk h2
  have K3 := Kp.mk h3
  clear h1 h2 h3 hG hHS hK hN e2 hpl hpm hX hL hbp hlen
  go_enter Tryd.func53, Tryd.ntmps53
  go_wp2_with fail
  refine K1.out.mono ?_
  rintro e w1 ⟨rfl, hf1⟩
  have F1 := Kp.mk hf1
  clear hf1
  go_wp2_with fail
  refine (K2.out w1 F1.out).mono ?_
  rintro e w2 ⟨A2, c2, rfl, hO2, hB2, hf2⟩
  have F2 := Kp.mk (F1.out.trans hf2 (fun _ _ h => h))
  have O2 := Kp.mk hO2
  clear hf2 hO2 hB2
  go_wp2_with fail
  refine (K3.out A2 c2 w2 F2.out O2.out).mono ?_
  rintro e w3 ⟨A3, c3, rfl, hO3, hB3, hf3⟩
  have F3 := Kp.mk (F2.out.trans hf3 (fun _ _ h => h))
  have O3 := Kp.mk hO3
  have B3 := Kp.mk (fun k hk => Nat.le_trans F2.out.size (hB3 k hk))
  clear hf3 hO3 hB3
  go_wp2
  go_ret
  exact ⟨A3, c3, rfl, O3.out, B3.out, F3.out⟩
set_option maxHeartbeats 2000000 in
set_option maxRecDepth 100000 in
theorem rsum256_calls (Ap : Option Addr) (cp : Nat) (p : List Int) (hbp : Bs p) (hlen : p.length ≤ 140737488355328) (w : World) (hL : RLaid w) {S1 : Nat → Prop} (hX : Src w S1 Ap cp p) :
    Calls Tryd.prog 25 #[.slice Ap p.length cp] w fun e w' => e = .returned (.agg (bytes (hash false p)).toArray) ∧ Fr (fun _ => False) w w' := by
  have hh : ∀ w1, Fr (fun _ => False) w w1 → _ := fun w1 hf => rhash_calls false Ap cp p hbp hlen w1 (hL.fr hf) (S1 := fun _ => False) ((hX.mono (S' := fun _ => False) (fun _ _ h => h.elim)).fr hf)
  have hhl : (hash false p).length = 32 := hash_length false p
  rw [hhl] at hh
  obtain ⟨HS, hHS⟩ : ∃ HS, HS = hash false p := ⟨_, rfl⟩
  rw [← hHS] at hh hhl ⊢
  obtain ⟨pl, hpl⟩ : ∃ pl, pl = p.length := ⟨_, rfl⟩
  rw [← hpl] at hh ⊢
  have KH := Kp.mk hh
  have KL := Kp.mk hhl
  clear hh hhl hHS hpl hX hL hbp hlen
  obtain ⟨f, hf0⟩ : ∃ f : Nat → Value, f = fun j => .int .u8 (HS.getD j 0) := ⟨_, rfl⟩
  have hz0 : upTo 32 f (.int .u8 0) 0 = List.replicate 32 (.int .u8 0) := by rw [hf0]; rfl
  have hz1 : upTo 32 f (.int .u8 0) 32 = bytes HS := by
    apply List.ext_getElem?
    intro j
    rcases Nat.lt_or_ge j 32 with h | h
    · rw [bytes_get HS j (by rw [KL.out]; exact h)]
      simp [upTo, h, hf0]
    · rw [List.getElem?_eq_none (by rw [upTo_len]; exact h), List.getElem?_eq_none (by simpa [bytes, KL.out] using h)]
  have KZ := Kp.mk (And.intro hz0 hz1)
  have KF := Kp.mk hf0
  clear hz0 hz1 hf0
  go_enter Tryd.func25, Tryd.ntmps25
  go_upto_region 2 with (fail)
  obtain ⟨g2, hg2⟩ : ∃ g2, g2 = w.heap.size := ⟨_, rfl⟩
  obtain ⟨g3, hg3⟩ : ∃ g3, g3 = w.heap.size + 1 := ⟨_, rfl⟩
  rw [← hg3, ← hg2]
  obtain ⟨W1, hW1⟩ : ∃ W1, W1 = (w.alloc (.cells #[.int .u8 0, .int .u8 0, .int .u8 0, .int .u8 0, .int .u8 0, .int .u8 0, .int .u8 0, .int .u8 0, .int .u8 0, .int .u8 0, .int .u8 0, .int .u8 0, .int .u8 0, .int .u8 0, .int .u8 0, .int .u8 0, .int .u8 0, .int .u8 0, .int .u8 0, .int .u8 0, .int .u8 0, .int .u8 0, .int .u8 0, .int .u8 0, .int .u8 0, .int .u8 0, .int .u8 0, .int .u8 0, .int .u8 0, .int .u8 0, .int .u8 0, .int .u8 0] 40)).alloc (.cells #[.int .u8 0, .int .u8 0, .int .u8 0, .int .u8 0, .int .u8 0, .int .u8 0, .int .u8 0, .int .u8 0, .int .u8 0, .int .u8 0, .int .u8 0, .int .u8 0, .int .u8 0, .int .u8 0, .int .u8 0, .int .u8 0, .int .u8 0, .int .u8 0, .int .u8 0, .int .u8 0, .int .u8 0, .int .u8 0, .int .u8 0, .int .u8 0, .int .u8 0, .int .u8 0, .int .u8 0, .int .u8 0, .int .u8 0, .int .u8 0, .int .u8 0, .int .u8 0] 40) := ⟨_, rfl⟩
  have H2 : Kp (Blk W1 g2 40 (List.replicate 32 (.int .u8 0))) := ⟨by rw [hW1, hg2]; exact (Blk.new w _ _).alloc _⟩
  have H3 : Kp (Blk W1 g3 40 (upTo 32 f (.int .u8 0) 0)) := ⟨by rw [hW1, hg3, KZ.out.1]; exact Blk.new' _ _ _ (by simp)⟩
  have HG : Kp (w.heap.size ≤ g2 ∧ w.heap.size ≤ g3 ∧ g2 ≠ g3) := ⟨by omega⟩
  have HF1 : Kp (Fr (fun _ => False) w W1) := ⟨by rw [hW1]; exact ((Fr.refl _ w).alloc _).alloc _⟩
  rw [← hW1]
  clear hW1 hg2 hg3
  go_wp2_with fail
  refine (KH.out W1 HF1.out).mono ?_
  rintro e W2 ⟨A, c, rfl, hO, hB, hf⟩
  have HO := Kp.mk hO
  have HB : Kp (∀ k, (Value.slice A 32 c).ownBlock = some k → k ≠ g3) := ⟨fun k hk he => by have := hB k hk; have := H3.out.lt; omega⟩
  have H2b := Kp.mk (H2.out.fr hf (fun h => h))
  have H3b := Kp.mk (H3.out.fr hf (fun h => h))
  have HF2 := Kp.mk (HF1.out.trans hf (fun _ _ h => h))
  clear hO hB hf H2 H3 HF1 KH
  obtain ⟨g, cur, rfl, _, hcm, _, _, _⟩ := HO.out.open (by omega)
  go_wp2
  go_loopw [5] (fun s5 wr => ∃ (i : Nat), s5 = .int .i64 (i : Int) ∧ Kp (i ≤ 32) ∧ Kp (OwnL wr 5 1 (.slice (some ⟨g, 0, none⟩) 32 c) 32 (bytes HS)) ∧ Kp (Blk wr g2 40 (List.replicate 32 (.int .u8 0))) ∧ Kp (Blk wr g3 40 (upTo 32 f (.int .u8 0) i)) ∧ Kp (Fr (fun _ => False) w wr)) (fun s5 _ => 32 - (intOf s5).toNat)
  case atStart => exact ⟨0, rfl, ⟨by omega⟩, HO, H2b, H3b, HF2⟩
  case round =>
    clear HO H2b H3b HF2
    obtain ⟨i, rfl, hi, HO, H2, H3, HF⟩ := hrel
    have hi' := hi.out
    by_cases hlt : i < 32
    · have cl : wr.cell? ⟨g, i, none⟩ = some (.int .u8 (HS.getD i 0)) := HO.out.cell (bytes_get HS i (by rw [KL.out]; exact hlt))
      have cz : wr.cell? ⟨g3, i, none⟩ = some (.int .u8 0) := H3.out.cell i _ (by simp [upTo, hlt])
      have fz : wr.frozen? ⟨g3, i, none⟩ = false := H3.out.free _
      have hfi : f i = .int .u8 (HS.getD i 0) := by rw [KF.out]
      have H3n : Kp (Blk (wr.setCell ⟨g3, i, none⟩ (.int .u8 (HS.getD i 0))) g3 40 (upTo 32 f (.int .u8 0) (i + 1))) := ⟨by rw [← upTo_set 32 f _ i hlt, hfi]; exact H3.out.set i _⟩
      have hfr : Fr (fun k => k = g3) wr (wr.setCell ⟨g3, i, none⟩ (.int .u8 (HS.getD i 0))) := Fr.set (S := fun k => k = g3) (a := ⟨g3, i, none⟩) (Fr.refl (fun k => k = g3) wr) (fun _ => rfl) _
      have H2n := Kp.mk (H2.out.fr hfr (fun he => HG.out.2.2 he))
      have HOn := Kp.mk (HO.out.fr hfr (fun k hk he => HB.out k hk he))
      have HFn := Kp.mk (HF.out.trans hfr (fun k hk he => by have := HG.out.2.1; omega))
      clear hfr hfi H2 H3 HO HF
      generalize HS.getD i 0 = b at cl H3n H2n HOn HFn
      go_wp2
      generalize World.setCell wr _ _ = Wn at H3n H2n HOn HFn ⊢
      refine ⟨⟨i + 1, by go_num, ⟨hlt⟩, HOn, H2n, H3n, HFn⟩, ?_⟩
      simp [intOf]; omega
    · obtain rfl : i = 32 := by omega
      have H3z : Kp (Blk wr g3 40 (bytes HS)) := ⟨by have h := H3.out; rw [KZ.out.2] at h; exact h⟩
      have hiN : (Tryd.prog.info? 40).map (·.size) = some 32 := by kernel_rfl
      have hbl : (bytes HS).length = 32 := by simpa [bytes] using KL.out
      have hone : (bytes HS).toArray.all (fun v => v.oneCell') = true := all_oneCell_toArray (fun v hv => by
        obtain ⟨z, _, rfl⟩ := List.mem_map.1 hv
        rfl)
      have hsz : (bytes HS).toArray.size = 32 := by simpa using hbl
      have H3r := Kp.mk (blk_range H3z.out)
      obtain ⟨cs, hcs⟩ : ∃ cs, cs = bytes HS := ⟨_, rfl⟩
      rw [← hcs] at H3r hbl hone hsz
      have Hcs := Kp.mk hcs
      have Hcl := Kp.mk hbl
      clear H3 H3z hcs hbl hi hi' hlt HO
      have H2h := Kp.mk (show wr.heap[g2]? = some (.cells (List.replicate 32 (.int .u8 0)).toArray 40 (0, 0)) from H2.out)
      go_wp2_with (first
        | refine wpList_load_mid rfl 40 _ rfl g3 0 rfl cs _ H3r.out Tryd.underlying40 rfl (by rw [Hcl.out]; exact hiN) ?_
        | refine wpList_store_row rfl 40 _ _ rfl g2 cs.toArray rfl rfl 40 (List.replicate 32 (.int .u8 0)).toArray (by exact H2h.out) (by rw [hsz]; exact hiN) (by rw [hsz]; rfl) hone ?_)
      refine bodyPost_ret (results_cell_row rfl _ _ g2 40 _ (0, 0) _ rfl (setRow_heap _ g2 _ _ _ _ H2h.out) Tryd.underlying40 rfl (by rw [hsz]; exact hiN)) rfl ?_
      refine ⟨by rw [Hcs.out], ?_⟩
      exact HF.out.trans (S' := fun k => k = g2) ⟨rfl, rfl, rfl, by simp [World.setRow], fun k _ hk => setRow_other _ _ k _ hk⟩ (fun k hk he => by have := HG.out.1; omega)
set_option maxHeartbeats 2000000 in
set_option maxRecDepth 100000 in
theorem rsum512_calls (Ap : Option Addr) (cp : Nat) (p : List Int) (hbp : Bs p) (hlen : p.length ≤ 140737488355328) (w : World) (hL : RLaid w) {S1 : Nat → Prop} (hX : Src w S1 Ap cp p) :
    Calls Tryd.prog 26 #[.slice Ap p.length cp] w fun e w' => e = .returned (.agg (bytes (hash true p)).toArray) ∧ Fr (fun _ => False) w w' := by
  have hh : ∀ w1, Fr (fun _ => False) w w1 → _ := fun w1 hf => rhash_calls true Ap cp p hbp hlen w1 (hL.fr hf) (S1 := fun _ => False) ((hX.mono (S' := fun _ => False) (fun _ _ h => h.elim)).fr hf)
  have hhl : (hash true p).length = 64 := hash_length true p
  rw [hhl] at hh
  obtain ⟨HS, hHS⟩ : ∃ HS, HS = hash true p := ⟨_, rfl⟩
  rw [← hHS] at hh hhl ⊢
  obtain ⟨pl, hpl⟩ : ∃ pl, pl = p.length := ⟨_, rfl⟩
  rw [← hpl] at hh ⊢
  have KH := Kp.mk hh
  have KL := Kp.mk hhl
  clear hh hhl hHS hpl hX hL hbp hlen
  obtain ⟨f, hf0⟩ : ∃ f : Nat → Value, f = fun j => .int .u8 (HS.getD j 0) := ⟨_, rfl⟩
  have hz0 : upTo 64 f (.int .u8 0) 0 = List.replicate 64 (.int .u8 0) := by rw [hf0]; rfl
  have hz1 : upTo 64 f (.int .u8 0) 64 = bytes HS := by
    apply List.ext_getElem?
    intro j
    rcases Nat.lt_or_ge j 64 with h | h
    · rw [bytes_get HS j (by rw [KL.out]; exact h)]
      simp [upTo, h, hf0]
    · rw [List.getElem?_eq_none (by rw [upTo_len]; exact h), List.getElem?_eq_none (by simpa [bytes, KL.out] using h)]
  have KZ := Kp.mk (And.intro hz0 hz1)
  have KF := Kp.mk hf0
  clear hz0 hz1 hf0
  go_enter Tryd.func26, Tryd.ntmps26
  go_upto_region 2 with (fail)
  obtain ⟨g2, hg2⟩ : ∃ g2, g2 = w.heap.size := ⟨_, rfl⟩
  obtain ⟨g3, hg3⟩ : ∃ g3, g3 = w.heap.size + 1 := ⟨_, rfl⟩
  rw [← hg3, ← hg2]
  obtain ⟨W1, hW1⟩ : ∃ W1, W1 = (w.alloc (.cells #[.int .u8 0, .int .u8 0, .int .u8 0, .int .u8 0, .int .u8 0, .int .u8 0, .int .u8 0, .int .u8 0, .int .u8 0, .int .u8 0, .int .u8 0, .int .u8 0, .int .u8 0, .int .u8 0, .int .u8 0, .int .u8 0, .int .u8 0, .int .u8 0, .int .u8 0, .int .u8 0, .int .u8 0, .int .u8 0, .int .u8 0, .int .u8 0, .int .u8 0, .int .u8 0, .int .u8 0, .int .u8 0, .int .u8 0, .int .u8 0, .int .u8 0, .int .u8 0, .int .u8 0, .int .u8 0, .int .u8 0, .int .u8 0, .int .u8 0, .int .u8 0, .int .u8 0, .int .u8 0, .int .u8 0, .int .u8 0, .int .u8 0, .int .u8 0, .int .u8 0, .int .u8 0, .int .u8 0, .int .u8 0, .int .u8 0, .int .u8 0, .int .u8 0, .int .u8 0, .int .u8 0, .int .u8 0, .int .u8 0, .int .u8 0, .int .u8 0, .int .u8 0, .int .u8 0, .int .u8 0, .int .u8 0, .int .u8 0, .int .u8 0, .int .u8 0] 43)).alloc (.cells #[.int .u8 0, .int .u8 0, .int .u8 0, .int .u8 0, .int .u8 0, .int .u8 0, .int .u8 0, .int .u8 0, .int .u8 0, .int .u8 0, .int .u8 0, .int .u8 0, .int .u8 0, .int .u8 0, .int .u8 0, .int .u8 0, .int .u8 0, .int .u8 0, .int .u8 0, .int .u8 0, .int .u8 0, .int .u8 0, .int .u8 0, .int .u8 0, .int .u8 0, .int .u8 0, .int .u8 0, .int .u8 0, .int .u8 0, .int .u8 0, .int .u8 0, .int .u8 0, .int .u8 0, .int .u8 0, .int .u8 0, .int .u8 0, .int .u8 0, .int .u8 0, .int .u8 0, .int .u8 0, .int .u8 0, .int .u8 0, .int .u8 0, .int .u8 0, .int .u8 0, .int .u8 0, .int .u8 0, .int .u8 0, .int .u8 0, .int .u8 0, .int .u8 0, .int .u8 0, .int .u8 0, .int .u8 0, .int .u8 0, .int .u8 0, .int .u8 0, .int .u8 0, .int .u8 0, .int .u8 0, .int .u8 0, .int .u8 0, .int .u8 0, .int .u8 0] 43) := ⟨_, rfl⟩
  have H2 : Kp (Blk W1 g2 43 (List.replicate 64 (.int .u8 0))) := ⟨by rw [hW1, hg2]; exact (Blk.new w _ _).alloc _⟩
  have H3 : Kp (Blk W1 g3 43 (upTo 64 f (.int .u8 0) 0)) := ⟨by rw [hW1, hg3, KZ.out.1]; exact Blk.new' _ _ _ (by simp)⟩
  have HG : Kp (w.heap.size ≤ g2 ∧ w.heap.size ≤ g3 ∧ g2 ≠ g3) := ⟨by omega⟩
  have HF1 : Kp (Fr (fun _ => False) w W1) := ⟨by rw [hW1]; exact ((Fr.refl _ w).alloc _).alloc _⟩
  rw [← hW1]
  clear hW1 hg2 hg3
  go_wp2_with fail
  refine (KH.out W1 HF1.out).mono ?_
  rintro e W2 ⟨A, c, rfl, hO, hB, hf⟩
  have HO := Kp.mk hO
  have HB : Kp (∀ k, (Value.slice A 64 c).ownBlock = some k → k ≠ g3) := ⟨fun k hk he => by have := hB k hk; have := H3.out.lt; omega⟩
  have H2b := Kp.mk (H2.out.fr hf (fun h => h))
  have H3b := Kp.mk (H3.out.fr hf (fun h => h))
  have HF2 := Kp.mk (HF1.out.trans hf (fun _ _ h => h))
  clear hO hB hf H2 H3 HF1 KH
  obtain ⟨g, cur, rfl, _, hcm, _, _, _⟩ := HO.out.open (by omega)
  go_wp2
  go_loopw [5] (fun s5 wr => ∃ (i : Nat), s5 = .int .i64 (i : Int) ∧ Kp (i ≤ 64) ∧ Kp (OwnL wr 5 1 (.slice (some ⟨g, 0, none⟩) 64 c) 64 (bytes HS)) ∧ Kp (Blk wr g2 43 (List.replicate 64 (.int .u8 0))) ∧ Kp (Blk wr g3 43 (upTo 64 f (.int .u8 0) i)) ∧ Kp (Fr (fun _ => False) w wr)) (fun s5 _ => 64 - (intOf s5).toNat)
  case atStart => exact ⟨0, rfl, ⟨by omega⟩, HO, H2b, H3b, HF2⟩
  case round =>
    clear HO H2b H3b HF2
    obtain ⟨i, rfl, hi, HO, H2, H3, HF⟩ := hrel
    have hi' := hi.out
    by_cases hlt : i < 64
    · have cl : wr.cell? ⟨g, i, none⟩ = some (.int .u8 (HS.getD i 0)) := HO.out.cell (bytes_get HS i (by rw [KL.out]; exact hlt))
      have cz : wr.cell? ⟨g3, i, none⟩ = some (.int .u8 0) := H3.out.cell i _ (by simp [upTo, hlt])
      have fz : wr.frozen? ⟨g3, i, none⟩ = false := H3.out.free _
      have hfi : f i = .int .u8 (HS.getD i 0) := by rw [KF.out]
      have H3n : Kp (Blk (wr.setCell ⟨g3, i, none⟩ (.int .u8 (HS.getD i 0))) g3 43 (upTo 64 f (.int .u8 0) (i + 1))) := ⟨by rw [← upTo_set 64 f _ i hlt, hfi]; exact H3.out.set i _⟩
      have hfr : Fr (fun k => k = g3) wr (wr.setCell ⟨g3, i, none⟩ (.int .u8 (HS.getD i 0))) := Fr.set (S := fun k => k = g3) (a := ⟨g3, i, none⟩) (Fr.refl (fun k => k = g3) wr) (fun _ => rfl) _
      have H2n := Kp.mk (H2.out.fr hfr (fun he => HG.out.2.2 he))
      have HOn := Kp.mk (HO.out.fr hfr (fun k hk he => HB.out k hk he))
      have HFn := Kp.mk (HF.out.trans hfr (fun k hk he => by have := HG.out.2.1; omega))
      clear hfr hfi H2 H3 HO HF
      generalize HS.getD i 0 = b at cl H3n H2n HOn HFn
      go_wp2
      generalize World.setCell wr _ _ = Wn at H3n H2n HOn HFn ⊢
      refine ⟨⟨i + 1, by go_num, ⟨hlt⟩, HOn, H2n, H3n, HFn⟩, ?_⟩
      simp [intOf]; omega
    · obtain rfl : i = 64 := by omega
      have H3z : Kp (Blk wr g3 43 (bytes HS)) := ⟨by have h := H3.out; rw [KZ.out.2] at h; exact h⟩
      have hiN : (Tryd.prog.info? 43).map (·.size) = some 64 := by kernel_rfl
      have hbl : (bytes HS).length = 64 := by simpa [bytes] using KL.out
      have hone : (bytes HS).toArray.all (fun v => v.oneCell') = true := all_oneCell_toArray (fun v hv => by
        obtain ⟨z, _, rfl⟩ := List.mem_map.1 hv
        rfl)
      have hsz : (bytes HS).toArray.size = 64 := by simpa using hbl
      have H3r := Kp.mk (blk_range H3z.out)
      obtain ⟨cs, hcs⟩ : ∃ cs, cs = bytes HS := ⟨_, rfl⟩
      rw [← hcs] at H3r hbl hone hsz
      have Hcs := Kp.mk hcs
      have Hcl := Kp.mk hbl
      clear H3 H3z hcs hbl hi hi' hlt HO
      have H2h := Kp.mk (show wr.heap[g2]? = some (.cells (List.replicate 64 (.int .u8 0)).toArray 43 (0, 0)) from H2.out)
      go_wp2_with (first
        | refine wpList_load_mid rfl 43 _ rfl g3 0 rfl cs _ H3r.out Tryd.underlying43 rfl (by rw [Hcl.out]; exact hiN) ?_
        | refine wpList_store_row rfl 43 _ _ rfl g2 cs.toArray rfl rfl 43 (List.replicate 64 (.int .u8 0)).toArray (by exact H2h.out) (by rw [hsz]; exact hiN) (by rw [hsz]; rfl) hone ?_)
      refine bodyPost_ret (results_cell_row rfl _ _ g2 43 _ (0, 0) _ rfl (setRow_heap _ g2 _ _ _ _ H2h.out) Tryd.underlying43 rfl (by rw [hsz]; exact hiN)) rfl ?_
      refine ⟨by rw [Hcs.out], ?_⟩
      exact HF.out.trans (S' := fun k => k = g2) ⟨rfl, rfl, rfl, by simp [World.setRow], fun k _ hk => setRow_other _ _ k _ hk⟩ (fun k hk he => by have := HG.out.1; omega)
end Go.Proofs.YtjcfnflkiialbaaDoor.Sha
namespace Go.Proofs.YtjcfnflkiialbaaDoor.Sha
open Go.RowKit Go.Proofs.YtjcfnflkiialbaaDoor.Mem Go.Proofs.YtjcfnflkiialbaaDoor.PShaConstants Go.Proofs.YtjcfnflkiialbaaDoorW.PrintWords Go.Proofs.YtjcfnflkiialbaaDoorW.PrintLast Go.Proofs.YtjcfnflkiialbaaDoorW.PrintMore
/-- the marks of spare room -/
def marks : List Int := (List.range 200).map fun i => (((192 + i) % 256 : Nat) : Int)
def lentL (p : List Int) : List Int := p ++ marks
theorem marks_len : marks.length = 200 := by simp [marks]
theorem lentL_len (p : List Int) : (lentL p).length = p.length + 200 := by rw [lentL, List.length_append, marks_len]
theorem lent_l0 (p : List Int) (hp : p.length ≤ 281474976700000) : ∀ n i k : Nat, i + n = p.length → ledgerlaw01_lent.l0 (n + 1 + k) p (p.take i ++ List.replicate (n + 200) 0) (i : Int) = ledgerlaw01_lent.l1 k p (p ++ List.replicate 200 0) (p.length : Int)
  | 0, i, k, h => by
    rw [show 0 + 1 + k = k + 1 by omega, ledgerlaw01_lent.l0, if_neg (by omega), List.take_of_length_le (by omega), Nat.zero_add]
  | n + 1, i, k, h => by
    have hi : i < p.length := by omega
    have hrd : rd p (i : Int) = p[i] := by simp [rd, hi]
    have hs : (p.take i ++ List.replicate (n + 1 + 200) (0 : Int)).set ((i : Int)).toNat (rd p (i : Int)) = p.take (i + 1) ++ List.replicate (n + 200) 0 := by
      rw [Int.toNat_natCast, hrd, show n + 1 + 200 = (n + 200) + 1 by omega, List.replicate_succ, List.set_append_right _ _ (by rw [List.length_take]; omega), List.length_take, Nat.min_eq_left (by omega), Nat.sub_self, List.set_cons_zero, List.take_succ_eq_append_getElem hi, List.append_assoc]
      rfl
    have hw : wrap64 ((i : Int) + 1) = ((i + 1 : Nat) : Int) := by unfold wrap64; omega
    rw [show n + 1 + 1 + k = (n + 1 + k) + 1 by omega, ledgerlaw01_lent.l0, if_pos (by omega), if_pos (by omega), if_pos (by rw [List.length_append, List.length_take, List.length_replicate]; omega), hs, hw]
    exact lent_l0 p hp n (i + 1) k (by omega)
theorem lent_l1 (p : List Int) (hp : p.length ≤ 281474976700000) : ∀ n j : Nat, j + n = 200 → ledgerlaw01_lent.l1 (n + 1) p (p ++ (marks.take j ++ List.replicate n 0)) ((p.length + j : Nat) : Int) = some (lentL p)
  | 0, j, h => by
    rw [ledgerlaw01_lent.l1, if_neg (by simp [marks_len]; omega), List.take_of_length_le (by rw [marks_len]; omega)]
    simp [lentL]
  | n + 1, j, h => by
    have hv : (wrap64 ((wrap64 (192 + ((p.length + j : Nat) : Int))) - (p.length : Int))) % 256 = (((192 + j) % 256 : Nat) : Int) := by unfold wrap64; omega
    have hm : marks[j]'(by rw [marks_len]; omega) = (((192 + j) % 256 : Nat) : Int) := by simp [marks]
    have hs : (p ++ (marks.take j ++ List.replicate (n + 1) (0 : Int))).set (((p.length + j : Nat) : Int)).toNat (((192 + j) % 256 : Nat) : Int) = p ++ (marks.take (j + 1) ++ List.replicate n 0) := by
      rw [Int.toNat_natCast, List.set_append_right _ _ (by omega), Nat.add_sub_cancel_left, List.set_append_right _ _ (by rw [List.length_take, marks_len]; omega), List.length_take, marks_len, Nat.min_eq_left (by omega), Nat.sub_self, List.replicate_succ, List.set_cons_zero,
        List.take_succ_eq_append_getElem (by rw [marks_len]; omega), hm, List.append_assoc]
      rfl
    have hw : wrap64 (((p.length + j : Nat) : Int) + 1) = ((p.length + (j + 1) : Nat) : Int) := by unfold wrap64; omega
    rw [ledgerlaw01_lent.l1, if_pos (by simp [marks_len]; omega), if_pos (by omega), hv, hs, hw]
    exact lent_l1 p hp n (j + 1) (by omega)
theorem lent_f (p : List Int) (hp : p.length ≤ 281474976700000) : ledgerlaw01_lent.f (p.length + 1 + 201) p = some (lentL p) := by
  have e : wrap64 ((p.length : Int) + 200) = ((p.length + 200 : Nat) : Int) := by unfold wrap64; omega
  have h0 := lent_l0 p hp p.length 0 201 (by omega)
  rw [List.take_zero, List.nil_append] at h0
  have h1 := lent_l1 p hp 200 0 rfl
  unfold ledgerlaw01_lent.f
  rw [e, if_pos (by omega), Int.toNat_natCast, if_pos (by omega)]
  refine h0.trans ?_
  rw [List.take_zero, List.nil_append] at h1
  exact h1
/-- a list lent: a copy with 200 marks behind it -/
theorem lent_calls (A : Option Addr) (c : Nat) (p : List Int) (hp : p.length ≤ 281474976700000) (w : World) {S : Nat → Prop} (hX : Src w S A c p) :
    Calls Tryd.prog 22 #[.slice A p.length c] w fun e w' => ∃ g c', e = .returned (.slice (some ⟨g, 0, none⟩) (p.length + 200) c') ∧ OwnL w' 5 1 (.slice (some ⟨g, 0, none⟩) (p.length + 200) c') (p.length + 200) (bytes (lentL p)) ∧ w.heap.size ≤ g ∧ p.length + 200 ≤ c' ∧ Fr (fun _ => False) w w' := by
  refine (ledgerlaw01_lent.calls (p.length + 1 + 201) A c p (lentL p) w (C_of_src hX (by omega)) hX.1 (lent_f p hp)).mono ?_
  rintro e w' ⟨v, rfl, hR, hB⟩
  have hO := Kd.own_of_R hR
  obtain ⟨g, cap, rfl, h1, h2, h3, h4⟩ := own_form hO (by rw [lentL_len]; omega)
  rw [lentL_len] at hO h3
  rw [lentL_len]
  exact ⟨g, cap, rfl, OwnL.of_own hO, h1, h3, Fr.of_below hB _⟩
set_option maxRecDepth 100000 in
/-- is what was lent as it was? -/
theorem whole_calls (A1 A2 : Option Addr) (c1 c2 : Nat) (l p : List Int) (hl : l.length ≤ 1000000000000000) (hp : p.length ≤ 281474976700000) (w : World) {S1 S2 : Nat → Prop} (h1 : Src w S1 A1 c1 l) (h2 : Src w S2 A2 c2 p) :
    Calls Tryd.prog 27 #[.slice A1 l.length c1, .slice A2 p.length c2] w fun e w' => e = .returned (.bool (decide (l = lentL p))) ∧ Fr (fun _ => False) w w' := by
  have K1 := Kp.mk (lent_calls A2 c2 p hp w h2)
  have K2 := Kp.mk (fun (g c' : Nat) (w' : World) (hf : Fr (fun _ => False) w w') (hO : OwnL w' 5 1 (.slice (some ⟨g, 0, none⟩) (p.length + 200) c') (p.length + 200) (bytes (lentL p))) =>
    same_src w' ((h1.mono (S' := fun _ => False) (fun _ _ h => h.elim)).fr hf) (hO.src (fun _ => False) (fun _ _ h => h)).2 hl (by rw [lentL_len]; omega))
  rw [lentL_len] at K2
  obtain ⟨B, hB⟩ : ∃ B, B = decide (l = lentL p) := ⟨_, rfl⟩
  rw [← hB] at K2 ⊢
  obtain ⟨n, hn⟩ : ∃ n, n = p.length := ⟨_, rfl⟩
  obtain ⟨m, hm⟩ : ∃ m, m = l.length := ⟨_, rfl⟩
  rw [← hn] at K1 K2 ⊢
  rw [← hm] at K2 ⊢
  clear hB hn hm hl hp h1 h2
  go_enter Tryd.func27, Tryd.ntmps27
  go_wp2_with fail
  refine K1.out.mono ?_
  rintro e w1 ⟨g, c', rfl, hO, hg, hc, hf⟩
  have KF := Kp.mk hf
  have KO := Kp.mk hO
  clear hf hO hg hc
  go_wp2_with fail
  refine (K2.out g c' w1 KF.out KO.out).mono ?_
  rintro e w2 ⟨rfl, hb⟩
  have KF2 := Kp.mk (KF.out.trans (Fr.of_below hb (fun _ => False)) (fun _ _ h => h))
  clear hb
  go_wp2
  go_ret
  exact ⟨rfl, KF2.out⟩
end Go.Proofs.YtjcfnflkiialbaaDoor.Sha
