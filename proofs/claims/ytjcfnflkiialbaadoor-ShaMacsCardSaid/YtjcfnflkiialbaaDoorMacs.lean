/-
  Mac, by the document. The walk of ShaMacs.
-/
import Derived.Test.YtjcfnflkiialbaaDoorRLent
import Derived.Test.YtjcfnflkiialbaaDoorObs
import Derived.Test.YtjcfnflkiialbaaDoorMac
import Derived.Deep.DeepCutAuto
import Derived.Deep.CutBlock
import Derived.Deep.DrawnRows
import Derived.Deep.RegionWith
import Derived.StillTailTactics
namespace Go.Proofs.YtjcfnflkiialbaaDoor.Sha
open Go.RowKit Go.Proofs.YtjcfnflkiialbaaDoor.Mem Go.Proofs.YtjcfnflkiialbaaDoorW.PrintWords
theorem rnormKey_length (key : List Int) : (normKey key).length ≤ 64 := by
  unfold normKey
  split
  · have := hash_length false key
    have e : out false = 32 := rfl
    omega
  · omega
theorem rxor_snoc (c : Int) (P : List Int) (i : Nat) (h : i < P.length) : (xorL c P).take i ++ [bits .xor .u8 (P.getD i 0) c] = (xorL c P).take (i + 1) := by
  rw [List.take_succ_eq_append_getElem (by rw [xorL_length]; exact h)]
  simp [xorL, h]
theorem bs_xorL (c : Int) (l : List Int) : Bs (xorL c l) := fun b hb => by
  obtain ⟨x, _, rfl⟩ := List.mem_map.1 hb
  show 0 ≤ IntKind.u8.wrap _ ∧ IntKind.u8.wrap _ < 256
  rw [IntKind.wrap_u8]
  omega
theorem bs_words (B : Bool) (c : Chain) : Bs (words B c) := fun b hb => by
  cases B
  · obtain ⟨x, _, h⟩ := List.mem_flatMap.1 hb
    exact bs_layWord _ _ b h
  · obtain ⟨x, _, h⟩ := List.mem_flatMap.1 hb
    exact bs_layWord _ _ b h
theorem bs_hash (B : Bool) (p : List Int) : Bs (hash B p) := bs_words _ _
theorem bs_append {l m : List Int} (h : Bs l) (k : Bs m) : Bs (l ++ m) := fun b hb => (List.mem_append.1 hb).elim (h b) (k b)
theorem pad64_low (k : List Int) (i : Nat) (h : i < k.length) : (pad64 k).getD i 0 = k.getD i 0 := by
  simp [pad64, List.getElem?_append_left h]
theorem pad64_high (k : List Int) (i : Nat) (h : k.length ≤ i) : (pad64 k).getD i 0 = 0 := by
  unfold pad64
  rw [List.getD_eq_getElem?_getD, List.getElem?_append_right h, List.getElem?_replicate]
  split <;> rfl
theorem rnilrow {w0 w : World} {os : List Ob} (h : Objs w0 w os) : Objs w0 w (os ++ [Ob.row (.slice none 0 0) []]) :=
  h.add (Fr.refl _ _) ⟨rfl, .inl ⟨rfl, rfl⟩⟩ (fun k (hk : (Value.slice none 0 0).ownBlock = some k) => by cases hk)
set_option maxHeartbeats 4000000 in
set_option maxRecDepth 100000 in
theorem rmac_calls (kA : Option Addr) (kc : Nat) (key : List Int) (dA : Option Addr) (dc : Nat) (data : List Int) (w : World) (hL : RLaid w) (hK : Src w (fun _ => False) kA kc key) (hD : Src w (fun _ => False) dA dc data) (hbk : Bs key) (hbd : Bs data) (hk : key.length ≤ 140737488351232) (hd : data.length ≤ 140737488351232) :
    Calls Tryd.prog 37 #[.slice kA key.length kc, .slice dA data.length dc] w fun e w' => e = .returned (.agg (bytes (macL key data)).toArray) ∧ Fr (fun _ => False) w w' := by
  have HL := Kp.mk hL
  have HLw := Kp.mk hL.size
  have HK := Kp.mk hK
  have HD := Kp.mk hD
  have HB := Kp.mk (And.intro hbk hbd)
  clear hL hK hD hbk hbd
  obtain ⟨M, hM⟩ : ∃ M, M = macL key data := ⟨_, rfl⟩
  have HM : Kp (∀ P, P = pad64 (normKey key) → M = hash false (xorL 92 P ++ hash false (xorL 54 P ++ data))) := ⟨fun P hP => by rw [hP, hM]; rfl⟩
  have HMl : Kp (M.length = 32) := ⟨by rw [hM]; exact hash_length false _⟩
  rw [← hM]
  clear hM
  go_enter Tryd.func37, Tryd.ntmps37
  go_upto_if 13 with (fail)
  obtain ⟨mb, hmb⟩ : ∃ mb, mb = w.heap.size := ⟨_, rfl⟩
  have HO0 : Kp (Objs w (w.alloc (.cells #[.int .u8 0, .int .u8 0, .int .u8 0, .int .u8 0, .int .u8 0, .int .u8 0, .int .u8 0, .int .u8 0, .int .u8 0, .int .u8 0, .int .u8 0, .int .u8 0, .int .u8 0, .int .u8 0, .int .u8 0, .int .u8 0, .int .u8 0, .int .u8 0, .int .u8 0, .int .u8 0, .int .u8 0, .int .u8 0, .int .u8 0, .int .u8 0, .int .u8 0, .int .u8 0, .int .u8 0, .int .u8 0, .int .u8 0, .int .u8 0, .int .u8 0, .int .u8 0] 40)) [Ob.blk mb 40 (List.replicate 32 (.int .u8 0)), Ob.row (.slice none 0 0) [], Ob.row (.slice none 0 0) []]) := ⟨by
    have hb : Blk (w.alloc (.cells #[.int .u8 0, .int .u8 0, .int .u8 0, .int .u8 0, .int .u8 0, .int .u8 0, .int .u8 0, .int .u8 0, .int .u8 0, .int .u8 0, .int .u8 0, .int .u8 0, .int .u8 0, .int .u8 0, .int .u8 0, .int .u8 0, .int .u8 0, .int .u8 0, .int .u8 0, .int .u8 0, .int .u8 0, .int .u8 0, .int .u8 0, .int .u8 0, .int .u8 0, .int .u8 0, .int .u8 0, .int .u8 0, .int .u8 0, .int .u8 0, .int .u8 0, .int .u8 0] 40)) mb 40 (List.replicate 32 (.int .u8 0)) := by rw [hmb]; exact Blk.new w _ _
    have nr : ∀ W : World, (Ob.row (.slice none 0 0) []).inv W := fun W => ⟨rfl, .inl ⟨rfl, rfl⟩⟩
    have nf : ∀ (k n : Nat), (Ob.row (.slice none 0 0) []).foot k → n ≤ k := fun k n h => by cases h
    have h0 : Objs w w [] := ⟨fun i o h => by simp at h, ⟨fun _ => 0, fun _ _ => rfl, fun i o h => by simp at h⟩, Fr.refl _ _⟩
    have h1 := h0.add (o' := Ob.blk mb 40 (List.replicate 32 (.int .u8 0))) ((Fr.refl (fun _ => False) w).alloc _) hb (fun k (hk : k = mb) => by omega)
    exact (h1.add (Fr.refl _ _) (nr _) (fun k => nf k _)).add (Fr.refl _ _) (nr _) (fun k => nf k _)⟩
  have HGm : Kp (w.heap.size ≤ mb) := ⟨by omega⟩
  rw [← hmb]
  generalize World.alloc w _ = W1 at HO0 ⊢
  clear hmb
  go_cut [5] (fun s5 wx => ∃ (kA' : Option Addr) (kc' : Nat) (k' : List Int), s5 = .slice kA' k'.length kc' ∧ Kp (k' = normKey key) ∧ Kp (Src wx (fun _ => False) kA' kc' k') ∧ Kp (Objs w wx [Ob.blk mb 40 (List.replicate 32 (.int .u8 0)), Ob.row (.slice none 0 0) [], Ob.row (.slice none 0 0) []]))
  case first =>
    by_cases h64 : 64 < key.length
    · have hc := rhash_calls false kA kc key HB.out.1 (by omega) W1 (HL.out.fr HO0.out.fr) (HK.out.fr HO0.out.fr)
      rw [show (hash false key).length = 32 from hash_length false key] at hc
      have HC := Kp.mk hc
      clear hc
      go_wp2_with fail
      refine HC.out.mono ?_
      rintro e w3 ⟨A3, c3, rfl, hO, _, hf⟩
      have HN : Kp (normKey key = hash false key) := ⟨by unfold normKey; rw [if_pos h64]⟩
      have HS3 := Kp.mk (hO.src (fun _ => False) (fun _ _ h => h)).2
      have HO3 := Kp.mk (HO0.out.below hf)
      clear hO hf HC HO0
      go_wp2
      go_meet
      case rel => exact ⟨A3, c3, hash false key, by rw [hash_length]; rfl, ⟨HN.out.symm⟩, HS3, HO3⟩
    · go_wp2
      go_meet
      case rel => exact ⟨kA, kc, key, rfl, ⟨by unfold normKey; rw [if_neg h64]⟩, ⟨HK.out.fr HO0.out.fr⟩, HO0⟩
  case rest =>
    clear HO0
    obtain ⟨kA', kc', k', rfl, HN, HS, HO⟩ := hcut
    have HKl : Kp (k'.length ≤ 64) := ⟨by rw [HN.out]; exact rnormKey_length key⟩
    obtain ⟨P, hP⟩ : ∃ P, P = pad64 k' := ⟨_, rfl⟩
    have HPl : Kp (P.length = 64) := ⟨by rw [hP]; exact pad64_length k' HKl.out⟩
    have HMM := Kp.mk (HM.out P (by rw [hP, HN.out]))
    have HPP := Kp.mk hP
    have HF0 := Kp.mk HO.out.fr
    have HB0 : Kp (Blk wc mb 40 (List.replicate 32 (.int .u8 0))) := ⟨HO.out.inv 0 _ rfl⟩
    have HO2 : Kp (Objs wc wc [Ob.row (.slice none 0 0) ((xorL 54 P).take 0), Ob.row (.slice none 0 0) ((xorL 92 P).take 0)]) := ⟨rnilrow (rnilrow (Objs.nil wc))⟩
    have HLc := Kp.mk (HL.out.fr HF0.out)
    have HLw := Kp.mk HLc.out.size
    have HDc := Kp.mk (HD.out.fr HF0.out)
    clear HD HL
    obtain ⟨kl, hkl⟩ : ∃ kl, kl = k'.length := ⟨_, rfl⟩
    rw [← hkl] at HKl ⊢
    have HKL := Kp.mk hkl
    have hkl64 := HKl.out
    clear hP HM HO HN hkl
    go_wp2
    go_loopw [6, 7, 8] (fun s6 s7 s8 wr => ∃ (i ci co : Nat) (Ai Ao : Option Addr), s8 = .int .i64 (i : Int) ∧ s6 = .slice Ai i ci ∧ s7 = .slice Ao i co ∧ Kp (i ≤ 64) ∧ Kp (Objs wc wr [Ob.row (.slice Ai i ci) ((xorL 54 P).take i), Ob.row (.slice Ao i co) ((xorL 92 P).take i)])) (fun _ _ s8 _ => 64 - (intOf s8).toNat)
    case atStart => exact ⟨0, 0, 0, none, none, rfl, rfl, rfl, ⟨Nat.zero_le _⟩, HO2⟩
    case round =>
      clear HO2
      obtain ⟨i, ci, co, Ai, Ao, rfl, rfl, rfl, hi, HO⟩ := hrel
      have hi' := hi.out
      by_cases hlt : i < 64
      · have hit : ((xorL 54 P).take i).length = i := by rw [List.length_take, xorL_length, HPl.out]; omega
        have hot : ((xorL 92 P).take i).length = i := by rw [List.length_take, xorL_length, HPl.out]; omega
        have HIT := Kp.mk hit
        have HOT := Kp.mk hot
        have HIS := Kp.mk (rxor_snoc 54 P i (by rw [HPl.out]; exact hlt))
        have HOS := Kp.mk (rxor_snoc 92 P i (by rw [HPl.out]; exact hlt))
        have HI : Kp (wr.ownsRow low 5 1 (.slice Ai i ci) ((xorL 54 P).take i).length (bytes ((xorL 54 P).take i))) := ⟨HO.out.inv 0 _ rfl⟩
        clear hit hot
        by_cases hik : i < kl
        · have hpz : P.getD i 0 = k'.getD i 0 := by rw [HPP.out]; exact pad64_low k' i (by rw [← HKL.out]; exact hik)
          obtain ⟨z, hz⟩ : ∃ z, z = k'.getD i 0 := ⟨_, rfl⟩
          rw [hpz, ← hz] at HIS HOS
          obtain ⟨gk, ok, rfl, hcz⟩ : ∃ gk ok, kA' = some ⟨gk, ok, none⟩ ∧ wr.cell? ⟨gk, ok + i, none⟩ = some (.int .u8 z) := by
            have hs := HS.out.fr HO.out.fr
            rcases hs.2 with ⟨_, _, h⟩ | ⟨h, _⟩ | ⟨bs, os, h1, h2, _⟩
            · rw [h] at HKL; have := HKL.out; simp at this; omega
            · rw [h] at HKL; have := HKL.out; simp at this; omega
            · exact ⟨bs, os, h1, by rw [hz]; exact h2.2 i (by rw [← HKL.out]; exact hik)⟩
          have hkc : (kl : Int) ≤ (kc' : Int) := by have := HS.out.1; have := HKL.out; omega
          clear hz hpz
          go_wp2_with (first
            | (at_builtin; refine wpList_appendS rfl (.tmp 28) (.tmp 31) rfl rfl low (.slice Ai i ci) ((xorL 54 P).take i) rfl (by exact own_keep HI.out ((Fr.refl (fun _ => False) wr).alloc _) (fun _ _ h => h)) (some ⟨wr.heap.size, 0, none⟩) 1 1 [bits .xor .u8 z 54] rfl rfl (by exact src_new wr [bits .xor .u8 z 54] 5 1 (Nat.le_refl _)) (by rw [HIT.out]; simp only [List.length_cons, List.length_nil]; omega) (by exact Nat.le_trans HLw.out (Nat.le_trans HO.out.fr.size (by simp))) ?_; intro v4 w4 hown hgr hat; rw [HIS.out] at hown; obtain ⟨Ay, cy, hv4, _⟩ := own_shape hown; subst hv4; have HO4 := Kp.mk ((HO.out.below ((Fr.refl (fun _ => False) wr).alloc (.cells #[.int .u8 (bits .xor .u8 z 54)] 5))).append 0 rfl hown hgr hat); clear hown hgr hat)
            | (at_builtin; refine wpList_appendS rfl (.tmp 33) (.tmp 36) rfl rfl low (.slice Ao i co) ((xorL 92 P).take i) rfl (by exact own_keep (show w4.ownsRow low 5 1 (.slice Ao i co) ((xorL 92 P).take i).length (bytes ((xorL 92 P).take i)) from HO4.out.inv 1 _ rfl) ((Fr.refl (fun _ => False) w4).alloc _) (fun _ _ h => h)) (some ⟨w4.heap.size, 0, none⟩) 1 1 [bits .xor .u8 z 92] rfl rfl (by exact src_new w4 [bits .xor .u8 z 92] 5 1 (Nat.le_refl _)) (by rw [HOT.out]; simp only [List.length_cons, List.length_nil]; omega) (by exact Nat.le_trans HLw.out (Nat.le_trans HO4.out.fr.size (by simp))) ?_; intro v5 w5 hown hgr hat; rw [HOS.out] at hown; obtain ⟨Ax, cx, hv5, _⟩ := own_shape hown; subst hv5; have HO5 := Kp.mk ((HO4.out.below ((Fr.refl (fun _ => False) w4).alloc (.cells #[.int .u8 (bits .xor .u8 z 92)] 5))).append 1 rfl hown hgr hat); clear hown hgr hat))
          have hi1 : ((xorL 54 P).take (i + 1)).length = i + 1 := by rw [List.length_take, xorL_length, HPl.out]; omega
          have ho1 : ((xorL 92 P).take (i + 1)).length = i + 1 := by rw [List.length_take, xorL_length, HPl.out]; omega
          go_roundw
          case rel =>
            refine ⟨i + 1, cy, cx, Ay, Ax, by go_num, ?_, ?_, ⟨hlt⟩, ⟨?_⟩⟩
            · congr 1; rw [xorL_length, HPl.out]; omega
            · congr 1; rw [xorL_length, HPl.out]; omega
            · have h := HO5.out
              rw [hi1, ho1] at h
              exact h
          case measure => simp [intOf] <;> omega
        · have hpz : P.getD i 0 = 0 := by rw [HPP.out]; exact pad64_high k' i (by rw [← HKL.out]; omega)
          rw [hpz] at HIS HOS
          have hik' : (kl : Int) ≤ (i : Int) := by omega
          clear hpz hik
          go_wp2_with (first
            | (at_builtin; refine wpList_appendS rfl (.tmp 28) (.tmp 31) rfl rfl low (.slice Ai i ci) ((xorL 54 P).take i) rfl (by exact own_keep HI.out ((Fr.refl (fun _ => False) wr).alloc _) (fun _ _ h => h)) (some ⟨wr.heap.size, 0, none⟩) 1 1 [bits .xor .u8 0 54] rfl rfl (by exact src_new wr [bits .xor .u8 0 54] 5 1 (Nat.le_refl _)) (by rw [HIT.out]; simp only [List.length_cons, List.length_nil]; omega) (by exact Nat.le_trans HLw.out (Nat.le_trans HO.out.fr.size (by simp))) ?_; intro v4 w4 hown hgr hat; rw [HIS.out] at hown; obtain ⟨Ay, cy, hv4, _⟩ := own_shape hown; subst hv4; have HO4 := Kp.mk ((HO.out.below ((Fr.refl (fun _ => False) wr).alloc (.cells #[.int .u8 (bits .xor .u8 0 54)] 5))).append 0 rfl hown hgr hat); clear hown hgr hat)
            | (at_builtin; refine wpList_appendS rfl (.tmp 33) (.tmp 36) rfl rfl low (.slice Ao i co) ((xorL 92 P).take i) rfl (by exact own_keep (show w4.ownsRow low 5 1 (.slice Ao i co) ((xorL 92 P).take i).length (bytes ((xorL 92 P).take i)) from HO4.out.inv 1 _ rfl) ((Fr.refl (fun _ => False) w4).alloc _) (fun _ _ h => h)) (some ⟨w4.heap.size, 0, none⟩) 1 1 [bits .xor .u8 0 92] rfl rfl (by exact src_new w4 [bits .xor .u8 0 92] 5 1 (Nat.le_refl _)) (by rw [HOT.out]; simp only [List.length_cons, List.length_nil]; omega) (by exact Nat.le_trans HLw.out (Nat.le_trans HO4.out.fr.size (by simp))) ?_; intro v5 w5 hown hgr hat; rw [HOS.out] at hown; obtain ⟨Ax, cx, hv5, _⟩ := own_shape hown; subst hv5; have HO5 := Kp.mk ((HO4.out.below ((Fr.refl (fun _ => False) w4).alloc (.cells #[.int .u8 (bits .xor .u8 0 92)] 5))).append 1 rfl hown hgr hat); clear hown hgr hat))
          have hi1 : ((xorL 54 P).take (i + 1)).length = i + 1 := by rw [List.length_take, xorL_length, HPl.out]; omega
          have ho1 : ((xorL 92 P).take (i + 1)).length = i + 1 := by rw [List.length_take, xorL_length, HPl.out]; omega
          go_roundw
          case rel =>
            refine ⟨i + 1, cy, cx, Ay, Ax, by go_num, ?_, ?_, ⟨hlt⟩, ⟨?_⟩⟩
            · congr 1; rw [xorL_length, HPl.out]; omega
            · congr 1; rw [xorL_length, HPl.out]; omega
            · have h := HO5.out
              rw [hi1, ho1] at h
              exact h
          case measure => simp [intOf] <;> omega
      · obtain rfl : i = 64 := by omega
        have HOa : Kp (Objs wc wr [Ob.row (.slice Ai 64 ci) (xorL 54 P), Ob.row (.slice Ao 64 co) (xorL 92 P)]) := ⟨by
          have h := HO.out
          rw [List.take_of_length_le (by rw [xorL_length, HPl.out]; exact Nat.le_refl _), List.take_of_length_le (by rw [xorL_length, HPl.out]; exact Nat.le_refl _)] at h
          exact h⟩
        have HIl : Kp ((xorL 54 P).length = 64) := ⟨by rw [xorL_length, HPl.out]⟩
        have HOl : Kp ((xorL 92 P).length = 64) := ⟨by rw [xorL_length, HPl.out]⟩
        have HIb := Kp.mk (bs_xorL 54 P)
        have HOb := Kp.mk (bs_xorL 92 P)
        clear HO HPP HKL HS
        generalize xorL 54 P = I at HOa HIl HMM HIb
        generalize xorL 92 P = O at HOa HOl HMM HOb
        have HI : Kp (wr.ownsRow low 5 1 (.slice Ai 64 ci) I.length (bytes I)) := ⟨HOa.out.inv 0 _ rfl⟩
        have HDr := Kp.mk (HDc.out.fr HOa.out.fr)
        have HIDl : Kp ((I ++ data).length = 64 + data.length) := ⟨by rw [List.length_append, HIl.out]⟩
        have HHl : Kp ((hash false (I ++ data)).length = 32) := ⟨hash_length false _⟩
        have HOHl : Kp ((O ++ hash false (I ++ data)).length = 96) := ⟨by rw [List.length_append, HOl.out, HHl.out]⟩
        go_wp2_with (at_builtin; refine wpList_appendS rfl (.tmp 38) (.tmp 39) rfl rfl low (.slice Ai 64 ci) I rfl (by exact HI.out) dA data.length dc data rfl rfl (by exact HDr.out) (by rw [HIl.out]; omega) (by exact Nat.le_trans HLw.out HOa.out.fr.size) ?_; intro v4 w4 hown hgr hat; have ho2 := hown; rw [HIDl.out] at ho2; obtain ⟨Ay, cy, hv4, _⟩ := own_shape ho2; subst hv4; have HO4 := Kp.mk (HOa.out.append 0 rfl hown hgr hat); clear hown hgr hat ho2)
        have hl := rhash_calls false Ay cy (I ++ data) (bs_append HIb.out HB.out.2) (by rw [HIDl.out]; omega) w4 (HLc.out.fr HO4.out.fr) (HO4.out.row_src (i := 0) rfl)
        rw [HIDl.out, HHl.out] at hl
        refine hl.mono ?_
        rintro e w5 ⟨A5, c5, rfl, hO5, _, hf⟩
        have HS5 := Kp.mk (hO5.src (fun _ => False) (fun _ _ h => h)).2
        have HO5 := Kp.mk (HO4.out.below hf)
        have HO5r : Kp (w5.ownsRow low 5 1 (.slice Ao 64 co) O.length (bytes O)) := ⟨HO5.out.inv 1 _ rfl⟩
        clear hO5 hf hl HOa HI HDr
        go_wp2_with (at_builtin; refine wpList_appendS rfl (.tmp 41) (.tmp 43) rfl rfl low (.slice Ao 64 co) O rfl (by exact HO5r.out) A5 32 c5 (hash false (I ++ data)) HHl.out.symm rfl (by exact HS5.out) (by rw [HOl.out, HHl.out]; omega) (by exact Nat.le_trans HLw.out HO5.out.fr.size) ?_; intro v6 w6 hown hgr hat; have ho2 := hown; rw [HOHl.out] at ho2; obtain ⟨Ax, cx, hv6, _⟩ := own_shape ho2; subst hv6; have HO6 := Kp.mk (HO5.out.append 1 rfl hown hgr hat); clear hown hgr hat ho2)
        have hs := rsum256_calls Ax cx (O ++ hash false (I ++ data)) (bs_append HOb.out (bs_hash _ _)) (by rw [HOHl.out]; decide) w6 (HLc.out.fr HO6.out.fr) (HO6.out.row_src (i := 1) rfl)
        rw [HOHl.out, ← HMM.out] at hs
        refine hs.mono ?_
        rintro e w7 ⟨rfl, hf⟩
        have HO7 := Kp.mk (HO6.out.below hf)
        have HB7 : Kp (Blk w7 mb 40 (List.replicate 32 (.int .u8 0))) := ⟨HB0.out.fr HO7.out.fr (fun h => h)⟩
        have hi32 : (Tryd.prog.info? 40).map (·.size) = some 32 := by kernel_rfl
        have hsz : (bytes M).toArray.size = 32 := by simp [bytes, HMl.out]
        have hone : (bytes M).toArray.all (fun v => v.oneCell') = true := all_oneCell_toArray (fun v hv => by
          obtain ⟨z, _, rfl⟩ := List.mem_map.1 hv
          rfl)
        have HBh := Kp.mk (show w7.heap[mb]? = some (.cells (List.replicate 32 (.int .u8 0)).toArray 40 (0, 0)) from HB7.out)
        clear hs hf
        go_wp2_with (refine wpList_store_row rfl 40 _ _ rfl mb (bytes M).toArray rfl rfl 40 (List.replicate 32 (.int .u8 0)).toArray (by exact HBh.out) (by rw [hsz]; exact hi32) (by rw [hsz]; rfl) hone ?_)
        refine bodyPost_ret (results_cell_row rfl _ _ mb 40 _ (0, 0) _ rfl (setRow_heap _ mb _ _ _ _ HBh.out) Tryd.underlying40 rfl (by rw [hsz]; exact hi32)) rfl ?_
        refine ⟨rfl, ?_⟩
        exact (HF0.out.trans HO7.out.fr (fun _ _ h => h)).trans (S' := fun k => k = mb) ⟨rfl, rfl, rfl, by simp [World.setRow], fun k _ hk => setRow_other _ _ k _ hk⟩ (fun k hk he => by subst he; exact absurd hk (Nat.not_lt_of_le (HGm.out)))
end Go.Proofs.YtjcfnflkiialbaaDoor.Sha
namespace Go.Proofs.YtjcfnflkiialbaaDoor.Sha
open Go.RowKit Go.Proofs.YtjcfnflkiialbaaDoor.Mem Go.Proofs.YtjcfnflkiialbaaDoorW.PrintWords
theorem msame32 (M : List Int) (h : M.length = 32) (W : World) : (Op.equalIn 10000 41 (.agg (bytes M).toArray) (.agg (bytes M).toArray)).run Tryd.prog W = .ok true W := by
  have := run_equalIn_ints W 9998 41 5 32 .u8 Tryd.underlying41 Tryd.underlying5 size_u8 M M h h
  rw [decide_eq_true rfl] at this
  exact this
theorem mbytes_one (l : List Int) : (bytes l).toArray.all (fun v => v.oneCell') = true := all_oneCell_toArray (fun v hv => by
  obtain ⟨z, _, rfl⟩ := List.mem_map.1 hv
  rfl)
theorem mlent_src {w : World} {g n c : Nat} {p : List Int} (h : OwnL w 5 1 (.slice (some ⟨g, 0, none⟩) n c) n (bytes (lentL p))) (hc : p.length ≤ c) : Src w (fun _ => False) (some ⟨g, 0, none⟩) c p := by
  have h1 := h.reads.take p.length
  rw [show (lentL p).take p.length = p from by rw [lentL, List.take_left]] at h1
  exact ⟨hc, .inr (.inr ⟨g, 0, rfl, h1, fun h => h⟩)⟩
def hashOk (v : Value) : Bool := match v with
  | .agg cs => cs.size == 32 && cs.all (fun v => v.oneCell')
  | _ => false
theorem wp_store_hash (W : World) (a : Act) (K : Act → World → Prop) (Q : Exit → Act → World → Prop) (x y : Operand) (ty : TypeId) (pos : String) (af)
    (hx : rowOk W 41 (a.eval x) = true) (hy : hashOk (a.eval y) = true) :
    Oper.wp Tryd.prog { dst := none, op := .store 41 x y, type := ty, pos := pos, after := af, guard := none } a W K Q = K (a.put none undef) (W.setRow (rowBlock (a.eval x)) (rowCells (a.eval y))) := by
  obtain ⟨b, cs, hv, hb, hz⟩ : ∃ b cs, a.eval x = .pointer (some ⟨b, 0, none⟩) ∧ W.heap[b]? = some (.cells cs 41 (0, 0)) ∧ (Tryd.prog.info? 41).map (·.size) = some cs.size := by
    unfold rowOk at hx
    split at hx
    · rename_i b hv
      split at hx
      · rename_i cs t' fr hb
        simp only [Bool.and_eq_true, beq_iff_eq] at hx
        obtain ⟨⟨rfl, rfl⟩, h3⟩ := hx
        exact ⟨b, cs, hv, hb, h3⟩
      · cases hx
    · cases hx
  obtain ⟨ds, hd, h32, h1⟩ : ∃ ds, a.eval y = .agg ds ∧ ds.size = 32 ∧ ds.all (fun v => v.oneCell') = true := by
    unfold hashOk at hy
    split at hy
    · rename_i ds hd
      simp only [Bool.and_eq_true, beq_iff_eq] at hy
      exact ⟨ds, hd, hy.1, hy.2⟩
    · cases hy
  have hi : (Tryd.prog.info? 41).map (·.size) = some 32 := by kernel_rfl
  have h32' : cs.size = ds.size := by
    rw [hi] at hz
    have := Option.some.inj hz
    omega
  have hr := run_storeVar_row (P := Tryd.prog) W b 41 41 cs ds hb (by rw [hi, h32]) h32' h1
  unfold Oper.wp execOp
  simp only [hv, hd, Instr.storeAt, Instr.sureAddr, Sem.run_bind, Sem.run_pure, Result.andThen_ok, hr, rowBlock, rowCells]
  rfl
theorem hashOk_bytes (M : List Int) (h : M.length = 32) : hashOk (.agg (bytes M).toArray) = true := by
  show ((bytes M).toArray.size == 32 && (bytes M).toArray.all (fun v => v.oneCell')) = true
  rw [mbytes_one M]
  simp [bytes, h]
attribute [local go_sem ↓] Go.wp_at_zero Go.wp_at_succ wp_load_hash wp_store_hash
attribute [local go_sem] rowAt_drew rowOk_drew rowBlock rowCells
set_option maxHeartbeats 2000000 in
set_option maxRecDepth 100000 in
theorem macs_calls (kA : Option Addr) (kc : Nat) (key : List Int) (dA : Option Addr) (dc : Nat) (data : List Int) (w : World) (hL : Laid w) (hR : RLaid w) (hK : Src w (fun _ => False) kA kc key) (hD : Src w (fun _ => False) dA dc data) (hbk : Bs key) (hbd : Bs data) (hk : key.length ≤ 140737488351232) (hd : data.length ≤ 140737488351232) :
    Calls Tryd.prog 8 #[.slice kA key.length kc, .slice dA data.length dc] w fun e w' => e = .returned (.bool true) ∧ Below w.heap.size w w' := by
  obtain ⟨M, hM⟩ : ∃ M, M = macL key data := ⟨_, rfl⟩
  have hl : M.length = 32 := by rw [hM]; exact hash_length false _
  have C0 : Kp (∀ W, Fr (fun _ => False) w W → _) := ⟨fun W hf => lent_calls kA kc key (by omega) W (hK.fr hf)⟩
  have C00 : Kp (∀ W, Fr (fun _ => False) w W → _) := ⟨fun W hf => lent_calls dA dc data (by omega) W (hD.fr hf)⟩
  have C1 : Kp (∀ g cl g' cl' W, Fr (fun _ => False) w W → Src W (fun _ => False) (some ⟨g, 0, none⟩) cl key → Src W (fun _ => False) (some ⟨g', 0, none⟩) cl' data → Calls Tryd.prog 36 #[.slice (some ⟨g, 0, none⟩) key.length cl, .slice (some ⟨g', 0, none⟩) data.length cl'] W fun e w' => e = .returned (.agg (bytes M).toArray) ∧ Fr (fun _ => False) W w') :=
    ⟨fun g cl g' cl' W hf hs hs' => by rw [hM]; exact (mac_calls (some ⟨g, 0, none⟩) cl key (some ⟨g', 0, none⟩) cl' data W (hL.fr hf (fun _ h => h.elim)) hs hs' (by omega) (by omega)).mono fun _ _ h => ⟨h.1, Fr.of_below h.2 _⟩⟩
  have C3 : Kp (∀ W, Fr (fun _ => False) w W → Calls Tryd.prog 37 #[.slice kA key.length kc, .slice dA data.length dc] W fun e w' => e = .returned (.agg (bytes M).toArray) ∧ Fr (fun _ => False) W w') :=
    ⟨fun W hf => by rw [hM]; exact rmac_calls kA kc key dA dc data W (hR.fr hf) (hK.fr hf) (hD.fr hf) hbk hbd hk hd⟩
  have whole : ∀ (A : Option Addr) (c : Nat) (p : List Int), p.length ≤ 140737488351232 → Src w (fun _ => False) A c p → ∀ g cl W, Fr (fun _ => False) w W → OwnL W 5 1 (.slice (some ⟨g, 0, none⟩) (p.length + 200) cl) (p.length + 200) (bytes (lentL p)) → Calls Tryd.prog 27 #[.slice (some ⟨g, 0, none⟩) (p.length + 200) cl, .slice A p.length c] W fun e w' => e = .returned (.bool true) ∧ Fr (fun _ => False) W w' :=
    fun A c p hp hs g cl W hf hO => by
      have h := whole_calls (some ⟨g, 0, none⟩) A cl c (lentL p) p (by rw [lentL_len]; omega) (by omega) W (hO.src (fun _ => False) (fun _ _ h => h)).2 (hs.fr hf)
      rw [decide_eq_true rfl, lentL_len] at h
      exact h
  have C4 := Kp.mk (whole kA kc key hk hK)
  have C5 := Kp.mk (whole dA dc data hd hD)
  have CK : Kp (∀ g cl m W, key.length ≤ cl → OwnL W 5 1 (.slice (some ⟨g, 0, none⟩) m cl) m (bytes (lentL key)) → Src W (fun _ => False) (some ⟨g, 0, none⟩) cl key) := ⟨fun g cl m W hc hO => mlent_src hO hc⟩
  have CD : Kp (∀ g cl m W, data.length ≤ cl → OwnL W 5 1 (.slice (some ⟨g, 0, none⟩) m cl) m (bytes (lentL data)) → Src W (fun _ => False) (some ⟨g, 0, none⟩) cl data) := ⟨fun g cl m W hc hO => mlent_src hO hc⟩
  have S1 := Kp.mk (msame32 M hl)
  have K1 := Kp.mk hl
  obtain ⟨kn, hkn⟩ : ∃ kn, kn = key.length := ⟨_, rfl⟩
  obtain ⟨n, hn⟩ : ∃ n, n = data.length := ⟨_, rfl⟩
  rw [← hkn] at C0 C1 C3 C4 hk CK ⊢
  rw [← hn] at C00 C1 C3 C5 hd CD ⊢
  clear hM hl hL hR hK hD hbk hbd hkn hn whole
  go_enter Tryd.func8, Tryd.ntmps8
  go_wp2_with fail
  refine (C0.out w (Fr.refl _ _)).mono ?_
  rintro e w1 ⟨g, cl, rfl, hO, hg, hc, hf⟩
  have F1 := Kp.mk hf
  have O1 := Kp.mk hO
  have hcn : (kn : Int) ≤ (cl : Int) := by omega
  have HC1 : Kp (kn ≤ cl) := ⟨by omega⟩
  clear hO hf hg hc
  go_wp2_with fail
  refine (C00.out w1 F1.out).mono ?_
  rintro e w2 ⟨g', cl', rfl, hO, hg, hc, hf⟩
  have F2 := Kp.mk (F1.out.trans hf (fun _ _ h => h))
  have O2 := Kp.mk (O1.out.fr hf (fun _ _ h => h))
  have P2 := Kp.mk hO
  have hcn' : (n : Int) ≤ (cl' : Int) := by omega
  have HC2 : Kp (n ≤ cl') := ⟨by omega⟩
  clear hO hf hg hc F1 O1
  go_upto_region 3 with (fail)
  have hi32 : (Tryd.prog.info? 41).map (·.size) = some 32 := by kernel_rfl
  have hMok := hashOk_bytes M K1.out
  have F3 := Kp.mk (F2.out.drew)
  have O3 := Kp.mk (O2.out.fr ((Fr.refl (fun _ => False) w2).drew) (fun _ _ h => h))
  have P3 := Kp.mk (P2.out.fr ((Fr.refl (fun _ => False) w2).drew) (fun _ _ h => h))
  go_region_with (go_at_call 36; first
    | ((refine (C1.out g cl g' cl' _ (by exact F3.out) (by exact CK.out g cl _ _ HC1.out O3.out) (by exact CD.out g' cl' _ _ HC2.out P3.out)).mono ?_); rintro e' w4 ⟨rfl, hf4⟩; have HB4 := Kp.mk (Blk.new w4 #[.int .u8 0, .int .u8 0, .int .u8 0, .int .u8 0, .int .u8 0, .int .u8 0, .int .u8 0, .int .u8 0, .int .u8 0, .int .u8 0, .int .u8 0, .int .u8 0, .int .u8 0, .int .u8 0, .int .u8 0, .int .u8 0, .int .u8 0, .int .u8 0, .int .u8 0, .int .u8 0, .int .u8 0, .int .u8 0, .int .u8 0, .int .u8 0, .int .u8 0, .int .u8 0, .int .u8 0, .int .u8 0, .int .u8 0, .int .u8 0, .int .u8 0, .int .u8 0] 41); have HFz := Kp.mk ((Fr.refl (fun _ => False) w4).alloc (.cells #[.int .u8 0, .int .u8 0, .int .u8 0, .int .u8 0, .int .u8 0, .int .u8 0, .int .u8 0, .int .u8 0, .int .u8 0, .int .u8 0, .int .u8 0, .int .u8 0, .int .u8 0, .int .u8 0, .int .u8 0, .int .u8 0, .int .u8 0, .int .u8 0, .int .u8 0, .int .u8 0, .int .u8 0, .int .u8 0, .int .u8 0, .int .u8 0, .int .u8 0, .int .u8 0, .int .u8 0, .int .u8 0, .int .u8 0, .int .u8 0, .int .u8 0, .int .u8 0] 41)); have hrow := rowOk_blk HB4.out hi32; have HF4 := Kp.mk hf4; clear hf4)
    | ((refine (C1.out g cl g' cl' _ (by exact F3.out.alloc _) (by exact CK.out g cl _ _ HC1.out (O3.out.fr ((Fr.refl (fun _ => False) _).alloc _) (fun _ _ h => h))) (by exact CD.out g' cl' _ _ HC2.out (P3.out.fr ((Fr.refl (fun _ => False) _).alloc _) (fun _ _ h => h)))).mono ?_); rintro e' w4 ⟨rfl, hf4⟩; have HB4 := Kp.mk ((Blk.new w2.drew #[.int .u8 0, .int .u8 0, .int .u8 0, .int .u8 0, .int .u8 0, .int .u8 0, .int .u8 0, .int .u8 0, .int .u8 0, .int .u8 0, .int .u8 0, .int .u8 0, .int .u8 0, .int .u8 0, .int .u8 0, .int .u8 0, .int .u8 0, .int .u8 0, .int .u8 0, .int .u8 0, .int .u8 0, .int .u8 0, .int .u8 0, .int .u8 0, .int .u8 0, .int .u8 0, .int .u8 0, .int .u8 0, .int .u8 0, .int .u8 0, .int .u8 0, .int .u8 0] 41).fr hf4 (fun h => h)); have HFz := Kp.mk (((Fr.refl (fun _ => False) w2.drew).alloc (.cells #[.int .u8 0, .int .u8 0, .int .u8 0, .int .u8 0, .int .u8 0, .int .u8 0, .int .u8 0, .int .u8 0, .int .u8 0, .int .u8 0, .int .u8 0, .int .u8 0, .int .u8 0, .int .u8 0, .int .u8 0, .int .u8 0, .int .u8 0, .int .u8 0, .int .u8 0, .int .u8 0, .int .u8 0, .int .u8 0, .int .u8 0, .int .u8 0, .int .u8 0, .int .u8 0, .int .u8 0, .int .u8 0, .int .u8 0, .int .u8 0, .int .u8 0, .int .u8 0] 41)).trans hf4 (fun _ _ h => h)); have hrow : rowOk w4 41 (.pointer (some ⟨w2.heap.size, 0, none⟩)) = true := rowOk_blk HB4.out hi32; clear hf4))
  · have F4 := Kp.mk (F3.out.trans HF4.out (fun _ _ h => h))
    have hz := fr_row (Fr.refl (fun _ => False) w4) (.cells #[.int .u8 0, .int .u8 0, .int .u8 0, .int .u8 0, .int .u8 0, .int .u8 0, .int .u8 0, .int .u8 0, .int .u8 0, .int .u8 0, .int .u8 0, .int .u8 0, .int .u8 0, .int .u8 0, .int .u8 0, .int .u8 0, .int .u8 0, .int .u8 0, .int .u8 0, .int .u8 0, .int .u8 0, .int .u8 0, .int .u8 0, .int .u8 0, .int .u8 0, .int .u8 0, .int .u8 0, .int .u8 0, .int .u8 0, .int .u8 0, .int .u8 0, .int .u8 0] 41) (bytes M).toArray
    have F5 := Kp.mk (F4.out.trans hz (fun _ _ h => h))
    have O5 := Kp.mk ((O3.out.fr HF4.out (fun _ _ h => h)).fr hz (fun _ _ h => h))
    have P5 := Kp.mk ((P3.out.fr HF4.out (fun _ _ h => h)).fr hz (fun _ _ h => h))
    have BA := Kp.mk (blk_row w4 41 #[.int .u8 0, .int .u8 0, .int .u8 0, .int .u8 0, .int .u8 0, .int .u8 0, .int .u8 0, .int .u8 0, .int .u8 0, .int .u8 0, .int .u8 0, .int .u8 0, .int .u8 0, .int .u8 0, .int .u8 0, .int .u8 0, .int .u8 0, .int .u8 0, .int .u8 0, .int .u8 0, .int .u8 0, .int .u8 0, .int .u8 0, .int .u8 0, .int .u8 0, .int .u8 0, .int .u8 0, .int .u8 0, .int .u8 0, .int .u8 0, .int .u8 0, .int .u8 0] (bytes M))
    obtain ⟨ga, hga⟩ : ∃ ga, ga = w4.heap.size := ⟨_, rfl⟩
    rw [← hga] at BA F5 O5 P5 ⊢
    generalize hW5 : World.setRow _ ga _ = w5 at BA F5 O5 P5 ⊢
    clear hz hW5 hga hrow HB4 HFz HF4 F4 F3 O3 P3 F2 O2 P2 C0 C00 C1 CK CD
    go_upto_region 4 with (fail)
    have Z1 : Kp ((Tryd.prog.info? 41).map (·.size) = some (bytes M).length) := ⟨by rw [bytes_length, K1.out]; exact hi32⟩
    clear hi32 hMok
    have ok1 := rowOk_blk BA.out Z1.out
    have at1 := rowAt_blk BA.out
    have s1 := S1.out
    go_region_with (first
      | (go_at_call 37; (refine (C3.out _ (by exact F5.out.drew)).mono ?_); rintro e' w6 ⟨rfl, hf6⟩; have F6 := Kp.mk (F5.out.drew.trans hf6 (fun _ _ h => h)); have O6 := Kp.mk (O5.out.fr (((Fr.refl (fun _ => False) w5).drew).trans hf6 (fun _ _ h => h)) (fun _ _ h => h)); have P6 := Kp.mk (P5.out.fr (((Fr.refl (fun _ => False) w5).drew).trans hf6 (fun _ _ h => h)) (fun _ _ h => h)); have BA6 := Kp.mk (BA.out.drew.fr hf6 (fun h => h)); have ok16 := rowOk_blk BA6.out Z1.out; have at16 := rowAt_blk BA6.out; clear hf6)
      | (go_at_call 27; (refine (C4.out g cl _ F6.out O6.out).mono ?_); rintro e' w7 ⟨rfl, hf7⟩; have F7 := Kp.mk (F6.out.trans hf7 (fun _ _ h => h)); have P7 := Kp.mk (P6.out.fr hf7 (fun _ _ h => h)); clear hf7)
      | (go_at_call 27; (refine (C5.out g' cl' _ F7.out P7.out).mono ?_); rintro e' w8 ⟨rfl, hf8⟩; have F8 := Kp.mk (F7.out.trans hf8 (fun _ _ h => h)); clear hf8))
    all_goals
      go_wp2
      go_ret
      exact ⟨rfl, F8.out.below (fun _ _ h => h)⟩
  · have hlt : w2.heap.size < w4.heap.size := HB4.out.lt
    have hst := setRow_heap w4 w2.heap.size _ (bytes M).toArray _ _ (show w4.heap[w2.heap.size]? = _ from HB4.out)
    have hz : Fr (fun k => k = w2.heap.size) w4 (w4.setRow w2.heap.size (bytes M).toArray) := ⟨rfl, rfl, rfl, by simp [World.setRow], fun k _ hk => setRow_other _ _ k _ hk⟩
    have F5 := Kp.mk ((F3.out.trans HFz.out (fun _ _ h => h)).trans hz (fun k hk he => by have := F2.out.size; omega))
    have O5 := Kp.mk ((O3.out.fr HFz.out (fun _ _ h => h)).fr hz (fun k hk he => by have := O2.out.lt k hk; omega))
    have P5 := Kp.mk ((P3.out.fr HFz.out (fun _ _ h => h)).fr hz (fun k hk he => by have := P2.out.lt k hk; omega))
    have BA : Kp (Blk (w4.setRow w2.heap.size (bytes M).toArray) w2.heap.size 41 (bytes M)) := ⟨hst⟩
    obtain ⟨ga, hga⟩ : ∃ ga, ga = w2.heap.size := ⟨_, rfl⟩
    rw [← hga] at BA F5 O5 P5 ⊢
    generalize hW5 : World.setRow _ ga _ = w5 at BA F5 O5 P5 ⊢
    clear hz hst hlt hW5 hga hrow HB4 HFz F3 O3 P3 F2 O2 P2 C0 C00 C1 CK CD
    go_upto_region 4 with (fail)
    have Z1 : Kp ((Tryd.prog.info? 41).map (·.size) = some (bytes M).length) := ⟨by rw [bytes_length, K1.out]; exact hi32⟩
    clear hi32 hMok
    have ok1 := rowOk_blk BA.out Z1.out
    have at1 := rowAt_blk BA.out
    have s1 := S1.out
    go_region_with (first
      | (go_at_call 37; (refine (C3.out _ (by exact F5.out.drew)).mono ?_); rintro e' w6 ⟨rfl, hf6⟩; have F6 := Kp.mk (F5.out.drew.trans hf6 (fun _ _ h => h)); have O6 := Kp.mk (O5.out.fr (((Fr.refl (fun _ => False) w5).drew).trans hf6 (fun _ _ h => h)) (fun _ _ h => h)); have P6 := Kp.mk (P5.out.fr (((Fr.refl (fun _ => False) w5).drew).trans hf6 (fun _ _ h => h)) (fun _ _ h => h)); have BA6 := Kp.mk (BA.out.drew.fr hf6 (fun h => h)); have ok16 := rowOk_blk BA6.out Z1.out; have at16 := rowAt_blk BA6.out; clear hf6)
      | (go_at_call 27; (refine (C4.out g cl _ F6.out O6.out).mono ?_); rintro e' w7 ⟨rfl, hf7⟩; have F7 := Kp.mk (F6.out.trans hf7 (fun _ _ h => h)); have P7 := Kp.mk (P6.out.fr hf7 (fun _ _ h => h)); clear hf7)
      | (go_at_call 27; (refine (C5.out g' cl' _ F7.out P7.out).mono ?_); rintro e' w8 ⟨rfl, hf8⟩; have F8 := Kp.mk (F7.out.trans hf8 (fun _ _ h => h)); clear hf8))
    all_goals
      go_wp2
      go_ret
      exact ⟨rfl, F8.out.below (fun _ _ h => h)⟩
end Go.Proofs.YtjcfnflkiialbaaDoor.Sha
