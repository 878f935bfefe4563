/-
  The walk of ShaMacBy.
-/
import Derived.Test.YtjcfnflkiialbaaDoorObs
import Derived.Test.YtjcfnflkiialbaaDoorMac
import Derived.Deep.DrawnRows
import Derived.Deep.RegionWith
namespace Go.Proofs.YtjcfnflkiialbaaDoor.Sha
open Go.RowKit Go.Proofs.YtjcfnflkiialbaaDoor.Mem Go.Proofs.YtjcfnflkiialbaaDoorW.PrintWords
theorem normKey_length (key : List Int) : (normKey key).length ≤ 64 := by
  unfold normKey
  split
  · have := hash_length false key
    have e : out false = 32 := rfl
    omega
  · omega
theorem normKey_idem (k : List Int) (h : k.length ≤ 64) : normKey k = k := by unfold normKey; rw [if_neg (by omega)]
theorem mac_norm (key data : List Int) : macL (normKey key) data = macL key data := by
  unfold macL; rw [normKey_idem _ (normKey_length key)]
theorem pad_pad (k : List Int) (j : Nat) (h : k.length + j ≤ 64) : pad64 (k ++ List.replicate j 0) = pad64 k := by
  unfold pad64
  rw [List.append_assoc, List.replicate_append_replicate, List.length_append, List.length_replicate]
  congr 2
  omega
theorem mac_pad (k data : List Int) (j : Nat) (h : k.length + j ≤ 64) : macL (k ++ List.replicate j 0) data = macL k data := by
  unfold macL
  rw [normKey_idem _ (by rw [List.length_append, List.length_replicate]; exact h), normKey_idem k (by omega), pad_pad k j h]
theorem mac_length (key data : List Int) : (macL key data).length = 32 := hash_length false _
theorem xor_snoc (c : Int) (P : List Int) (i : Nat) (h : i < P.length) : (xorL c P).take i ++ [bits .xor .u8 (P.getD i 0) c] = (xorL c P).take (i + 1) := by
  rw [List.take_succ_eq_append_getElem (by rw [xorL_length]; exact h)]
  simp [xorL, h]
theorem hash_same (M : List Int) (h : M.length = 32) (W : World) : (Op.equalIn 10000 41 (.agg (bytes M).toArray) (.agg (bytes M).toArray)).run Tryd.prog W = .ok true W := by
  have := run_equalIn_ints W 9998 41 5 32 .u8 Tryd.underlying41 Tryd.underlying5 size_u8 M M h h
  rw [decide_eq_true rfl] at this
  exact this
theorem Objs.head {w0 w : World} {os : List Ob} (h : Objs w0 w os) {i : Nat} {A : Option Addr} {n c : Nat} {xs : List Int} (hi : os[i]? = some (Ob.row (.slice A n c) xs)) (hx : 0 < xs.length) : ∃ g, A = some ⟨g, 0, none⟩ := by
  have hO : w.ownsRow low 5 1 (.slice A n c) xs.length (bytes xs) := h.inv i _ hi
  obtain ⟨g, cap, hv, _⟩ := own_form hO hx
  simp only [Value.slice.injEq] at hv
  exact ⟨g, hv.1⟩
theorem Objs.cell {w0 w : World} {os : List Ob} (h : Objs w0 w os) {i g n c k : Nat} {xs : List Int} (hi : os[i]? = some (Ob.row (.slice (some ⟨g, 0, none⟩) n c) xs)) (hk : k < xs.length) : w.cell? ⟨g, k, none⟩ = some (.int .u8 (xs.getD k 0)) := by
  have hO : w.ownsRow low 5 1 (.slice (some ⟨g, 0, none⟩) n c) xs.length (bytes xs) := h.inv i _ hi
  obtain ⟨A, c', hv, _⟩ := own_shape hO
  simp only [Value.slice.injEq] at hv
  obtain ⟨_, rfl, _⟩ := hv
  have := (own_reads hO rfl).2.2 k hk
  rwa [Nat.zero_add] at this
attribute [local go_sem ↓] Go.wp_at_zero Go.wp_at_succ wp_load_hash
attribute [local go_sem] rowAt_drew rowOk_drew
set_option maxHeartbeats 2000000 in
set_option maxRecDepth 100000 in
theorem macby_calls (kA : Option Addr) (kc : Nat) (key : List Int) (dA : Option Addr) (dc : Nat) (data : List Int) (w : World) (hL : Laid w) (hK : Src w (fun _ => False) kA kc key) (hD : Src w (fun _ => False) dA dc data) (hk : key.length ≤ 140737488351232) (hd : data.length ≤ 140737488351232) :
    Calls Tryd.prog 9 #[.slice kA key.length kc, .slice dA data.length dc] w fun e w' => e = .returned (.bool true) ∧ Below w.heap.size w w' := by
  have HL := Kp.mk hL
  have HLw := Kp.mk hL.size
  have HK := Kp.mk hK
  have HD := Kp.mk hD
  have HML := Kp.mk (mac_length key data)
  clear hL hK hD
  go_enter Tryd.func9, Tryd.ntmps9
  go_wp2_with fail
  refine (abc_calls w HL.out).mono ?_
  rintro e w1 ⟨rfl, B1⟩
  have F1 : Kp (Fr (fun _ => False) w w1) := ⟨Fr.of_below B1 _⟩
  clear B1
  go_wp2_with fail
  refine (mac_calls kA kc key dA dc data w1 (HL.out.fr F1.out (fun _ h => h.elim)) (HK.out.fr F1.out) (HD.out.fr F1.out) (by omega) (by omega)).mono ?_
  rintro e w2 ⟨rfl, B2⟩
  have F2 := Kp.mk (F1.out.then_below B2)
  clear B2 F1
  obtain ⟨M, hM⟩ : ∃ M, M = macL key data := ⟨_, rfl⟩
  have HM := Kp.mk hM
  rw [← hM] at HML ⊢
  clear hM
  have hsz := Kp.mk (size32 M HML.out)
  have hrow : Kp ((w2.alloc (.cells (List.replicate 32 (Value.int .u8 0)).toArray 41)).heap[w2.heap.size]? = some (.cells (List.replicate 32 (Value.int .u8 0)).toArray 41 (0, 0))) := ⟨Blk.new w2 _ _⟩
  go_upto_if 19 with (refine wpList_store_row rfl 41 _ _ rfl w2.heap.size (bytes M).toArray rfl rfl 41 (List.replicate 32 (Value.int .u8 0)).toArray (by exact hrow.out) hsz.out.1 hsz.out.2 (bytes_one M) ?_)
  obtain ⟨mb, hmb⟩ : ∃ mb, mb = w2.heap.size := ⟨_, rfl⟩
  have HO0 : Kp (Objs w ((w2.alloc (.cells (List.replicate 32 (Value.int .u8 0)).toArray 41)).setRow w2.heap.size (bytes M).toArray) [Ob.blk mb 41 (bytes M), Ob.row (.slice none 0 0) [], Ob.row (.slice none 0 0) [], Ob.row (.slice none 0 0) []]) := ⟨by
    have hf : Fr (fun _ => False) w2 ((w2.alloc (.cells (List.replicate 32 (Value.int .u8 0)).toArray 41)).setRow w2.heap.size (bytes M).toArray) := fr_row (Fr.refl _ _) _ _
    have hb := blk_row w2 41 (List.replicate 32 (Value.int .u8 0)).toArray (bytes M)
    rw [← hmb] at hb
    have h0 : Objs w w2 [] := ⟨fun i o h => by simp at h, ⟨fun _ => 0, fun _ _ => rfl, fun i o h => by simp at h⟩, F2.out⟩
    have nr : ∀ W : World, (Ob.row (.slice none 0 0) []).inv W := fun W => ⟨rfl, .inl ⟨rfl, rfl⟩⟩
    have nf : ∀ (k n : Nat), (Ob.row (.slice none 0 0) []).foot k → n ≤ k := fun k n h => by cases h
    have h1 := h0.add (o' := Ob.blk mb 41 (bytes M)) hf (by rw [← hmb] at hf ⊢; exact hb) (fun k (hk : k = mb) => by omega)
    exact ((h1.add (Fr.refl _ _) (nr _) (fun k => nf k _)).add (Fr.refl _ _) (nr _) (fun k => nf k _)).add (Fr.refl _ _) (nr _) (fun k => nf k _)⟩
  have HHS := hash_same M HML.out
  have HMz : Kp ((Tryd.prog.info? 41).map (·.size) = some (bytes M).length) := ⟨by rw [bytes_length, HML.out]; kernel_rfl⟩
  rw [← hmb] at HO0 ⊢
  clear hsz hrow F2 hmb
  go_cut [6] (fun s6 wx => ∃ (kA' : Option Addr) (kc' : Nat) (k' : List Int), s6 = .slice kA' k'.length kc' ∧ Kp (k' = normKey key) ∧ Kp (Src wx (fun _ => False) kA' kc' k') ∧ Kp (Objs w wx [Ob.blk mb 41 (bytes M), Ob.row (.slice none 0 0) [], Ob.row (.slice none 0 0) [], Ob.row (.slice none 0 0) []]))
  case first =>
    by_cases h64 : 64 < key.length
    · go_wp2_with fail
      refine (listL_calls false kA kc key _ (HL.out.fr HO0.out.fr (fun _ h => h.elim)) (HK.out.fr HO0.out.fr) (by unfold maxCount; omega)).mono ?_
      rintro e w3 ⟨A3, c3, rfl, hS, hB⟩
      have ho : out false = 32 := rfl
      rw [ho]
      have HN : Kp (normKey key = hash false key) := ⟨by unfold normKey; rw [if_pos h64]⟩
      have hl : (hash false key).length = 32 := hash_length false key
      have HS3 := Kp.mk hS
      have HO3 := Kp.mk (HO0.out.below (Fr.of_below hB (fun _ => False)))
      have HMc : Kp (∀ W, Fr (fun _ => False) w3 W → Calls Tryd.prog 36 #[.slice A3 32 c3, .slice dA data.length dc] W fun e w' => e = .returned (.agg (bytes M).toArray) ∧ Fr (fun _ => False) w3 w') := ⟨fun W hW => by
        have h := mac_calls A3 c3 (hash false key) dA dc data W (HL.out.fr ((HO3.out.below hW).fr) (fun _ h => h.elim)) (HS3.out.fr hW) (HD.out.fr ((HO3.out.below hW).fr)) (by omega) (by omega)
        rw [hl, ← HN.out, mac_norm, ← HM.out] at h
        exact h.mono fun e w' ⟨h1, h2⟩ => ⟨h1, hW.then_below h2⟩⟩
      have HB3 : Kp (Blk w3 mb 41 (bytes M)) := ⟨HO3.out.inv 0 _ rfl⟩
      have hok3 := rowOk_blk HB3.out HMz.out
      have hat3 := rowAt_blk HB3.out
      clear hS hB hl ho HO0
      go_wp2
      go_region_with (go_at_call 36; (refine (HMc.out _ (by repeat (first | exact Fr.refl _ _ | apply Fr.drew))).mono ?_); rintro e w4 ⟨rfl, hf4⟩; have HF4 := Kp.mk hf4; have hok4 := rowOk_blk (HB3.out.fr hf4 (fun h => h)) HMz.out; have hat4 := rowAt_blk (HB3.out.fr hf4 (fun h => h)); clear hf4)
      all_goals (try go_wp2)
      all_goals
        go_meet
        case rel => exact ⟨A3, c3, hash false key, by rw [hash_length]; rfl, ⟨HN.out.symm⟩, ⟨HS3.out.fr HF4.out⟩, ⟨HO3.out.below HF4.out⟩⟩
    · go_wp2
      go_meet
      case rel => exact ⟨kA, kc, key, rfl, ⟨by unfold normKey; rw [if_neg h64]⟩, ⟨HK.out.fr HO0.out.fr⟩, HO0⟩
  case rest =>
    clear HO0
    obtain ⟨kA', kc', k', rfl, HN, HS, HO⟩ := hcut
    have HKl : Kp (k'.length ≤ 64) := ⟨by rw [HN.out]; exact normKey_length key⟩
    have HMk : Kp (macL k' data = M) := ⟨by rw [HN.out, mac_norm, HM.out]⟩
    have HI0 : Kp (wc.ownsRow low 5 1 (.slice none 0 0) ([] : List Int).length (bytes [])) := ⟨HO.out.inv 1 _ rfl⟩
    go_wp2_with (at_builtin; refine wpList_appendS rfl (.tmp 27) (.tmp 28) rfl rfl low (.slice none 0 0) [] rfl (by exact HI0.out) kA' k'.length kc' k' rfl rfl (by exact HS.out) (by have := HKl.out; simp only [List.length_nil]; omega) (by exact Nat.le_trans HLw.out HO.out.fr.size) ?_; intro v3 w3 hown hgr hat; obtain ⟨Az, cz, hv3, _⟩ := own_shape hown; subst hv3; have HO1 := Kp.mk (HO.out.append 1 rfl hown hgr hat); clear hown hgr hat)
    have HO2 : Kp (Objs w w3 [Ob.blk mb 41 (bytes M), Ob.row (.slice Az (k'.length + 0) cz) (k' ++ List.replicate 0 0), Ob.row (.slice none 0 0) [], Ob.row (.slice none 0 0) []]) := ⟨by
      have h := HO1.out
      simp only [List.nil_append] at h
      rw [show List.replicate 0 (0 : Int) = [] from rfl, List.append_nil]
      exact h⟩
    clear HO HO1 HI0 HS
    go_loopw [7] (fun s7 wr => ∃ (j cz : Nat) (Az : Option Addr), s7 = .slice Az (k'.length + j) cz ∧ Kp (k'.length + j ≤ 64) ∧ Kp (Objs w wr [Ob.blk mb 41 (bytes M), Ob.row (.slice Az (k'.length + j) cz) (k' ++ List.replicate j 0), Ob.row (.slice none 0 0) [], Ob.row (.slice none 0 0) []])) (fun s7 _ => 64 - lenOf s7)
    case atStart => exact ⟨0, cz, Az, by simp, ⟨HKl.out⟩, HO2⟩
    case round =>
      clear HO2
      obtain ⟨j, cz, Az, rfl, hj, HO⟩ := hrel
      have hj' := hj.out
      by_cases hlt : k'.length + j < 64
      · have hzl : Kp ((k' ++ List.replicate j (0 : Int)).length = k'.length + j) := ⟨by simp⟩
        have hzs : Kp ((k' ++ List.replicate j (0 : Int)) ++ [0] = k' ++ List.replicate (j + 1) 0) := ⟨by rw [List.replicate_succ', List.append_assoc]⟩
        have HZ : Kp (wr.ownsRow low 5 1 (.slice Az (k'.length + j) cz) (k' ++ List.replicate j (0 : Int)).length (bytes (k' ++ List.replicate j 0))) := ⟨HO.out.inv 1 _ rfl⟩
        go_wp2_with (at_builtin; refine wpList_appendS rfl (.tmp 33) (.tmp 34) rfl rfl low (.slice Az (k'.length + j) cz) (k' ++ List.replicate j 0) rfl (by exact own_keep HZ.out ((Fr.refl (fun _ => False) wr).alloc _) (fun _ _ h => h)) (some ⟨wr.heap.size, 0, none⟩) 1 1 [0] rfl rfl (by exact src_new wr [0] 5 1 (Nat.le_refl _)) (by rw [hzl.out]; simp only [List.length_cons, List.length_nil]; omega) (by exact Nat.le_trans HLw.out (Nat.le_trans HO.out.fr.size (by simp))) ?_; intro v4 w4 hown hgr hat; rw [hzs.out] at hown; obtain ⟨Ay, cy, hv4, _⟩ := own_shape hown; subst hv4; have HO4 := Kp.mk ((HO.out.below ((Fr.refl (fun _ => False) wr).alloc (.cells #[.int .u8 0] 5))).append 1 rfl hown hgr hat); clear hown hgr hat)
        have HO5 : Kp (Objs w w4 [Ob.blk mb 41 (bytes M), Ob.row (.slice Ay (k'.length + (j + 1)) cy) (k' ++ List.replicate (j + 1) 0), Ob.row (.slice none 0 0) [], Ob.row (.slice none 0 0) []]) := ⟨by
          have h := HO4.out
          rw [List.length_append, List.length_replicate] at h
          exact h⟩
        clear HO4 HO HZ hzl hzs
        have HMc : Kp (∀ W, Fr (fun _ => False) w4 W → Calls Tryd.prog 36 #[.slice Ay (k'.length + (j + 1)) cy, .slice dA data.length dc] W fun e w' => e = .returned (.agg (bytes M).toArray) ∧ Fr (fun _ => False) w4 w') := ⟨fun W hW => by
          have hs := (HO5.out.row_src (i := 1) rfl).fr hW
          have h := mac_calls Ay cy (k' ++ List.replicate (j + 1) 0) dA dc data W (HL.out.fr ((HO5.out.below hW).fr) (fun _ h => h.elim)) hs (HD.out.fr ((HO5.out.below hW).fr)) (by rw [List.length_append, List.length_replicate]; omega) (by omega)
          rw [List.length_append, List.length_replicate, mac_pad k' data (j + 1) (by omega), HMk.out] at h
          exact h.mono fun e w' ⟨h1, h2⟩ => ⟨h1, hW.then_below h2⟩⟩
        have HB3 : Kp (Blk w4 mb 41 (bytes M)) := ⟨HO5.out.inv 0 _ rfl⟩
        have hok3 := rowOk_blk HB3.out HMz.out
        have hat3 := rowAt_blk HB3.out
        go_region_with (go_at_call 36; (refine (HMc.out _ (by repeat (first | exact Fr.refl _ _ | apply Fr.drew))).mono ?_); rintro e w5 ⟨rfl, hf4⟩; have HF4 := Kp.mk hf4; have hok4 := rowOk_blk (HB3.out.fr hf4 (fun h => h)) HMz.out; have hat4 := rowAt_blk (HB3.out.fr hf4 (fun h => h)); clear hf4)
        all_goals (try go_wp2)
        all_goals
          go_roundw
          case rel =>
            (repeat apply Exists.intro)
            exact ⟨⟨j + 1, cy, Ay, rfl, ⟨by omega⟩, ⟨HO5.out.below HF4.out⟩⟩, rfl⟩
          case measure =>
            show 64 - (k'.length + (j + 1)) < 64 - (k'.length + j)
            omega
      · have HE : Kp (k'.length + j = 64) := ⟨by omega⟩
        obtain ⟨P, hP⟩ : ∃ P, P = k' ++ List.replicate j (0 : Int) := ⟨_, rfl⟩
        have hPp : P = pad64 (normKey key) := by
          rw [hP, ← HN.out]; unfold pad64; congr 2; have := HE.out; omega
        have HPl : Kp (P.length = 64) := ⟨by rw [hP, List.length_append, List.length_replicate]; exact HE.out⟩
        have HMM : Kp (M = hash false (xorL 92 P ++ hash false (xorL 54 P ++ data))) := ⟨by rw [HM.out]; unfold macL; rw [← hPp]⟩
        have HO2 : Kp (Objs w wr [Ob.blk mb 41 (bytes M), Ob.row (.slice Az 64 cz) P, Ob.row (.slice none 0 0) ((xorL 54 P).take 0), Ob.row (.slice none 0 0) ((xorL 92 P).take 0)]) := ⟨by
          have h := HO.out
          rw [HE.out, ← hP] at h
          exact h⟩
        have he := HE.out
        have hex : decide ((k'.length : Int) + (j : Int) < 64) = false := decide_eq_false (by omega)
        clear hP hPp HO he
        go_wp2
        go_loopw [8, 9, 10] (fun s8 s9 s10 wr => ∃ (i ci co : Nat) (Ai Ao : Option Addr), s10 = .int .i64 (i : Int) ∧ s8 = .slice Ai i ci ∧ s9 = .slice Ao i co ∧ Kp (i ≤ 64) ∧ Kp (Objs w wr [Ob.blk mb 41 (bytes M), Ob.row (.slice Az 64 cz) P, Ob.row (.slice Ai i ci) ((xorL 54 P).take i), Ob.row (.slice Ao i co) ((xorL 92 P).take i)])) (fun _ _ s10 _ => 64 - (intOf s10).toNat)
        case atStart => exact ⟨0, 0, 0, none, none, rfl, rfl, rfl, ⟨Nat.zero_le _⟩, HO2⟩
        case round =>
          clear HO2
          obtain ⟨i, ci, co, Ai, Ao, rfl, rfl, rfl, hi, HO⟩ := hrel
          have hi' := hi.out
          by_cases hlt : i < 64
          · have hit : ((xorL 54 P).take i).length = i := by rw [List.length_take, xorL_length, HPl.out]; omega
            have hot : ((xorL 92 P).take i).length = i := by rw [List.length_take, xorL_length, HPl.out]; omega
            have HIT := Kp.mk hit
            have HOT := Kp.mk hot
            have HIS := Kp.mk (xor_snoc 54 P i (by rw [HPl.out]; exact hlt))
            have HOS := Kp.mk (xor_snoc 92 P i (by rw [HPl.out]; exact hlt))
            obtain ⟨gz, rfl⟩ := HO.out.head (i := 1) rfl (by rw [HPl.out]; omega)
            have HPi : Kp (i < P.length) := ⟨by rw [HPl.out]; exact hlt⟩
            obtain ⟨z, hz⟩ : ∃ z, z = P.getD i 0 := ⟨_, rfl⟩
            have HZ := Kp.mk hz
            have hc1 := HO.out.cell (i := 1) rfl HPi.out
            rw [← hz] at hc1 HIS HOS
            clear hz
            have HI : Kp (wr.ownsRow low 5 1 (.slice Ai i ci) ((xorL 54 P).take i).length (bytes ((xorL 54 P).take i))) := ⟨HO.out.inv 2 _ rfl⟩
            clear hit hot
            go_wp2_with (first
              | (at_builtin; refine wpList_appendS rfl (.tmp 45) (.tmp 51) rfl rfl low (.slice Ai i ci) ((xorL 54 P).take i) rfl (by exact own_keep HI.out ((Fr.refl (fun _ => False) wr).alloc _) (fun _ _ h => h)) (some ⟨wr.heap.size, 0, none⟩) 1 1 [bits .xor .u8 z 54] rfl rfl (by exact src_new wr [bits .xor .u8 z 54] 5 1 (Nat.le_refl _)) (by rw [HIT.out]; simp only [List.length_cons, List.length_nil]; omega) (by exact Nat.le_trans HLw.out (Nat.le_trans HO.out.fr.size (by simp))) ?_; intro v4 w4 hown hgr hat; rw [HIS.out] at hown; obtain ⟨Ay, cy, hv4, _⟩ := own_shape hown; subst hv4; have HO4 := Kp.mk ((HO.out.below ((Fr.refl (fun _ => False) wr).alloc (.cells #[.int .u8 (bits .xor .u8 z 54)] 5))).append 2 rfl hown hgr hat); have hc2 := HO4.out.cell (i := 1) rfl HPi.out; rw [← HZ.out] at hc2; clear hown hgr hat)
              | (at_builtin; refine wpList_appendS rfl (.tmp 53) (.tmp 59) rfl rfl low (.slice Ao i co) ((xorL 92 P).take i) rfl (by exact own_keep (show w4.ownsRow low 5 1 (.slice Ao i co) ((xorL 92 P).take i).length (bytes ((xorL 92 P).take i)) from HO4.out.inv 3 _ rfl) ((Fr.refl (fun _ => False) w4).alloc _) (fun _ _ h => h)) (some ⟨w4.heap.size, 0, none⟩) 1 1 [bits .xor .u8 z 92] rfl rfl (by exact src_new w4 [bits .xor .u8 z 92] 5 1 (Nat.le_refl _)) (by rw [HOT.out]; simp only [List.length_cons, List.length_nil]; omega) (by exact Nat.le_trans HLw.out (Nat.le_trans HO4.out.fr.size (by simp))) ?_; intro v5 w5 hown hgr hat; rw [HOS.out] at hown; obtain ⟨Ax, cx, hv5, _⟩ := own_shape hown; subst hv5; have HO5 := Kp.mk ((HO4.out.below ((Fr.refl (fun _ => False) w4).alloc (.cells #[.int .u8 (bits .xor .u8 z 92)] 5))).append 3 rfl hown hgr hat); clear hown hgr hat))
            have hi1 : ((xorL 54 P).take (i + 1)).length = i + 1 := by rw [List.length_take, xorL_length, HPl.out]; omega
            have ho1 : ((xorL 92 P).take (i + 1)).length = i + 1 := by rw [List.length_take, xorL_length, HPl.out]; omega
            go_roundw
            case rel =>
              refine ⟨i + 1, cy, cx, Ay, Ax, by go_num, ?_, ?_, ⟨hlt⟩, ⟨?_⟩⟩
              · congr 1; rw [xorL_length, HPl.out]; omega
              · congr 1; rw [xorL_length, HPl.out]; omega
              · have h := HO5.out
                rw [hi1, ho1] at h
                exact h
            case measure => simp [intOf] <;> omega
          · obtain rfl : i = 64 := by omega
            have HOa : Kp (Objs w wr [Ob.blk mb 41 (bytes M), Ob.row (.slice Az 64 cz) P, Ob.row (.slice Ai 64 ci) (xorL 54 P), Ob.row (.slice Ao 64 co) (xorL 92 P)]) := ⟨by
              have h := HO.out
              rw [List.take_of_length_le (by rw [xorL_length, HPl.out]; exact Nat.le_refl _), List.take_of_length_le (by rw [xorL_length, HPl.out]; exact Nat.le_refl _)] at h
              exact h⟩
            have HIl : Kp ((xorL 54 P).length = 64) := ⟨by rw [xorL_length, HPl.out]⟩
            have HOl : Kp ((xorL 92 P).length = 64) := ⟨by rw [xorL_length, HPl.out]⟩
            clear HO
            generalize xorL 54 P = I at HOa HIl HMM
            generalize xorL 92 P = O at HOa HOl HMM
            have HI : Kp (wr.ownsRow low 5 1 (.slice Ai 64 ci) I.length (bytes I)) := ⟨HOa.out.inv 2 _ rfl⟩
            have HDr := Kp.mk (HD.out.fr HOa.out.fr)
            have HIDl : Kp ((I ++ data).length = 64 + data.length) := ⟨by rw [List.length_append, HIl.out]⟩
            have HHl : Kp ((hash false (I ++ data)).length = 32) := ⟨hash_length false _⟩
            have HOHl : Kp ((O ++ hash false (I ++ data)).length = 96) := ⟨by rw [List.length_append, HOl.out, HHl.out]⟩
            go_wp2_with (at_builtin; refine wpList_appendS rfl (.tmp 61) (.tmp 62) rfl rfl low (.slice Ai 64 ci) I rfl (by exact HI.out) dA data.length dc data rfl rfl (by exact HDr.out) (by rw [HIl.out]; omega) (by exact Nat.le_trans HLw.out HOa.out.fr.size) ?_; intro v4 w4 hown hgr hat; have ho2 := hown; rw [HIDl.out] at ho2; obtain ⟨Ay, cy, hv4, _⟩ := own_shape ho2; subst hv4; have HO4 := Kp.mk (HOa.out.append 2 rfl hown hgr hat); clear hown hgr hat ho2)
            have hl := listL_calls false Ay cy (I ++ data) w4 (HL.out.fr HO4.out.fr (fun _ h => h.elim)) (HO4.out.row_src (i := 2) rfl) (by rw [HIDl.out]; unfold maxCount; omega)
            rw [HIDl.out] at hl
            refine hl.mono ?_
            rintro e w5 ⟨A5, c5, rfl, hS, hB⟩
            have ho : out false = 32 := rfl
            rw [ho]
            have HS5 := Kp.mk hS
            have HO5 := Kp.mk (HO4.out.below (Fr.of_below hB (fun _ => False)))
            have HO5r : Kp (w5.ownsRow low 5 1 (.slice Ao 64 co) O.length (bytes O)) := ⟨HO5.out.inv 3 _ rfl⟩
            clear hS hB hl ho HOa HI HDr
            go_wp2_with (at_builtin; refine wpList_appendS rfl (.tmp 64) (.tmp 66) rfl rfl low (.slice Ao 64 co) O rfl (by exact HO5r.out) A5 32 c5 (hash false (I ++ data)) HHl.out.symm rfl (by exact HS5.out) (by rw [HOl.out, HHl.out]; omega) (by exact Nat.le_trans HLw.out HO5.out.fr.size) ?_; intro v6 w6 hown hgr hat; have ho2 := hown; rw [HOHl.out] at ho2; obtain ⟨Ax, cx, hv6, _⟩ := own_shape ho2; subst hv6; have HO6 := Kp.mk (HO5.out.append 3 rfl hown hgr hat); clear hown hgr hat ho2)
            have HMc : Kp (∀ W, Fr (fun _ => False) w6 W → Calls Tryd.prog 23 #[.slice Ax 96 cx] W fun e w' => e = .returned (.agg (bytes M).toArray) ∧ Fr (fun _ => False) w6 w') := ⟨fun W hW => by
              have hs := (HO6.out.row_src (i := 3) rfl).fr hW
              have h := F32.hash_calls Ax cx (O ++ hash false (I ++ data)) W (HL.out.fr ((HO6.out.below hW).fr) (fun _ h => h.elim)) hs (by rw [HOHl.out]; decide)
              rw [HOHl.out, ← HMM.out] at h
              exact h.mono fun e w' ⟨h1, h2⟩ => ⟨h1, hW.then_below h2⟩⟩
            have HB3 : Kp (Blk w6 mb 41 (bytes M)) := ⟨HO6.out.inv 0 _ rfl⟩
            have hok3 := rowOk_blk HB3.out HMz.out
            have hat3 := rowAt_blk HB3.out
            go_region_with (go_at_call 23; (refine (HMc.out _ (by repeat (first | exact Fr.refl _ _ | apply Fr.drew))).mono ?_); rintro e w7 ⟨rfl, hf4⟩; have HF4 := Kp.mk hf4; have hok4 := rowOk_blk (HB3.out.fr hf4 (fun h => h)) HMz.out; have hat4 := rowAt_blk (HB3.out.fr hf4 (fun h => h)); clear hf4)
            all_goals (try go_wp2)
            all_goals
              go_ret
              exact ⟨rfl, (HO6.out.below HF4.out).fr.below (fun _ _ h => h)⟩
end Go.Proofs.YtjcfnflkiialbaaDoor.Sha
