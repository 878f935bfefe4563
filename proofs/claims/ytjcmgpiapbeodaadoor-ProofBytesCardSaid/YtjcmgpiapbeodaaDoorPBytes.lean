/-
  The walk of ProofBytes.
-/
import Derived.Test.YtjcmgpiapbeodaaDoorColl
set_option linter.unusedSimpArgs false
set_option linter.unusedVariables false
namespace Go.Proofs.YtjcmgpiapbeodaaDoor.Sha
open Go.RowKit Go.Proofs.YtjcmgpiapbeodaaDoor.Mem Go.Proofs.YtjcmgpiapbeodaaDoorW.PrintWords Go.Proofs.YtjcmgpiapbeodaaDoorW.PrintLast Go.Proofs.YtjcmgpiapbeodaaDoor.Pl Go.Proofs.YtjcmgpiapbeodaaDoor.Wk
attribute [local go_sem ↓] Go.wp_at_zero Go.wp_at_succ wp_load_hash wp_store_hash wp_load_mid23 wp_load_mid25 wp_store_mid25 wp_build_hash
attribute [local go_sem] rowAt_drew rowOk_drew midOk_drew midAt_drew rowBlock rowCells rowOff midFree_drew
theorem lds_ag {w : World} {T : TypeId} {d : TypeDesc} {b o : Nat} {r : List Value} (hu : Tryd.prog.underlying T = some d) (hd : d.isRow = true) (hi : (Tryd.prog.info? T).map (·.size) = some r.length) (hc : w.rangeAt b o r) : Lds w T (.pointer (some ⟨b, o, none⟩)) (.agg r.toArray) := by
  intro ev op x ho hx
  have h := run_loadAt_mid (P := Tryd.prog) w b o T r d hc hu hd hi
  unfold execOp
  simp only [ho, hx, Sem.run_bind, h, Result.andThen_ok, Sem.run_pure]
theorem st_ag (ev : Operand → Value) (o : Oper) (x y : Operand) (w : World) (T : TypeId) (b k : Nat) (r : List Value) (ho : o.op = .store T x y) (hx : ev x = .pointer (some ⟨b, k, none⟩)) (hy : ev y = .agg r.toArray) (ht : w.there b k r.length) (hi : (Tryd.prog.info? T).map (·.size) = some r.length) (h1 : ∀ u ∈ r, u.oneCell' = true) :
    (execOp ev o).run Tryd.prog w = .ok .skip (w.setCells b k r) := by
  have hr := run_storeVar_mid (P := Tryd.prog) w b k T r.toArray (by simpa using ht) (by simpa using hi) (by
    rw [Array.all_eq_true_iff_forall_mem]
    intro u hu
    exact h1 u (by simpa using hu))
  unfold execOp
  simp only [ho, hx, hy, Instr.storeAt, Instr.sureAddr, Sem.run_bind, Sem.run_pure, Result.andThen_ok, hr]
theorem mid_b {w : World} {b : Nat} {T : TypeId} {l : List Int} (h : Blk w b T (bytes l)) (hl : l.length = 32) : midOk w 32 (.pointer (some ⟨b, 0, none⟩)) = true ∧ midAt w 32 (.pointer (some ⟨b, 0, none⟩)) = (bytes l).toArray := by
  refine ⟨midOk_blk (o := 0) (n := 32) h (by rw [bytes_length, hl]; decide), ?_⟩
  have h2 := midAt_blk (o := 0) (n := 32) h
  rwa [List.drop_zero, List.take_of_length_le (by rw [bytes_length, hl]; exact Nat.le_refl _)] at h2
def cutUp (s : Nat) (h : List Int) (i : Nat) : List Int := (List.range 32).map fun j => if j < i ∧ s ≤ j then 0 else h.getD j 0
theorem cutUp_len (s : Nat) (h : List Int) (i : Nat) : (cutUp s h i).length = 32 := by simp [cutUp]
theorem cutUp_zero (s : Nat) (h : List Int) (hl : h.length = 32) : cutUp s h 0 = h := by
  apply List.ext_getElem
  · simp [cutUp, hl]
  · intro j h1 h2
    simp [cutUp, List.getD_eq_getElem?_getD, h2]
theorem cutUp_all (s : Nat) (h : List Int) (hl : h.length = 32) (hs : s ≤ 32) : cutUp s h 32 = cutL s h := by
  apply List.ext_getElem
  · rw [cutUp_len, cutL_len s h hl hs]
  · intro j h1 h2
    rw [cutUp_len] at h1
    simp only [cutUp, cutL, List.getElem_map, List.getElem_range, List.getElem_append, List.length_take, List.getElem_take, List.getElem_replicate]
    by_cases hj : s ≤ j
    · rw [if_pos ⟨h1, hj⟩, dif_neg (by omega)]
    · rw [if_neg (by omega), dif_pos (by omega)]
      simp [List.getD_eq_getElem?_getD, hl, h1]
theorem cutUp_same (s : Nat) (h : List Int) (i : Nat) (_hi : i < 32) (hs : i < s) : cutUp s h (i + 1) = cutUp s h i := by
  unfold cutUp
  apply List.map_congr_left
  intro j _
  by_cases h1 : j < i ∧ s ≤ j
  · rw [if_pos h1, if_pos ⟨by omega, h1.2⟩]
  · rw [if_neg h1, if_neg (by omega)]
theorem cutUp_set (s : Nat) (h : List Int) (i : Nat) (hi : i < 32) (hs : s ≤ i) : (bytes (cutUp s h i)).set i (.int .u8 0) = bytes (cutUp s h (i + 1)) := by
  apply List.ext_getElem?
  intro j
  rw [List.getElem?_set]
  by_cases hij : i = j
  · subst hij
    simp [bytes, cutUp, hi, hs]
  · rw [if_neg hij]
    rcases Nat.lt_or_ge j 32 with hj | hj
    · simp only [bytes, cutUp, List.getElem?_map, List.getElem?_range hj, Option.map_some]
      by_cases h1 : j < i ∧ s ≤ j
      · rw [if_pos h1, if_pos ⟨by omega, h1.2⟩]
      · rw [if_neg h1, if_neg (by omega)]
    · rw [List.getElem?_eq_none (by simpa [bytes, cutUp] using hj), List.getElem?_eq_none (by simpa [bytes, cutUp] using hj)]
theorem cutUp_start (s : Nat) (h : List Int) (hl : h.length = 32) : cutUp s h s = h := by
  apply List.ext_getElem
  · simp [cutUp, hl]
  · intro j h1 h2
    have : ¬ (j < s ∧ s ≤ j) := by omega
    simp [cutUp, List.getD_eq_getElem?_getD, h2, this]
theorem cutL_iff (s : Nat) (a b : List Int) (ha : a.length = 32) (hb : b.length = 32) (hs : s ≤ 32) : (cutL s a = cutL s b) = (a.take s = b.take s) := by
  apply propext
  constructor
  · intro h
    have h1 := congrArg (List.take s) h
    unfold cutL at h1
    rwa [List.take_append_of_le_length (by rw [List.length_take]; omega), List.take_append_of_le_length (by rw [List.length_take]; omega), List.take_take, List.take_take, Nat.min_self] at h1
  · intro h
    unfold cutL
    rw [h]
theorem eq32h (M N : List Int) (h : M.length = 32) (hn : N.length = 32) (W : World) : (Op.equalIn 10000 29 (.agg (bytes M).toArray) (.agg (bytes N).toArray)).run Tryd.prog W = .ok (decide (M = N)) W :=
  run_equalIn_ints W 9998 29 5 32 .u8 Tryd.underlying29 Tryd.underlying5 size_u8 M N h hn
theorem al_row (ev : Operand → Value) (o : Oper) (w : World) (ho : o.op = .alloc 23) : (execOp ev o).run Tryd.prog w = .ok (.value (.pointer (some ⟨w.heap.size, 0, none⟩))) (w.alloc (.cells (bytes zr32).toArray 23)) := by
  unfold execOp
  simp only [ho]
  go_simp
  rfl
theorem lds_nat {w : World} {a : Addr} {v : Value} (h : w.cell? a = some v) : Lds w 3 (.pointer (some a)) v := by
  intro ev o x ho hx
  unfold execOp
  simp only [ho, hx]
  go_simp
theorem bytes_all1 (l : List Int) : ∀ u ∈ bytes l, u.oneCell' = true := fun u hu => by
  obtain ⟨z, _, rfl⟩ := List.mem_map.1 hu
  rfl
theorem lds_r32 {W : World} {g off : Nat} {T : TypeId} {cells : List Value} {q : List Int} (h : Blk W g T cells) (ho : off + 32 ≤ cells.length) (he : (cells.drop off).take 32 = bytes q) (hq : q.length = 32) : Lds W 23 (.pointer (some ⟨g, off, none⟩)) (.agg (bytes q).toArray) :=
  lds_ag Tryd.underlying23 rfl (by rw [bytes_length, hq]; kernel_rfl) (fun j v hj => by
    rw [← he] at hj
    have hj2 : j < 32 := by
      rcases Nat.lt_or_ge j 32 with h | h
      · exact h
      · rw [List.getElem?_eq_none (by rw [List.length_take]; omega)] at hj; cases hj
    rw [List.getElem?_take_of_lt hj2, List.getElem?_drop] at hj
    exact h.cell _ _ hj)
theorem lds_hsh {W : World} {g : Nat} {T : TypeId} {q : List Int} (h : Blk W g T (bytes q)) (hq : q.length = 32) : Lds W 29 (.pointer (some ⟨g, 0, none⟩)) (.agg (bytes q).toArray) :=
  lds_ag Tryd.underlying29 rfl (by rw [bytes_length, hq]; kernel_rfl) (fun j v hj => by rw [Nat.zero_add]; exact h.cell _ _ hj)
theorem lds_h32 {W : World} {g : Nat} {T : TypeId} {q : List Int} (h : Blk W g T (bytes q)) (hq : q.length = 32) : Lds W 23 (.pointer (some ⟨g, 0, none⟩)) (.agg (bytes q).toArray) :=
  lds_ag Tryd.underlying23 rfl (by rw [bytes_length, hq]; kernel_rfl) (fun j v hj => by rw [Nat.zero_add]; exact h.cell _ _ hj)
theorem blk_over {w : World} {g : Nat} {T : TypeId} {xs ys : List Value} (h : Blk w g T xs) (hl : xs.length = ys.length) : Blk (w.setCells g 0 ys) g T ys := by
  have h1 := Blk.setCells g T [] ys [] xs w hl (by simpa using h)
  simpa using h1
set_option maxHeartbeats 4000000 in
set_option maxRecDepth 100000 in
theorem proofBytes_calls (k : Int) (A : Option Addr) (c : Nat) (data X Y : List Int) (cells : List Value) (hX32 : X.length = 32) (hY32 : Y.length = 32) (hBd : Byt data) (hBX : Byt X) (hBY : Byt Y)
    (hk : cells[0]? = some (.int .i64 k)) (ha : cells[4]? = some (.slice A data.length c)) (hx : (cells.drop 6).take 32 = bytes X) (hy : (cells.drop 38).take 32 = bytes Y) (hcl : cells.length = 72)
    (w : World) (hL : Laid w) (hD : Src w (fun _ => False) A c data) (hd : data.length ≤ 140737488351232) :
    Calls Tryd.prog 3 #[.agg cells.toArray] w fun e w' => e = .returned (.bool true) ∧ Fr (fun _ => False) w w' := by
  have HX := Kp.mk hD
  have HL := Kp.mk hL
  have HX32 := Kp.mk hX32
  have HY32 := Kp.mk hY32
  have HBd := Kp.mk hBd
  have HBXY := Kp.mk (And.intro hBX hBY)
  have HK0 := Kp.mk hk
  have HKX := Kp.mk hx
  have HKY := Kp.mk hy
  have HCL := Kp.mk hcl
  obtain ⟨n, hn⟩ : ∃ n, n = data.length := ⟨_, rfl⟩
  have HN := Kp.mk hn
  rw [← hn] at hd ha
  have HK4 := Kp.mk ha
  clear hD hL hX32 hY32 hBd hBX hBY hk hx hy hcl ha hn
  obtain ⟨s, hs⟩ : ∃ s, s = strength k := ⟨_, rfl⟩
  obtain ⟨ha, hha⟩ : ∃ ha, ha = hash false (0 :: data) := ⟨_, rfl⟩
  obtain ⟨hb, hhb⟩ : ∃ hb, hb = hash false (1 :: (X ++ Y)) := ⟨_, rfl⟩
  obtain ⟨Lf, hLf⟩ : ∃ Lf, Lf = cutL s ha := ⟨_, rfl⟩
  obtain ⟨Nd, hNd⟩ : ∃ Nd, Nd = cutL s hb := ⟨_, rfl⟩
  obtain ⟨PP, hPP⟩ : ∃ PP, PP = decide (Lf = Nd) := ⟨_, rfl⟩
  have hs32 : s ≤ 32 := by rw [hs]; exact strength_le k
  have Hha32 : Kp (ha.length = 32) := ⟨by rw [hha]; exact hlen _⟩
  have Hhb32 : Kp (hb.length = 32) := ⟨by rw [hhb]; exact hlen _⟩
  have HLf32 : Kp (Lf.length = 32) := ⟨by rw [hLf]; exact cutL_len s ha Hha32.out hs32⟩
  have HNd32 : Kp (Nd.length = 32) := ⟨by rw [hNd]; exact cutL_len s hb Hhb32.out hs32⟩
  have HCa : Kp (cutUp s ha s = ha ∧ cutUp s ha 32 = Lf) := ⟨cutUp_start s ha Hha32.out, by rw [hLf]; exact cutUp_all s ha Hha32.out hs32⟩
  have HCb : Kp (cutUp s hb s = hb ∧ cutUp s hb 32 = Nd) := ⟨cutUp_start s hb Hhb32.out, by rw [hNd]; exact cutUp_all s hb Hhb32.out hs32⟩
  have hl1 : (0 :: data : List Int).length = n + 1 := by rw [HN.out]; rfl
  have hl2 : (1 :: (X ++ Y) : List Int).length = 65 := by simp [HX32.out, HY32.out]
  have by1 : Byt (0 :: data) := fun x hx => by
    rcases List.mem_cons.1 hx with rfl | h
    · omega
    · exact HBd.out x h
  have by2 : Byt (1 :: (X ++ Y)) := fun x hx => by
    rcases List.mem_cons.1 hx with rfl | h
    · omega
    · rcases List.mem_append.1 h with h | h
      · exact HBXY.out.1 x h
      · exact HBXY.out.2 x h
  have hne : (0 :: data : List Int) ≠ 1 :: (X ++ Y) := fun h => by have := (List.cons.inj h).1; omega
  have hP2 : decide (collP s (0 :: data) (1 :: (X ++ Y))) = PP := by
    rw [hPP]
    refine decide_eq_decide.2 ?_
    rw [hLf, hNd, cutL_iff s ha hb Hha32.out Hhb32.out hs32, hha, hhb]
    exact ⟨fun h => h.2, fun h => ⟨hne, h⟩⟩
  have hP1 : decide (collP s (0 :: data) (0 :: data)) = false := decide_eq_false (fun h => h.1 rfl)
  have hSne : ¬ strOfNums (0 :: data) = strOfNums (1 :: (X ++ Y)) := by rw [strOf_iff by1 by2]; exact hne
  have CLB : Kp (∀ W, Fr (fun _ => False) w W → Calls Tryd.prog 10 #[.slice A n c] W fun e w' => ∃ v, e = .returned v ∧ w'.ownsRow W.heap.size 5 1 v (0 :: data).length (bytes (0 :: data)) ∧ Fr (fun _ => False) W w') := ⟨fun W hf => by
    have h := leafBytes_calls A c data W (HX.out.fr hf) (by rw [← HN.out]; exact hd)
    rw [← HN.out] at h; exact h⟩
  have CNB : Kp (∀ W, Calls Tryd.prog 11 #[.agg (bytes X).toArray, .agg (bytes Y).toArray] W fun e w' => ∃ v, e = .returned v ∧ w'.ownsRow W.heap.size 5 1 v (1 :: (X ++ Y)).length (bytes (1 :: (X ++ Y))) ∧ Fr (fun _ => False) W w') := ⟨fun W => nodeBytes_calls X Y HX32.out HY32.out W⟩
  have CSA : Kp (∀ W g cA, Fr (fun _ => False) w W → Src W (fun _ => False) (some ⟨g, 0, none⟩) cA (0 :: data) → Calls Tryd.prog 12 #[.slice (some ⟨g, 0, none⟩) (n + 1) cA] W fun e w' => e = .returned (.agg (bytes ha).toArray) ∧ Fr (fun _ => False) W w') := ⟨fun W g cA hf hS => by rw [hha, ← hl1]; exact (F32.hash_calls _ cA (0 :: data) W (HL.out.fr hf (fun _ h => h.elim)) hS (by rw [hl1]; unfold maxCount; omega)).mono fun _ _ h => ⟨h.1, Fr.of_below h.2 _⟩⟩
  have CSB : Kp (∀ W g cA, Fr (fun _ => False) w W → Src W (fun _ => False) (some ⟨g, 0, none⟩) cA (1 :: (X ++ Y)) → Calls Tryd.prog 12 #[.slice (some ⟨g, 0, none⟩) 65 cA] W fun e w' => e = .returned (.agg (bytes hb).toArray) ∧ Fr (fun _ => False) W w') := ⟨fun W g cA hf hS => by rw [hhb, ← hl2]; exact (F32.hash_calls _ cA (1 :: (X ++ Y)) W (HL.out.fr hf (fun _ h => h.elim)) hS (by rw [hl2]; decide)).mono fun _ _ h => ⟨h.1, Fr.of_below h.2 _⟩⟩
  have CK : Kp (∀ W, Calls Tryd.prog 13 #[.int .i64 k] W fun e w' => e = .returned (.int .i64 (s : Int)) ∧ w' = W) := ⟨fun W => by rw [hs]; exact kept_calls k W⟩
  have CL : Kp (∀ W, Fr (fun _ => False) w W → Calls Tryd.prog 14 #[.int .i64 k, .slice A n c] W fun e w' => e = .returned (.agg (bytes Lf).toArray) ∧ Fr (fun _ => False) W w') := ⟨fun W hf => by
    have h := leafHash_calls k A c data W (HL.out.fr hf (fun _ h => h.elim)) (HX.out.fr hf) (by rw [← HN.out]; exact hd)
    rw [← HN.out] at h
    rw [hLf, hha, hs]; exact h⟩
  have CN : Kp (∀ W, Fr (fun _ => False) w W → Calls Tryd.prog 15 #[.int .i64 k, .agg (bytes X).toArray, .agg (bytes Y).toArray] W fun e w' => e = .returned (.agg (bytes Nd).toArray) ∧ Fr (fun _ => False) W w') := ⟨fun W hf => by
    have h := nodeHash_calls k X Y HX32.out HY32.out W (HL.out.fr hf (fun _ h => h.elim))
    rw [hNd, hhb, hs]; exact h⟩
  have CC1 : Kp (∀ W g cA, Fr (fun _ => False) w W → Src W (fun _ => False) (some ⟨g, 0, none⟩) cA (0 :: data) → Calls Tryd.prog 16 #[.int .i64 k, .agg #[.slice (some ⟨g, 0, none⟩) (n + 1) cA, .slice (some ⟨g, 0, none⟩) (n + 1) cA]] W fun e w' => e = .returned (.bool false) ∧ Fr (fun _ => False) W w') := ⟨fun W g cA hf hS => by
    have h := Collides_calls k _ _ cA cA (0 :: data) (0 :: data) W (HL.out.fr hf (fun _ h => h.elim)) hS hS by1 by1 (by rw [hl1]; unfold maxCount; omega) (by rw [hl1]; unfold maxCount; omega)
    rw [← hs, hP1, hl1] at h
    exact h⟩
  have CC2 : Kp (∀ W g cA g' cB, Fr (fun _ => False) w W → Src W (fun _ => False) (some ⟨g, 0, none⟩) cA (0 :: data) → Src W (fun _ => False) (some ⟨g', 0, none⟩) cB (1 :: (X ++ Y)) → Calls Tryd.prog 16 #[.int .i64 k, .agg #[.slice (some ⟨g, 0, none⟩) (n + 1) cA, .slice (some ⟨g', 0, none⟩) 65 cB]] W fun e w' => e = .returned (.bool PP) ∧ Fr (fun _ => False) W w') := ⟨fun W g cA g' cB hf hS hT => by
    have h := Collides_calls k _ _ cA cB (0 :: data) (1 :: (X ++ Y)) W (HL.out.fr hf (fun _ h => h.elim)) hS hT by1 by2 (by rw [hl1]; unfold maxCount; omega) (by rw [hl2]; decide)
    rw [← hs, hP2, hl1, hl2] at h
    exact h⟩
  have eqs : Kp ((∀ W, (Op.equalIn 10000 29 (.agg (bytes Lf).toArray) (.agg (bytes Lf).toArray)).run Tryd.prog W = .ok true W) ∧ (∀ W, (Op.equalIn 10000 29 (.agg (bytes Nd).toArray) (.agg (bytes Nd).toArray)).run Tryd.prog W = .ok true W) ∧ ∀ W, (Op.equalIn 10000 29 (.agg (bytes Lf).toArray) (.agg (bytes Nd).toArray)).run Tryd.prog W = .ok PP W) := ⟨⟨fun W => by
      have h := eq32h Lf Lf HLf32.out HLf32.out W
      rw [decide_eq_true rfl] at h; exact h, fun W => by
      have h := eq32h Nd Nd HNd32.out HNd32.out W
      rw [decide_eq_true rfl] at h; exact h, fun W => by
      have h := eq32h Lf Nd HLf32.out HNd32.out W
      rw [← hPP] at h; exact h⟩⟩
  have CV1 : Kp (∀ W g cA, Src W (fun _ => False) (some ⟨g, 0, none⟩) cA (0 :: data) → (convert 22 9 (.slice (some ⟨g, 0, none⟩) (n + 1) cA)).run Tryd.prog W = .ok (.string (strOfNums (0 :: data))) W) := ⟨fun W g cA hS => by rw [← hl1]; exact conv_src hS⟩
  have CV2 : Kp (∀ W g cA, Src W (fun _ => False) (some ⟨g, 0, none⟩) cA (1 :: (X ++ Y)) → (convert 22 9 (.slice (some ⟨g, 0, none⟩) 65 cA)).run Tryd.prog W = .ok (.string (strOfNums (1 :: (X ++ Y)))) W) := ⟨fun W g cA hS => by rw [← hl2]; exact conv_src hS⟩
  generalize strOfNums (0 :: data) = sA at hSne CV1
  generalize strOfNums (1 :: (X ++ Y)) = sB at hSne CV2
  have HSne := Kp.mk hSne
  have Hl12 := Kp.mk (And.intro hl1 hl2)
  have HS := Kp.mk hs32
  clear hP1 hP2 hne by1 by2 hLf hNd hPP hha hhb hs hl1 hl2 hSne hs32 HX HBd HBXY HN
  go_enter Tryd.func3, Tryd.ntmps3
  go_upto_region 1 with (fail)
  obtain ⟨g1, hg1⟩ : ∃ g1, g1 = w.heap.size := ⟨_, rfl⟩
  obtain ⟨W1, hW1⟩ : ∃ W1, W1 = w.alloc (.cells cells.toArray 26) := ⟨_, rfl⟩
  have H1 : Kp (Blk W1 g1 26 cells) := ⟨by rw [hW1, hg1]; exact Blk.new w _ _⟩
  have HF : Kp (Fr (fun _ => False) w W1) := ⟨by rw [hW1]; exact (Fr.refl _ w).alloc _⟩
  rw [← hg1, ← hW1]
  clear hW1 hg1
  refine start_ (n := 6) (S := fun w' => Lds w' 3 (.pointer (some ⟨g1, 0, none⟩)) (.int .i64 k) ∧ Lds w' 22 (.pointer (some ⟨g1, 4, none⟩)) (.slice A n c)) (ds := []) #[false, false, false, false, false, false] (by kernel_rfl) rfl rfl ⟨lds_nat (w := W1.drew) (H1.out.drew.cell 0 _ HK0.out), lds_bytes (w := W1.drew) (H1.out.drew.cell 4 _ HK4.out)⟩ (fun hHeld => ?_)
  refine pure_ (i := 0) (N := some 12) (v := ?_) (a' := ?_) #[true, false, false, false, false, false] rfl rfl (by kernel_rfl) (fun _ _ _ h => h) (Or.inl ⟨by rfl, ?_⟩) ?_ ?_
  rotate_left
  · intro w'
    go_simp
    with_reducible rfl
  rotate_left
  · simp only [Act.put, List.setIfInBounds_toArray, List.set_cons_zero, List.set_cons_succ]
    rfl
  refine pure_ (i := 2) (N := some 14) (v := ?_) (a' := ?_) #[true, false, true, false, false, false] rfl rfl (by kernel_rfl) (fun _ _ _ h => h) (Or.inl ⟨by rfl, ?_⟩) ?_ ?_
  rotate_left
  · intro w'
    go_simp
    with_reducible rfl
  rotate_left
  · simp only [Act.put, List.setIfInBounds_toArray, List.set_cons_zero, List.set_cons_succ]
    rfl
  refine take_ (i := 1) (N := some 13) (v := ?_) (a' := ?_) #[true, true, true, false, false, false] rfl rfl (by kernel_rfl) (fun _ _ _ h => h) (Or.inl ⟨by rfl, ?_⟩) hHeld ?_ ?_
  rotate_left
  · rintro w' ⟨s0, s1⟩
    refine Lds.run s0 (x := ?_) ?_ ?_
    · exact (Operand.tmp 12)
    · rfl
    · rfl
  rotate_left
  · simp only [Act.put, List.setIfInBounds_toArray, List.set_cons_zero, List.set_cons_succ]
    rfl
  refine pure_ (i := 4) (N := some 3) (v := ?_) (a' := ?_) #[true, true, true, false, true, false] rfl rfl (by kernel_rfl) (fun _ _ _ h => h) (Or.inl ⟨by rfl, ?_⟩) ?_ ?_
  rotate_left
  · intro w'
    go_simp
    with_reducible rfl
  rotate_left
  · simp only [Act.put, List.setIfInBounds_toArray, List.set_cons_zero, List.set_cons_succ]
    rfl
  refine take_ (i := 3) (N := some 15) (v := ?_) (a' := ?_) #[true, true, true, true, true, false] rfl rfl (by kernel_rfl) (fun _ _ _ h => h) (Or.inl ⟨by rfl, ?_⟩) hHeld ?_ ?_
  rotate_left
  · rintro w' ⟨s0, s1⟩
    refine Lds.run s1 (x := ?_) ?_ ?_
    · exact (Operand.tmp 14)
    · rfl
    · rfl
  rotate_left
  · simp only [Act.put, List.setIfInBounds_toArray, List.set_cons_zero, List.set_cons_succ]
    rfl
  refine pure_ (i := 5) (N := some 4) (v := ?_) (a' := ?_) #[true, true, true, true, true, true] rfl rfl (by kernel_rfl) (fun _ _ _ h => h) (Or.inl ⟨by rfl, ?_⟩) ?_ ?_
  rotate_left
  · intro w'
    go_simp
    with_reducible rfl
  rotate_left
  · simp only [Act.put, List.setIfInBounds_toArray, List.set_cons_zero, List.set_cons_succ]
    rfl
  refine done_ (by kernel_rfl) ?_
  have HF1 := Kp.mk (HF.out.drew)
  have H12 := Kp.mk (H1.out.drew)
  go_upto_region 2 with (fail)
  generalize W1.drew = W2 at HF1 H12 ⊢
  have LX : Kp (∀ W, Fr (fun _ => False) W2 W → Lds W 23 (.pointer (some ⟨g1, 6, none⟩)) (.agg (bytes X).toArray)) := ⟨fun W hf => lds_r32 (H12.out.fr hf (fun h => h)) (by rw [HCL.out]; decide) HKX.out HX32.out⟩
  have LY : Kp (∀ W, Fr (fun _ => False) W2 W → Lds W 23 (.pointer (some ⟨g1, 38, none⟩)) (.agg (bytes Y).toArray)) := ⟨fun W hf => lds_r32 (H12.out.fr hf (fun h => h)) (by rw [HCL.out]; decide) HKY.out HY32.out⟩
  clear H1 HF
  refine start_ (n := 8) (S := fun w' => Fr (fun _ => False) W2 w') (ds := []) #[false, false, false, false, false, false, false, false] (by kernel_rfl) rfl rfl ((Fr.refl (fun _ => False) W2).drew) (fun hHeld => ?_)
  refine pure_ (i := 0) (N := some 16) (v := ?_) (a' := ?_) #[true, false, false, false, false, false, false, false] rfl rfl (by kernel_rfl) (fun _ _ _ h => h) (Or.inl ⟨by rfl, ?_⟩) ?_ ?_
  rotate_left
  · intro w'
    go_simp
    with_reducible rfl
  rotate_left
  · simp only [Act.put, List.setIfInBounds_toArray, List.set_cons_zero, List.set_cons_succ]
    rfl
  refine take_ (i := 1) (N := some 17) (v := ?_) (a' := ?_) #[true, true, false, false, false, false, false, false] rfl rfl (by kernel_rfl) (fun _ _ _ h => h) (Or.inl ⟨by rfl, ?_⟩) hHeld ?_ ?_
  rotate_left
  · intro w' s0
    refine Lds.run (LX.out w' s0) (x := ?_) ?_ ?_
    · exact (Operand.tmp 16)
    · rfl
    · rfl
  rotate_left
  · simp only [Act.put, List.setIfInBounds_toArray, List.set_cons_zero, List.set_cons_succ]
    rfl
  refine pure_ (i := 2) (N := some 18) (v := ?_) (a' := ?_) #[true, true, true, false, false, false, false, false] rfl rfl (by kernel_rfl) (fun _ _ _ h => h) (Or.inl ⟨by rfl, ?_⟩) ?_ ?_
  rotate_left
  · intro w'
    go_simp
    with_reducible rfl
  rotate_left
  · simp only [Act.put, List.setIfInBounds_toArray, List.set_cons_zero, List.set_cons_succ]
    rfl
  refine take_ (i := 3) (N := some 19) (v := ?_) (a' := ?_) #[true, true, true, true, false, false, false, false] rfl rfl (by kernel_rfl) (fun _ _ _ h => h) (Or.inl ⟨by rfl, ?_⟩) hHeld ?_ ?_
  rotate_left
  · intro w' s0
    refine Lds.run (LY.out w' s0) (x := ?_) ?_ ?_
    · exact (Operand.tmp 18)
    · rfl
    · rfl
  rotate_left
  · simp only [Act.put, List.setIfInBounds_toArray, List.set_cons_zero, List.set_cons_succ]
    rfl
  refine join_ (σ := Nat × Nat) 0 #[true, true, true, true, true, true, true, true] (fun (s : Nat × Nat) => match s with | (g5, g6) => show List (Tmp × Value) from [(16, .pointer (some ⟨g1, 6, none⟩)), (17, .agg (bytes X).toArray), (18, .pointer (some ⟨g1, 38, none⟩)), (19, .agg (bytes Y).toArray), (5, .pointer (some ⟨g5, 0, none⟩)), (6, .pointer (some ⟨g6, 0, none⟩))]) (fun (s : Nat × Nat) w' => match s with | (g5, g6) => Fr (fun _ => False) W2 w' ∧ Blk w' g5 23 (bytes X) ∧ Blk w' g6 23 (bytes Y) ∧ W2.heap.size ≤ g5 ∧ W2.heap.size ≤ g6 ∧ g5 ≠ g6) ?_ ?_
  rotate_left
  intro hD0
  refine join_ (σ := Nat × Nat) 1 #[true, true, true, true, true, true, true, false] (fun (s : Nat × Nat) => match s with | (g5, g6) => show List (Tmp × Value) from [(16, .pointer (some ⟨g1, 6, none⟩)), (17, .agg (bytes X).toArray), (18, .pointer (some ⟨g1, 38, none⟩)), (19, .agg (bytes Y).toArray), (5, .pointer (some ⟨g5, 0, none⟩)), (6, .pointer (some ⟨g6, 0, none⟩))]) (fun (s : Nat × Nat) w' => match s with | (g5, g6) => Fr (fun _ => False) W2 w' ∧ Blk w' g5 23 (bytes X) ∧ Blk w' g6 23 (bytes zr32) ∧ W2.heap.size ≤ g5 ∧ W2.heap.size ≤ g6 ∧ g5 ≠ g6) ?_ ?_
  rotate_left
  intro hD1
  refine join_ (σ := Nat × Nat) 2 #[true, true, true, true, true, true, false, false] (fun (s : Nat × Nat) => match s with | (g5, g6) => show List (Tmp × Value) from [(16, .pointer (some ⟨g1, 6, none⟩)), (17, .agg (bytes X).toArray), (18, .pointer (some ⟨g1, 38, none⟩)), (19, .agg (bytes Y).toArray), (5, .pointer (some ⟨g5, 0, none⟩)), (6, .pointer (some ⟨g6, 0, none⟩))]) (fun (s : Nat × Nat) w' => match s with | (g5, g6) => Fr (fun _ => False) W2 w' ∧ Blk w' g5 23 (bytes zr32) ∧ Blk w' g6 23 (bytes zr32) ∧ W2.heap.size ≤ g5 ∧ W2.heap.size ≤ g6 ∧ g5 ≠ g6) ?_ ?_
  rotate_left
  intro hD2
  refine join_ (σ := Nat) 3 #[true, true, true, true, true, false, false, false] (fun (g5 : Nat) => show List (Tmp × Value) from [(16, .pointer (some ⟨g1, 6, none⟩)), (17, .agg (bytes X).toArray), (18, .pointer (some ⟨g1, 38, none⟩)), (19, .agg (bytes Y).toArray), (5, .pointer (some ⟨g5, 0, none⟩))]) (fun (g5 : Nat) w' => Fr (fun _ => False) W2 w' ∧ Blk w' g5 23 (bytes zr32) ∧ W2.heap.size ≤ g5) ?_ ?_
  rotate_left
  intro hD3
  refine join_ (σ := Nat) 3 #[true, true, true, true, false, true, false, false] (fun (g6 : Nat) => show List (Tmp × Value) from [(16, .pointer (some ⟨g1, 6, none⟩)), (17, .agg (bytes X).toArray), (18, .pointer (some ⟨g1, 38, none⟩)), (19, .agg (bytes Y).toArray), (6, .pointer (some ⟨g6, 0, none⟩))]) (fun (g6 : Nat) w' => Fr (fun _ => False) W2 w' ∧ Blk w' g6 23 (bytes zr32) ∧ W2.heap.size ≤ g6) ?_ ?_
  rotate_left
  intro hD4
  · skip
    refine two_ (i := 4) (j := 5) (Ni := some 5) (Nj := some 6) #[true, true, true, true, true, false, false, false] #[true, true, true, true, false, true, false, false] rfl rfl rfl rfl (by kernel_rfl) (by decide) (by decide) (fun K hK => ?_) (fun K hK => ?_)
    · skip
      refine value_ (by rfl) rfl (al_row _ _ _ rfl) ?_
      have hal : Fr (fun _ => False) W2.drew (W2.drew.alloc (.cells (bytes zr32).toArray 23)) := (Fr.refl _ W2.drew).alloc _
      have Fy : Fr (fun _ => False) W2 (W2.drew.alloc (.cells (bytes zr32).toArray 23)) := hHeld.trans hal (fun _ _ h => h)
      have Byg5 : Blk (W2.drew.alloc (.cells (bytes zr32).toArray 23)) W2.drew.heap.size 23 (bytes zr32) := Blk.new W2.drew _ _
      have Gyg5 : W2.heap.size ≤ W2.drew.heap.size := hHeld.size
      refine hK.out _ _ Fy (fun _ => ?_)
      clear hK K
      refine norm_ (a' := ?_) ?_ ?_
      rotate_left
      · show Act.put _ (some 5) _ = _
        simp only [Act.put, List.setIfInBounds_toArray, List.set_cons_zero, List.set_cons_succ]
        rfl
      refine norm_ ?_ (hD3 W2.drew.heap.size _ ⟨Fy, Byg5, Gyg5⟩)
      simp only [putAll, Act.put, List.setIfInBounds_toArray, List.set_cons_zero, List.set_cons_succ]
    · skip
      refine value_ (by rfl) rfl (al_row _ _ _ rfl) ?_
      have hal : Fr (fun _ => False) W2.drew (W2.drew.alloc (.cells (bytes zr32).toArray 23)) := (Fr.refl _ W2.drew).alloc _
      have Fy : Fr (fun _ => False) W2 (W2.drew.alloc (.cells (bytes zr32).toArray 23)) := hHeld.trans hal (fun _ _ h => h)
      have Byg6 : Blk (W2.drew.alloc (.cells (bytes zr32).toArray 23)) W2.drew.heap.size 23 (bytes zr32) := Blk.new W2.drew _ _
      have Gyg6 : W2.heap.size ≤ W2.drew.heap.size := hHeld.size
      refine hK.out _ _ Fy (fun _ => ?_)
      clear hK K
      refine norm_ (a' := ?_) ?_ ?_
      rotate_left
      · show Act.put _ (some 6) _ = _
        simp only [Act.put, List.setIfInBounds_toArray, List.set_cons_zero, List.set_cons_succ]
        rfl
      refine norm_ ?_ (hD4 W2.drew.heap.size _ ⟨Fy, Byg6, Gyg6⟩)
      simp only [putAll, Act.put, List.setIfInBounds_toArray, List.set_cons_zero, List.set_cons_succ]
  rotate_left
  · skip
    rintro ⟨g5, g6⟩ wx ⟨Fx, Bg5, Bg6, Gg5, Gg6, NEg5g6⟩
    refine norm_ (a' := ?_) ?_ ?_
    rotate_left
    · simp only [putAll, Act.put, List.setIfInBounds_toArray, List.set_cons_zero, List.set_cons_succ]
      rfl
    refine one_ (i := 7) (N := none) #[true, true, true, true, true, true, true, true] rfl rfl (by kernel_rfl) (by decide) (fun K hK => ?_)
    refine skip_ (by rfl) rfl (st_ag _ _ (Operand.tmp 6) (Operand.tmp 19) wx 23 g6 0 (bytes Y) rfl rfl rfl (blk_there Bg6 0 _ (by rw [bytes_length, HY32.out]; exact Nat.le_refl 32)) (by rw [bytes_length, HY32.out]; kernel_rfl) (bytes_all1 Y)) ?_
    have hst : Fr (fun q => q = g6) wx (wx.setCells g6 0 (bytes Y)) := fr_setCells g6 (bytes Y) 0 _
    have Fy : Fr (fun _ => False) W2 (wx.setCells g6 0 (bytes Y)) := Fx.trans (S := fun _ => False) hst (fun q hq e => by have := Gg6; omega)
    have Byg6 : Blk (wx.setCells g6 0 (bytes Y)) g6 23 (bytes Y) := blk_over Bg6 (by rw [bytes_length, bytes_length, HY32.out]; rfl)
    have Byg5 := Bg5.fr hst (NEg5g6)
    refine hK.out _ _ Fy (fun _ => ?_)
    clear hK K
    refine norm_ ?_ (hD0 (g5, g6) _ ⟨Fy, Byg5, Byg6, Gg5, Gg6, NEg5g6⟩)
    simp only [putAll, Act.put, List.setIfInBounds_toArray, List.set_cons_zero, List.set_cons_succ]
  · skip
    rintro ⟨g5, g6⟩ wx ⟨Fx, Bg5, Bg6, Gg5, Gg6, NEg5g6⟩
    refine norm_ (a' := ?_) ?_ ?_
    rotate_left
    · simp only [putAll, Act.put, List.setIfInBounds_toArray, List.set_cons_zero, List.set_cons_succ]
      rfl
    refine one_ (i := 6) (N := none) #[true, true, true, true, true, true, true, false] rfl rfl (by kernel_rfl) (by decide) (fun K hK => ?_)
    refine skip_ (by rfl) rfl (st_ag _ _ (Operand.tmp 5) (Operand.tmp 17) wx 23 g5 0 (bytes X) rfl rfl rfl (blk_there Bg5 0 _ (by rw [bytes_length, HX32.out]; exact Nat.le_refl 32)) (by rw [bytes_length, HX32.out]; kernel_rfl) (bytes_all1 X)) ?_
    have hst : Fr (fun q => q = g5) wx (wx.setCells g5 0 (bytes X)) := fr_setCells g5 (bytes X) 0 _
    have Fy : Fr (fun _ => False) W2 (wx.setCells g5 0 (bytes X)) := Fx.trans (S := fun _ => False) hst (fun q hq e => by have := Gg5; omega)
    have Byg5 : Blk (wx.setCells g5 0 (bytes X)) g5 23 (bytes X) := blk_over Bg5 (by rw [bytes_length, bytes_length, HX32.out]; rfl)
    have Byg6 := Bg6.fr hst (NEg5g6.symm)
    refine hK.out _ _ Fy (fun _ => ?_)
    clear hK K
    refine norm_ ?_ (hD1 (g5, g6) _ ⟨Fy, Byg5, Byg6, Gg5, Gg6, NEg5g6⟩)
    simp only [putAll, Act.put, List.setIfInBounds_toArray, List.set_cons_zero, List.set_cons_succ]
  · skip
    rintro g5 wx ⟨Fx, Bg5, Gg5⟩
    refine norm_ (a' := ?_) ?_ ?_
    rotate_left
    · simp only [putAll, Act.put, List.setIfInBounds_toArray, List.set_cons_zero, List.set_cons_succ]
      rfl
    refine one_ (i := 5) (N := some 6) #[true, true, true, true, true, true, false, false] rfl rfl (by kernel_rfl) (by decide) (fun K hK => ?_)
    refine value_ (by rfl) rfl (al_row _ _ _ rfl) ?_
    have hal : Fr (fun _ => False) wx (wx.alloc (.cells (bytes zr32).toArray 23)) := (Fr.refl _ wx).alloc _
    have Fy : Fr (fun _ => False) W2 (wx.alloc (.cells (bytes zr32).toArray 23)) := Fx.trans hal (fun _ _ h => h)
    have Byg6 : Blk (wx.alloc (.cells (bytes zr32).toArray 23)) wx.heap.size 23 (bytes zr32) := Blk.new wx _ _
    have Gyg6 : W2.heap.size ≤ wx.heap.size := Fx.size
    have Byg5 := Bg5.fr hal (fun h => h)
    have NEyg5 : g5 ≠ wx.heap.size := Nat.ne_of_lt Bg5.lt
    refine hK.out _ _ Fy (fun _ => ?_)
    clear hK K
    refine norm_ (a' := ?_) ?_ ?_
    rotate_left
    · show Act.put _ (some 6) _ = _
      simp only [Act.put, List.setIfInBounds_toArray, List.set_cons_zero, List.set_cons_succ]
      rfl
    refine norm_ ?_ (hD2 (g5, wx.heap.size) _ ⟨Fy, Byg5, Byg6, Gg5, Gyg6, NEyg5⟩)
    simp only [putAll, Act.put, List.setIfInBounds_toArray, List.set_cons_zero, List.set_cons_succ]
  · skip
    rintro g6 wx ⟨Fx, Bg6, Gg6⟩
    refine norm_ (a' := ?_) ?_ ?_
    rotate_left
    · simp only [putAll, Act.put, List.setIfInBounds_toArray, List.set_cons_zero, List.set_cons_succ]
      rfl
    refine one_ (i := 4) (N := some 5) #[true, true, true, true, true, true, false, false] rfl rfl (by kernel_rfl) (by decide) (fun K hK => ?_)
    refine value_ (by rfl) rfl (al_row _ _ _ rfl) ?_
    have hal : Fr (fun _ => False) wx (wx.alloc (.cells (bytes zr32).toArray 23)) := (Fr.refl _ wx).alloc _
    have Fy : Fr (fun _ => False) W2 (wx.alloc (.cells (bytes zr32).toArray 23)) := Fx.trans hal (fun _ _ h => h)
    have Byg5 : Blk (wx.alloc (.cells (bytes zr32).toArray 23)) wx.heap.size 23 (bytes zr32) := Blk.new wx _ _
    have Gyg5 : W2.heap.size ≤ wx.heap.size := Fx.size
    have Byg6 := Bg6.fr hal (fun h => h)
    have NEyg6 : g6 ≠ wx.heap.size := Nat.ne_of_lt Bg6.lt
    refine hK.out _ _ Fy (fun _ => ?_)
    clear hK K
    refine norm_ (a' := ?_) ?_ ?_
    rotate_left
    · show Act.put _ (some 5) _ = _
      simp only [Act.put, List.setIfInBounds_toArray, List.set_cons_zero, List.set_cons_succ]
      rfl
    refine norm_ ?_ (hD2 (wx.heap.size, g6) _ ⟨Fy, Byg5, Byg6, Gyg5, Gg6, NEyg6.symm⟩)
    simp only [putAll, Act.put, List.setIfInBounds_toArray, List.set_cons_zero, List.set_cons_succ]
  rintro ⟨g5, g6⟩ wx ⟨Fx, Bg5, Bg6, Gg5, Gg6, NEg5g6⟩
  refine norm_ (a' := ?_) ?_ ?_
  rotate_left
  · simp only [putAll, Act.put, List.setIfInBounds_toArray, List.set_cons_zero, List.set_cons_succ]
    rfl
  refine done_ (by kernel_rfl) ?_
  have HFx := Kp.mk (HF1.out.trans Fx (fun _ _ h => h))
  have H5x := Kp.mk Bg5
  have H6x := Kp.mk Bg6
  clear Fx Bg5 Bg6 Gg5 Gg6 NEg5g6 LX LY HF1 H12 hHeld
  go_wp2_with (fail)
  refine (CLB.out wx HFx.out).mono ?_
  rintro e W3 ⟨v, rfl, hO, hf⟩
  obtain ⟨gA, cA, rfl, -⟩ := own_form (xs := 0 :: data) hO (by simp)
  rw [Hl12.out.1] at hO ⊢
  have HSA3 := Kp.mk (own_srcs hO)
  have HF3 := Kp.mk (HFx.out.trans hf (fun _ _ h => h))
  have H53 := Kp.mk (H5x.out.fr hf (fun h => h))
  have H63 := Kp.mk (H6x.out.fr hf (fun h => h))
  have mo5 := (mid_b H53.out HX32.out).1
  have ma5 := (mid_b H53.out HX32.out).2
  have mo6 := (mid_b H63.out HY32.out).1
  have ma6 := (mid_b H63.out HY32.out).2
  clear hO hf CLB HFx H5x H6x
  go_wp2_with (fail)
  refine (CNB.out W3).mono ?_
  rintro e W4 ⟨v, rfl, hO, hf⟩
  obtain ⟨gB, cB, rfl, -⟩ := own_form (xs := 1 :: (X ++ Y)) hO (by simp)
  rw [Hl12.out.2] at hO ⊢
  have HSB4 := Kp.mk (own_srcs hO)
  have HSA4 := Kp.mk (HSA3.out.fr hf)
  have HF4 := Kp.mk (HF3.out.trans hf (fun _ _ h => h))
  have H54 := Kp.mk (H53.out.fr hf (fun h => h))
  have H64 := Kp.mk (H63.out.fr hf (fun h => h))
  clear hO hf mo5 ma5 mo6 ma6 H53 H63 HF3 HSA3 CNB
  go_wp2_with (fail)
  refine (CSA.out W4 gA cA HF4.out HSA4.out).mono ?_
  rintro e W5 ⟨rfl, hf⟩
  have HF45 := Kp.mk hf
  have HNEW5 : Kp (Blk (W5.alloc (.cells #[.int .u8 0, .int .u8 0, .int .u8 0, .int .u8 0, .int .u8 0, .int .u8 0, .int .u8 0, .int .u8 0, .int .u8 0, .int .u8 0, .int .u8 0, .int .u8 0, .int .u8 0, .int .u8 0, .int .u8 0, .int .u8 0, .int .u8 0, .int .u8 0, .int .u8 0, .int .u8 0, .int .u8 0, .int .u8 0, .int .u8 0, .int .u8 0, .int .u8 0, .int .u8 0, .int .u8 0, .int .u8 0, .int .u8 0, .int .u8 0, .int .u8 0, .int .u8 0] 29)) W5.heap.size 29 [.int .u8 0, .int .u8 0, .int .u8 0, .int .u8 0, .int .u8 0, .int .u8 0, .int .u8 0, .int .u8 0, .int .u8 0, .int .u8 0, .int .u8 0, .int .u8 0, .int .u8 0, .int .u8 0, .int .u8 0, .int .u8 0, .int .u8 0, .int .u8 0, .int .u8 0, .int .u8 0, .int .u8 0, .int .u8 0, .int .u8 0, .int .u8 0, .int .u8 0, .int .u8 0, .int .u8 0, .int .u8 0, .int .u8 0, .int .u8 0, .int .u8 0, .int .u8 0]) := ⟨Blk.new W5 _ _⟩
  clear hf CSA
  go_upto_region 6 with (refine wpList_storeH rfl rfl (Operand.tmp 9) (Operand.tmp 26) rfl W5.heap.size _ _ ha rfl rfl HNEW5.out rfl Hha32.out ?_)
  obtain ⟨g9, hg9⟩ : ∃ g9, g9 = W5.heap.size := ⟨_, rfl⟩
  obtain ⟨W6, hW6⟩ : ∃ W6, W6 = (W5.alloc (.cells #[.int .u8 0, .int .u8 0, .int .u8 0, .int .u8 0, .int .u8 0, .int .u8 0, .int .u8 0, .int .u8 0, .int .u8 0, .int .u8 0, .int .u8 0, .int .u8 0, .int .u8 0, .int .u8 0, .int .u8 0, .int .u8 0, .int .u8 0, .int .u8 0, .int .u8 0, .int .u8 0, .int .u8 0, .int .u8 0, .int .u8 0, .int .u8 0, .int .u8 0, .int .u8 0, .int .u8 0, .int .u8 0, .int .u8 0, .int .u8 0, .int .u8 0, .int .u8 0] 29)).setRow W5.heap.size (bytes ha).toArray := ⟨_, rfl⟩
  have hfr := fr_row (Fr.refl (fun _ => False) W5) (.cells #[.int .u8 0, .int .u8 0, .int .u8 0, .int .u8 0, .int .u8 0, .int .u8 0, .int .u8 0, .int .u8 0, .int .u8 0, .int .u8 0, .int .u8 0, .int .u8 0, .int .u8 0, .int .u8 0, .int .u8 0, .int .u8 0, .int .u8 0, .int .u8 0, .int .u8 0, .int .u8 0, .int .u8 0, .int .u8 0, .int .u8 0, .int .u8 0, .int .u8 0, .int .u8 0, .int .u8 0, .int .u8 0, .int .u8 0, .int .u8 0, .int .u8 0, .int .u8 0] 29) (bytes ha).toArray
  rw [← hW6] at hfr
  have H96 : Kp (Blk W6 g9 29 (bytes ha)) := ⟨by rw [hW6, hg9]; exact blk_row W5 _ _ _⟩
  have HF46 := Kp.mk (HF45.out.trans hfr (fun _ _ h => h))
  have HG9 : Kp (W4.heap.size ≤ g9) := ⟨by rw [hg9]; exact HF45.out.size⟩
  rw [← hW6, ← hg9]
  clear hW6 hg9 hfr HNEW5 HF45
  go_wp2_with (fail)
  refine (CSB.out W6 gB cB (HF4.out.trans HF46.out (fun _ _ h => h)) (HSB4.out.fr HF46.out)).mono ?_
  rintro e W7 ⟨rfl, hf⟩
  have HF47 := Kp.mk (HF46.out.trans hf (fun _ _ h => h))
  have H97 := Kp.mk (H96.out.fr hf (fun h => h))
  have HNEW7 : Kp (Blk (W7.alloc (.cells #[.int .u8 0, .int .u8 0, .int .u8 0, .int .u8 0, .int .u8 0, .int .u8 0, .int .u8 0, .int .u8 0, .int .u8 0, .int .u8 0, .int .u8 0, .int .u8 0, .int .u8 0, .int .u8 0, .int .u8 0, .int .u8 0, .int .u8 0, .int .u8 0, .int .u8 0, .int .u8 0, .int .u8 0, .int .u8 0, .int .u8 0, .int .u8 0, .int .u8 0, .int .u8 0, .int .u8 0, .int .u8 0, .int .u8 0, .int .u8 0, .int .u8 0, .int .u8 0] 29)) W7.heap.size 29 [.int .u8 0, .int .u8 0, .int .u8 0, .int .u8 0, .int .u8 0, .int .u8 0, .int .u8 0, .int .u8 0, .int .u8 0, .int .u8 0, .int .u8 0, .int .u8 0, .int .u8 0, .int .u8 0, .int .u8 0, .int .u8 0, .int .u8 0, .int .u8 0, .int .u8 0, .int .u8 0, .int .u8 0, .int .u8 0, .int .u8 0, .int .u8 0, .int .u8 0, .int .u8 0, .int .u8 0, .int .u8 0, .int .u8 0, .int .u8 0, .int .u8 0, .int .u8 0]) := ⟨Blk.new W7 _ _⟩
  clear hf CSB HF46 H96
  go_upto_region 7 with (refine wpList_storeH rfl rfl (Operand.tmp 10) (Operand.tmp 28) rfl W7.heap.size _ _ hb rfl rfl HNEW7.out rfl Hhb32.out ?_)
  obtain ⟨g10, hg10⟩ : ∃ g10, g10 = W7.heap.size := ⟨_, rfl⟩
  obtain ⟨W8, hW8⟩ : ∃ W8, W8 = (W7.alloc (.cells #[.int .u8 0, .int .u8 0, .int .u8 0, .int .u8 0, .int .u8 0, .int .u8 0, .int .u8 0, .int .u8 0, .int .u8 0, .int .u8 0, .int .u8 0, .int .u8 0, .int .u8 0, .int .u8 0, .int .u8 0, .int .u8 0, .int .u8 0, .int .u8 0, .int .u8 0, .int .u8 0, .int .u8 0, .int .u8 0, .int .u8 0, .int .u8 0, .int .u8 0, .int .u8 0, .int .u8 0, .int .u8 0, .int .u8 0, .int .u8 0, .int .u8 0, .int .u8 0] 29)).setRow W7.heap.size (bytes hb).toArray := ⟨_, rfl⟩
  have hfr := fr_row (Fr.refl (fun _ => False) W7) (.cells #[.int .u8 0, .int .u8 0, .int .u8 0, .int .u8 0, .int .u8 0, .int .u8 0, .int .u8 0, .int .u8 0, .int .u8 0, .int .u8 0, .int .u8 0, .int .u8 0, .int .u8 0, .int .u8 0, .int .u8 0, .int .u8 0, .int .u8 0, .int .u8 0, .int .u8 0, .int .u8 0, .int .u8 0, .int .u8 0, .int .u8 0, .int .u8 0, .int .u8 0, .int .u8 0, .int .u8 0, .int .u8 0, .int .u8 0, .int .u8 0, .int .u8 0, .int .u8 0] 29) (bytes hb).toArray
  rw [← hW8] at hfr
  have H108 : Kp (Blk W8 g10 29 (bytes (cutUp s hb s))) := ⟨by rw [HCb.out.1, hW8, hg10]; exact blk_row W7 _ _ _⟩
  have H98 : Kp (Blk W8 g9 29 (bytes (cutUp s ha s))) := ⟨by rw [HCa.out.1]; exact H97.out.fr hfr (fun h => h)⟩
  have HF48 := Kp.mk (HF47.out.trans hfr (fun _ _ h => h))
  have HG10 : Kp (W4.heap.size ≤ g10 ∧ g9 ≠ g10) := ⟨⟨by rw [hg10]; exact HF47.out.size, by rw [hg10]; exact Nat.ne_of_lt H97.out.lt⟩⟩
  rw [← hW8, ← hg10]
  clear hW8 hg10 hfr HNEW7 HF47 H97
  go_wp2_with (fail)
  refine (CK.out W8).mono ?_
  rintro e W9 ⟨rfl, rfl⟩
  clear CK
  go_wp2_with (fail)
  go_loopw [11] (fun v wr => ∃ (i : Nat), v = .int .i64 (i : Int) ∧ Kp (s ≤ i ∧ i ≤ 32) ∧ Kp (Blk wr g9 29 (bytes (cutUp s ha i))) ∧ Kp (Blk wr g10 29 (bytes (cutUp s hb i))) ∧ Kp (Fr (fun _ => False) W4 wr)) (fun v _ => 32 - (intOf v).toNat)
  case atStart => exact ⟨s, rfl, ⟨Nat.le_refl _, HS.out⟩, H98, H108, HF48⟩
  case round =>
    clear H98 H108 HF48
    obtain ⟨i, rfl, hi, H9, H10, HF9⟩ := hrel
    have hi' := hi.out
    by_cases hlt : i < 32
    · have c9 : ∃ y, wr.cell? ⟨g9, i, none⟩ = some (.int .u8 y) := ⟨_, H9.out.cell i _ (bytes_get _ i (by rw [cutUp_len]; exact hlt))⟩
      obtain ⟨y9, c9⟩ := c9
      have f9 : wr.frozen? ⟨g9, i, none⟩ = false := H9.out.free _
      have H9n : Kp (Blk (wr.setCell ⟨g9, i, none⟩ (.int .u8 0)) g9 29 (bytes (cutUp s ha (i + 1)))) := ⟨by rw [← cutUp_set s ha i hlt hi.out.1]; exact H9.out.set i _⟩
      have hfr : Fr (fun q => q = g9) wr (wr.setCell ⟨g9, i, none⟩ (.int .u8 0)) := Fr.set (S := fun q => q = g9) (a := ⟨g9, i, none⟩) (Fr.refl (fun q => q = g9) wr) (fun _ => rfl) _
      have H10a := Kp.mk (H10.out.fr hfr (fun he => HG10.out.2 he.symm))
      have HF9a := Kp.mk (HF9.out.trans (S := fun _ => False) hfr (fun q hq he => by have := HG9.out; omega))
      have Hlt := Kp.mk hlt
      clear hfr H9 H10 HF9 hi'
      go_upto_region 11 with (fail)
      generalize World.setCell wr _ _ = wa at H9n H10a HF9a ⊢
      clear c9 f9
      obtain ⟨y10, c10⟩ : ∃ y, wa.cell? ⟨g10, i, none⟩ = some (.int .u8 y) := ⟨_, H10a.out.cell i _ (bytes_get _ i (by rw [cutUp_len]; exact hlt))⟩
      have f10 : wa.frozen? ⟨g10, i, none⟩ = false := H10a.out.free _
      have H10n : Kp (Blk (wa.setCell ⟨g10, i, none⟩ (.int .u8 0)) g10 29 (bytes (cutUp s hb (i + 1)))) := ⟨by rw [← cutUp_set s hb i Hlt.out hi.out.1]; exact H10a.out.set i _⟩
      have hfr : Fr (fun q => q = g10) wa (wa.setCell ⟨g10, i, none⟩ (.int .u8 0)) := Fr.set (S := fun q => q = g10) (a := ⟨g10, i, none⟩) (Fr.refl (fun q => q = g10) wa) (fun _ => rfl) _
      have H9b := Kp.mk (H9n.out.fr hfr (HG10.out.2))
      have HF9b := Kp.mk (HF9a.out.trans (S := fun _ => False) hfr (fun q hq he => by have := HG10.out.1; omega))
      clear hfr H9n H10a HF9a
      go_wp2
      generalize World.setCell wa _ _ = wb at H9b H10n HF9b ⊢
      refine ⟨⟨i + 1, by go_num, ⟨⟨by have := hi.out; omega, Hlt.out⟩⟩, H9b, H10n, HF9b⟩, ?_⟩
      simp [intOf]; omega
    · have hie : i = 32 := by omega
      subst hie
      have H9z : Kp (Blk wr g9 29 (bytes Lf)) := ⟨by have q := H9.out; rw [HCa.out.2] at q; exact q⟩
      have H10z : Kp (Blk wr g10 29 (bytes Nd)) := ⟨by have q := H10.out; rw [HCb.out.2] at q; exact q⟩
      clear H9 H10 hi hi' hlt
      have HFz := Kp.mk ((HF4.out.trans HF9.out (fun _ _ h => h)).drew)
      have H9d := Kp.mk (H9z.out.drew)
      have H10d := Kp.mk (H10z.out.drew)
      have H5d := Kp.mk ((H54.out.fr HF9.out (fun h => h)).drew)
      have H6d := Kp.mk ((H64.out.fr HF9.out (fun h => h)).drew)
      have HSAd := Kp.mk (HSA4.out.fr HF9.out.drew)
      have HSBd := Kp.mk (HSB4.out.fr HF9.out.drew)
      have e1 := eqs.out.1
      have e2 := eqs.out.2.1
      have e3 := eqs.out.2.2
      have hwr : IntKind.i64.wrap ((n : Int) + 1) = (n : Int) + 1 := by simp [IntKind.wrap, IntKind.bits, IntKind.signed]; omega
      have hw1 : ((n : Int) + 1 != IntKind.i64.wrap ((n : Int) + 1)) = false := by rw [hwr]; exact bne_self_eq_false _
      clear hwr
      clear H9z H10z H54 H64 HSA4 HSB4 HF4 HF9 eqs
      go_upto_region 12 with (fail)
      refine start_ (n := 26) (S := fun w' => Lds w' 29 (.pointer (some ⟨g9, 0, none⟩)) (.agg (bytes Lf).toArray) ∧ Lds w' 29 (.pointer (some ⟨g10, 0, none⟩)) (.agg (bytes Nd).toArray) ∧ Lds w' 23 (.pointer (some ⟨g5, 0, none⟩)) (.agg (bytes X).toArray) ∧ Lds w' 23 (.pointer (some ⟨g6, 0, none⟩)) (.agg (bytes Y).toArray)) (ds := []) #[false, false, false, false, false, false, false, false, false, false, false, false, false, false, false, false, false, false, false, false, false, false, false, false, false, false] (by kernel_rfl) rfl rfl ⟨lds_hsh H9d.out HLf32.out, lds_hsh H10d.out HNd32.out, lds_h32 H5d.out HX32.out, lds_h32 H6d.out HY32.out⟩ (fun hHeld => ?_)
      refine pure_ (i := 1) (N := some 40) (v := ?_) (a' := ?_) #[false, true, false, false, false, false, false, false, false, false, false, false, false, false, false, false, false, false, false, false, false, false, false, false, false, false] rfl rfl (by kernel_rfl) (fun _ _ _ h => h) (Or.inl ⟨by rfl, ?_⟩) ?_ ?_
      rotate_left
      · intro w'
        go_simp
        with_reducible rfl
      rotate_left
      · simp only [Act.put, List.setIfInBounds_toArray, List.set_cons_zero, List.set_cons_succ]
        rfl
      refine pure_ (i := 2) (N := some 41) (v := ?_) (a' := ?_) #[false, true, true, false, false, false, false, false, false, false, false, false, false, false, false, false, false, false, false, false, false, false, false, false, false, false] rfl rfl (by kernel_rfl) (fun _ _ _ h => h) (Or.inl ⟨by rfl, ?_⟩) ?_ ?_
      rotate_left
      · intro w'
        go_simp
        with_reducible rfl
      rotate_left
      · simp only [Act.put, List.setIfInBounds_toArray, List.set_cons_zero, List.set_cons_succ]
        rfl
      refine take_ (i := 0) (N := some 39) (v := ?_) (a' := ?_) #[true, true, true, false, false, false, false, false, false, false, false, false, false, false, false, false, false, false, false, false, false, false, false, false, false, false] rfl rfl (by kernel_rfl) (fun _ _ _ h => h) (Or.inl ⟨by rfl, ?_⟩) hHeld ?_ ?_
      rotate_left
      · rintro w' ⟨s0, s1, s2, s3⟩
        refine Lds.run s0 (x := ?_) ?_ ?_
        · exact (Operand.tmp 9)
        · rfl
        · rfl
      rotate_left
      · simp only [Act.put, List.setIfInBounds_toArray, List.set_cons_zero, List.set_cons_succ]
        rfl
      refine one_ (i := 3) (N := some 42) #[true, true, true, true, false, false, false, false, false, false, false, false, false, false, false, false, false, false, false, false, false, false, false, false, false, false] rfl rfl (by kernel_rfl) (by decide) (fun K hK => ?_)
      refine goes_ Tryd.func14 (by kernel_rfl) rfl #[.int .i64 k, .slice A n c] (by rfl) rfl rfl (by simp only [List.map_toArray, List.map_cons, List.map_nil]; rfl) ?_
      with_reducible refine (CL.out _ HFz.out).mono ?_
      rintro e WA ⟨rfl, hf⟩
      refine ⟨_, rfl, ?_⟩
      have H9A := Kp.mk (H9d.out.fr hf (fun h => h))
      have H10A := Kp.mk (H10d.out.fr hf (fun h => h))
      have H5A := Kp.mk (H5d.out.fr hf (fun h => h))
      have H6A := Kp.mk (H6d.out.fr hf (fun h => h))
      have HSAA := Kp.mk (HSAd.out.fr hf)
      have HSBA := Kp.mk (HSBd.out.fr hf)
      have HFA := Kp.mk (HFz.out.trans hf (fun _ _ h => h))
      clear hf
      refine hK.out _ _ ⟨lds_hsh H9A.out HLf32.out, lds_hsh H10A.out HNd32.out, lds_h32 H5A.out HX32.out, lds_h32 H6A.out HY32.out⟩ (fun hHeld => ?_)
      clear hK K
      refine norm_ (a' := ?_) ?_ ?_
      rotate_left
      · show Act.put _ (some 42) _ = _
        simp only [Act.put, List.setIfInBounds_toArray, List.set_cons_zero, List.set_cons_succ]
        rfl
      refine pure_ (i := 4) (N := some 43) (v := ?_) (a' := ?_) #[true, true, true, true, true, false, false, false, false, false, false, false, false, false, false, false, false, false, false, false, false, false, false, false, false, false] rfl rfl (by kernel_rfl) (fun _ _ _ h => h) (Or.inl ⟨by rfl, ?_⟩) ?_ ?_
      rotate_left
      · intro w'
        go_simp
        with_reducible rfl
      rotate_left
      · simp only [Act.put, List.setIfInBounds_toArray, List.set_cons_zero, List.set_cons_succ]
        rfl
      refine pure_ (i := 5) (N := some 44) (v := ?_) (a' := ?_) #[true, true, true, true, true, true, false, false, false, false, false, false, false, false, false, false, false, false, false, false, false, false, false, false, false, false] rfl rfl (by kernel_rfl) (fun _ _ _ h => h) (Or.inl ⟨by rfl, ?_⟩) ?_ ?_
      rotate_left
      · intro w'
        go_simp
        with_reducible rfl
      rotate_left
      · simp only [Act.put, List.setIfInBounds_toArray, List.set_cons_zero, List.set_cons_succ]
        rfl
      refine pure_ (i := 7) (N := some 46) (v := ?_) (a' := ?_) #[true, true, true, true, true, true, false, true, false, false, false, false, false, false, false, false, false, false, false, false, false, false, false, false, false, false] rfl rfl (by kernel_rfl) (fun _ _ _ h => h) (Or.inl ⟨by rfl, ?_⟩) ?_ ?_
      rotate_left
      · intro w'
        go_simp
        with_reducible rfl
      rotate_left
      · simp only [Act.put, List.setIfInBounds_toArray, List.set_cons_zero, List.set_cons_succ]
        rfl
      refine take_ (i := 6) (N := some 45) (v := ?_) (a' := ?_) #[true, true, true, true, true, true, true, true, false, false, false, false, false, false, false, false, false, false, false, false, false, false, false, false, false, false] rfl rfl (by kernel_rfl) (fun _ _ _ h => h) (Or.inl ⟨by rfl, ?_⟩) hHeld ?_ ?_
      rotate_left
      · rintro w' ⟨s0, s1, s2, s3⟩
        refine Lds.run s1 (x := ?_) ?_ ?_
        · exact (Operand.tmp 10)
        · rfl
        · rfl
      rotate_left
      · simp only [Act.put, List.setIfInBounds_toArray, List.set_cons_zero, List.set_cons_succ]
        rfl
      refine take_ (i := 8) (N := some 47) (v := ?_) (a' := ?_) #[true, true, true, true, true, true, true, true, true, false, false, false, false, false, false, false, false, false, false, false, false, false, false, false, false, false] rfl rfl (by kernel_rfl) (fun _ _ _ h => h) (Or.inl ⟨by rfl, ?_⟩) hHeld ?_ ?_
      rotate_left
      · rintro w' ⟨s0, s1, s2, s3⟩
        refine Lds.run s2 (x := ?_) ?_ ?_
        · exact (Operand.tmp 5)
        · rfl
        · rfl
      rotate_left
      · simp only [Act.put, List.setIfInBounds_toArray, List.set_cons_zero, List.set_cons_succ]
        rfl
      refine take_ (i := 9) (N := some 48) (v := ?_) (a' := ?_) #[true, true, true, true, true, true, true, true, true, true, false, false, false, false, false, false, false, false, false, false, false, false, false, false, false, false] rfl rfl (by kernel_rfl) (fun _ _ _ h => h) (Or.inl ⟨by rfl, ?_⟩) hHeld ?_ ?_
      rotate_left
      · rintro w' ⟨s0, s1, s2, s3⟩
        refine Lds.run s3 (x := ?_) ?_ ?_
        · exact (Operand.tmp 6)
        · rfl
        · rfl
      rotate_left
      · simp only [Act.put, List.setIfInBounds_toArray, List.set_cons_zero, List.set_cons_succ]
        rfl
      refine one_ (i := 10) (N := some 49) #[true, true, true, true, true, true, true, true, true, true, true, false, false, false, false, false, false, false, false, false, false, false, false, false, false, false] rfl rfl (by kernel_rfl) (by decide) (fun K hK => ?_)
      refine goes_ Tryd.func15 (by kernel_rfl) rfl #[.int .i64 k, .agg (bytes X).toArray, .agg (bytes Y).toArray] (by rfl) rfl rfl (by simp only [List.map_toArray, List.map_cons, List.map_nil]; rfl) ?_
      with_reducible refine (CN.out _ HFA.out).mono ?_
      rintro e WB ⟨rfl, hf⟩
      refine ⟨_, rfl, ?_⟩
      have H9B := Kp.mk (H9A.out.fr hf (fun h => h))
      have H10B := Kp.mk (H10A.out.fr hf (fun h => h))
      have H5B := Kp.mk (H5A.out.fr hf (fun h => h))
      have H6B := Kp.mk (H6A.out.fr hf (fun h => h))
      have HSAB := Kp.mk (HSAA.out.fr hf)
      have HSBB := Kp.mk (HSBA.out.fr hf)
      have HFB := Kp.mk (HFA.out.trans hf (fun _ _ h => h))
      clear hf
      refine hK.out _ _ ⟨lds_hsh H9B.out HLf32.out, lds_hsh H10B.out HNd32.out, lds_h32 H5B.out HX32.out, lds_h32 H6B.out HY32.out⟩ (fun hHeld => ?_)
      clear hK K
      refine norm_ (a' := ?_) ?_ ?_
      rotate_left
      · show Act.put _ (some 49) _ = _
        simp only [Act.put, List.setIfInBounds_toArray, List.set_cons_zero, List.set_cons_succ]
        rfl
      refine pure_ (i := 11) (N := some 50) (v := ?_) (a' := ?_) #[true, true, true, true, true, true, true, true, true, true, true, true, false, false, false, false, false, false, false, false, false, false, false, false, false, false] rfl rfl (by kernel_rfl) (fun _ _ _ h => h) (Or.inl ⟨by rfl, ?_⟩) ?_ ?_
      rotate_left
      · intro w'
        go_simp
        with_reducible rfl
      rotate_left
      · simp only [Act.put, List.setIfInBounds_toArray, List.set_cons_zero, List.set_cons_succ]
        rfl
      refine pure_ (i := 12) (N := some 51) (v := ?_) (a' := ?_) #[true, true, true, true, true, true, true, true, true, true, true, true, true, false, false, false, false, false, false, false, false, false, false, false, false, false] rfl rfl (by kernel_rfl) (fun _ _ _ h => h) (Or.inl ⟨by rfl, ?_⟩) ?_ ?_
      rotate_left
      · intro w'
        go_simp
        with_reducible rfl
      rotate_left
      · simp only [Act.put, List.setIfInBounds_toArray, List.set_cons_zero, List.set_cons_succ]
        rfl
      refine pure_ (i := 13) (N := some 52) (v := ?_) (a' := ?_) #[true, true, true, true, true, true, true, true, true, true, true, true, true, true, false, false, false, false, false, false, false, false, false, false, false, false] rfl rfl (by kernel_rfl) (fun _ _ _ h => h) (Or.inl ⟨by rfl, ?_⟩) ?_ ?_
      rotate_left
      · intro w'
        go_simp
        with_reducible rfl
      rotate_left
      · simp only [Act.put, List.setIfInBounds_toArray, List.set_cons_zero, List.set_cons_succ]
        rfl
      refine pure_ (i := 14) (N := some 53) (v := ?_) (a' := ?_) #[true, true, true, true, true, true, true, true, true, true, true, true, true, true, true, false, false, false, false, false, false, false, false, false, false, false] rfl rfl (by kernel_rfl) (fun _ _ _ h => h) (Or.inl ⟨by rfl, ?_⟩) ?_ ?_
      rotate_left
      · intro w'
        go_simp
        with_reducible rfl
      rotate_left
      · simp only [Act.put, List.setIfInBounds_toArray, List.set_cons_zero, List.set_cons_succ]
        rfl
      refine pure_ (i := 15) (N := some 54) (v := ?_) (a' := ?_) #[true, true, true, true, true, true, true, true, true, true, true, true, true, true, true, true, false, false, false, false, false, false, false, false, false, false] rfl rfl (by kernel_rfl) (fun _ _ _ h => h) (Or.inl ⟨by rfl, ?_⟩) ?_ ?_
      rotate_left
      · intro w'
        go_simp
        with_reducible rfl
      rotate_left
      · simp only [Act.put, List.setIfInBounds_toArray, List.set_cons_zero, List.set_cons_succ]
        rfl
      refine pure_ (i := 16) (N := some 55) (v := ?_) (a' := ?_) #[true, true, true, true, true, true, true, true, true, true, true, true, true, true, true, true, true, false, false, false, false, false, false, false, false, false] rfl rfl (by kernel_rfl) (fun _ _ _ h => h) (Or.inl ⟨by rfl, ?_⟩) ?_ ?_
      rotate_left
      · intro w'
        go_simp
        with_reducible rfl
      rotate_left
      · simp only [Act.put, List.setIfInBounds_toArray, List.set_cons_zero, List.set_cons_succ]
        rfl
      refine pure_ (i := 17) (N := some 56) (v := ?_) (a' := ?_) #[true, true, true, true, true, true, true, true, true, true, true, true, true, true, true, true, true, true, false, false, false, false, false, false, false, false] rfl rfl (by kernel_rfl) (fun _ _ _ h => h) (Or.inl ⟨by rfl, ?_⟩) ?_ ?_
      rotate_left
      · intro w'
        go_simp
        with_reducible rfl
      rotate_left
      · simp only [Act.put, List.setIfInBounds_toArray, List.set_cons_zero, List.set_cons_succ]
        rfl
      refine pure_ (i := 18) (N := some 57) (v := ?_) (a' := ?_) #[true, true, true, true, true, true, true, true, true, true, true, true, true, true, true, true, true, true, true, false, false, false, false, false, false, false] rfl rfl (by kernel_rfl) (fun _ _ _ h => h) (Or.inl ⟨by rfl, ?_⟩) ?_ ?_
      rotate_left
      · intro w'
        go_simp
        with_reducible rfl
      rotate_left
      · simp only [Act.put, List.setIfInBounds_toArray, List.set_cons_zero, List.set_cons_succ]
        rfl
      refine pure_ (i := 19) (N := some 58) (v := ?_) (a' := ?_) #[true, true, true, true, true, true, true, true, true, true, true, true, true, true, true, true, true, true, true, true, false, false, false, false, false, false] rfl rfl (by kernel_rfl) (fun _ _ _ h => h) (Or.inl ⟨by rfl, ?_⟩) ?_ ?_
      rotate_left
      · intro w'
        go_simp
        with_reducible rfl
      rotate_left
      · simp only [Act.put, List.setIfInBounds_toArray, List.set_cons_zero, List.set_cons_succ]
        rfl
      refine pure_ (i := 20) (N := some 59) (v := ?_) (a' := ?_) #[true, true, true, true, true, true, true, true, true, true, true, true, true, true, true, true, true, true, true, true, true, false, false, false, false, false] rfl rfl (by kernel_rfl) (fun _ _ _ h => h) (Or.inl ⟨by rfl, ?_⟩) ?_ ?_
      rotate_left
      · intro w'
        go_simp
        with_reducible rfl
      rotate_left
      · simp only [Act.put, List.setIfInBounds_toArray, List.set_cons_zero, List.set_cons_succ]
        rfl
      refine pure_ (i := 21) (N := some 60) (v := ?_) (a' := ?_) #[true, true, true, true, true, true, true, true, true, true, true, true, true, true, true, true, true, true, true, true, true, true, false, false, false, false] rfl rfl (by kernel_rfl) (fun _ _ _ h => h) (Or.inl ⟨by rfl, ?_⟩) ?_ ?_
      rotate_left
      · intro w'
        go_simp
        with_reducible rfl
      rotate_left
      · simp only [Act.put, List.setIfInBounds_toArray, List.set_cons_zero, List.set_cons_succ]
        rfl
      refine pure_ (i := 22) (N := some 61) (v := ?_) (a' := ?_) #[true, true, true, true, true, true, true, true, true, true, true, true, true, true, true, true, true, true, true, true, true, true, true, false, false, false] rfl rfl (by kernel_rfl) (fun _ _ _ h => h) (Or.inl ⟨by rfl, ?_⟩) ?_ ?_
      rotate_left
      · intro w'
        go_simp
        with_reducible rfl
      rotate_left
      · simp only [Act.put, List.setIfInBounds_toArray, List.set_cons_zero, List.set_cons_succ]
        rfl
      refine pure_ (i := 23) (N := some 62) (v := ?_) (a' := ?_) #[true, true, true, true, true, true, true, true, true, true, true, true, true, true, true, true, true, true, true, true, true, true, true, true, false, false] rfl rfl (by kernel_rfl) (fun _ _ _ h => h) (Or.inl ⟨by rfl, ?_⟩) ?_ ?_
      rotate_left
      · intro w'
        go_simp
        with_reducible rfl
      rotate_left
      · simp only [Act.put, List.setIfInBounds_toArray, List.set_cons_zero, List.set_cons_succ]
        rfl
      refine pure_ (i := 24) (N := some 63) (v := ?_) (a' := ?_) #[true, true, true, true, true, true, true, true, true, true, true, true, true, true, true, true, true, true, true, true, true, true, true, true, true, false] rfl rfl (by kernel_rfl) (fun _ _ _ h => h) (Or.inl ⟨by rfl, ?_⟩) ?_ ?_
      rotate_left
      · intro w'
        go_simp
        with_reducible rfl
      rotate_left
      · simp only [Act.put, List.setIfInBounds_toArray, List.set_cons_zero, List.set_cons_succ]
        rfl
      refine pure_ (i := 25) (N := some 64) (v := ?_) (a' := ?_) #[true, true, true, true, true, true, true, true, true, true, true, true, true, true, true, true, true, true, true, true, true, true, true, true, true, true] rfl rfl (by kernel_rfl) (fun _ _ _ h => h) (Or.inl ⟨by rfl, ?_⟩) ?_ ?_
      rotate_left
      · intro w'
        go_simp
        with_reducible rfl
      rotate_left
      · simp only [Act.put, List.setIfInBounds_toArray, List.set_cons_zero, List.set_cons_succ]
        rfl
      refine done_ (by kernel_rfl) ?_
      clear hw1 e1 e2 CL CN
      have HFd := Kp.mk HFB.out.drew
      have H9d := Kp.mk H9B.out.drew
      have H10d := Kp.mk H10B.out.drew
      have HSAd := Kp.mk (HSAB.out.fr (S := fun _ => False) (Fr.refl _ WB).drew)
      have HSBd := Kp.mk (HSBB.out.fr (S := fun _ => False) (Fr.refl _ WB).drew)
      have hPf : (PP != PP) = false := bne_self_eq_false _
      have hs4 := HSne.out
      go_upto_region 14 with (fail)
      refine start_ (n := 16) (S := fun w' => Lds w' 29 (.pointer (some ⟨g9, 0, none⟩)) (.agg (bytes Lf).toArray) ∧ Lds w' 29 (.pointer (some ⟨g10, 0, none⟩)) (.agg (bytes Nd).toArray)) (ds := []) #[false, false, false, false, false, false, false, false, false, false, false, false, false, false, false, false] (by kernel_rfl) rfl rfl ⟨lds_hsh H9d.out HLf32.out, lds_hsh H10d.out HNd32.out⟩ (fun hHeld => ?_)
      refine pure_ (i := 0) (N := some 65) (v := ?_) (a' := ?_) #[true, false, false, false, false, false, false, false, false, false, false, false, false, false, false, false] rfl rfl (by kernel_rfl) (fun _ _ _ h => h) (Or.inl ⟨by rfl, ?_⟩) ?_ ?_
      rotate_left
      · intro w'
        go_simp
        with_reducible rfl
      rotate_left
      · simp only [Act.put, List.setIfInBounds_toArray, List.set_cons_zero, List.set_cons_succ]
        rfl
      refine pure_ (i := 1) (N := some 66) (v := ?_) (a' := ?_) #[true, true, false, false, false, false, false, false, false, false, false, false, false, false, false, false] rfl rfl (by kernel_rfl) (fun _ _ _ h => h) (Or.inl ⟨by rfl, ?_⟩) ?_ ?_
      rotate_left
      · intro w'
        go_simp
        with_reducible rfl
      rotate_left
      · simp only [Act.put, List.setIfInBounds_toArray, List.set_cons_zero, List.set_cons_succ]
        rfl
      refine pure_ (i := 2) (N := some 67) (v := ?_) (a' := ?_) #[true, true, true, false, false, false, false, false, false, false, false, false, false, false, false, false] rfl rfl (by kernel_rfl) (fun _ _ _ h => h) (Or.inl ⟨by rfl, ?_⟩) ?_ ?_
      rotate_left
      · intro w'
        go_simp
        with_reducible rfl
      rotate_left
      · simp only [Act.put, List.setIfInBounds_toArray, List.set_cons_zero, List.set_cons_succ]
        rfl
      refine pure_ (i := 3) (N := some 68) (v := ?_) (a' := ?_) #[true, true, true, true, false, false, false, false, false, false, false, false, false, false, false, false] rfl rfl (by kernel_rfl) (fun _ _ _ h => h) (Or.inl ⟨by rfl, ?_⟩) ?_ ?_
      rotate_left
      · intro w'
        go_simp
        with_reducible rfl
      rotate_left
      · simp only [Act.put, List.setIfInBounds_toArray, List.set_cons_zero, List.set_cons_succ]
        rfl
      refine one_ (i := 4) (N := some 69) #[true, true, true, true, true, false, false, false, false, false, false, false, false, false, false, false] rfl rfl (by kernel_rfl) (by decide) (fun K hK => ?_)
      refine goes_ Tryd.func16 (by kernel_rfl) rfl #[.int .i64 k, .agg #[.slice (some ⟨gA, 0, none⟩) (n + 1) cA, .slice (some ⟨gA, 0, none⟩) (n + 1) cA]] (by rfl) rfl rfl (by simp only [List.map_toArray, List.map_cons, List.map_nil]; rfl) ?_
      with_reducible refine (CC1.out _ gA cA HFd.out HSAd.out).mono ?_
      rintro e WD ⟨rfl, hf⟩
      refine ⟨_, rfl, ?_⟩
      have H9D := Kp.mk (H9d.out.fr hf (fun h => h))
      have H10D := Kp.mk (H10d.out.fr hf (fun h => h))
      have HSAD := Kp.mk (HSAd.out.fr hf)
      have HSBD := Kp.mk (HSBd.out.fr hf)
      have HFD := Kp.mk (HFd.out.trans hf (fun _ _ h => h))
      clear hf
      refine hK.out _ _ ⟨lds_hsh H9D.out HLf32.out, lds_hsh H10D.out HNd32.out⟩ (fun hHeld => ?_)
      clear hK K
      refine norm_ (a' := ?_) ?_ ?_
      rotate_left
      · show Act.put _ (some 69) _ = _
        simp only [Act.put, List.setIfInBounds_toArray, List.set_cons_zero, List.set_cons_succ]
        rfl
      refine pure_ (i := 5) (N := some 70) (v := ?_) (a' := ?_) #[true, true, true, true, true, true, false, false, false, false, false, false, false, false, false, false] rfl rfl (by kernel_rfl) (fun _ _ _ h => h) (Or.inl ⟨by rfl, ?_⟩) ?_ ?_
      rotate_left
      · intro w'
        go_simp
        with_reducible rfl
      rotate_left
      · simp only [Act.put, List.setIfInBounds_toArray, List.set_cons_zero, List.set_cons_succ]
        rfl
      refine pure_ (i := 6) (N := some 71) (v := ?_) (a' := ?_) #[true, true, true, true, true, true, true, false, false, false, false, false, false, false, false, false] rfl rfl (by kernel_rfl) (fun _ _ _ h => h) (Or.inl ⟨by rfl, ?_⟩) ?_ ?_
      rotate_left
      · intro w'
        go_simp
        with_reducible rfl
      rotate_left
      · simp only [Act.put, List.setIfInBounds_toArray, List.set_cons_zero, List.set_cons_succ]
        rfl
      refine pure_ (i := 7) (N := some 72) (v := ?_) (a' := ?_) #[true, true, true, true, true, true, true, true, false, false, false, false, false, false, false, false] rfl rfl (by kernel_rfl) (fun _ _ _ h => h) (Or.inl ⟨by rfl, ?_⟩) ?_ ?_
      rotate_left
      · intro w'
        go_simp
        with_reducible rfl
      rotate_left
      · simp only [Act.put, List.setIfInBounds_toArray, List.set_cons_zero, List.set_cons_succ]
        rfl
      refine pure_ (i := 8) (N := some 73) (v := ?_) (a' := ?_) #[true, true, true, true, true, true, true, true, true, false, false, false, false, false, false, false] rfl rfl (by kernel_rfl) (fun _ _ _ h => h) (Or.inl ⟨by rfl, ?_⟩) ?_ ?_
      rotate_left
      · intro w'
        go_simp
        with_reducible rfl
      rotate_left
      · simp only [Act.put, List.setIfInBounds_toArray, List.set_cons_zero, List.set_cons_succ]
        rfl
      refine pure_ (i := 9) (N := some 74) (v := ?_) (a' := ?_) #[true, true, true, true, true, true, true, true, true, true, false, false, false, false, false, false] rfl rfl (by kernel_rfl) (fun _ _ _ h => h) (Or.inl ⟨by rfl, ?_⟩) ?_ ?_
      rotate_left
      · intro w'
        go_simp
        with_reducible rfl
      rotate_left
      · simp only [Act.put, List.setIfInBounds_toArray, List.set_cons_zero, List.set_cons_succ]
        rfl
      refine take_ (i := 11) (N := some 76) (v := ?_) (a' := ?_) #[true, true, true, true, true, true, true, true, true, true, false, true, false, false, false, false] rfl rfl (by kernel_rfl) (fun _ _ _ h => h) (Or.inl ⟨by rfl, ?_⟩) hHeld ?_ ?_
      rotate_left
      · rintro w' ⟨s0, s1⟩
        refine Lds.run s0 (x := ?_) ?_ ?_
        · exact (Operand.tmp 9)
        · rfl
        · rfl
      rotate_left
      · simp only [Act.put, List.setIfInBounds_toArray, List.set_cons_zero, List.set_cons_succ]
        rfl
      refine take_ (i := 12) (N := some 77) (v := ?_) (a' := ?_) #[true, true, true, true, true, true, true, true, true, true, false, true, true, false, false, false] rfl rfl (by kernel_rfl) (fun _ _ _ h => h) (Or.inl ⟨by rfl, ?_⟩) hHeld ?_ ?_
      rotate_left
      · rintro w' ⟨s0, s1⟩
        refine Lds.run s1 (x := ?_) ?_ ?_
        · exact (Operand.tmp 10)
        · rfl
        · rfl
      rotate_left
      · simp only [Act.put, List.setIfInBounds_toArray, List.set_cons_zero, List.set_cons_succ]
        rfl
      refine pure_ (i := 13) (N := some 78) (v := ?_) (a' := ?_) #[true, true, true, true, true, true, true, true, true, true, false, true, true, true, false, false] rfl rfl (by kernel_rfl) (fun _ _ _ h => h) (Or.inl ⟨by rfl, ?_⟩) ?_ ?_
      rotate_left
      · intro w'
        go_simp
        with_reducible rfl
      rotate_left
      · simp only [Act.put, List.setIfInBounds_toArray, List.set_cons_zero, List.set_cons_succ]
        rfl
      refine one_ (i := 10) (N := some 75) #[true, true, true, true, true, true, true, true, true, true, true, true, true, true, false, false] rfl rfl (by kernel_rfl) (by decide) (fun K hK => ?_)
      refine goes_ Tryd.func16 (by kernel_rfl) rfl #[.int .i64 k, .agg #[.slice (some ⟨gA, 0, none⟩) (n + 1) cA, .slice (some ⟨gB, 0, none⟩) 65 cB]] (by rfl) rfl rfl (by simp only [List.map_toArray, List.map_cons, List.map_nil]; rfl) ?_
      with_reducible refine (CC2.out _ gA cA gB cB HFD.out HSAD.out HSBD.out).mono ?_
      rintro e WE ⟨rfl, hf⟩
      refine ⟨_, rfl, ?_⟩
      have H9E := Kp.mk (H9D.out.fr hf (fun h => h))
      have H10E := Kp.mk (H10D.out.fr hf (fun h => h))
      have HSAE := Kp.mk (HSAD.out.fr hf)
      have HSBE := Kp.mk (HSBD.out.fr hf)
      have HFE := Kp.mk (HFD.out.trans hf (fun _ _ h => h))
      clear hf
      refine hK.out _ _ ⟨lds_hsh H9E.out HLf32.out, lds_hsh H10E.out HNd32.out⟩ (fun hHeld => ?_)
      clear hK K
      refine norm_ (a' := ?_) ?_ ?_
      rotate_left
      · show Act.put _ (some 75) _ = _
        simp only [Act.put, List.setIfInBounds_toArray, List.set_cons_zero, List.set_cons_succ]
        rfl
      refine pure_ (i := 14) (N := some 79) (v := ?_) (a' := ?_) #[true, true, true, true, true, true, true, true, true, true, true, true, true, true, true, false] rfl rfl (by kernel_rfl) (fun _ _ _ h => h) (Or.inl ⟨by rfl, ?_⟩) ?_ ?_
      rotate_left
      · intro w'
        go_simp
        with_reducible rfl
      rotate_left
      · simp only [Act.put, List.setIfInBounds_toArray, List.set_cons_zero, List.set_cons_succ]
        rfl
      refine pure_ (i := 15) (N := some 80) (v := ?_) (a' := ?_) #[true, true, true, true, true, true, true, true, true, true, true, true, true, true, true, true] rfl rfl (by kernel_rfl) (fun _ _ _ h => h) (Or.inl ⟨by rfl, ?_⟩) ?_ ?_
      rotate_left
      · intro w'
        go_simp
        with_reducible rfl
      rotate_left
      · simp only [Act.put, List.setIfInBounds_toArray, List.set_cons_zero, List.set_cons_succ]
        rfl
      refine done_ (by kernel_rfl) ?_
      have cA1 := CV1.out _ gA cA HSAE.out
      have cB1 := CV2.out _ gB cB HSBE.out
      clear CC1 CC2 e3 hPf
      go_wp2_with (fail)
      go_ret
      have hne : (sA.toList == sB.toList) = false := by
        simp only [ByteArray.toList_eq, beq_eq_false_iff_ne, ne_eq]
        exact fun e => HSne.out (ByteArray.ext (Array.toList_inj.1 e))
      exact ⟨by rw [hne]; rfl, HFE.out⟩
end Go.Proofs.YtjcmgpiapbeodaaDoor.Sha
