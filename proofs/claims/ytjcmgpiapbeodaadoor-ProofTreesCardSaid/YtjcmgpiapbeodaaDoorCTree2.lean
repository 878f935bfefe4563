/-
  ClimbTree, CheckTree.
-/
import Derived.Test.YtjcmgpiapbeodaaDoorCTree
set_option linter.unusedSimpArgs false
set_option linter.unusedVariables false
namespace Go.Proofs.YtjcmgpiapbeodaaDoor.Sha
open Go.Proofs.YtjcmgpiapbeodaaDoor.Pf Go.Proofs.YtjcmgpiapbeodaaDoor.Len Go.Proofs.YtjcmgpiapbeodaaDoor.PProofTakes
open Go.RowKit Go.Proofs.YtjcmgpiapbeodaaDoor.Mem Go.Proofs.YtjcmgpiapbeodaaDoorW.PrintWords Go.Proofs.YtjcmgpiapbeodaaDoorW.PrintLast Go.Proofs.YtjcmgpiapbeodaaDoor.Pl Go.Proofs.YtjcmgpiapbeodaaDoor.Wk
attribute [local go_sem ↓] Go.wp_at_zero Go.wp_at_succ wp_load_hash wp_store_hash wp_load_mid23 wp_load_mid25 wp_store_mid25 wp_build_hash
attribute [local go_sem] rowAt_drew rowOk_drew midOk_drew midAt_drew rowBlock rowCells rowOff midFree_drew
theorem results_cell2_tmp {P : Program} {fn : Func} {p q r : Tmp} {ty : TypeId} (h : fn.results = #[.cell p ty, .cell q ty, .tmp r]) (tmps : Array Value) (w : World) (g g' : Nat) (t t' : TypeId) (cs cs' : Array Value) (fr fr' : Nat × Nat) (d : TypeDesc) (v : Value)
    (hp : tmps.getD p undef = .pointer (some ⟨g, 0, none⟩)) (hp' : tmps.getD q undef = .pointer (some ⟨g', 0, none⟩)) (hq : tmps.getD r undef = v) (hg : w.heap[g]? = some (.cells cs t fr)) (hg' : w.heap[g']? = some (.cells cs' t' fr'))
    (hu : P.underlying ty = some d) (hd : (match d with | .struct _ | .array _ _ => true | _ => false) = true) (hi : (P.info? ty).map (·.size) = some cs.size) (hi' : (P.info? ty).map (·.size) = some cs'.size) :
    (results fn tmps).run P w = .ok (.tuple #[.agg cs, .agg cs', v]) w := by
  have h1 : tmps[p]?.getD undef = .pointer (some ⟨g, 0, none⟩) := by simpa using hp
  have h2 : tmps[q]?.getD undef = .pointer (some ⟨g', 0, none⟩) := by simpa using hp'
  have h3 : tmps[r]?.getD undef = v := by simpa using hq
  simp [results, h, h1, h2, h3, asAddr, run_loadVar_row w g t ty cs fr d hg hu hd hi, run_loadVar_row w g' t' ty cs' fr' d hg' hu hd hi']
set_option maxHeartbeats 4000000 in
set_option maxRecDepth 100000 in
theorem ClimbTree_arg (k : Int) (A : Option Addr) (c : Nat) (p : List (List Int)) (n m : Int) (old : List Int) (w : World) (hL : Laid w) (hX : HRow w (fun _ => False) A c p) (ho : old.length = 32) (h : ¬ treOk n m) :
    Calls Tryd.prog 17 #[.int .i64 k, .slice A p.length c, .int .i64 n, .int .i64 m, .agg (bytes old).toArray] w fun e w' => e = .returned (.tuple #[.agg (bytes z32).toArray, .agg (bytes z32).toArray, .int .i64 1]) ∧ Fr (fun _ => False) w w' := by
  obtain ⟨q, hq⟩ : ∃ q, q = p.length := ⟨_, rfl⟩
  rw [← hq]
  clear hq hL hX ho
  unfold treOk at h
  go_enter Tryd.func17, Tryd.ntmps17
  go_upto_region 1 with (fail)
  obtain ⟨g9, hg9⟩ : ∃ g9, g9 = w.heap.size := ⟨_, rfl⟩
  obtain ⟨g10, hg10⟩ : ∃ g10, g10 = w.heap.size + 1 := ⟨_, rfl⟩
  obtain ⟨g11, hg11⟩ : ∃ g11, g11 = w.heap.size + 1 + 1 := ⟨_, rfl⟩
  rw [← hg11, ← hg10, ← hg9]
  obtain ⟨W1, hW1⟩ : ∃ W1, W1 = ((w.alloc (.cells (bytes old).toArray 29)).alloc (.cells #[.int .u8 0, .int .u8 0, .int .u8 0, .int .u8 0, .int .u8 0, .int .u8 0, .int .u8 0, .int .u8 0, .int .u8 0, .int .u8 0, .int .u8 0, .int .u8 0, .int .u8 0, .int .u8 0, .int .u8 0, .int .u8 0, .int .u8 0, .int .u8 0, .int .u8 0, .int .u8 0, .int .u8 0, .int .u8 0, .int .u8 0, .int .u8 0, .int .u8 0, .int .u8 0, .int .u8 0, .int .u8 0, .int .u8 0, .int .u8 0, .int .u8 0, .int .u8 0] 29)).alloc (.cells #[.int .u8 0, .int .u8 0, .int .u8 0, .int .u8 0, .int .u8 0, .int .u8 0, .int .u8 0, .int .u8 0, .int .u8 0, .int .u8 0, .int .u8 0, .int .u8 0, .int .u8 0, .int .u8 0, .int .u8 0, .int .u8 0, .int .u8 0, .int .u8 0, .int .u8 0, .int .u8 0, .int .u8 0, .int .u8 0, .int .u8 0, .int .u8 0, .int .u8 0, .int .u8 0, .int .u8 0, .int .u8 0, .int .u8 0, .int .u8 0, .int .u8 0, .int .u8 0] 29) := ⟨_, rfl⟩
  have H9 : Kp (Blk W1 g9 29 (bytes old)) := ⟨by rw [hW1, hg9]; exact ((Blk.new w _ _).alloc _).alloc _⟩
  have H10 : Kp (Blk W1 g10 29 [.int .u8 0, .int .u8 0, .int .u8 0, .int .u8 0, .int .u8 0, .int .u8 0, .int .u8 0, .int .u8 0, .int .u8 0, .int .u8 0, .int .u8 0, .int .u8 0, .int .u8 0, .int .u8 0, .int .u8 0, .int .u8 0, .int .u8 0, .int .u8 0, .int .u8 0, .int .u8 0, .int .u8 0, .int .u8 0, .int .u8 0, .int .u8 0, .int .u8 0, .int .u8 0, .int .u8 0, .int .u8 0, .int .u8 0, .int .u8 0, .int .u8 0, .int .u8 0]) := ⟨by rw [hW1, hg10]; exact (Blk.new' _ _ _ (by simp)).alloc _⟩
  have H11 : Kp (Blk W1 g11 29 [.int .u8 0, .int .u8 0, .int .u8 0, .int .u8 0, .int .u8 0, .int .u8 0, .int .u8 0, .int .u8 0, .int .u8 0, .int .u8 0, .int .u8 0, .int .u8 0, .int .u8 0, .int .u8 0, .int .u8 0, .int .u8 0, .int .u8 0, .int .u8 0, .int .u8 0, .int .u8 0, .int .u8 0, .int .u8 0, .int .u8 0, .int .u8 0, .int .u8 0, .int .u8 0, .int .u8 0, .int .u8 0, .int .u8 0, .int .u8 0, .int .u8 0, .int .u8 0]) := ⟨by rw [hW1, hg11]; exact Blk.new' _ _ _ (by simp)⟩
  have HF1 : Kp (Fr (fun _ => False) w W1) := ⟨by rw [hW1]; exact (((Fr.refl _ w).alloc _).alloc _).alloc _⟩
  have HG10 : Kp (w.heap.size ≤ g10) := ⟨by omega⟩
  have HG11 : Kp (w.heap.size ≤ g11) := ⟨by omega⟩
  have N10 : Kp (g10 ≠ g11) := ⟨by omega⟩
  rw [← hW1]
  clear hW1 hg9 hg10 hg11
  have hi32 : (Tryd.prog.info? 29).map (·.size) = some 32 := by kernel_rfl
  have ZZ : Kp ((Tryd.prog.info? 29).map (·.size) = some ([.int .u8 0, .int .u8 0, .int .u8 0, .int .u8 0, .int .u8 0, .int .u8 0, .int .u8 0, .int .u8 0, .int .u8 0, .int .u8 0, .int .u8 0, .int .u8 0, .int .u8 0, .int .u8 0, .int .u8 0, .int .u8 0, .int .u8 0, .int .u8 0, .int .u8 0, .int .u8 0, .int .u8 0, .int .u8 0, .int .u8 0, .int .u8 0, .int .u8 0, .int .u8 0, .int .u8 0, .int .u8 0, .int .u8 0, .int .u8 0, .int .u8 0, .int .u8 0] : List Value).length) := ⟨hi32⟩
  clear hi32
  have hMok : hashOk (.agg #[.int .u8 0, .int .u8 0, .int .u8 0, .int .u8 0, .int .u8 0, .int .u8 0, .int .u8 0, .int .u8 0, .int .u8 0, .int .u8 0, .int .u8 0, .int .u8 0, .int .u8 0, .int .u8 0, .int .u8 0, .int .u8 0, .int .u8 0, .int .u8 0, .int .u8 0, .int .u8 0, .int .u8 0, .int .u8 0, .int .u8 0, .int .u8 0, .int .u8 0, .int .u8 0, .int .u8 0, .int .u8 0, .int .u8 0, .int .u8 0, .int .u8 0, .int .u8 0]) = true := hashOk_bytes z32 rfl
  rcases (by omega : (n < 1 ∨ 281474976710656 < n) ∨ (1 ≤ n ∧ n ≤ 281474976710656 ∧ m < 1) ∨ (1 ≤ n ∧ n ≤ 281474976710656 ∧ 1 ≤ m ∧ n < m)) with hn | ⟨h1, h2, h3⟩ | ⟨h1, h2, h3, h4⟩
  · clear h
    go_wp2_with fail
    refine (sized_no n hn _).mono ?_
    rintro e W2 ⟨rfl, hf⟩
    have HF2 := Kp.mk (HF1.out.trans hf (fun _ _ h => h))
    have H102 := Kp.mk (H10.out.fr hf (fun h => h))
    have H112 := Kp.mk (H11.out.fr hf (fun h => h))
    have H92 := Kp.mk (H9.out.fr hf (fun h => h))
    clear hf HF1 H10 H11 H9
    have ok10 := rowOk_blk H102.out ZZ.out
    have hst : Fr (fun q => q = g10) W2 (W2.setRow g10 #[.int .u8 0, .int .u8 0, .int .u8 0, .int .u8 0, .int .u8 0, .int .u8 0, .int .u8 0, .int .u8 0, .int .u8 0, .int .u8 0, .int .u8 0, .int .u8 0, .int .u8 0, .int .u8 0, .int .u8 0, .int .u8 0, .int .u8 0, .int .u8 0, .int .u8 0, .int .u8 0, .int .u8 0, .int .u8 0, .int .u8 0, .int .u8 0, .int .u8 0, .int .u8 0, .int .u8 0, .int .u8 0, .int .u8 0, .int .u8 0, .int .u8 0, .int .u8 0]) := ⟨rfl, rfl, rfl, by simp [World.setRow], fun q _ hq => setRow_other _ _ q _ hq⟩
    have HST := Kp.mk hst
    have ok11 := rowOk_blk (H112.out.fr hst (fun e => N10.out e.symm)) ZZ.out
    clear hst
    go_wp2_with fail
    refine bodyPost_ret (results_cell2_tmp rfl _ _ g10 g11 29 29 #[.int .u8 0, .int .u8 0, .int .u8 0, .int .u8 0, .int .u8 0, .int .u8 0, .int .u8 0, .int .u8 0, .int .u8 0, .int .u8 0, .int .u8 0, .int .u8 0, .int .u8 0, .int .u8 0, .int .u8 0, .int .u8 0, .int .u8 0, .int .u8 0, .int .u8 0, .int .u8 0, .int .u8 0, .int .u8 0, .int .u8 0, .int .u8 0, .int .u8 0, .int .u8 0, .int .u8 0, .int .u8 0, .int .u8 0, .int .u8 0, .int .u8 0, .int .u8 0] #[.int .u8 0, .int .u8 0, .int .u8 0, .int .u8 0, .int .u8 0, .int .u8 0, .int .u8 0, .int .u8 0, .int .u8 0, .int .u8 0, .int .u8 0, .int .u8 0, .int .u8 0, .int .u8 0, .int .u8 0, .int .u8 0, .int .u8 0, .int .u8 0, .int .u8 0, .int .u8 0, .int .u8 0, .int .u8 0, .int .u8 0, .int .u8 0, .int .u8 0, .int .u8 0, .int .u8 0, .int .u8 0, .int .u8 0, .int .u8 0, .int .u8 0, .int .u8 0] (0, 0) (0, 0) _ (.int .i64 1) rfl rfl rfl ((setRow_other _ _ g10 _ N10.out).trans (setRow_heap _ g10 _ _ _ _ (show W2.heap[g10]? = _ from H102.out))) (setRow_heap _ g11 _ _ _ _ (H112.out.fr HST.out (fun e => N10.out e.symm))) Tryd.underlying29 rfl (by kernel_rfl) (by kernel_rfl)) rfl ?_
    refine ⟨rfl, ?_⟩
    exact (HF2.out.trans (S := fun _ => False) HST.out (fun q hq he => by have := HG10.out; omega)).trans (S' := fun q => q = g11) ⟨rfl, rfl, rfl, by simp [World.setRow], fun q _ hq => setRow_other _ _ q _ hq⟩ (fun q hq he => by have := HG11.out; omega)
  · clear h
    obtain ⟨n', rfl⟩ := Int.eq_ofNat_of_zero_le (show 0 ≤ n by omega)
    have hd1 : decide (m < 1) = true := decide_eq_true (by omega)
    go_wp2_with fail
    refine (sized_yes n' (by omega) (by omega) _).mono ?_
    rintro e W2 ⟨rfl, hf⟩
    have HF2 := Kp.mk (HF1.out.trans hf (fun _ _ h => h))
    have H102 := Kp.mk (H10.out.fr hf (fun h => h))
    have H112 := Kp.mk (H11.out.fr hf (fun h => h))
    have H92 := Kp.mk (H9.out.fr hf (fun h => h))
    clear hf HF1 H10 H11 H9
    have ok10 := rowOk_blk H102.out ZZ.out
    have hst : Fr (fun q => q = g10) W2 (W2.setRow g10 #[.int .u8 0, .int .u8 0, .int .u8 0, .int .u8 0, .int .u8 0, .int .u8 0, .int .u8 0, .int .u8 0, .int .u8 0, .int .u8 0, .int .u8 0, .int .u8 0, .int .u8 0, .int .u8 0, .int .u8 0, .int .u8 0, .int .u8 0, .int .u8 0, .int .u8 0, .int .u8 0, .int .u8 0, .int .u8 0, .int .u8 0, .int .u8 0, .int .u8 0, .int .u8 0, .int .u8 0, .int .u8 0, .int .u8 0, .int .u8 0, .int .u8 0, .int .u8 0]) := ⟨rfl, rfl, rfl, by simp [World.setRow], fun q _ hq => setRow_other _ _ q _ hq⟩
    have HST := Kp.mk hst
    have ok11 := rowOk_blk (H112.out.fr hst (fun e => N10.out e.symm)) ZZ.out
    clear hst
    go_wp2_with fail
    refine bodyPost_ret (results_cell2_tmp rfl _ _ g10 g11 29 29 #[.int .u8 0, .int .u8 0, .int .u8 0, .int .u8 0, .int .u8 0, .int .u8 0, .int .u8 0, .int .u8 0, .int .u8 0, .int .u8 0, .int .u8 0, .int .u8 0, .int .u8 0, .int .u8 0, .int .u8 0, .int .u8 0, .int .u8 0, .int .u8 0, .int .u8 0, .int .u8 0, .int .u8 0, .int .u8 0, .int .u8 0, .int .u8 0, .int .u8 0, .int .u8 0, .int .u8 0, .int .u8 0, .int .u8 0, .int .u8 0, .int .u8 0, .int .u8 0] #[.int .u8 0, .int .u8 0, .int .u8 0, .int .u8 0, .int .u8 0, .int .u8 0, .int .u8 0, .int .u8 0, .int .u8 0, .int .u8 0, .int .u8 0, .int .u8 0, .int .u8 0, .int .u8 0, .int .u8 0, .int .u8 0, .int .u8 0, .int .u8 0, .int .u8 0, .int .u8 0, .int .u8 0, .int .u8 0, .int .u8 0, .int .u8 0, .int .u8 0, .int .u8 0, .int .u8 0, .int .u8 0, .int .u8 0, .int .u8 0, .int .u8 0, .int .u8 0] (0, 0) (0, 0) _ (.int .i64 1) rfl rfl rfl ((setRow_other _ _ g10 _ N10.out).trans (setRow_heap _ g10 _ _ _ _ (show W2.heap[g10]? = _ from H102.out))) (setRow_heap _ g11 _ _ _ _ (H112.out.fr HST.out (fun e => N10.out e.symm))) Tryd.underlying29 rfl (by kernel_rfl) (by kernel_rfl)) rfl ?_
    refine ⟨rfl, ?_⟩
    exact (HF2.out.trans (S := fun _ => False) HST.out (fun q hq he => by have := HG10.out; omega)).trans (S' := fun q => q = g11) ⟨rfl, rfl, rfl, by simp [World.setRow], fun q _ hq => setRow_other _ _ q _ hq⟩ (fun q hq he => by have := HG11.out; omega)
  · clear h
    obtain ⟨n', rfl⟩ := Int.eq_ofNat_of_zero_le (show 0 ≤ n by omega)
    have hd1 : decide (m < 1) = false := decide_eq_false (by omega)
    have hd2 : decide ((n' : Int) < m) = true := decide_eq_true (by omega)
    go_wp2_with fail
    refine (sized_yes n' (by omega) (by omega) _).mono ?_
    rintro e W2 ⟨rfl, hf⟩
    have HF2 := Kp.mk (HF1.out.trans hf (fun _ _ h => h))
    have H102 := Kp.mk (H10.out.fr hf (fun h => h))
    have H112 := Kp.mk (H11.out.fr hf (fun h => h))
    have H92 := Kp.mk (H9.out.fr hf (fun h => h))
    clear hf HF1 H10 H11 H9
    have ok10 := rowOk_blk H102.out ZZ.out
    have hst : Fr (fun q => q = g10) W2 (W2.setRow g10 #[.int .u8 0, .int .u8 0, .int .u8 0, .int .u8 0, .int .u8 0, .int .u8 0, .int .u8 0, .int .u8 0, .int .u8 0, .int .u8 0, .int .u8 0, .int .u8 0, .int .u8 0, .int .u8 0, .int .u8 0, .int .u8 0, .int .u8 0, .int .u8 0, .int .u8 0, .int .u8 0, .int .u8 0, .int .u8 0, .int .u8 0, .int .u8 0, .int .u8 0, .int .u8 0, .int .u8 0, .int .u8 0, .int .u8 0, .int .u8 0, .int .u8 0, .int .u8 0]) := ⟨rfl, rfl, rfl, by simp [World.setRow], fun q _ hq => setRow_other _ _ q _ hq⟩
    have HST := Kp.mk hst
    have ok11 := rowOk_blk (H112.out.fr hst (fun e => N10.out e.symm)) ZZ.out
    clear hst
    go_wp2_with fail
    refine bodyPost_ret (results_cell2_tmp rfl _ _ g10 g11 29 29 #[.int .u8 0, .int .u8 0, .int .u8 0, .int .u8 0, .int .u8 0, .int .u8 0, .int .u8 0, .int .u8 0, .int .u8 0, .int .u8 0, .int .u8 0, .int .u8 0, .int .u8 0, .int .u8 0, .int .u8 0, .int .u8 0, .int .u8 0, .int .u8 0, .int .u8 0, .int .u8 0, .int .u8 0, .int .u8 0, .int .u8 0, .int .u8 0, .int .u8 0, .int .u8 0, .int .u8 0, .int .u8 0, .int .u8 0, .int .u8 0, .int .u8 0, .int .u8 0] #[.int .u8 0, .int .u8 0, .int .u8 0, .int .u8 0, .int .u8 0, .int .u8 0, .int .u8 0, .int .u8 0, .int .u8 0, .int .u8 0, .int .u8 0, .int .u8 0, .int .u8 0, .int .u8 0, .int .u8 0, .int .u8 0, .int .u8 0, .int .u8 0, .int .u8 0, .int .u8 0, .int .u8 0, .int .u8 0, .int .u8 0, .int .u8 0, .int .u8 0, .int .u8 0, .int .u8 0, .int .u8 0, .int .u8 0, .int .u8 0, .int .u8 0, .int .u8 0] (0, 0) (0, 0) _ (.int .i64 1) rfl rfl rfl ((setRow_other _ _ g10 _ N10.out).trans (setRow_heap _ g10 _ _ _ _ (show W2.heap[g10]? = _ from H102.out))) (setRow_heap _ g11 _ _ _ _ (H112.out.fr HST.out (fun e => N10.out e.symm))) Tryd.underlying29 rfl (by kernel_rfl) (by kernel_rfl)) rfl ?_
    refine ⟨rfl, ?_⟩
    exact (HF2.out.trans (S := fun _ => False) HST.out (fun q hq he => by have := HG10.out; omega)).trans (S' := fun q => q = g11) ⟨rfl, rfl, rfl, by simp [World.setRow], fun q _ hq => setRow_other _ _ q _ hq⟩ (fun q hq he => by have := HG11.out; omega)
set_option maxHeartbeats 4000000 in
set_option maxRecDepth 100000 in
theorem ClimbTree_len (k : Int) (A : Option Addr) (c : Nat) (p : List (List Int)) (n m : Int) (old : List Int) (w : World) (hL : Laid w) (hX : HRow w (fun _ => False) A c p) (ho : old.length = 32) (h : treOk n m) (hl : p.length ≠ (from' m.toNat n.toNat).length) :
    Calls Tryd.prog 17 #[.int .i64 k, .slice A p.length c, .int .i64 n, .int .i64 m, .agg (bytes old).toArray] w fun e w' => e = .returned (.tuple #[.agg (bytes z32).toArray, .agg (bytes z32).toArray, .int .i64 90]) ∧ Fr (fun _ => False) w w' := by
  have HL := Kp.mk hl
  clear hl hL hX ho
  obtain ⟨hn1, hn2, hm1, hm2⟩ := h
  obtain ⟨n', rfl⟩ := Int.eq_ofNat_of_zero_le (show 0 ≤ n by omega)
  obtain ⟨m', rfl⟩ := Int.eq_ofNat_of_zero_le (show 0 ≤ m by omega)
  simp only [Int.toNat_natCast] at *
  have hni : 1 ≤ n' ∧ n' ≤ 281474976710656 ∧ 0 < m' ∧ m' ≤ n' := by omega
  have CS := Kp.mk (fun W => sized_yes n' hni.1 hni.2.1 W)
  have CW := Kp.mk (fun W => wayFrom_step m' n' hni.2.2.1 hni.2.2.2 hni.2.1 W)
  clear hn1 hn2 hm1 hm2
  obtain ⟨q, hq⟩ : ∃ q, q = p.length := ⟨_, rfl⟩
  rw [← hq] at HL ⊢
  obtain ⟨l, hl⟩ : ∃ l, l = (from' m' n').length := ⟨_, rfl⟩
  have HM := Kp.mk hl
  clear hq hl
  go_enter Tryd.func17, Tryd.ntmps17
  go_upto_region 1 with (fail)
  obtain ⟨g9, hg9⟩ : ∃ g9, g9 = w.heap.size := ⟨_, rfl⟩
  obtain ⟨g10, hg10⟩ : ∃ g10, g10 = w.heap.size + 1 := ⟨_, rfl⟩
  obtain ⟨g11, hg11⟩ : ∃ g11, g11 = w.heap.size + 1 + 1 := ⟨_, rfl⟩
  rw [← hg11, ← hg10, ← hg9]
  obtain ⟨W1, hW1⟩ : ∃ W1, W1 = ((w.alloc (.cells (bytes old).toArray 29)).alloc (.cells #[.int .u8 0, .int .u8 0, .int .u8 0, .int .u8 0, .int .u8 0, .int .u8 0, .int .u8 0, .int .u8 0, .int .u8 0, .int .u8 0, .int .u8 0, .int .u8 0, .int .u8 0, .int .u8 0, .int .u8 0, .int .u8 0, .int .u8 0, .int .u8 0, .int .u8 0, .int .u8 0, .int .u8 0, .int .u8 0, .int .u8 0, .int .u8 0, .int .u8 0, .int .u8 0, .int .u8 0, .int .u8 0, .int .u8 0, .int .u8 0, .int .u8 0, .int .u8 0] 29)).alloc (.cells #[.int .u8 0, .int .u8 0, .int .u8 0, .int .u8 0, .int .u8 0, .int .u8 0, .int .u8 0, .int .u8 0, .int .u8 0, .int .u8 0, .int .u8 0, .int .u8 0, .int .u8 0, .int .u8 0, .int .u8 0, .int .u8 0, .int .u8 0, .int .u8 0, .int .u8 0, .int .u8 0, .int .u8 0, .int .u8 0, .int .u8 0, .int .u8 0, .int .u8 0, .int .u8 0, .int .u8 0, .int .u8 0, .int .u8 0, .int .u8 0, .int .u8 0, .int .u8 0] 29) := ⟨_, rfl⟩
  have H9 : Kp (Blk W1 g9 29 (bytes old)) := ⟨by rw [hW1, hg9]; exact ((Blk.new w _ _).alloc _).alloc _⟩
  have H10 : Kp (Blk W1 g10 29 [.int .u8 0, .int .u8 0, .int .u8 0, .int .u8 0, .int .u8 0, .int .u8 0, .int .u8 0, .int .u8 0, .int .u8 0, .int .u8 0, .int .u8 0, .int .u8 0, .int .u8 0, .int .u8 0, .int .u8 0, .int .u8 0, .int .u8 0, .int .u8 0, .int .u8 0, .int .u8 0, .int .u8 0, .int .u8 0, .int .u8 0, .int .u8 0, .int .u8 0, .int .u8 0, .int .u8 0, .int .u8 0, .int .u8 0, .int .u8 0, .int .u8 0, .int .u8 0]) := ⟨by rw [hW1, hg10]; exact (Blk.new' _ _ _ (by simp)).alloc _⟩
  have H11 : Kp (Blk W1 g11 29 [.int .u8 0, .int .u8 0, .int .u8 0, .int .u8 0, .int .u8 0, .int .u8 0, .int .u8 0, .int .u8 0, .int .u8 0, .int .u8 0, .int .u8 0, .int .u8 0, .int .u8 0, .int .u8 0, .int .u8 0, .int .u8 0, .int .u8 0, .int .u8 0, .int .u8 0, .int .u8 0, .int .u8 0, .int .u8 0, .int .u8 0, .int .u8 0, .int .u8 0, .int .u8 0, .int .u8 0, .int .u8 0, .int .u8 0, .int .u8 0, .int .u8 0, .int .u8 0]) := ⟨by rw [hW1, hg11]; exact Blk.new' _ _ _ (by simp)⟩
  have HF1 : Kp (Fr (fun _ => False) w W1) := ⟨by rw [hW1]; exact (((Fr.refl _ w).alloc _).alloc _).alloc _⟩
  have HG10 : Kp (w.heap.size ≤ g10) := ⟨by omega⟩
  have HG11 : Kp (w.heap.size ≤ g11) := ⟨by omega⟩
  have N10 : Kp (g10 ≠ g11) := ⟨by omega⟩
  rw [← hW1]
  clear hW1 hg9 hg10 hg11
  have hi32 : (Tryd.prog.info? 29).map (·.size) = some 32 := by kernel_rfl
  have ZZ : Kp ((Tryd.prog.info? 29).map (·.size) = some ([.int .u8 0, .int .u8 0, .int .u8 0, .int .u8 0, .int .u8 0, .int .u8 0, .int .u8 0, .int .u8 0, .int .u8 0, .int .u8 0, .int .u8 0, .int .u8 0, .int .u8 0, .int .u8 0, .int .u8 0, .int .u8 0, .int .u8 0, .int .u8 0, .int .u8 0, .int .u8 0, .int .u8 0, .int .u8 0, .int .u8 0, .int .u8 0, .int .u8 0, .int .u8 0, .int .u8 0, .int .u8 0, .int .u8 0, .int .u8 0, .int .u8 0, .int .u8 0] : List Value).length) := ⟨hi32⟩
  clear hi32
  have hMok : hashOk (.agg #[.int .u8 0, .int .u8 0, .int .u8 0, .int .u8 0, .int .u8 0, .int .u8 0, .int .u8 0, .int .u8 0, .int .u8 0, .int .u8 0, .int .u8 0, .int .u8 0, .int .u8 0, .int .u8 0, .int .u8 0, .int .u8 0, .int .u8 0, .int .u8 0, .int .u8 0, .int .u8 0, .int .u8 0, .int .u8 0, .int .u8 0, .int .u8 0, .int .u8 0, .int .u8 0, .int .u8 0, .int .u8 0, .int .u8 0, .int .u8 0, .int .u8 0, .int .u8 0]) = true := hashOk_bytes z32 rfl
  have hd1 : decide ((m' : Int) < 1) = false := decide_eq_false (by omega)
  have hd2 : decide ((n' : Int) < (m' : Int)) = false := decide_eq_false (by omega)
  go_wp2_with fail
  refine (CS.out _).mono ?_
  rintro e W2 ⟨rfl, hf⟩
  have HF2 := Kp.mk (HF1.out.trans hf (fun _ _ h => h))
  have H102 := Kp.mk (H10.out.fr hf (fun h => h))
  have H112 := Kp.mk (H11.out.fr hf (fun h => h))
  have H92 := Kp.mk (H9.out.fr hf (fun h => h))
  clear hf HF1 H10 H11 H9
  go_wp2_with fail
  refine (CW.out _).mono ?_
  rintro e W3 ⟨vw, rfl, hO, hf⟩
  have HF3 := Kp.mk (HF2.out.trans hf (fun _ _ h => h))
  have H103 := Kp.mk (H102.out.fr hf (fun h => h))
  have H113 := Kp.mk (H112.out.fr hf (fun h => h))
  have H93 := Kp.mk (H92.out.fr hf (fun h => h))
  clear hf HF2 H102 H112 H92
  obtain ⟨Aw, cw, hvw⟩ := hO.slice
  rw [List.length_map] at hvw
  subst hvw
  clear CW hO CS
  go_upto_region 4 with (fail)
  obtain ⟨W4, hW4⟩ : ∃ W, W = W3.alloc (.cells #[.int .i64 ((seedA m' 0 n' : Nat) : Int), .int .i64 (m' : Int)] 91) := ⟨_, rfl⟩
  have hf : Fr (fun _ => False) W3 W4 := by rw [hW4]; exact (Fr.refl _ W3).alloc _
  rw [← hW4]
  clear hW4
  have HF4 := Kp.mk (HF3.out.trans hf (fun _ _ h => h))
  have H104 := Kp.mk (H103.out.fr hf (fun h => h))
  have H114 := Kp.mk (H113.out.fr hf (fun h => h))
  have H94 := Kp.mk (H93.out.fr hf (fun h => h))
  clear hf HF3 H103 H113 H93
  rw [← HM.out]
  have hne : ((q : Int) == (l : Int)) = false := by rw [beq_eq_false_iff_ne]; have := HL.out; have := HM.out; omega
  have ok10 := rowOk_blk H104.out ZZ.out
  have hst : Fr (fun q => q = g10) W4 (W4.setRow g10 #[.int .u8 0, .int .u8 0, .int .u8 0, .int .u8 0, .int .u8 0, .int .u8 0, .int .u8 0, .int .u8 0, .int .u8 0, .int .u8 0, .int .u8 0, .int .u8 0, .int .u8 0, .int .u8 0, .int .u8 0, .int .u8 0, .int .u8 0, .int .u8 0, .int .u8 0, .int .u8 0, .int .u8 0, .int .u8 0, .int .u8 0, .int .u8 0, .int .u8 0, .int .u8 0, .int .u8 0, .int .u8 0, .int .u8 0, .int .u8 0, .int .u8 0, .int .u8 0]) := ⟨rfl, rfl, rfl, by simp [World.setRow], fun q _ hq => setRow_other _ _ q _ hq⟩
  have HST := Kp.mk hst
  have ok11 := rowOk_blk (H114.out.fr hst (fun e => N10.out e.symm)) ZZ.out
  clear hst
  go_wp2_with fail
  refine bodyPost_ret (results_cell2_tmp rfl _ _ g10 g11 29 29 #[.int .u8 0, .int .u8 0, .int .u8 0, .int .u8 0, .int .u8 0, .int .u8 0, .int .u8 0, .int .u8 0, .int .u8 0, .int .u8 0, .int .u8 0, .int .u8 0, .int .u8 0, .int .u8 0, .int .u8 0, .int .u8 0, .int .u8 0, .int .u8 0, .int .u8 0, .int .u8 0, .int .u8 0, .int .u8 0, .int .u8 0, .int .u8 0, .int .u8 0, .int .u8 0, .int .u8 0, .int .u8 0, .int .u8 0, .int .u8 0, .int .u8 0, .int .u8 0] #[.int .u8 0, .int .u8 0, .int .u8 0, .int .u8 0, .int .u8 0, .int .u8 0, .int .u8 0, .int .u8 0, .int .u8 0, .int .u8 0, .int .u8 0, .int .u8 0, .int .u8 0, .int .u8 0, .int .u8 0, .int .u8 0, .int .u8 0, .int .u8 0, .int .u8 0, .int .u8 0, .int .u8 0, .int .u8 0, .int .u8 0, .int .u8 0, .int .u8 0, .int .u8 0, .int .u8 0, .int .u8 0, .int .u8 0, .int .u8 0, .int .u8 0, .int .u8 0] (0, 0) (0, 0) _ (.int .i64 90) rfl rfl rfl ((setRow_other _ _ g10 _ N10.out).trans (setRow_heap _ g10 _ _ _ _ (show W4.heap[g10]? = _ from H104.out))) (setRow_heap _ g11 _ _ _ _ (H114.out.fr HST.out (fun e => N10.out e.symm))) Tryd.underlying29 rfl (by kernel_rfl) (by kernel_rfl)) rfl ?_
  refine ⟨rfl, ?_⟩
  exact (HF4.out.trans (S := fun _ => False) HST.out (fun q hq he => by have := HG10.out; omega)).trans (S' := fun q => q = g11) ⟨rfl, rfl, rfl, by simp [World.setRow], fun q _ hq => setRow_other _ _ q _ hq⟩ (fun q hq he => by have := HG11.out; omega)
set_option maxHeartbeats 4000000 in
set_option maxRecDepth 100000 in
theorem ClimbTree_yes (k : Int) (A : Option Addr) (c : Nat) (p : List (List Int)) (n m : Int) (old : List Int) (w : World) (hL : Laid w) (hX : HRow w (fun _ => False) A c p) (ho : old.length = 32) (h : treOk n m) (hl : p.length = (from' m.toNat n.toNat).length) :
    Calls Tryd.prog 17 #[.int .i64 k, .slice A p.length c, .int .i64 n, .int .i64 m, .agg (bytes old).toArray] w fun e w' => e = .returned (.tuple #[.agg (bytes ((freshN m.toNat n.toNat old p).sum (nodeL (strength k)))).toArray, .agg (bytes ((oldN m.toNat n.toNat old p).sum (nodeL (strength k)))).toArray, .int .i64 0]) ∧ Fr (fun _ => False) w w' := by
  have HL := Kp.mk hl
  obtain ⟨tn1, tn2, tn3⟩ := treOk_nat h
  have CC : Kp (∀ (W : World), Fr (fun _ => False) w W → Calls Tryd.prog 46 #[.int .i64 k, .slice A p.length c, .int .i64 ((n.toNat : Nat) : Int), .int .i64 ((m.toNat : Nat) : Int), .agg (bytes old).toArray] W fun e w' => ∃ v1 v2 b N, e = .returned (.agg #[v1, v2, .map (some b)]) ∧
      NdAt w' (strength k) (freshN m.toNat n.toNat old p) v1 ∧ NdAt w' (strength k) (oldN m.toNat n.toNat old p) v2 ∧ MapB w' b N (climbK (nodeL (strength k)) m.toNat n.toNat old p) ∧ N ≤ 60 ∧ W.heap.size ≤ b ∧ Fr (fun _ => False) W w') :=
    ⟨fun W hf => climbedTree_calls k A c p m.toNat n.toNat old W (hL.fr hf (fun _ h => h.elim)) (hX.fr hf) tn1 tn2 tn3 hl ho⟩
  have HLO := Kp.mk ho
  clear hl hL hX ho tn1 tn2 tn3
  obtain ⟨hn1, hn2, hm1, hm2⟩ := h
  obtain ⟨n', rfl⟩ := Int.eq_ofNat_of_zero_le (show 0 ≤ n by omega)
  obtain ⟨m', rfl⟩ := Int.eq_ofNat_of_zero_le (show 0 ≤ m by omega)
  simp only [Int.toNat_natCast] at *
  have hni : 1 ≤ n' ∧ n' ≤ 281474976710656 ∧ 0 < m' ∧ m' ≤ n' := by omega
  have CS := Kp.mk (fun W => sized_yes n' hni.1 hni.2.1 W)
  have CW := Kp.mk (fun W => wayFrom_step m' n' hni.2.2.1 hni.2.2.2 hni.2.1 W)
  clear hn1 hn2 hm1 hm2
  obtain ⟨q, hq⟩ : ∃ q, q = p.length := ⟨_, rfl⟩
  rw [← hq] at HL CC ⊢
  obtain ⟨s, hs⟩ : ∃ s, s = strength k := ⟨_, rfl⟩
  have HS32 : Kp (s ≤ 32) := ⟨by rw [hs]; exact strength_le k⟩
  rw [← hs] at CC ⊢
  obtain ⟨M1, hM1⟩ : ∃ M, M = (freshN m' n' old p).sum (nodeL s) := ⟨_, rfl⟩
  obtain ⟨M2, hM2⟩ : ∃ M, M = (oldN m' n' old p).sum (nodeL s) := ⟨_, rfl⟩
  rw [← hM1, ← hM2]
  have HM1 := Kp.mk hM1
  have HM2 := Kp.mk hM2
  clear hq hs hM1 hM2
  go_enter Tryd.func17, Tryd.ntmps17
  go_upto_region 1 with (fail)
  obtain ⟨g9, hg9⟩ : ∃ g9, g9 = w.heap.size := ⟨_, rfl⟩
  obtain ⟨g10, hg10⟩ : ∃ g10, g10 = w.heap.size + 1 := ⟨_, rfl⟩
  obtain ⟨g11, hg11⟩ : ∃ g11, g11 = w.heap.size + 1 + 1 := ⟨_, rfl⟩
  rw [← hg11, ← hg10, ← hg9]
  obtain ⟨W1, hW1⟩ : ∃ W1, W1 = ((w.alloc (.cells (bytes old).toArray 29)).alloc (.cells #[.int .u8 0, .int .u8 0, .int .u8 0, .int .u8 0, .int .u8 0, .int .u8 0, .int .u8 0, .int .u8 0, .int .u8 0, .int .u8 0, .int .u8 0, .int .u8 0, .int .u8 0, .int .u8 0, .int .u8 0, .int .u8 0, .int .u8 0, .int .u8 0, .int .u8 0, .int .u8 0, .int .u8 0, .int .u8 0, .int .u8 0, .int .u8 0, .int .u8 0, .int .u8 0, .int .u8 0, .int .u8 0, .int .u8 0, .int .u8 0, .int .u8 0, .int .u8 0] 29)).alloc (.cells #[.int .u8 0, .int .u8 0, .int .u8 0, .int .u8 0, .int .u8 0, .int .u8 0, .int .u8 0, .int .u8 0, .int .u8 0, .int .u8 0, .int .u8 0, .int .u8 0, .int .u8 0, .int .u8 0, .int .u8 0, .int .u8 0, .int .u8 0, .int .u8 0, .int .u8 0, .int .u8 0, .int .u8 0, .int .u8 0, .int .u8 0, .int .u8 0, .int .u8 0, .int .u8 0, .int .u8 0, .int .u8 0, .int .u8 0, .int .u8 0, .int .u8 0, .int .u8 0] 29) := ⟨_, rfl⟩
  have H9 : Kp (Blk W1 g9 29 (bytes old)) := ⟨by rw [hW1, hg9]; exact ((Blk.new w _ _).alloc _).alloc _⟩
  have H10 : Kp (Blk W1 g10 29 [.int .u8 0, .int .u8 0, .int .u8 0, .int .u8 0, .int .u8 0, .int .u8 0, .int .u8 0, .int .u8 0, .int .u8 0, .int .u8 0, .int .u8 0, .int .u8 0, .int .u8 0, .int .u8 0, .int .u8 0, .int .u8 0, .int .u8 0, .int .u8 0, .int .u8 0, .int .u8 0, .int .u8 0, .int .u8 0, .int .u8 0, .int .u8 0, .int .u8 0, .int .u8 0, .int .u8 0, .int .u8 0, .int .u8 0, .int .u8 0, .int .u8 0, .int .u8 0]) := ⟨by rw [hW1, hg10]; exact (Blk.new' _ _ _ (by simp)).alloc _⟩
  have H11 : Kp (Blk W1 g11 29 [.int .u8 0, .int .u8 0, .int .u8 0, .int .u8 0, .int .u8 0, .int .u8 0, .int .u8 0, .int .u8 0, .int .u8 0, .int .u8 0, .int .u8 0, .int .u8 0, .int .u8 0, .int .u8 0, .int .u8 0, .int .u8 0, .int .u8 0, .int .u8 0, .int .u8 0, .int .u8 0, .int .u8 0, .int .u8 0, .int .u8 0, .int .u8 0, .int .u8 0, .int .u8 0, .int .u8 0, .int .u8 0, .int .u8 0, .int .u8 0, .int .u8 0, .int .u8 0]) := ⟨by rw [hW1, hg11]; exact Blk.new' _ _ _ (by simp)⟩
  have HF1 : Kp (Fr (fun _ => False) w W1) := ⟨by rw [hW1]; exact (((Fr.refl _ w).alloc _).alloc _).alloc _⟩
  have HG10 : Kp (w.heap.size ≤ g10) := ⟨by omega⟩
  have HG11 : Kp (w.heap.size ≤ g11) := ⟨by omega⟩
  have N10 : Kp (g10 ≠ g11) := ⟨by omega⟩
  rw [← hW1]
  clear hW1 hg9 hg10 hg11
  have hi32 : (Tryd.prog.info? 29).map (·.size) = some 32 := by kernel_rfl
  have ZZ : Kp ((Tryd.prog.info? 29).map (·.size) = some ([.int .u8 0, .int .u8 0, .int .u8 0, .int .u8 0, .int .u8 0, .int .u8 0, .int .u8 0, .int .u8 0, .int .u8 0, .int .u8 0, .int .u8 0, .int .u8 0, .int .u8 0, .int .u8 0, .int .u8 0, .int .u8 0, .int .u8 0, .int .u8 0, .int .u8 0, .int .u8 0, .int .u8 0, .int .u8 0, .int .u8 0, .int .u8 0, .int .u8 0, .int .u8 0, .int .u8 0, .int .u8 0, .int .u8 0, .int .u8 0, .int .u8 0, .int .u8 0] : List Value).length) := ⟨hi32⟩
  clear hi32
  have hMok : hashOk (.agg #[.int .u8 0, .int .u8 0, .int .u8 0, .int .u8 0, .int .u8 0, .int .u8 0, .int .u8 0, .int .u8 0, .int .u8 0, .int .u8 0, .int .u8 0, .int .u8 0, .int .u8 0, .int .u8 0, .int .u8 0, .int .u8 0, .int .u8 0, .int .u8 0, .int .u8 0, .int .u8 0, .int .u8 0, .int .u8 0, .int .u8 0, .int .u8 0, .int .u8 0, .int .u8 0, .int .u8 0, .int .u8 0, .int .u8 0, .int .u8 0, .int .u8 0, .int .u8 0]) = true := hashOk_bytes z32 rfl
  have hd1 : decide ((m' : Int) < 1) = false := decide_eq_false (by omega)
  have hd2 : decide ((n' : Int) < (m' : Int)) = false := decide_eq_false (by omega)
  go_wp2_with fail
  refine (CS.out _).mono ?_
  rintro e W2 ⟨rfl, hf⟩
  have HF2 := Kp.mk (HF1.out.trans hf (fun _ _ h => h))
  have H102 := Kp.mk (H10.out.fr hf (fun h => h))
  have H112 := Kp.mk (H11.out.fr hf (fun h => h))
  have H92 := Kp.mk (H9.out.fr hf (fun h => h))
  clear hf HF1 H10 H11 H9
  go_wp2_with fail
  refine (CW.out _).mono ?_
  rintro e W3 ⟨vw, rfl, hO, hf⟩
  have HF3 := Kp.mk (HF2.out.trans hf (fun _ _ h => h))
  have H103 := Kp.mk (H102.out.fr hf (fun h => h))
  have H113 := Kp.mk (H112.out.fr hf (fun h => h))
  have H93 := Kp.mk (H92.out.fr hf (fun h => h))
  clear hf HF2 H102 H112 H92
  obtain ⟨Aw, cw, hvw⟩ := hO.slice
  rw [List.length_map] at hvw
  subst hvw
  clear CW hO CS
  go_upto_region 4 with (fail)
  obtain ⟨W4, hW4⟩ : ∃ W, W = W3.alloc (.cells #[.int .i64 ((seedA m' 0 n' : Nat) : Int), .int .i64 (m' : Int)] 91) := ⟨_, rfl⟩
  have hf : Fr (fun _ => False) W3 W4 := by rw [hW4]; exact (Fr.refl _ W3).alloc _
  rw [← hW4]
  clear hW4
  have HF4 := Kp.mk (HF3.out.trans hf (fun _ _ h => h))
  have H104 := Kp.mk (H103.out.fr hf (fun h => h))
  have H114 := Kp.mk (H113.out.fr hf (fun h => h))
  have H94 := Kp.mk (H93.out.fr hf (fun h => h))
  clear hf HF3 H103 H113 H93
  rw [← HL.out]
  have H9r := Kp.mk (blk_range H94.out)
  have hi32 : (Tryd.prog.info? 29).map (·.size) = some 32 := by kernel_rfl
  have hln : Kp ((bytes old).length = 32) := ⟨by rw [bytes_length, HLO.out]⟩
  go_wp2_with (refine wpList_load_mid rfl 29 _ rfl g9 0 rfl (bytes old) _ H9r.out Tryd.underlying29 rfl (by rw [hln.out]; exact hi32) ?_)
  refine (CC.out W4 HF4.out).mono ?_
  rintro e W5 ⟨v1, v2, bM, NM, rfl, hn1, hn2, -, -, -, hf⟩
  obtain ⟨t1, u1, rfl⟩ := hn1.iface
  obtain ⟨t2, u2, rfl⟩ := hn2.iface
  have HF5 := Kp.mk (HF4.out.trans hf (fun _ _ h => h))
  have H105 := Kp.mk (H104.out.fr hf (fun h => h))
  have H115 := Kp.mk (H114.out.fr hf (fun h => h))
  have H95 := Kp.mk (H94.out.fr hf (fun h => h))
  clear hf HF4 H104 H114 H94
  have HM132 : Kp (M1.length = 32) := ⟨by rw [HM1.out]; exact hn1.sum_len HS32.out⟩
  have HM232 : Kp (M2.length = 32) := ⟨by rw [HM2.out]; exact hn2.sum_len HS32.out⟩
  have HN1 := Kp.mk hn1
  have HN2 := Kp.mk hn2
  clear hn1 hn2 CC H9r
  go_upto_region 7 with (fail)
  obtain ⟨g15, hg15⟩ : ∃ g, g = W5.heap.size := ⟨_, rfl⟩
  obtain ⟨W6, hW6⟩ : ∃ W, W = W5.alloc (.cells #[.iface t1 u1, .iface t2 u2, .map (some bM)] 101) := ⟨_, rfl⟩
  have hf : Fr (fun _ => False) W5 W6 := by rw [hW6]; exact (Fr.refl _ W5).alloc _
  have H154 : Kp (Blk W6 g15 101 [.iface t1 u1, .iface t2 u2, .map (some bM)]) := ⟨by rw [hW6, hg15]; exact Blk.new W5 _ _⟩
  have HS1 : Kp (Sums W6.drew (.iface t1 u1) M1) := ⟨by rw [HM1.out]; exact sums_of HS32.out (HN1.out.kept hf.drew)⟩
  have HS2 : Kp (∀ W, Fr (fun _ => False) W6.drew W → Sums W (.iface t2 u2) M2) := ⟨fun W hf2 => by rw [HM2.out]; exact sums_of HS32.out (HN2.out.kept (hf.drew.trans hf2 (fun _ _ h => h)))⟩
  rw [← hg15, ← hW6]
  clear hW6 hg15 HN1 HN2
  have HF6 := Kp.mk (HF5.out.trans hf (fun _ _ h => h))
  have H106 := Kp.mk (H105.out.fr hf (fun h => h))
  have H116 := Kp.mk (H115.out.fr hf (fun h => h))
  have H96 := Kp.mk (H95.out.fr hf (fun h => h))
  clear hf HF5 H105 H115 H95
  refine start_ (n := 9) (S := fun w' => Lds w' 98 (.pointer (some ⟨g15, 0, none⟩)) (.iface t1 u1) ∧ Lds w' 98 (.pointer (some ⟨g15, 1, none⟩)) (.iface t2 u2)) (ds := [6, 7]) #[false, false, false, false, false, false, false, false, false] (by kernel_rfl) rfl rfl ⟨lds_nod ((H154.out.drew).cell 0 _ rfl), lds_nod ((H154.out.drew).cell 1 _ rfl)⟩ (fun hHeld => ?_)
  refine pure_ (i := 0) (N := some 49) (v := ?_) (a' := ?_) #[true, false, false, false, false, false, false, false, false] rfl rfl (by kernel_rfl) (fun _ _ _ h => h) (Or.inl ⟨by rfl, ?_⟩) ?_ ?_
  rotate_left
  · intro w'
    go_simp
    with_reducible rfl
  rotate_left
  · simp only [Act.put, List.setIfInBounds_toArray, List.set_cons_zero, List.set_cons_succ]
    rfl
  refine pure_ (i := 3) (N := some 52) (v := ?_) (a' := ?_) #[true, false, false, true, false, false, false, false, false] rfl rfl (by kernel_rfl) (fun _ _ _ h => h) (Or.inl ⟨by rfl, ?_⟩) ?_ ?_
  rotate_left
  · intro w'
    go_simp
    with_reducible rfl
  rotate_left
  · simp only [Act.put, List.setIfInBounds_toArray, List.set_cons_zero, List.set_cons_succ]
    rfl
  refine take_ (i := 1) (N := some 50) (v := ?_) (a' := ?_) #[true, true, false, true, false, false, false, false, false] rfl rfl (by kernel_rfl) (fun _ _ _ h => h) (Or.inl ⟨by rfl, ?_⟩) hHeld ?_ ?_
  rotate_left
  · rintro w' ⟨s0, s1⟩
    refine Lds.run s0 (x := ?_) ?_ ?_
    · exact (Operand.tmp 49)
    · rfl
    · rfl
  rotate_left
  · simp only [Act.put, List.setIfInBounds_toArray, List.set_cons_zero, List.set_cons_succ]
    rfl
  refine take_ (i := 4) (N := some 53) (v := ?_) (a' := ?_) #[true, true, false, true, true, false, false, false, false] rfl rfl (by kernel_rfl) (fun _ _ _ h => h) (Or.inl ⟨by rfl, ?_⟩) hHeld ?_ ?_
  rotate_left
  · rintro w' ⟨s0, s1⟩
    refine Lds.run s1 (x := ?_) ?_ ?_
    · exact (Operand.tmp 52)
    · rfl
    · rfl
  rotate_left
  · simp only [Act.put, List.setIfInBounds_toArray, List.set_cons_zero, List.set_cons_succ]
    rfl
  refine one_ (i := 2) (N := some 51) #[true, true, true, true, true, false, false, false, false] rfl rfl (by kernel_rfl) (by decide) (fun K hK => ?_)
  refine goesSum_ (Operand.tmp 50) (by rfl) rfl rfl (.iface t1 u1) (by rfl) M1 HS1.out (fun a1 hf1 => ?_)
  refine hK.out _ _ ⟨lds_nod ((H154.out.drew.fr hf1 (fun h => h)).cell 0 _ rfl), lds_nod ((H154.out.drew.fr hf1 (fun h => h)).cell 1 _ rfl)⟩ (fun hHeld => ?_)
  clear hK K
  refine norm_ (a' := ?_) ?_ ?_
  rotate_left
  · show Act.put _ (some 51) _ = _
    simp only [Act.put, List.setIfInBounds_toArray, List.set_cons_zero, List.set_cons_succ]
    rfl
  refine one_ (i := 5) (N := some 54) #[true, true, true, true, true, true, false, false, false] rfl rfl (by kernel_rfl) (by decide) (fun K hK => ?_)
  refine goesSum_ (Operand.tmp 53) (by rfl) rfl rfl (.iface t2 u2) (by rfl) M2 (HS2.out a1 hf1) (fun a2 hf2 => ?_)
  refine hK.out _ _ ⟨lds_nod (((H154.out.drew.fr hf1 (fun h => h)).fr hf2 (fun h => h)).cell 0 _ rfl), lds_nod (((H154.out.drew.fr hf1 (fun h => h)).fr hf2 (fun h => h)).cell 1 _ rfl)⟩ (fun hHeld => ?_)
  clear hK K
  refine norm_ (a' := ?_) ?_ ?_
  rotate_left
  · show Act.put _ (some 54) _ = _
    simp only [Act.put, List.setIfInBounds_toArray, List.set_cons_zero, List.set_cons_succ]
    rfl
  refine last_ (i := 6) (N := none) #[true, true, true, true, true, true, true, false, false] rfl rfl (by kernel_rfl) (by decide) (fun K hK => ?_)
  refine skip_ (by rfl) rfl (st_hash _ _ (Operand.tmp 10) (Operand.tmp 51) a2 g10 _ _ M1 rfl rfl rfl ((H106.out.drew.fr hf1 (fun h => h)).fr hf2 (fun h => h)) rfl HM132.out) ?_
  refine hK.out _ _ ?_
  clear hK K
  refine last_ (i := 7) (N := none) #[true, true, true, true, true, true, true, true, false] rfl rfl (by kernel_rfl) (by decide) (fun K hK => ?_)
  refine skip_ (by rfl) rfl (st_hash _ _ (Operand.tmp 11) (Operand.tmp 54) (a2.setRow g10 (bytes M1).toArray) g11 _ _ M2 rfl rfl rfl (((H116.out.drew.fr hf1 (fun h => h)).fr hf2 (fun h => h)).fr (S := fun q => q = g10) ⟨rfl, rfl, rfl, by simp [World.setRow], fun q _ hq => setRow_other _ _ q _ hq⟩ (fun e => N10.out e.symm)) rfl HM232.out) ?_
  refine hK.out _ _ ?_
  clear hK K
  refine pure_ (i := 8) (N := some 12) (v := ?_) (a' := ?_) #[true, true, true, true, true, true, true, true, true] rfl rfl (by kernel_rfl) (fun _ _ _ h => h) (Or.inl ⟨by rfl, ?_⟩) ?_ ?_
  rotate_left
  · intro w'
    go_simp
    with_reducible rfl
  rotate_left
  · simp only [Act.put, List.setIfInBounds_toArray, List.set_cons_zero, List.set_cons_succ]
    rfl
  refine done_ (by kernel_rfl) ?_
  have HF7 := Kp.mk (((HF6.out.drew).trans hf1 (fun _ _ h => h)).trans hf2 (fun _ _ h => h))
  have H107 := Kp.mk ((H106.out.drew.fr hf1 (fun h => h)).fr hf2 (fun h => h))
  have H117 := Kp.mk ((H116.out.drew.fr hf1 (fun h => h)).fr hf2 (fun h => h))
  have HST : Kp (Fr (fun q => q = g10) a2 (a2.setRow g10 (bytes M1).toArray)) := ⟨⟨rfl, rfl, rfl, by simp [World.setRow], fun q _ hq => setRow_other _ _ q _ hq⟩⟩
  clear hHeld hf1 hf2 H106 H116
  go_wp2_with fail
  refine bodyPost_ret (results_cell2_tmp rfl _ _ g10 g11 29 29 (bytes M1).toArray (bytes M2).toArray (0, 0) (0, 0) _ (.int .i64 0) rfl rfl rfl ((setRow_other _ _ g10 _ N10.out).trans (setRow_heap _ g10 _ _ _ _ (show a2.heap[g10]? = _ from H107.out))) (setRow_heap _ g11 _ _ _ _ (H117.out.fr HST.out (fun e => N10.out e.symm))) Tryd.underlying29 rfl (by rw [show (bytes M1).toArray.size = 32 by simp [bytes, HM132.out]]; kernel_rfl) (by rw [show (bytes M2).toArray.size = 32 by simp [bytes, HM232.out]]; kernel_rfl)) rfl ?_
  refine ⟨rfl, ?_⟩
  exact (HF7.out.trans (S := fun _ => False) HST.out (fun q hq he => by have := HG10.out; omega)).trans (S' := fun q => q = g11) ⟨rfl, rfl, rfl, by simp [World.setRow], fun q _ hq => setRow_other _ _ q _ hq⟩ (fun q hq he => by have := HG11.out; omega)
theorem ClimbTree_calls (k : Int) (A : Option Addr) (c : Nat) (p : List (List Int)) (n m : Int) (old : List Int) (w : World) (hL : Laid w) (hX : HRow w (fun _ => False) A c p) (ho : old.length = 32) :
    Calls Tryd.prog 17 #[.int .i64 k, .slice A p.length c, .int .i64 n, .int .i64 m, .agg (bytes old).toArray] w fun e w' => e = .returned (.tuple #[.agg (bytes (climbT (strength k) n m p old).1).toArray, .agg (bytes (climbT (strength k) n m p old).2.1).toArray, .int .i64 (climbT (strength k) n m p old).2.2]) ∧ Fr (fun _ => False) w w' := by
  by_cases h : treOk n m
  · by_cases hl : p.length = (from' m.toNat n.toNat).length
    · rw [climbT_yes h hl]
      exact ClimbTree_yes k A c p n m old w hL hX ho h hl
    · rw [climbT_len h hl]
      exact ClimbTree_len k A c p n m old w hL hX ho h hl
  · rw [climbT_arg h]
    exact ClimbTree_arg k A c p n m old w hL hX ho h
set_option maxHeartbeats 4000000 in
set_option maxRecDepth 100000 in
theorem CheckTree_calls (k : Int) (A : Option Addr) (c : Nat) (p : List (List Int)) (n m : Int) (root old : List Int) (w : World) (hL : Laid w) (hX : HRow w (fun _ => False) A c p) (hrt : root.length = 32) (hlf : old.length = 32) :
    Calls Tryd.prog 20 #[.int .i64 k, .slice A p.length c, .int .i64 n, .agg (bytes root).toArray, .int .i64 m, .agg (bytes old).toArray] w fun e w' => e = .returned (.int .i64 (checkT (strength k) n m p root old)) ∧ Fr (fun _ => False) w w' := by
  have CC : Kp (∀ W, Fr (fun _ => False) w W → Calls Tryd.prog 17 #[.int .i64 k, .slice A p.length c, .int .i64 n, .int .i64 m, .agg (bytes old).toArray] W fun e w' => e = .returned (.tuple #[.agg (bytes (climbT (strength k) n m p old).1).toArray, .agg (bytes (climbT (strength k) n m p old).2.1).toArray, .int .i64 (climbT (strength k) n m p old).2.2]) ∧ Fr (fun _ => False) W w') :=
    ⟨fun W hf => ClimbTree_calls k A c p n m old W (hL.fr hf (fun _ h => h.elim)) (hX.fr hf) hlf⟩
  obtain ⟨hM132, hM232⟩ := climbT_32 (s := strength k) (strength_le k) (n := n) (m := m) (p := p) (old := old) hX.1 hlf
  have hcode := climbT_code (s := strength k) (n := n) (m := m) (p := p) (old := old)
  obtain ⟨R, hR⟩ : ∃ R, R = checkT (strength k) n m p root old := ⟨_, rfl⟩
  rw [← hR]
  unfold checkT at hR
  generalize (climbT (strength k) n m p old).1 = M1 at CC hM132 hR
  generalize (climbT (strength k) n m p old).2.1 = M2 at CC hM232 hR
  generalize (climbT (strength k) n m p old).2.2 = E at CC hcode hR
  have HM132 := Kp.mk hM132
  have HM232 := Kp.mk hM232
  have HRT := Kp.mk hrt
  have HLF := Kp.mk hlf
  have HR := Kp.mk hR
  have hcmp1 : ∀ W, (Op.equalIn 10000 29 (.agg (bytes M1).toArray) (.agg (bytes root).toArray)).run Tryd.prog W = .ok (decide (M1 = root)) W := fun W => eq32 M1 root hM132 hrt W
  have hcmp2 : ∀ W, (Op.equalIn 10000 29 (.agg (bytes M2).toArray) (.agg (bytes old).toArray)).run Tryd.prog W = .ok (decide (M2 = old)) W := fun W => eq32 M2 old hM232 hlf W
  obtain ⟨q, hq⟩ : ∃ q, q = p.length := ⟨_, rfl⟩
  rw [← hq] at CC ⊢
  clear hq hR hL hX hrt hlf hM132 hM232
  go_enter Tryd.func20, Tryd.ntmps20
  go_upto_region 1 with (fail)
  obtain ⟨g9, hg9⟩ : ∃ g9, g9 = w.heap.size := ⟨_, rfl⟩
  obtain ⟨g11, hg11⟩ : ∃ g11, g11 = w.heap.size + 1 := ⟨_, rfl⟩
  rw [← hg11, ← hg9]
  obtain ⟨W1, hW1⟩ : ∃ W1, W1 = (w.alloc (.cells (bytes root).toArray 29)).alloc (.cells (bytes old).toArray 29) := ⟨_, rfl⟩
  have H9 : Kp (Blk W1 g9 29 (bytes root)) := ⟨by rw [hW1, hg9]; exact (Blk.new w _ _).alloc _⟩
  have H11 : Kp (Blk W1 g11 29 (bytes old)) := ⟨by rw [hW1, hg11]; exact Blk.new' _ _ _ (by simp)⟩
  have HF1 : Kp (Fr (fun _ => False) w W1) := ⟨by rw [hW1]; exact ((Fr.refl _ w).alloc _).alloc _⟩
  rw [← hW1]
  clear hW1 hg9 hg11
  have H11r := Kp.mk (blk_range H11.out)
  have hi32 : (Tryd.prog.info? 29).map (·.size) = some 32 := by kernel_rfl
  have hln : Kp ((bytes old).length = 32) := ⟨by rw [bytes_length, HLF.out]⟩
  go_wp2_with (refine wpList_load_mid rfl 29 _ rfl g11 0 rfl (bytes old) _ H11r.out Tryd.underlying29 rfl (by rw [hln.out]; exact hi32) ?_)
  refine (CC.out W1 HF1.out).mono ?_
  rintro e W2 ⟨rfl, hf⟩
  have HF2 := Kp.mk (HF1.out.trans hf (fun _ _ h => h))
  have H92 := Kp.mk (H9.out.fr hf (fun h => h))
  have H112 := Kp.mk (H11.out.fr hf (fun h => h))
  have HNa : Kp (Blk ((W2.alloc (.cells #[.int .u8 0, .int .u8 0, .int .u8 0, .int .u8 0, .int .u8 0, .int .u8 0, .int .u8 0, .int .u8 0, .int .u8 0, .int .u8 0, .int .u8 0, .int .u8 0, .int .u8 0, .int .u8 0, .int .u8 0, .int .u8 0, .int .u8 0, .int .u8 0, .int .u8 0, .int .u8 0, .int .u8 0, .int .u8 0, .int .u8 0, .int .u8 0, .int .u8 0, .int .u8 0, .int .u8 0, .int .u8 0, .int .u8 0, .int .u8 0, .int .u8 0, .int .u8 0] 29)).alloc (.cells #[.int .u8 0, .int .u8 0, .int .u8 0, .int .u8 0, .int .u8 0, .int .u8 0, .int .u8 0, .int .u8 0, .int .u8 0, .int .u8 0, .int .u8 0, .int .u8 0, .int .u8 0, .int .u8 0, .int .u8 0, .int .u8 0, .int .u8 0, .int .u8 0, .int .u8 0, .int .u8 0, .int .u8 0, .int .u8 0, .int .u8 0, .int .u8 0, .int .u8 0, .int .u8 0, .int .u8 0, .int .u8 0, .int .u8 0, .int .u8 0, .int .u8 0, .int .u8 0] 29)) W2.heap.size 29 [.int .u8 0, .int .u8 0, .int .u8 0, .int .u8 0, .int .u8 0, .int .u8 0, .int .u8 0, .int .u8 0, .int .u8 0, .int .u8 0, .int .u8 0, .int .u8 0, .int .u8 0, .int .u8 0, .int .u8 0, .int .u8 0, .int .u8 0, .int .u8 0, .int .u8 0, .int .u8 0, .int .u8 0, .int .u8 0, .int .u8 0, .int .u8 0, .int .u8 0, .int .u8 0, .int .u8 0, .int .u8 0, .int .u8 0, .int .u8 0, .int .u8 0, .int .u8 0]) := ⟨(Blk.new W2 _ _).alloc _⟩
  have hst : Fr (fun q => q = W2.heap.size) ((W2.alloc (.cells #[.int .u8 0, .int .u8 0, .int .u8 0, .int .u8 0, .int .u8 0, .int .u8 0, .int .u8 0, .int .u8 0, .int .u8 0, .int .u8 0, .int .u8 0, .int .u8 0, .int .u8 0, .int .u8 0, .int .u8 0, .int .u8 0, .int .u8 0, .int .u8 0, .int .u8 0, .int .u8 0, .int .u8 0, .int .u8 0, .int .u8 0, .int .u8 0, .int .u8 0, .int .u8 0, .int .u8 0, .int .u8 0, .int .u8 0, .int .u8 0, .int .u8 0, .int .u8 0] 29)).alloc (.cells #[.int .u8 0, .int .u8 0, .int .u8 0, .int .u8 0, .int .u8 0, .int .u8 0, .int .u8 0, .int .u8 0, .int .u8 0, .int .u8 0, .int .u8 0, .int .u8 0, .int .u8 0, .int .u8 0, .int .u8 0, .int .u8 0, .int .u8 0, .int .u8 0, .int .u8 0, .int .u8 0, .int .u8 0, .int .u8 0, .int .u8 0, .int .u8 0, .int .u8 0, .int .u8 0, .int .u8 0, .int .u8 0, .int .u8 0, .int .u8 0, .int .u8 0, .int .u8 0] 29)) (((W2.alloc (.cells #[.int .u8 0, .int .u8 0, .int .u8 0, .int .u8 0, .int .u8 0, .int .u8 0, .int .u8 0, .int .u8 0, .int .u8 0, .int .u8 0, .int .u8 0, .int .u8 0, .int .u8 0, .int .u8 0, .int .u8 0, .int .u8 0, .int .u8 0, .int .u8 0, .int .u8 0, .int .u8 0, .int .u8 0, .int .u8 0, .int .u8 0, .int .u8 0, .int .u8 0, .int .u8 0, .int .u8 0, .int .u8 0, .int .u8 0, .int .u8 0, .int .u8 0, .int .u8 0] 29)).alloc (.cells #[.int .u8 0, .int .u8 0, .int .u8 0, .int .u8 0, .int .u8 0, .int .u8 0, .int .u8 0, .int .u8 0, .int .u8 0, .int .u8 0, .int .u8 0, .int .u8 0, .int .u8 0, .int .u8 0, .int .u8 0, .int .u8 0, .int .u8 0, .int .u8 0, .int .u8 0, .int .u8 0, .int .u8 0, .int .u8 0, .int .u8 0, .int .u8 0, .int .u8 0, .int .u8 0, .int .u8 0, .int .u8 0, .int .u8 0, .int .u8 0, .int .u8 0, .int .u8 0] 29)).setRow W2.heap.size (bytes M1).toArray) := ⟨rfl, rfl, rfl, by simp [World.setRow], fun q _ hq => setRow_other _ _ q _ hq⟩
  have HNb : Kp (Blk (((W2.alloc (.cells #[.int .u8 0, .int .u8 0, .int .u8 0, .int .u8 0, .int .u8 0, .int .u8 0, .int .u8 0, .int .u8 0, .int .u8 0, .int .u8 0, .int .u8 0, .int .u8 0, .int .u8 0, .int .u8 0, .int .u8 0, .int .u8 0, .int .u8 0, .int .u8 0, .int .u8 0, .int .u8 0, .int .u8 0, .int .u8 0, .int .u8 0, .int .u8 0, .int .u8 0, .int .u8 0, .int .u8 0, .int .u8 0, .int .u8 0, .int .u8 0, .int .u8 0, .int .u8 0] 29)).alloc (.cells #[.int .u8 0, .int .u8 0, .int .u8 0, .int .u8 0, .int .u8 0, .int .u8 0, .int .u8 0, .int .u8 0, .int .u8 0, .int .u8 0, .int .u8 0, .int .u8 0, .int .u8 0, .int .u8 0, .int .u8 0, .int .u8 0, .int .u8 0, .int .u8 0, .int .u8 0, .int .u8 0, .int .u8 0, .int .u8 0, .int .u8 0, .int .u8 0, .int .u8 0, .int .u8 0, .int .u8 0, .int .u8 0, .int .u8 0, .int .u8 0, .int .u8 0, .int .u8 0] 29)).setRow W2.heap.size (bytes M1).toArray) (W2.heap.size + 1) 29 [.int .u8 0, .int .u8 0, .int .u8 0, .int .u8 0, .int .u8 0, .int .u8 0, .int .u8 0, .int .u8 0, .int .u8 0, .int .u8 0, .int .u8 0, .int .u8 0, .int .u8 0, .int .u8 0, .int .u8 0, .int .u8 0, .int .u8 0, .int .u8 0, .int .u8 0, .int .u8 0, .int .u8 0, .int .u8 0, .int .u8 0, .int .u8 0, .int .u8 0, .int .u8 0, .int .u8 0, .int .u8 0, .int .u8 0, .int .u8 0, .int .u8 0, .int .u8 0]) := ⟨(Blk.new' (W2.alloc (.cells #[.int .u8 0, .int .u8 0, .int .u8 0, .int .u8 0, .int .u8 0, .int .u8 0, .int .u8 0, .int .u8 0, .int .u8 0, .int .u8 0, .int .u8 0, .int .u8 0, .int .u8 0, .int .u8 0, .int .u8 0, .int .u8 0, .int .u8 0, .int .u8 0, .int .u8 0, .int .u8 0, .int .u8 0, .int .u8 0, .int .u8 0, .int .u8 0, .int .u8 0, .int .u8 0, .int .u8 0, .int .u8 0, .int .u8 0, .int .u8 0, .int .u8 0, .int .u8 0] 29)) #[.int .u8 0, .int .u8 0, .int .u8 0, .int .u8 0, .int .u8 0, .int .u8 0, .int .u8 0, .int .u8 0, .int .u8 0, .int .u8 0, .int .u8 0, .int .u8 0, .int .u8 0, .int .u8 0, .int .u8 0, .int .u8 0, .int .u8 0, .int .u8 0, .int .u8 0, .int .u8 0, .int .u8 0, .int .u8 0, .int .u8 0, .int .u8 0, .int .u8 0, .int .u8 0, .int .u8 0, .int .u8 0, .int .u8 0, .int .u8 0, .int .u8 0, .int .u8 0] 29 (n := W2.heap.size + 1) (by simp)).fr hst (by omega)⟩
  have HSTA := Kp.mk hst
  clear hf HF1 H9 H11 H11r CC hst
  go_upto_region 2 with (first
    | refine wpList_storeH rfl rfl (Operand.tmp 13) (Operand.tmp 23) rfl W2.heap.size _ _ M1 rfl rfl HNa.out rfl HM132.out ?_
    | refine wpList_storeH rfl rfl (Operand.tmp 14) (Operand.tmp 24) rfl (W2.heap.size + 1) _ _ M2 rfl rfl HNb.out rfl HM232.out ?_)
  obtain ⟨g13, hg13⟩ : ∃ g13, g13 = W2.heap.size := ⟨_, rfl⟩
  obtain ⟨g14, hg14⟩ : ∃ g14, g14 = W2.heap.size + 1 := ⟨_, rfl⟩
  obtain ⟨W3, hW3⟩ : ∃ W3, W3 = (((W2.alloc (.cells #[.int .u8 0, .int .u8 0, .int .u8 0, .int .u8 0, .int .u8 0, .int .u8 0, .int .u8 0, .int .u8 0, .int .u8 0, .int .u8 0, .int .u8 0, .int .u8 0, .int .u8 0, .int .u8 0, .int .u8 0, .int .u8 0, .int .u8 0, .int .u8 0, .int .u8 0, .int .u8 0, .int .u8 0, .int .u8 0, .int .u8 0, .int .u8 0, .int .u8 0, .int .u8 0, .int .u8 0, .int .u8 0, .int .u8 0, .int .u8 0, .int .u8 0, .int .u8 0] 29)).alloc (.cells #[.int .u8 0, .int .u8 0, .int .u8 0, .int .u8 0, .int .u8 0, .int .u8 0, .int .u8 0, .int .u8 0, .int .u8 0, .int .u8 0, .int .u8 0, .int .u8 0, .int .u8 0, .int .u8 0, .int .u8 0, .int .u8 0, .int .u8 0, .int .u8 0, .int .u8 0, .int .u8 0, .int .u8 0, .int .u8 0, .int .u8 0, .int .u8 0, .int .u8 0, .int .u8 0, .int .u8 0, .int .u8 0, .int .u8 0, .int .u8 0, .int .u8 0, .int .u8 0] 29)).setRow W2.heap.size (bytes M1).toArray).setRow (W2.heap.size + 1) (bytes M2).toArray := ⟨_, rfl⟩
  have hst2 : Fr (fun q => q = W2.heap.size + 1) (((W2.alloc (.cells #[.int .u8 0, .int .u8 0, .int .u8 0, .int .u8 0, .int .u8 0, .int .u8 0, .int .u8 0, .int .u8 0, .int .u8 0, .int .u8 0, .int .u8 0, .int .u8 0, .int .u8 0, .int .u8 0, .int .u8 0, .int .u8 0, .int .u8 0, .int .u8 0, .int .u8 0, .int .u8 0, .int .u8 0, .int .u8 0, .int .u8 0, .int .u8 0, .int .u8 0, .int .u8 0, .int .u8 0, .int .u8 0, .int .u8 0, .int .u8 0, .int .u8 0, .int .u8 0] 29)).alloc (.cells #[.int .u8 0, .int .u8 0, .int .u8 0, .int .u8 0, .int .u8 0, .int .u8 0, .int .u8 0, .int .u8 0, .int .u8 0, .int .u8 0, .int .u8 0, .int .u8 0, .int .u8 0, .int .u8 0, .int .u8 0, .int .u8 0, .int .u8 0, .int .u8 0, .int .u8 0, .int .u8 0, .int .u8 0, .int .u8 0, .int .u8 0, .int .u8 0, .int .u8 0, .int .u8 0, .int .u8 0, .int .u8 0, .int .u8 0, .int .u8 0, .int .u8 0, .int .u8 0] 29)).setRow W2.heap.size (bytes M1).toArray) W3 := by rw [hW3]; exact ⟨rfl, rfl, rfl, by simp [World.setRow], fun q _ hq => setRow_other _ _ q _ hq⟩
  have hfr : Fr (fun _ => False) W2 W3 := ((((Fr.refl _ W2).alloc _).alloc _).trans (S := (fun _ => False)) HSTA.out (fun q hq e => by omega)).trans hst2 (fun q hq e => by omega)
  have H13 : Kp (Blk W3 g13 29 (bytes M1)) := ⟨by rw [hg13]; exact (show Blk (((W2.alloc (.cells #[.int .u8 0, .int .u8 0, .int .u8 0, .int .u8 0, .int .u8 0, .int .u8 0, .int .u8 0, .int .u8 0, .int .u8 0, .int .u8 0, .int .u8 0, .int .u8 0, .int .u8 0, .int .u8 0, .int .u8 0, .int .u8 0, .int .u8 0, .int .u8 0, .int .u8 0, .int .u8 0, .int .u8 0, .int .u8 0, .int .u8 0, .int .u8 0, .int .u8 0, .int .u8 0, .int .u8 0, .int .u8 0, .int .u8 0, .int .u8 0, .int .u8 0, .int .u8 0] 29)).alloc (.cells #[.int .u8 0, .int .u8 0, .int .u8 0, .int .u8 0, .int .u8 0, .int .u8 0, .int .u8 0, .int .u8 0, .int .u8 0, .int .u8 0, .int .u8 0, .int .u8 0, .int .u8 0, .int .u8 0, .int .u8 0, .int .u8 0, .int .u8 0, .int .u8 0, .int .u8 0, .int .u8 0, .int .u8 0, .int .u8 0, .int .u8 0, .int .u8 0, .int .u8 0, .int .u8 0, .int .u8 0, .int .u8 0, .int .u8 0, .int .u8 0, .int .u8 0, .int .u8 0] 29)).setRow W2.heap.size (bytes M1).toArray) W2.heap.size 29 (bytes M1) from setRow_heap _ _ _ _ _ _ HNa.out).fr hst2 (by omega)⟩
  have H14 : Kp (Blk W3 g14 29 (bytes M2)) := ⟨by rw [hW3, hg14]; exact setRow_heap _ _ _ _ _ _ HNb.out⟩
  have HF3 := Kp.mk (HF2.out.trans hfr (fun _ _ h => h))
  have H93 := Kp.mk (H92.out.fr hfr (fun h => h))
  have H113 := Kp.mk (H112.out.fr hfr (fun h => h))
  rw [← hg14, ← hg13] at hW3
  rw [← hg14, ← hg13, ← hW3]
  clear hg13 hg14 hW3 hfr HF2 H92 H112 HNa HNb HSTA hst2
  obtain ⟨mo13, ma13⟩ := mid_b H13.out HM132.out
  obtain ⟨mo14, ma14⟩ := mid_b H14.out HM232.out
  obtain ⟨mo9, ma9⟩ := mid_b H93.out HRT.out
  obtain ⟨mo11, ma11⟩ := mid_b H113.out HLF.out
  rcases hcode with hc | hc | hc
  · subst hc
    by_cases hm : M1 = root
    · have hd : decide (M1 = root) = true := decide_eq_true hm
      by_cases hm2 : M2 = old
      · have hd2 : decide (M2 = old) = true := decide_eq_true hm2
        have hR0 : R = 0 := by rw [HR.out, if_pos rfl, if_pos ⟨hm, hm2⟩]
        clear hm hm2
        simp only [hd] at hcmp1
        simp only [hd2] at hcmp2
        clear hd hd2
        go_wp2_with fail
        go_ret
        exact ⟨by first | rfl | (rw [hR0]; rfl), HF3.out⟩
      · have hd2 : decide (M2 = old) = false := decide_eq_false hm2
        have hR0 : R = 91 := by rw [HR.out, if_pos rfl, if_neg (fun h => hm2 h.2)]
        clear hm hm2
        simp only [hd] at hcmp1
        simp only [hd2] at hcmp2
        clear hd hd2
        go_wp2_with fail
        go_ret
        exact ⟨by first | rfl | (rw [hR0]; rfl), HF3.out⟩
    · have hd : decide (M1 = root) = false := decide_eq_false hm
      have hR0 : R = 91 := by rw [HR.out, if_pos rfl, if_neg (fun h => hm h.1)]
      clear hm hcmp2
      simp only [hd] at hcmp1
      clear hd
      go_wp2_with fail
      go_ret
      exact ⟨by first | rfl | (rw [hR0]; rfl), HF3.out⟩
  · subst hc
    have hR0 : R = 1 := by rw [HR.out, if_neg (by decide)]
    go_wp2_with fail
    go_ret
    exact ⟨by first | rfl | (rw [hR0]; rfl), HF3.out⟩
  · subst hc
    have hR0 : R = 90 := by rw [HR.out, if_neg (by decide)]
    go_wp2_with fail
    go_ret
    exact ⟨by first | rfl | (rw [hR0]; rfl), HF3.out⟩
end Go.Proofs.YtjcmgpiapbeodaaDoor.Sha
