/-
  The root of a tree, the root by its definition, and grown: are they the same?
-/
import Derived.Test.YtjbhaopocabfaaaDoorTree2
namespace Go.Proofs.YtjbhaopocabfaaaDoor.Sha
open Go.RowKit Go.Proofs.YtjbhaopocabfaaaDoor.Mem Go.Proofs.YtjbhaopocabfaaaDoorW.PrintWords Go.Proofs.YtjbhaopocabfaaaDoorW.PrintLast Go.Proofs.YtjbhaopocabfaaaDoor.Pl Go.Proofs.YtjbhaopocabfaaaDoor.Wk
attribute [local go_sem ↓] Go.wp_at_zero Go.wp_at_succ wp_load_hash wp_store_hash wp_load_mid23 wp_load_mid25 wp_store_mid25 wp_build_hash
attribute [local go_sem] rowAt_drew rowOk_drew midOk_drew midAt_drew rowBlock rowCells rowOff midFree_drew
theorem rootLen (s : Nat) (hs : s ≤ 32) (L : List (List Int)) (hL : ∀ x ∈ L, x.length = 32) (m r : Nat) (hr : cnt r = L.length) (hr2 : r ≤ 281474976710656) (hm : m ≤ r) : (rootL s L m).length = 32 := by
  refine foldL_len s hs _ fun x hx => ?_
  have hin := peak_in m r hm hr2
  rw [hr] at hin
  obtain ⟨p, hp, rfl⟩ := List.mem_map.1 hx
  obtain ⟨i, hi, rfl⟩ := List.getElem_of_mem hp
  have h1 := hin i hi
  simp only [List.getD, List.getElem?_eq_getElem hi, Option.getD_some] at h1
  have h2 : ((pks m 49 0)[i]).toNat < L.length := by omega
  simp only [List.getD, List.getElem?_eq_getElem h2, Option.getD_some]
  exact hL _ (List.getElem_mem _)
theorem lds_hasher {w : World} {g gk go s n : Nat} {T : TypeId} {v : Value} (h : Blk w g T (treeCells gk go s v n)) : Lds w 103 (.pointer (some ⟨g, 0, none⟩)) (hasherV gk go s) := by
  intro ev o x ho hx
  have hr : w.rangeAt g 0 ((treeCells gk go s v n).take 4) := fun j u hj => by
    rw [Nat.zero_add]
    refine h.cell j u ?_
    rcases Nat.lt_or_ge j 4 with h4 | h4
    · rw [List.getElem?_take_of_lt h4] at hj; exact hj
    · rw [List.getElem?_eq_none (by simp [treeCells]; omega)] at hj; cases hj
  have hi : (Tryd.prog.info? 103).map (·.size) = some 4 := by kernel_rfl
  have h := run_loadAt_mid (P := Tryd.prog) w g 0 103 ((treeCells gk go s v n).take 4) _ hr Tryd.underlying103 rfl (by rw [hi]; rfl)
  unfold execOp
  simp only [ho, hx, Sem.run_bind, h, Result.andThen_ok, Sem.run_pure]
  rfl
theorem results_cell_tmp4 {P : Program} {fn : Func} {p q : Tmp} {ty : TypeId} (h : fn.results = #[.cell p ty, .tmp q]) (tmps : Array Value) (w : World) (g : Nat) (t : TypeId) (cs : Array Value) (d : TypeDesc) (v : Value)
    (hp : tmps.getD p undef = .pointer (some ⟨g, 0, none⟩)) (hq : tmps.getD q undef = v) (hg : w.heap[g]? = some (.cells cs t (0, 0)))
    (hu : P.underlying ty = some d) (hd : (match d with | .struct _ | .array _ _ => true | _ => false) = true) (hi : (P.info? ty).map (·.size) = some cs.size) :
    (results fn tmps).run P w = .ok (.tuple #[.agg cs, v]) w := results_cell_tmp h tmps w g t cs (0, 0) d v hp hq hg hu hd hi
set_option maxHeartbeats 4000000 in
set_option maxRecDepth 100000 in
theorem RootM_no (B g s : Nat) (ls : List (List Int)) (F : Nat → Prop) (w : World) (hT : Tr w B g s ls F) (n : Int) (hn : n < 0 ∨ (ls.length : Int) < n) :
    Calls Tryd.prog 51 #[.pointer (some ⟨g, 0, none⟩), .int .i64 n] w fun e w' => e = .returned (.tuple #[.agg (bytes z32).toArray, .int .i64 1]) ∧ Fr (fun _ => False) w w' := by
  obtain ⟨gk, go, v0, h1, h2, h3, h4, h5, h6, h7, h8, h9, h10⟩ := hT
  have HB := Kp.mk h1
  obtain ⟨m, hm⟩ : ∃ m, m = ls.length := ⟨_, rfl⟩
  have HM := Kp.mk hm
  rw [← hm] at hn
  clear h1 h2 h3 h4 h5 h6 h7 h8 h9 h10 hm
  go_enter Tryd.func51, Tryd.ntmps51
  go_upto_region 1 with (fail)
  obtain ⟨g4, hg4⟩ : ∃ g4, g4 = w.heap.size := ⟨_, rfl⟩
  obtain ⟨W1, hW1⟩ : ∃ W1, W1 = w.alloc (.cells #[.int .u8 0, .int .u8 0, .int .u8 0, .int .u8 0, .int .u8 0, .int .u8 0, .int .u8 0, .int .u8 0, .int .u8 0, .int .u8 0, .int .u8 0, .int .u8 0, .int .u8 0, .int .u8 0, .int .u8 0, .int .u8 0, .int .u8 0, .int .u8 0, .int .u8 0, .int .u8 0, .int .u8 0, .int .u8 0, .int .u8 0, .int .u8 0, .int .u8 0, .int .u8 0, .int .u8 0, .int .u8 0, .int .u8 0, .int .u8 0, .int .u8 0, .int .u8 0] 25) := ⟨_, rfl⟩
  have H4 : Kp (Blk W1 g4 25 [.int .u8 0, .int .u8 0, .int .u8 0, .int .u8 0, .int .u8 0, .int .u8 0, .int .u8 0, .int .u8 0, .int .u8 0, .int .u8 0, .int .u8 0, .int .u8 0, .int .u8 0, .int .u8 0, .int .u8 0, .int .u8 0, .int .u8 0, .int .u8 0, .int .u8 0, .int .u8 0, .int .u8 0, .int .u8 0, .int .u8 0, .int .u8 0, .int .u8 0, .int .u8 0, .int .u8 0, .int .u8 0, .int .u8 0, .int .u8 0, .int .u8 0, .int .u8 0]) := ⟨by rw [hW1, hg4]; exact Blk.new w _ _⟩
  have HF1 : Kp (Fr (fun _ => False) w W1) := ⟨by rw [hW1]; exact (Fr.refl _ w).alloc _⟩
  have HGg4 : Kp (w.heap.size ≤ g4) := ⟨by omega⟩
  rw [← hg4, ← hW1]
  clear hg4 hW1
  have hi32 : (Tryd.prog.info? 25).map (·.size) = some 32 := by kernel_rfl
  have ZZ : Kp ((Tryd.prog.info? 25).map (·.size) = some ([.int .u8 0, .int .u8 0, .int .u8 0, .int .u8 0, .int .u8 0, .int .u8 0, .int .u8 0, .int .u8 0, .int .u8 0, .int .u8 0, .int .u8 0, .int .u8 0, .int .u8 0, .int .u8 0, .int .u8 0, .int .u8 0, .int .u8 0, .int .u8 0, .int .u8 0, .int .u8 0, .int .u8 0, .int .u8 0, .int .u8 0, .int .u8 0, .int .u8 0, .int .u8 0, .int .u8 0, .int .u8 0, .int .u8 0, .int .u8 0, .int .u8 0, .int .u8 0] : List Value).length) := ⟨hi32⟩
  clear hi32
  have c5 : W1.cell? ⟨g, 5, none⟩ = some (.int .i64 (m : Int)) := by rw [HM.out]; exact (HB.out.fr HF1.out (fun h => h)).cell 5 _ rfl
  have ok4 := rowOk_blk H4.out ZZ.out
  have hMok : hashOk (.agg #[.int .u8 0, .int .u8 0, .int .u8 0, .int .u8 0, .int .u8 0, .int .u8 0, .int .u8 0, .int .u8 0, .int .u8 0, .int .u8 0, .int .u8 0, .int .u8 0, .int .u8 0, .int .u8 0, .int .u8 0, .int .u8 0, .int .u8 0, .int .u8 0, .int .u8 0, .int .u8 0, .int .u8 0, .int .u8 0, .int .u8 0, .int .u8 0, .int .u8 0, .int .u8 0, .int .u8 0, .int .u8 0, .int .u8 0, .int .u8 0, .int .u8 0, .int .u8 0]) = true := hashOk_bytes z32 rfl
  rcases hn with hn | hn
  · go_wp2_with fail
    refine bodyPost_ret (results_cell_tmp rfl _ _ g4 25 _ (0, 0) _ (.int .i64 1) rfl rfl (setRow_heap _ g4 _ _ _ _ (show W1.heap[g4]? = _ from H4.out)) Tryd.underlying25 rfl (by kernel_rfl)) rfl ?_
    refine ⟨rfl, ?_⟩
    exact HF1.out.trans (S' := fun q => q = g4) ⟨rfl, rfl, rfl, by simp [World.setRow], fun q _ hq => setRow_other _ _ q _ hq⟩ (fun q hq he => by have := HGg4.out; omega)
  · have h0 : ¬ n < 0 := by omega
    go_wp2_with fail
    refine bodyPost_ret (results_cell_tmp rfl _ _ g4 25 _ (0, 0) _ (.int .i64 1) rfl rfl (setRow_heap _ g4 _ _ _ _ (show W1.heap[g4]? = _ from H4.out)) Tryd.underlying25 rfl (by kernel_rfl)) rfl ?_
    refine ⟨rfl, ?_⟩
    exact HF1.out.trans (S' := fun q => q = g4) ⟨rfl, rfl, rfl, by simp [World.setRow], fun q _ hq => setRow_other _ _ q _ hq⟩ (fun q hq he => by have := HGg4.out; omega)
set_option maxHeartbeats 4000000 in
set_option maxRecDepth 100000 in
theorem RootM_calls (B g s : Nat) (ls : List (List Int)) (F : Nat → Prop) (w : World) (hT : Tr w B g s ls F) (hL : Laid w) (n : Nat) (hn : n ≤ ls.length) :
    Calls Tryd.prog 51 #[.pointer (some ⟨g, 0, none⟩), .int .i64 (n : Int)] w fun e w' => e = .returned (.tuple #[.agg (bytes (wholeL s (ls.take n))).toArray, .int .i64 0]) ∧ Fr (fun _ => False) w w' := by
  obtain ⟨gk, go, v0, h1, h2, h3, h4, h5, h6, h7, h8, h9, h10⟩ := hT
  have hlen := storedL_len s ls
  have hcl := cnt_le ls.length
  have CP := Kp.mk (fun W => peaks_calls n (by omega) W)
  have hin := peak_in n ls.length hn (by omega)
  rw [← hlen] at hin
  have hpl := pks_len n
  obtain ⟨A, c, hv, hr⟩ := h3.row (fun _ => False) (fun _ _ h => h)
  have hrw := root_whole s ls n hn (by omega)
  rw [← hrw]
  have hs := h2.le
  have hML := rootLen s hs (storedL s ls) (storedL_32 s hs ls h4) n ls.length hlen.symm (by omega) hn
  have CK : Kp (∀ W A2 c2, Fr (fun _ => False) w W → IRow W (fun _ => False) A2 c2 (pks n 49 0) → Calls Tryd.prog 60 #[.slice A (storedL s ls).length c, .slice A2 (pks n 49 0).length c2] W fun e w' => ∃ g, W.heap.size ≤ g ∧ e = .returned (.slice (some ⟨g, 0, none⟩) (pks n 49 0).length (pks n 49 0).length) ∧ HOwn w' W.heap.size (.slice (some ⟨g, 0, none⟩) (pks n 49 0).length (pks n 49 0).length) ((pks n 49 0).map fun p => (storedL s ls).getD p.toNat []) ∧ Fr (fun _ => False) W w') :=
    ⟨fun W A2 c2 hf hI => pick_calls A c (storedL s ls) A2 c2 (pks n 49 0) hin W (hr.fr hf) hI (by omega)⟩
  have C62 : Kp (∀ W A2 c2, Fr (fun _ => False) w W → HRow W (fun _ => False) A2 c2 ((pks n 49 0).map fun p => (storedL s ls).getD p.toNat []) → Calls Tryd.prog 62 #[hasherV gk go s, .slice A2 (pks n 49 0).length c2] W fun e w' => e = .returned (.agg (bytes (rootL s (storedL s ls) n)).toArray) ∧ Fr (fun _ => False) W w') :=
    ⟨fun W A2 c2 hf hx => by
      have q := root_calls A2 c2 _ gk go s W (hL.fr hf (fun _ h => h.elim)) (h2.fr hf (fun h => h) (fun h => h)) hx (by rw [List.length_map]; omega)
      rw [List.length_map] at q
      exact q⟩
  have HPL : Kp (((pks n 49 0).map fun p => (storedL s ls).getD p.toNat []).length = (pks n 49 0).length) := ⟨List.length_map _⟩
  obtain ⟨M, hM⟩ : ∃ M, M = rootL s (storedL s ls) n := ⟨_, rfl⟩
  rw [← hM] at hML C62 ⊢
  have HML := Kp.mk hML
  obtain ⟨PK, hPK⟩ : ∃ PK, PK = (pks n 49 0).map fun p => (storedL s ls).getD p.toNat [] := ⟨_, rfl⟩
  rw [← hPK] at CK C62 HPL
  obtain ⟨PKS, hPKS⟩ : ∃ PKS, PKS = pks n 49 0 := ⟨_, rfl⟩
  rw [← hPKS] at CP CK C62 HPL
  have HB := Kp.mk h1
  obtain ⟨m, hm⟩ : ∃ m, m = ls.length := ⟨_, rfl⟩
  obtain ⟨N, hN⟩ : ∃ N, N = (storedL s ls).length := ⟨_, rfl⟩
  rw [← hN] at hv CK
  subst hv
  rw [← hm] at hn
  have HM := Kp.mk hm
  have hnm : (n : Int) ≤ (m : Int) := by omega
  have hnn : ¬ (m : Int) < (n : Int) := by omega
  have hn0 : ¬ (n : Int) < 0 := by omega
  clear h1 h2 h3 h4 h5 h6 h7 h8 h9 h10 hN hlen hr hcl hm hn hM hPK hPKS hin hpl hML hs hrw hL
  go_enter Tryd.func51, Tryd.ntmps51
  go_upto_region 1 with (fail)
  obtain ⟨g4, hg4⟩ : ∃ g4, g4 = w.heap.size := ⟨_, rfl⟩
  obtain ⟨W1, hW1⟩ : ∃ W1, W1 = w.alloc (.cells #[.int .u8 0, .int .u8 0, .int .u8 0, .int .u8 0, .int .u8 0, .int .u8 0, .int .u8 0, .int .u8 0, .int .u8 0, .int .u8 0, .int .u8 0, .int .u8 0, .int .u8 0, .int .u8 0, .int .u8 0, .int .u8 0, .int .u8 0, .int .u8 0, .int .u8 0, .int .u8 0, .int .u8 0, .int .u8 0, .int .u8 0, .int .u8 0, .int .u8 0, .int .u8 0, .int .u8 0, .int .u8 0, .int .u8 0, .int .u8 0, .int .u8 0, .int .u8 0] 25) := ⟨_, rfl⟩
  have H4 : Kp (Blk W1 g4 25 [.int .u8 0, .int .u8 0, .int .u8 0, .int .u8 0, .int .u8 0, .int .u8 0, .int .u8 0, .int .u8 0, .int .u8 0, .int .u8 0, .int .u8 0, .int .u8 0, .int .u8 0, .int .u8 0, .int .u8 0, .int .u8 0, .int .u8 0, .int .u8 0, .int .u8 0, .int .u8 0, .int .u8 0, .int .u8 0, .int .u8 0, .int .u8 0, .int .u8 0, .int .u8 0, .int .u8 0, .int .u8 0, .int .u8 0, .int .u8 0, .int .u8 0, .int .u8 0]) := ⟨by rw [hW1, hg4]; exact Blk.new w _ _⟩
  have HF1 : Kp (Fr (fun _ => False) w W1) := ⟨by rw [hW1]; exact (Fr.refl _ w).alloc _⟩
  have HGg4 : Kp (w.heap.size ≤ g4) := ⟨by omega⟩
  rw [← hg4, ← hW1]
  clear hg4 hW1
  have hi32 : (Tryd.prog.info? 25).map (·.size) = some 32 := by kernel_rfl
  have ZZ : Kp ((Tryd.prog.info? 25).map (·.size) = some ([.int .u8 0, .int .u8 0, .int .u8 0, .int .u8 0, .int .u8 0, .int .u8 0, .int .u8 0, .int .u8 0, .int .u8 0, .int .u8 0, .int .u8 0, .int .u8 0, .int .u8 0, .int .u8 0, .int .u8 0, .int .u8 0, .int .u8 0, .int .u8 0, .int .u8 0, .int .u8 0, .int .u8 0, .int .u8 0, .int .u8 0, .int .u8 0, .int .u8 0, .int .u8 0, .int .u8 0, .int .u8 0, .int .u8 0, .int .u8 0, .int .u8 0, .int .u8 0] : List Value).length) := ⟨hi32⟩
  clear hi32
  have HB1 := Kp.mk (HB.out.fr HF1.out (fun h => h))
  have CK := Kp.mk (fun W A2 c2 (hf : Fr (fun _ => False) W1 W) hI => CK.out W A2 c2 (HF1.out.trans hf (fun _ _ h => h)) hI)
  have C62 := Kp.mk (fun W A2 c2 (hf : Fr (fun _ => False) W1 W) hx => C62.out W A2 c2 (HF1.out.trans hf (fun _ _ h => h)) hx)
  have c5 : W1.cell? ⟨g, 5, none⟩ = some (.int .i64 (m : Int)) := by rw [HM.out]; exact HB1.out.cell 5 _ rfl
  go_upto_region 3 with (fail)
  clear c5
  refine start_ (n := 14) (S := fun w' => Lds w' 103 (.pointer (some ⟨g, 0, none⟩)) (hasherV gk go s) ∧ Lds w' 48 (.pointer (some ⟨g, 4, none⟩)) (.slice A N c)) (ds := [12]) #[false, false, false, false, false, false, false, false, false, false, false, false, false, false] (by kernel_rfl) rfl rfl ⟨lds_hasher (HB1.out.fr ((Fr.refl (fun _ => False) W1).drew) (fun h => h)), lds_list ((HB1.out.fr ((Fr.refl (fun _ => False) W1).drew) (fun h => h)).cell 4 _ rfl)⟩ (fun hHeld => ?_)
  refine pure_ (i := 0) (N := some 17) (v := ?_) (a' := ?_) #[true, false, false, false, false, false, false, false, false, false, false, false, false, false] rfl rfl (by kernel_rfl) (fun _ _ _ h => h) (Or.inl ⟨by rfl, ?_⟩) ?_ ?_
  rotate_left
  · intro w'
    go_simp
    with_reducible rfl
  rotate_left
  · simp only [Act.put, List.setIfInBounds_toArray, List.set_cons_zero, List.set_cons_succ]
    rfl
  refine pure_ (i := 1) (N := some 18) (v := ?_) (a' := ?_) #[true, true, false, false, false, false, false, false, false, false, false, false, false, false] rfl rfl (by kernel_rfl) (fun _ _ _ h => h) (Or.inl ⟨by rfl, ?_⟩) ?_ ?_
  rotate_left
  · intro w'
    go_simp
    with_reducible rfl
  rotate_left
  · simp only [Act.put, List.setIfInBounds_toArray, List.set_cons_zero, List.set_cons_succ]
    rfl
  refine pure_ (i := 2) (N := some 19) (v := ?_) (a' := ?_) #[true, true, true, false, false, false, false, false, false, false, false, false, false, false] rfl rfl (by kernel_rfl) (fun _ _ _ h => h) (Or.inl ⟨by rfl, ?_⟩) ?_ ?_
  rotate_left
  · intro w'
    go_simp
    with_reducible rfl
  rotate_left
  · simp only [Act.put, List.setIfInBounds_toArray, List.set_cons_zero, List.set_cons_succ]
    rfl
  refine pure_ (i := 4) (N := some 21) (v := ?_) (a' := ?_) #[true, true, true, false, true, false, false, false, false, false, false, false, false, false] rfl rfl (by kernel_rfl) (fun _ _ _ h => h) (Or.inl ⟨by rfl, ?_⟩) ?_ ?_
  rotate_left
  · intro w'
    go_simp
    with_reducible rfl
  rotate_left
  · simp only [Act.put, List.setIfInBounds_toArray, List.set_cons_zero, List.set_cons_succ]
    rfl
  refine pure_ (i := 5) (N := some 22) (v := ?_) (a' := ?_) #[true, true, true, false, true, true, false, false, false, false, false, false, false, false] rfl rfl (by kernel_rfl) (fun _ _ _ h => h) (Or.inl ⟨by rfl, ?_⟩) ?_ ?_
  rotate_left
  · intro w'
    go_simp
    with_reducible rfl
  rotate_left
  · simp only [Act.put, List.setIfInBounds_toArray, List.set_cons_zero, List.set_cons_succ]
    rfl
  refine pure_ (i := 6) (N := some 23) (v := ?_) (a' := ?_) #[true, true, true, false, true, true, true, false, false, false, false, false, false, false] rfl rfl (by kernel_rfl) (fun _ _ _ h => h) (Or.inl ⟨by rfl, ?_⟩) ?_ ?_
  rotate_left
  · intro w'
    go_simp
    with_reducible rfl
  rotate_left
  · simp only [Act.put, List.setIfInBounds_toArray, List.set_cons_zero, List.set_cons_succ]
    rfl
  refine pure_ (i := 8) (N := some 25) (v := ?_) (a' := ?_) #[true, true, true, false, true, true, true, false, true, false, false, false, false, false] rfl rfl (by kernel_rfl) (fun _ _ _ h => h) (Or.inl ⟨by rfl, ?_⟩) ?_ ?_
  rotate_left
  · intro w'
    go_simp
    with_reducible rfl
  rotate_left
  · simp only [Act.put, List.setIfInBounds_toArray, List.set_cons_zero, List.set_cons_succ]
    rfl
  refine take_ (i := 3) (N := some 20) (v := ?_) (a' := ?_) #[true, true, true, true, true, true, true, false, true, false, false, false, false, false] rfl rfl (by kernel_rfl) (fun _ _ _ h => h) (Or.inl ⟨by rfl, ?_⟩) hHeld ?_ ?_
  rotate_left
  · rintro w' ⟨s0, s1⟩
    refine Lds.run s0 (x := ?_) ?_ ?_
    · exact (Operand.tmp 19)
    · rfl
    · rfl
  rotate_left
  · simp only [Act.put, List.setIfInBounds_toArray, List.set_cons_zero, List.set_cons_succ]
    rfl
  refine take_ (i := 7) (N := some 24) (v := ?_) (a' := ?_) #[true, true, true, true, true, true, true, true, true, false, false, false, false, false] rfl rfl (by kernel_rfl) (fun _ _ _ h => h) (Or.inl ⟨by rfl, ?_⟩) hHeld ?_ ?_
  rotate_left
  · rintro w' ⟨s0, s1⟩
    refine Lds.run s1 (x := ?_) ?_ ?_
    · exact (Operand.tmp 23)
    · rfl
    · rfl
  rotate_left
  · simp only [Act.put, List.setIfInBounds_toArray, List.set_cons_zero, List.set_cons_succ]
    rfl
  refine one_ (i := 9) (N := some 26) #[true, true, true, true, true, true, true, true, true, true, false, false, false, false] rfl rfl (by kernel_rfl) (by decide) (fun K hK => ?_)
  refine goes_ Tryd.func64 (by kernel_rfl) rfl #[.int .i64 (n : Int)] (by rfl) rfl rfl (by simp only [List.map_toArray, List.map_cons, List.map_nil]; rfl) ?_
  with_reducible refine (CP.out _).mono ?_
  rintro e a1 ⟨v, rfl, hO, hB⟩
  refine ⟨_, rfl, ?_⟩
  have Fa1 : Kp (Fr (fun _ => False) W1 a1) := ⟨((Fr.refl (fun _ => False) W1).drew).trans (Fr.of_below hB (fun _ => False)) (fun _ _ h => h)⟩
  have hown : a1.ownsRow _ 2 1 v PKS.length (PKS.map (Value.int .i64)) := Kd.own_of_R hO
  obtain ⟨A2, c2, hv, hI⟩ := IRow.of_own hown (fun _ => False) (fun _ _ h => h)
  subst hv
  have HI := Kp.mk hI
  clear hO hB hown hI
  refine hK.out _ _ ⟨lds_hasher (HB1.out.fr Fa1.out (fun h => h)), lds_list ((HB1.out.fr Fa1.out (fun h => h)).cell 4 _ rfl)⟩ (fun hHeld => ?_)
  clear hK K
  refine norm_ (a' := ?_) ?_ ?_
  rotate_left
  · show Act.put _ (some 26) _ = _
    simp only [Act.put, List.setIfInBounds_toArray, List.set_cons_zero, List.set_cons_succ]
    rfl
  refine one_ (i := 10) (N := some 27) #[true, true, true, true, true, true, true, true, true, true, true, false, false, false] rfl rfl (by kernel_rfl) (by decide) (fun K hK => ?_)
  refine goes_ Tryd.func60 (by kernel_rfl) rfl #[.slice A N c, .slice A2 PKS.length c2] (by rfl) rfl rfl (by simp only [List.map_toArray, List.map_cons, List.map_nil]; rfl) ?_
  with_reducible refine (CK.out a1 A2 c2 Fa1.out HI.out).mono ?_
  rintro e a2 ⟨gp, hgp, rfl, hO, hq⟩
  refine ⟨_, rfl, ?_⟩
  have Fa2 : Kp (Fr (fun _ => False) W1 a2) := ⟨Fa1.out.trans hq (fun _ _ h => h)⟩
  obtain ⟨A3, c3, hA3, hR⟩ := hO.row (fun _ => False) (fun _ _ h => h)
  rw [HPL.out] at hA3
  cases hA3
  have HR := Kp.mk hR
  clear hO hgp hq hR
  refine hK.out _ _ ⟨lds_hasher (HB1.out.fr Fa2.out (fun h => h)), lds_list ((HB1.out.fr Fa2.out (fun h => h)).cell 4 _ rfl)⟩ (fun hHeld => ?_)
  clear hK K
  refine norm_ (a' := ?_) ?_ ?_
  rotate_left
  · show Act.put _ (some 27) _ = _
    simp only [Act.put, List.setIfInBounds_toArray, List.set_cons_zero, List.set_cons_succ]
    rfl
  refine one_ (i := 11) (N := some 28) #[true, true, true, true, true, true, true, true, true, true, true, true, false, false] rfl rfl (by kernel_rfl) (by decide) (fun K hK => ?_)
  refine goes_ Tryd.func62 (by kernel_rfl) rfl #[hasherV gk go s, .slice (some ⟨gp, 0, none⟩) PKS.length PKS.length] (by rfl) rfl rfl (by simp only [List.map_toArray, List.map_cons, List.map_nil]; rfl) ?_
  with_reducible refine (C62.out a2 _ _ Fa2.out HR.out).mono ?_
  rintro e a3 ⟨rfl, hq⟩
  refine ⟨_, rfl, ?_⟩
  have Fa3 : Kp (Fr (fun _ => False) W1 a3) := ⟨Fa2.out.trans hq (fun _ _ h => h)⟩
  clear hq
  refine hK.out _ _ ⟨lds_hasher (HB1.out.fr Fa3.out (fun h => h)), lds_list ((HB1.out.fr Fa3.out (fun h => h)).cell 4 _ rfl)⟩ (fun hHeld => ?_)
  clear hK K
  refine norm_ (a' := ?_) ?_ ?_
  rotate_left
  · show Act.put _ (some 28) _ = _
    simp only [Act.put, List.setIfInBounds_toArray, List.set_cons_zero, List.set_cons_succ]
    rfl
  refine last_ (i := 12) (N := none) #[true, true, true, true, true, true, true, true, true, true, true, true, true, false] rfl rfl (by kernel_rfl) (by decide) (fun K hK => ?_)
  refine skip_ (by rfl) rfl (st_hash _ _ (Operand.tmp 4) (Operand.tmp 28) _ g4 _ _ M rfl rfl rfl (H4.out.fr Fa3.out (fun h => h)) rfl HML.out) ?_
  refine hK.out _ _ ?_
  clear hK K
  refine pure_ (i := 13) (N := some 5) (v := ?_) (a' := ?_) #[true, true, true, true, true, true, true, true, true, true, true, true, true, true] rfl rfl (by kernel_rfl) (fun _ _ _ h => h) (Or.inl ⟨by rfl, ?_⟩) ?_ ?_
  rotate_left
  · intro w'
    go_simp
    with_reducible rfl
  rotate_left
  · simp only [Act.put, List.setIfInBounds_toArray, List.set_cons_zero, List.set_cons_succ]
    rfl
  refine done_ (by kernel_rfl) ?_
  have hMi : (Tryd.prog.info? 25).map (·.size) = some (bytes M).toArray.size := by rw [show (bytes M).toArray.size = 32 by simp [bytes, HML.out]]; kernel_rfl
  go_wp2_with fail
  refine bodyPost_ret (results_cell_tmp rfl _ _ g4 25 _ (0, 0) _ (.int .i64 0) rfl rfl (setRow_heap _ g4 _ _ _ _ (show a3.heap[g4]? = _ from (H4.out.fr Fa3.out (fun h => h)))) Tryd.underlying25 rfl hMi) rfl ?_
  refine ⟨rfl, ?_⟩
  exact (HF1.out.trans Fa3.out (fun _ _ h => h)).trans (S' := fun q => q = g4) ⟨rfl, rfl, rfl, by simp [World.setRow], fun q _ hq => setRow_other _ _ q _ hq⟩ (fun q hq he => by have := HGg4.out; omega)
theorem wholeL_nil (s : Nat) : wholeL s [] = ofL s [] := whole_nil _ _
theorem wholeL_one (s : Nat) (x : List Int) : wholeL s [x] = x := whole_one _ _ _
theorem wholeL_len (s : Nat) (hs : s ≤ 32) (L : List (List Int)) (hL : ∀ x ∈ L, x.length = 32) : (wholeL s L).length = 32 := by
  unfold wholeL
  rw [whole]
  split
  · cases L with
    | nil => exact ofL_len _ _ hs
    | cons x r => exact hL x (by simp)
  · exact ofL_len _ _ hs
theorem HRow.take_cap {w : World} {S : Nat → Prop} {A : Option Addr} {c : Nat} {L : List (List Int)} (h : HRow w S A c L) (n : Nat) : HRow w S A c (L.take n) := h.take n
set_option maxHeartbeats 4000000 in
set_option maxRecDepth 100000 in
theorem whole_calls (k : Int) : ∀ (N : Nat) (L : List (List Int)) (A : Option Addr) (c : Nat) (w : World), L.length ≤ N → Laid w → HRow w (fun _ => False) A c L → L.length ≤ 4398046511104 →
    Calls Tryd.prog 66 #[.int .i64 k, .slice A L.length c] w fun e w' => e = .returned (.agg (bytes (wholeL (strength k) L)).toArray) ∧ Fr (fun _ => False) w w' := by
  intro N
  induction N with
  | zero =>
    intro L A c w hN hL hX hb
    obtain rfl : L = [] := List.eq_nil_of_length_eq_zero (by omega)
    have CE := Kp.mk (fun W (hf : Fr (fun _ => False) w W) => emptyHash_calls k W (hL.fr hf (fun _ h => h.elim)))
    have hM : (ofL (strength k) []).length = 32 := ofL_len _ _ (strength_le k)
    rw [wholeL_nil]
    generalize ofL (strength k) [] = M at CE hM ⊢
    have HML := Kp.mk hM
    have hMok := hashOk_bytes M hM
    clear hM hX hb hN hL
    show Calls Tryd.prog 66 #[.int .i64 k, .slice A 0 c] w _
    go_enter Tryd.func66, Tryd.ntmps66
    go_upto_region 1 with (fail)
    obtain ⟨g4, hg4⟩ : ∃ g4, g4 = w.heap.size := ⟨_, rfl⟩
    obtain ⟨W1, hW1⟩ : ∃ W1, W1 = w.alloc (.cells #[.int .u8 0, .int .u8 0, .int .u8 0, .int .u8 0, .int .u8 0, .int .u8 0, .int .u8 0, .int .u8 0, .int .u8 0, .int .u8 0, .int .u8 0, .int .u8 0, .int .u8 0, .int .u8 0, .int .u8 0, .int .u8 0, .int .u8 0, .int .u8 0, .int .u8 0, .int .u8 0, .int .u8 0, .int .u8 0, .int .u8 0, .int .u8 0, .int .u8 0, .int .u8 0, .int .u8 0, .int .u8 0, .int .u8 0, .int .u8 0, .int .u8 0, .int .u8 0] 25) := ⟨_, rfl⟩
    have H4 : Kp (Blk W1 g4 25 [.int .u8 0, .int .u8 0, .int .u8 0, .int .u8 0, .int .u8 0, .int .u8 0, .int .u8 0, .int .u8 0, .int .u8 0, .int .u8 0, .int .u8 0, .int .u8 0, .int .u8 0, .int .u8 0, .int .u8 0, .int .u8 0, .int .u8 0, .int .u8 0, .int .u8 0, .int .u8 0, .int .u8 0, .int .u8 0, .int .u8 0, .int .u8 0, .int .u8 0, .int .u8 0, .int .u8 0, .int .u8 0, .int .u8 0, .int .u8 0, .int .u8 0, .int .u8 0]) := ⟨by rw [hW1, hg4]; exact Blk.new w _ _⟩
    have HF1 : Kp (Fr (fun _ => False) w W1) := ⟨by rw [hW1]; exact (Fr.refl _ w).alloc _⟩
    have HGg4 : Kp (w.heap.size ≤ g4) := ⟨by omega⟩
    rw [← hg4, ← hW1]
    clear hg4 hW1
    have hi32 : (Tryd.prog.info? 25).map (·.size) = some 32 := by kernel_rfl
    have ZZ : Kp ((Tryd.prog.info? 25).map (·.size) = some ([.int .u8 0, .int .u8 0, .int .u8 0, .int .u8 0, .int .u8 0, .int .u8 0, .int .u8 0, .int .u8 0, .int .u8 0, .int .u8 0, .int .u8 0, .int .u8 0, .int .u8 0, .int .u8 0, .int .u8 0, .int .u8 0, .int .u8 0, .int .u8 0, .int .u8 0, .int .u8 0, .int .u8 0, .int .u8 0, .int .u8 0, .int .u8 0, .int .u8 0, .int .u8 0, .int .u8 0, .int .u8 0, .int .u8 0, .int .u8 0, .int .u8 0, .int .u8 0] : List Value).length) := ⟨hi32⟩
    clear hi32
    go_wp2_with fail
    refine (CE.out W1 HF1.out).mono ?_
    rintro e W2 ⟨rfl, hf⟩
    have HF2 := Kp.mk (HF1.out.trans hf (fun _ _ h => h))
    have H42 := Kp.mk (H4.out.fr hf (fun h => h))
    have ok4 := rowOk_blk H42.out ZZ.out
    clear hf
    go_wp2_with fail
    refine bodyPost_ret (results_cell_row rfl _ _ g4 25 _ (0, 0) _ rfl (setRow_heap _ g4 _ _ _ _ (show W2.heap[g4]? = _ from H42.out)) Tryd.underlying25 rfl (by rw [show (bytes M).toArray.size = 32 by simp [bytes, HML.out]]; kernel_rfl)) rfl ?_
    refine ⟨rfl, ?_⟩
    exact HF2.out.trans (S' := fun q => q = g4) ⟨rfl, rfl, rfl, by simp [World.setRow], fun q _ hq => setRow_other _ _ q _ hq⟩ (fun q hq he => by have := HGg4.out; omega)
  | succ N ih =>
    intro L A c w hN hL hX hb
    by_cases h0 : L.length ≤ N
    · exact ih L A c w h0 hL hX hb
    have hlen1 : L.length = N + 1 := by omega
    obtain ⟨b, off, hA, _, _, _⟩ := hX.at 0 (by omega)
    subst hA
    by_cases h1 : L.length = 1
    · obtain ⟨m1, m2⟩ := hX.mid 0 (by omega)
      have e : wholeL (strength k) L = L[0]'(by omega) := by
        cases L with
        | nil => simp at h1
        | cons x r =>
          have : r = [] := List.eq_nil_of_length_eq_zero (by simp at h1; simpa using h1)
          subst this
          exact wholeL_one _ x
      have hM : (L[0]'(by omega)).length = 32 := hX.1 _ (List.getElem_mem _)
      have HX := Kp.mk hX
      rw [e]
      have HLD : Kp (∀ W, Fr (fun _ => False) w W → midOk W 32 (.pointer (some ⟨b, off, none⟩)) = true ∧ midAt W 32 (.pointer (some ⟨b, off, none⟩)) = (bytes (L[0]'(by omega))).toArray) := ⟨fun W hf => by
        have h := (HX.out.fr hf).mid 0 (by omega)
        rw [Nat.zero_mul, Nat.add_zero] at h
        exact h⟩
      generalize L[0]'(by omega) = M at hM HLD ⊢
      rw [h1]
      have HML := Kp.mk hM
      have hMok := hashOk_bytes M hM
      clear hM hX hb hN hL ih h0 hlen1 h1 e m1 m2
      go_enter Tryd.func66, Tryd.ntmps66
      go_upto_region 1 with (fail)
      obtain ⟨g4, hg4⟩ : ∃ g4, g4 = w.heap.size := ⟨_, rfl⟩
      obtain ⟨W1, hW1⟩ : ∃ W1, W1 = w.alloc (.cells #[.int .u8 0, .int .u8 0, .int .u8 0, .int .u8 0, .int .u8 0, .int .u8 0, .int .u8 0, .int .u8 0, .int .u8 0, .int .u8 0, .int .u8 0, .int .u8 0, .int .u8 0, .int .u8 0, .int .u8 0, .int .u8 0, .int .u8 0, .int .u8 0, .int .u8 0, .int .u8 0, .int .u8 0, .int .u8 0, .int .u8 0, .int .u8 0, .int .u8 0, .int .u8 0, .int .u8 0, .int .u8 0, .int .u8 0, .int .u8 0, .int .u8 0, .int .u8 0] 25) := ⟨_, rfl⟩
      have H4 : Kp (Blk W1 g4 25 [.int .u8 0, .int .u8 0, .int .u8 0, .int .u8 0, .int .u8 0, .int .u8 0, .int .u8 0, .int .u8 0, .int .u8 0, .int .u8 0, .int .u8 0, .int .u8 0, .int .u8 0, .int .u8 0, .int .u8 0, .int .u8 0, .int .u8 0, .int .u8 0, .int .u8 0, .int .u8 0, .int .u8 0, .int .u8 0, .int .u8 0, .int .u8 0, .int .u8 0, .int .u8 0, .int .u8 0, .int .u8 0, .int .u8 0, .int .u8 0, .int .u8 0, .int .u8 0]) := ⟨by rw [hW1, hg4]; exact Blk.new w _ _⟩
      have HF1 : Kp (Fr (fun _ => False) w W1) := ⟨by rw [hW1]; exact (Fr.refl _ w).alloc _⟩
      have HGg4 : Kp (w.heap.size ≤ g4) := ⟨by omega⟩
      rw [← hg4, ← hW1]
      clear hg4 hW1
      have hi32 : (Tryd.prog.info? 25).map (·.size) = some 32 := by kernel_rfl
      have ZZ : Kp ((Tryd.prog.info? 25).map (·.size) = some ([.int .u8 0, .int .u8 0, .int .u8 0, .int .u8 0, .int .u8 0, .int .u8 0, .int .u8 0, .int .u8 0, .int .u8 0, .int .u8 0, .int .u8 0, .int .u8 0, .int .u8 0, .int .u8 0, .int .u8 0, .int .u8 0, .int .u8 0, .int .u8 0, .int .u8 0, .int .u8 0, .int .u8 0, .int .u8 0, .int .u8 0, .int .u8 0, .int .u8 0, .int .u8 0, .int .u8 0, .int .u8 0, .int .u8 0, .int .u8 0, .int .u8 0, .int .u8 0] : List Value).length) := ⟨hi32⟩
      clear hi32
      have ok4 := rowOk_blk H4.out ZZ.out
      obtain ⟨m1, m2⟩ := HLD.out W1 HF1.out
      go_wp2_with fail
      refine bodyPost_ret (results_cell_row rfl _ _ g4 25 _ (0, 0) _ rfl (setRow_heap _ g4 _ _ _ _ (show W1.heap[g4]? = _ from H4.out)) Tryd.underlying25 rfl (by rw [show (bytes M).toArray.size = 32 by simp [bytes, HML.out]]; kernel_rfl)) rfl ?_
      refine ⟨rfl, ?_⟩
      exact HF1.out.trans (S' := fun q => q = g4) ⟨rfl, rfl, rfl, by simp [World.setRow], fun q _ hq => setRow_other _ _ q _ hq⟩ (fun q hq he => by have := HGg4.out; omega)
    have CW : Kp (∀ (L' : List (List Int)) (A' : Option Addr) (c' : Nat) (W : World), L'.length ≤ N → Fr (fun _ => False) w W → HRow W (fun _ => False) A' c' L' → Calls Tryd.prog 66 #[.int .i64 k, .slice A' L'.length c'] W fun e w' => e = .returned (.agg (bytes (wholeL (strength k) L')).toArray) ∧ Fr (fun _ => False) W w') := ⟨fun L' A' c' W h hf hx => ih L' A' c' W h (hL.fr hf (fun _ h => h.elim)) hx (by omega)⟩
    have CN : Kp (∀ W l r, Fr (fun _ => False) w W → l.length = 32 → r.length = 32 → Calls Tryd.prog 15 #[.int .i64 k, .agg (bytes l).toArray, .agg (bytes r).toArray] W fun e w' => e = .returned (.agg (bytes (nodeL (strength k) l r)).toArray) ∧ Fr (fun _ => False) W w') := ⟨fun W l r hf hl hr => nodeHash_calls k l r hl hr W (hL.fr hf (fun _ h => h.elim))⟩
    have HX := Kp.mk hX
    have hcap := hX.2.1
    obtain ⟨len, hlen⟩ : ∃ len, len = L.length := ⟨_, rfl⟩
    have HLEN := Kp.mk hlen
    have hMl := wholeL_len (strength k) (strength_le k) L hX.1
    obtain ⟨M, hM⟩ : ∃ M, M = wholeL (strength k) L := ⟨_, rfl⟩
    rw [← hM] at hMl ⊢
    have HML := Kp.mk hMl
    have HM := Kp.mk hM
    rw [← hlen] at hcap hb h1 hlen1 ⊢
    have hlen2 : 2 ≤ len := by omega
    have HN := Kp.mk hlen1
    have HCAP := Kp.mk hcap
    have HBD := Kp.mk hb
    have hE0 : ((len : Int) == 0) = false := by rw [beq_eq_false_iff_ne]; omega
    have hE1 : ((len : Int) == 1) = false := by rw [beq_eq_false_iff_ne]; omega
    clear ih hN hL hX h0 hlen1 hlen hMl hM hcap h1 hb
    go_enter Tryd.func66, Tryd.ntmps66
    go_upto_region 1 with (fail)
    obtain ⟨g4, hg4⟩ : ∃ g4, g4 = w.heap.size := ⟨_, rfl⟩
    obtain ⟨W1, hW1⟩ : ∃ W1, W1 = w.alloc (.cells #[.int .u8 0, .int .u8 0, .int .u8 0, .int .u8 0, .int .u8 0, .int .u8 0, .int .u8 0, .int .u8 0, .int .u8 0, .int .u8 0, .int .u8 0, .int .u8 0, .int .u8 0, .int .u8 0, .int .u8 0, .int .u8 0, .int .u8 0, .int .u8 0, .int .u8 0, .int .u8 0, .int .u8 0, .int .u8 0, .int .u8 0, .int .u8 0, .int .u8 0, .int .u8 0, .int .u8 0, .int .u8 0, .int .u8 0, .int .u8 0, .int .u8 0, .int .u8 0] 25) := ⟨_, rfl⟩
    have H4 : Kp (Blk W1 g4 25 [.int .u8 0, .int .u8 0, .int .u8 0, .int .u8 0, .int .u8 0, .int .u8 0, .int .u8 0, .int .u8 0, .int .u8 0, .int .u8 0, .int .u8 0, .int .u8 0, .int .u8 0, .int .u8 0, .int .u8 0, .int .u8 0, .int .u8 0, .int .u8 0, .int .u8 0, .int .u8 0, .int .u8 0, .int .u8 0, .int .u8 0, .int .u8 0, .int .u8 0, .int .u8 0, .int .u8 0, .int .u8 0, .int .u8 0, .int .u8 0, .int .u8 0, .int .u8 0]) := ⟨by rw [hW1, hg4]; exact Blk.new w _ _⟩
    have HF1 : Kp (Fr (fun _ => False) w W1) := ⟨by rw [hW1]; exact (Fr.refl _ w).alloc _⟩
    have HGg4 : Kp (w.heap.size ≤ g4) := ⟨by omega⟩
    rw [← hg4, ← hW1]
    clear hg4 hW1
    have hi32 : (Tryd.prog.info? 25).map (·.size) = some 32 := by kernel_rfl
    have ZZ : Kp ((Tryd.prog.info? 25).map (·.size) = some ([.int .u8 0, .int .u8 0, .int .u8 0, .int .u8 0, .int .u8 0, .int .u8 0, .int .u8 0, .int .u8 0, .int .u8 0, .int .u8 0, .int .u8 0, .int .u8 0, .int .u8 0, .int .u8 0, .int .u8 0, .int .u8 0, .int .u8 0, .int .u8 0, .int .u8 0, .int .u8 0, .int .u8 0, .int .u8 0, .int .u8 0, .int .u8 0, .int .u8 0, .int .u8 0, .int .u8 0, .int .u8 0, .int .u8 0, .int .u8 0, .int .u8 0, .int .u8 0] : List Value).length) := ⟨hi32⟩
    clear hi32
    go_upto_region 6 with (fail)
    go_loop [5] (fun a => ∃ j : Nat, a = .int .i64 ((2 ^ j : Nat) : Int) ∧ 2 ^ j < len) (fun a => len - (intOf a).toNat)
    case atStart => exact ⟨0, rfl, by omega⟩
    case round =>
    obtain ⟨j, rfl, hj⟩ := hrel
    have hp := pow_pos j
    obtain ⟨q, hq⟩ : ∃ q, q = 2 ^ j := ⟨_, rfl⟩
    rw [← hq] at hj hp ⊢
    have HQ := Kp.mk hq
    have hbd := HBD.out
    clear hq
    by_cases hlt : 2 * q < len
    · have hlti : (2 : Int) * (q : Int) < (len : Int) := by omega
      have HDB : Kp ((2 : Int) * (q : Int) = ((2 ^ (j + 1) : Nat) : Int)) := ⟨by rw [Nat.pow_succ, ← HQ.out]; omega⟩
      go_wp2_with fail
      refine ⟨⟨j + 1, by rw [← HDB.out], by rw [Nat.pow_succ, ← HQ.out]; omega⟩, ?_⟩
      simp only [intOf]
      omega
    have hlti : ¬ (2 : Int) * (q : Int) < (len : Int) := by omega
    go_upto_region 8 with (fail)
    have hqc : q ≤ c := by have := HCAP.out; omega
    have hq1 : (q : Int) ≤ (len : Int) := by omega
    have hq2 : (q : Int) ≤ (c : Int) := by omega
    have hq3 : q ≤ len := by omega
    have hq4 : ¬ c = q := by have := HCAP.out; omega
    have hl1 : (L.take q).length = q := by rw [List.length_take, ← HLEN.out]; omega
    have hl2 : (L.drop q).length = len - q := by rw [List.length_drop, ← HLEN.out]
    have CW1 : Kp (∀ W, Fr (fun _ => False) W1 W → Calls Tryd.prog 66 #[.int .i64 k, .slice (some ⟨b, off, none⟩) q c] W fun e w' => e = .returned (.agg (bytes (wholeL (strength k) (L.take q))).toArray) ∧ Fr (fun _ => False) W w') := ⟨fun W hf => by
      have r := CW.out (L.take q) (some ⟨b, off, none⟩) c W (by rw [hl1]; have := HN.out; omega) (HF1.out.trans hf (fun _ _ h => h)) ((HX.out.fr (HF1.out.trans hf (fun _ _ h => h))).take q)
      rw [hl1] at r
      exact r⟩
    have CW2 : Kp (∀ W, Fr (fun _ => False) W1 W → Calls Tryd.prog 66 #[.int .i64 k, .slice (some ⟨b, off + q * 32, none⟩) (len - q) (c - q)] W fun e w' => e = .returned (.agg (bytes (wholeL (strength k) (L.drop q))).toArray) ∧ Fr (fun _ => False) W w') := ⟨fun W hf => by
      have r := CW.out (L.drop q) (some ⟨b, off + q * 32, none⟩) (c - q) W (by rw [hl2]; have := HN.out; omega) (HF1.out.trans hf (fun _ _ h => h)) ((HX.out.fr (HF1.out.trans hf (fun _ _ h => h))).drop q (c - q) (by rw [← HLEN.out]; have := HCAP.out; omega) (List.ne_nil_of_length_pos (by rw [← HLEN.out]; omega)))
      rw [hl2] at r
      exact r⟩
    have hy := wholeL_len (strength k) (strength_le k) (L.take q) (fun x hx => HX.out.1 x (List.mem_of_mem_take hx))
    have hz := wholeL_len (strength k) (strength_le k) (L.drop q) (fun x hx => HX.out.1 x (List.mem_of_mem_drop hx))
    have hMe : M = nodeL (strength k) (wholeL (strength k) (L.take q)) (wholeL (strength k) (L.drop q)) := by
      rw [HM.out, HQ.out]
      exact whole_cut _ _ L j (by rw [← HQ.out, ← HLEN.out]; exact hj) (by rw [← HQ.out, ← HLEN.out]; omega)
    generalize wholeL (strength k) (L.take q) = y at CW1 hy hMe
    generalize wholeL (strength k) (L.drop q) = z at CW2 hz hMe
    have CN1 : Kp (∀ W, Fr (fun _ => False) W1 W → Calls Tryd.prog 15 #[.int .i64 k, .agg (bytes y).toArray, .agg (bytes z).toArray] W fun e w' => e = .returned (.agg (bytes M).toArray) ∧ Fr (fun _ => False) W w') := ⟨fun W hf => by rw [hMe]; exact CN.out W y z (HF1.out.trans hf (fun _ _ h => h)) hy hz⟩
    clear hy hz hMe hl1 hl2 CW CN
    refine start_ (n := 13) (S := fun w' => True) (ds := [12]) #[false, false, false, false, false, false, false, false, false, false, false, false, false] (by kernel_rfl) rfl rfl trivial (fun hHeld => ?_)
    refine pure_ (i := 0) (N := some 24) (v := ?_) (a' := ?_) #[true, false, false, false, false, false, false, false, false, false, false, false, false] rfl rfl (by kernel_rfl) (fun _ _ _ h => h) (Or.inl ⟨by rfl, ?_⟩) ?_ ?_
    rotate_left
    · intro w'
      go_simp
      with_reducible rfl
    rotate_left
    · simp only [Act.put, List.setIfInBounds_toArray, List.set_cons_zero, List.set_cons_succ]
      rfl
    refine pure_ (i := 1) (N := some 25) (v := ?_) (a' := ?_) #[true, true, false, false, false, false, false, false, false, false, false, false, false] rfl rfl (by kernel_rfl) (fun _ _ _ h => h) (Or.inl ⟨by rfl, ?_⟩) ?_ ?_
    rotate_left
    · intro w'
      go_simp
      with_reducible rfl
    rotate_left
    · simp only [Act.put, List.setIfInBounds_toArray, List.set_cons_zero, List.set_cons_succ]
      rfl
    refine pure_ (i := 2) (N := some 26) (v := ?_) (a' := ?_) #[true, true, true, false, false, false, false, false, false, false, false, false, false] rfl rfl (by kernel_rfl) (fun _ _ _ h => h) (Or.inl ⟨by rfl, ?_⟩) ?_ ?_
    rotate_left
    · intro w'
      go_simp
      with_reducible rfl
    rotate_left
    · simp only [Act.put, List.setIfInBounds_toArray, List.set_cons_zero, List.set_cons_succ]
      rfl
    refine pure_ (i := 3) (N := some 27) (v := ?_) (a' := ?_) #[true, true, true, true, false, false, false, false, false, false, false, false, false] rfl rfl (by kernel_rfl) (fun _ _ _ h => h) (Or.inl ⟨by rfl, ?_⟩) ?_ ?_
    rotate_left
    · intro w'
      go_simp
      with_reducible rfl
    rotate_left
    · simp only [Act.put, List.setIfInBounds_toArray, List.set_cons_zero, List.set_cons_succ]
      rfl
    refine pure_ (i := 4) (N := some 28) (v := ?_) (a' := ?_) #[true, true, true, true, true, false, false, false, false, false, false, false, false] rfl rfl (by kernel_rfl) (fun _ _ _ h => h) (Or.inl ⟨by rfl, ?_⟩) ?_ ?_
    rotate_left
    · intro w'
      go_simp
      with_reducible rfl
    rotate_left
    · simp only [Act.put, List.setIfInBounds_toArray, List.set_cons_zero, List.set_cons_succ]
      rfl
    refine pure_ (i := 6) (N := some 30) (v := ?_) (a' := ?_) #[true, true, true, true, true, false, true, false, false, false, false, false, false] rfl rfl (by kernel_rfl) (fun _ _ _ h => h) (Or.inl ⟨by rfl, ?_⟩) ?_ ?_
    rotate_left
    · intro w'
      go_simp
      with_reducible rfl
    rotate_left
    · simp only [Act.put, List.setIfInBounds_toArray, List.set_cons_zero, List.set_cons_succ]
      rfl
    refine pure_ (i := 7) (N := some 31) (v := ?_) (a' := ?_) #[true, true, true, true, true, false, true, true, false, false, false, false, false] rfl rfl (by kernel_rfl) (fun _ _ _ h => h) (Or.inl ⟨by rfl, ?_⟩) ?_ ?_
    rotate_left
    · intro w'
      go_simp
      with_reducible rfl
    rotate_left
    · simp only [Act.put, List.setIfInBounds_toArray, List.set_cons_zero, List.set_cons_succ]
      rfl
    refine pure_ (i := 8) (N := some 32) (v := ?_) (a' := ?_) #[true, true, true, true, true, false, true, true, true, false, false, false, false] rfl rfl (by kernel_rfl) (fun _ _ _ h => h) (Or.inl ⟨by rfl, ?_⟩) ?_ ?_
    rotate_left
    · intro w'
      go_simp
      with_reducible rfl
    rotate_left
    · simp only [Act.put, List.setIfInBounds_toArray, List.set_cons_zero, List.set_cons_succ]
      rfl
    refine pure_ (i := 9) (N := some 33) (v := ?_) (a' := ?_) #[true, true, true, true, true, false, true, true, true, true, false, false, false] rfl rfl (by kernel_rfl) (fun _ _ _ h => h) (Or.inl ⟨by rfl, ?_⟩) ?_ ?_
    rotate_left
    · intro w'
      go_simp
      with_reducible rfl
    rotate_left
    · simp only [Act.put, List.setIfInBounds_toArray, List.set_cons_zero, List.set_cons_succ]
      rfl
    refine one_ (i := 5) (N := some 29) #[true, true, true, true, true, true, true, true, true, true, false, false, false] rfl rfl (by kernel_rfl) (by decide) (fun K hK => ?_)
    refine goes_ Tryd.func66 (by kernel_rfl) rfl #[.int .i64 k, .slice (some ⟨b, off, none⟩) q c] (by rfl) rfl rfl (by simp only [List.map_toArray, List.map_cons, List.map_nil]; rfl) ?_
    with_reducible refine (CW1.out _ ((Fr.refl (fun _ => False) W1).drew)).mono ?_
    rintro e a1 ⟨rfl, hq⟩
    refine ⟨_, rfl, ?_⟩
    have Fa1 : Kp (Fr (fun _ => False) W1 a1) := ⟨((Fr.refl (fun _ => False) W1).drew).trans hq (fun _ _ h => h)⟩
    clear hq
    refine hK.out _ _ trivial (fun hHeld => ?_)
    clear hK K
    refine norm_ (a' := ?_) ?_ ?_
    rotate_left
    · show Act.put _ (some 29) _ = _
      simp only [Act.put, List.setIfInBounds_toArray, List.set_cons_zero, List.set_cons_succ]
      rfl
    refine one_ (i := 10) (N := some 34) #[true, true, true, true, true, true, true, true, true, true, true, false, false] rfl rfl (by kernel_rfl) (by decide) (fun K hK => ?_)
    refine goes_ Tryd.func66 (by kernel_rfl) rfl #[.int .i64 k, .slice (some ⟨b, off + q * 32, none⟩) (len - q) (c - q)] (by rfl) rfl rfl (by simp only [List.map_toArray, List.map_cons, List.map_nil]; rfl) ?_
    with_reducible refine (CW2.out _ Fa1.out).mono ?_
    rintro e a2 ⟨rfl, hq⟩
    refine ⟨_, rfl, ?_⟩
    have Fa2 : Kp (Fr (fun _ => False) W1 a2) := ⟨Fa1.out.trans hq (fun _ _ h => h)⟩
    clear hq
    refine hK.out _ _ trivial (fun hHeld => ?_)
    clear hK K
    refine norm_ (a' := ?_) ?_ ?_
    rotate_left
    · show Act.put _ (some 34) _ = _
      simp only [Act.put, List.setIfInBounds_toArray, List.set_cons_zero, List.set_cons_succ]
      rfl
    refine one_ (i := 11) (N := some 35) #[true, true, true, true, true, true, true, true, true, true, true, true, false] rfl rfl (by kernel_rfl) (by decide) (fun K hK => ?_)
    refine goes_ Tryd.func15 (by kernel_rfl) rfl #[.int .i64 k, .agg (bytes y).toArray, .agg (bytes z).toArray] (by rfl) rfl rfl (by simp only [List.map_toArray, List.map_cons, List.map_nil]; rfl) ?_
    with_reducible refine (CN1.out _ Fa2.out).mono ?_
    rintro e a3 ⟨rfl, hq⟩
    refine ⟨_, rfl, ?_⟩
    have Fa3 : Kp (Fr (fun _ => False) W1 a3) := ⟨Fa2.out.trans hq (fun _ _ h => h)⟩
    clear hq
    refine hK.out _ _ trivial (fun hHeld => ?_)
    clear hK K
    refine norm_ (a' := ?_) ?_ ?_
    rotate_left
    · show Act.put _ (some 35) _ = _
      simp only [Act.put, List.setIfInBounds_toArray, List.set_cons_zero, List.set_cons_succ]
      rfl
    refine last_ (i := 12) (N := none) #[true, true, true, true, true, true, true, true, true, true, true, true, true] rfl rfl (by kernel_rfl) (by decide) (fun K hK => ?_)
    refine skip_ (by rfl) rfl (st_hash _ _ (Operand.tmp 4) (Operand.tmp 35) _ g4 _ _ M rfl rfl rfl (H4.out.fr Fa3.out (fun h => h)) rfl HML.out) ?_
    refine hK.out _ _ ?_
    clear hK K
    refine done_ (by kernel_rfl) ?_
    go_wp2_with fail
    refine bodyPost_ret (results_cell_row rfl _ _ g4 25 _ (0, 0) _ rfl (setRow_heap _ g4 _ _ _ _ (show a3.heap[g4]? = _ from (H4.out.fr Fa3.out (fun h => h)))) Tryd.underlying25 rfl (by rw [show (bytes M).toArray.size = 32 by simp [bytes, HML.out]]; kernel_rfl)) rfl ?_
    refine ⟨rfl, ?_⟩
    exact (HF1.out.trans Fa3.out (fun _ _ h => h)).trans (S' := fun q => q = g4) ⟨rfl, rfl, rfl, by simp [World.setRow], fun q _ hq => setRow_other _ _ q _ hq⟩ (fun q hq he => by have := HGg4.out; omega)
set_option maxHeartbeats 4000000 in
set_option maxRecDepth 100000 in
theorem grown_calls (k : Int) (B g : Nat) (ls : List (List Int)) (F : Nat → Prop) (w : World) (hT : Tr w B g (strength k) ls F) (hL : Laid w) (A : Option Addr) (c : Nat) (hX : HRow w (fun _ => False) A c ls) :
    Calls Tryd.prog 42 #[.pointer (some ⟨g, 0, none⟩), .int .i64 k, .slice A ls.length c] w fun e w' => e = .returned (.bool true) ∧ Fr (fun _ => False) w w' := by
  have CS := Kp.mk (Size_calls B g (strength k) ls F w hT)
  have hl6 : ls.length ≤ 65536 := by obtain ⟨_, _, _, _, _, _, _, h, _⟩ := hT; exact h
  have hT2 : ∀ W, Fr (fun _ => False) w W → Tr W B g (strength k) ls F := fun W hf => hT.keep hf (fun _ _ h => h) (fun _ _ _ _ _ => ⟨fun h => h, fun h => h⟩)
  have CR : Kp (∀ W (n : Nat), Fr (fun _ => False) w W → n ≤ ls.length → Calls Tryd.prog 51 #[.pointer (some ⟨g, 0, none⟩), .int .i64 (n : Int)] W fun e w' => e = .returned (.tuple #[.agg (bytes (wholeL (strength k) (ls.take n))).toArray, .int .i64 0]) ∧ Fr (fun _ => False) W w') := ⟨fun W n hf hn => RootM_calls B g (strength k) ls F W (hT2 W hf) (hL.fr hf (fun _ h => h.elim)) n hn⟩
  have CW0 : Kp (∀ W (n : Nat), Fr (fun _ => False) w W → n ≤ ls.length → Calls Tryd.prog 66 #[.int .i64 k, .slice A n c] W fun e w' => e = .returned (.agg (bytes (wholeL (strength k) (ls.take n))).toArray) ∧ Fr (fun _ => False) W w') := ⟨fun W n hf hn => by
    have hl : (ls.take n).length = n := by rw [List.length_take]; omega
    have q := whole_calls k n (ls.take n) A c W (by rw [hl]; exact Nat.le_refl _) (hL.fr hf (fun _ h => h.elim)) ((hX.fr hf).take n) (by rw [hl]; omega)
    rw [hl] at q
    exact q⟩
  have HM32 : Kp (∀ n, (wholeL (strength k) (ls.take n)).length = 32) := ⟨fun n => wholeL_len _ (strength_le k) _ (fun x hx => hX.1 x (List.mem_of_mem_take hx))⟩
  have hcap := hX.2.1
  obtain ⟨len, hlen⟩ : ∃ len, len = ls.length := ⟨_, rfl⟩
  rw [← hlen] at CS CR CW0 hcap hl6 ⊢
  clear hlen hT hT2 hL hX
  go_enter Tryd.func42, Tryd.ntmps42
  go_wp2_with fail
  refine CS.out.mono ?_
  rintro e W1 ⟨rfl, hf⟩
  have HF1 := Kp.mk hf
  clear hf CS
  go_upto_region 4 with (fail)
  go_loopw [7] (fun a wr => ∃ i : Nat, a = .int .i64 (i : Int) ∧ i ≤ len + 1 ∧ Kp (Fr (fun _ => False) w wr)) (fun a _ => len + 1 - (intOf a).toNat)
  case atStart => exact ⟨0, rfl, Nat.zero_le _, HF1⟩
  case round =>
    clear HF1
    obtain ⟨i, rfl, hi, HF⟩ := hrel
    by_cases hlt : i ≤ len
    · have hlti : (i : Int) ≤ (len : Int) := by omega
      have CR1 := Kp.mk (CR.out wr i HF.out hlt)
      have CW := Kp.mk (fun W (hf : Fr (fun _ => False) w W) => CW0.out W i hf hlt)
      have hm := HM32.out i
      generalize wholeL (strength k) (ls.take i) = M at CR1 CW hm
      have HML := Kp.mk hm
      have hic : i ≤ c := by omega
      have hici : (i : Int) ≤ (c : Int) := by omega
      have sE : ∀ W, (Op.equalIn 10000 25 (.agg (bytes M).toArray) (.agg (bytes M).toArray)).run Tryd.prog W = .ok true W := fun W => by
        have h := eq32 M M HML.out HML.out W
        rw [decide_eq_true rfl] at h
        exact h
      clear hm
      go_wp2_with fail
      refine CR1.out.mono ?_
      rintro e W2 ⟨rfl, hf⟩
      have HF2 := Kp.mk (HF.out.trans hf (fun _ _ h => h))
      have HNEW : Kp (Blk (W2.alloc (.cells #[.int .u8 0, .int .u8 0, .int .u8 0, .int .u8 0, .int .u8 0, .int .u8 0, .int .u8 0, .int .u8 0, .int .u8 0, .int .u8 0, .int .u8 0, .int .u8 0, .int .u8 0, .int .u8 0, .int .u8 0, .int .u8 0, .int .u8 0, .int .u8 0, .int .u8 0, .int .u8 0, .int .u8 0, .int .u8 0, .int .u8 0, .int .u8 0, .int .u8 0, .int .u8 0, .int .u8 0, .int .u8 0, .int .u8 0, .int .u8 0, .int .u8 0, .int .u8 0] 25)) W2.heap.size 25 [.int .u8 0, .int .u8 0, .int .u8 0, .int .u8 0, .int .u8 0, .int .u8 0, .int .u8 0, .int .u8 0, .int .u8 0, .int .u8 0, .int .u8 0, .int .u8 0, .int .u8 0, .int .u8 0, .int .u8 0, .int .u8 0, .int .u8 0, .int .u8 0, .int .u8 0, .int .u8 0, .int .u8 0, .int .u8 0, .int .u8 0, .int .u8 0, .int .u8 0, .int .u8 0, .int .u8 0, .int .u8 0, .int .u8 0, .int .u8 0, .int .u8 0, .int .u8 0]) := ⟨Blk.new W2 _ _⟩
      clear hf CR1 HF
      go_upto_region 7 with (refine wpList_storeH rfl rfl (Operand.tmp 8) (Operand.tmp 25) rfl W2.heap.size _ _ M rfl rfl HNEW.out rfl HML.out ?_)
      obtain ⟨g8, hg8⟩ : ∃ g8, g8 = W2.heap.size := ⟨_, rfl⟩
      obtain ⟨W4, hW4⟩ : ∃ W4, W4 = (W2.alloc (.cells #[.int .u8 0, .int .u8 0, .int .u8 0, .int .u8 0, .int .u8 0, .int .u8 0, .int .u8 0, .int .u8 0, .int .u8 0, .int .u8 0, .int .u8 0, .int .u8 0, .int .u8 0, .int .u8 0, .int .u8 0, .int .u8 0, .int .u8 0, .int .u8 0, .int .u8 0, .int .u8 0, .int .u8 0, .int .u8 0, .int .u8 0, .int .u8 0, .int .u8 0, .int .u8 0, .int .u8 0, .int .u8 0, .int .u8 0, .int .u8 0, .int .u8 0, .int .u8 0] 25)).setRow W2.heap.size (bytes M).toArray := ⟨_, rfl⟩
      have hfr := fr_row (Fr.refl (fun _ => False) W2) (.cells #[.int .u8 0, .int .u8 0, .int .u8 0, .int .u8 0, .int .u8 0, .int .u8 0, .int .u8 0, .int .u8 0, .int .u8 0, .int .u8 0, .int .u8 0, .int .u8 0, .int .u8 0, .int .u8 0, .int .u8 0, .int .u8 0, .int .u8 0, .int .u8 0, .int .u8 0, .int .u8 0, .int .u8 0, .int .u8 0, .int .u8 0, .int .u8 0, .int .u8 0, .int .u8 0, .int .u8 0, .int .u8 0, .int .u8 0, .int .u8 0, .int .u8 0, .int .u8 0] 25) (bytes M).toArray
      rw [← hW4] at hfr
      have H84 : Kp (Blk W4 g8 25 (bytes M)) := ⟨by rw [hW4, hg8]; exact blk_row W2 _ _ _⟩
      have HF4 := Kp.mk (HF2.out.trans hfr (fun _ _ h => h))
      have CW := Kp.mk (fun W (hf : Fr (fun _ => False) W4 W) => CW.out W (HF4.out.trans hf (fun _ _ h => h)))
      rw [← hW4, ← hg8]
      clear hW4 hg8 hfr HNEW HF2
      refine start_ (n := 11) (S := fun w' => Lds w' 25 (.pointer (some ⟨g8, 0, none⟩)) (.agg (bytes M).toArray)) (ds := []) #[false, false, false, false, false, false, false, false, false, false, false] (by kernel_rfl) rfl rfl (lds_blk H84.out.drew HML.out) (fun hHeld => ?_)
      refine pure_ (i := 0) (N := some 27) (v := ?_) (a' := ?_) #[true, false, false, false, false, false, false, false, false, false, false] rfl rfl (by kernel_rfl) (fun _ _ _ h => h) (Or.inl ⟨by rfl, ?_⟩) ?_ ?_
      rotate_left
      · intro w'
        go_simp
        with_reducible rfl
      rotate_left
      · simp only [Act.put, List.setIfInBounds_toArray, List.set_cons_zero, List.set_cons_succ]
        rfl
      refine pure_ (i := 1) (N := some 28) (v := ?_) (a' := ?_) #[true, true, false, false, false, false, false, false, false, false, false] rfl rfl (by kernel_rfl) (fun _ _ _ h => h) (Or.inl ⟨by rfl, ?_⟩) ?_ ?_
      rotate_left
      · intro w'
        go_simp
        with_reducible rfl
      rotate_left
      · simp only [Act.put, List.setIfInBounds_toArray, List.set_cons_zero, List.set_cons_succ]
        rfl
      refine pure_ (i := 2) (N := some 29) (v := ?_) (a' := ?_) #[true, true, true, false, false, false, false, false, false, false, false] rfl rfl (by kernel_rfl) (fun _ _ _ h => h) (Or.inl ⟨by rfl, ?_⟩) ?_ ?_
      rotate_left
      · intro w'
        go_simp
        with_reducible rfl
      rotate_left
      · simp only [Act.put, List.setIfInBounds_toArray, List.set_cons_zero, List.set_cons_succ]
        rfl
      refine pure_ (i := 4) (N := some 31) (v := ?_) (a' := ?_) #[true, true, true, false, true, false, false, false, false, false, false] rfl rfl (by kernel_rfl) (fun _ _ _ h => h) (Or.inl ⟨by rfl, ?_⟩) ?_ ?_
      rotate_left
      · intro w'
        go_simp
        with_reducible rfl
      rotate_left
      · simp only [Act.put, List.setIfInBounds_toArray, List.set_cons_zero, List.set_cons_succ]
        rfl
      refine pure_ (i := 5) (N := some 32) (v := ?_) (a' := ?_) #[true, true, true, false, true, true, false, false, false, false, false] rfl rfl (by kernel_rfl) (fun _ _ _ h => h) (Or.inl ⟨by rfl, ?_⟩) ?_ ?_
      rotate_left
      · intro w'
        go_simp
        with_reducible rfl
      rotate_left
      · simp only [Act.put, List.setIfInBounds_toArray, List.set_cons_zero, List.set_cons_succ]
        rfl
      refine pure_ (i := 6) (N := some 33) (v := ?_) (a' := ?_) #[true, true, true, false, true, true, true, false, false, false, false] rfl rfl (by kernel_rfl) (fun _ _ _ h => h) (Or.inl ⟨by rfl, ?_⟩) ?_ ?_
      rotate_left
      · intro w'
        go_simp
        with_reducible rfl
      rotate_left
      · simp only [Act.put, List.setIfInBounds_toArray, List.set_cons_zero, List.set_cons_succ]
        rfl
      refine pure_ (i := 7) (N := some 34) (v := ?_) (a' := ?_) #[true, true, true, false, true, true, true, true, false, false, false] rfl rfl (by kernel_rfl) (fun _ _ _ h => h) (Or.inl ⟨by rfl, ?_⟩) ?_ ?_
      rotate_left
      · intro w'
        go_simp
        with_reducible rfl
      rotate_left
      · simp only [Act.put, List.setIfInBounds_toArray, List.set_cons_zero, List.set_cons_succ]
        rfl
      refine take_ (i := 3) (N := some 30) (v := ?_) (a' := ?_) #[true, true, true, true, true, true, true, true, false, false, false] rfl rfl (by kernel_rfl) (fun _ _ _ h => h) (Or.inl ⟨by rfl, ?_⟩) hHeld ?_ ?_
      rotate_left
      · intro w' s0
        refine Lds.run s0 (x := ?_) ?_ ?_
        · exact (Operand.tmp 8)
        · rfl
        · rfl
      rotate_left
      · simp only [Act.put, List.setIfInBounds_toArray, List.set_cons_zero, List.set_cons_succ]
        rfl
      refine one_ (i := 8) (N := some 35) #[true, true, true, true, true, true, true, true, true, false, false] rfl rfl (by kernel_rfl) (by decide) (fun K hK => ?_)
      refine goes_ Tryd.func66 (by kernel_rfl) rfl #[.int .i64 k, .slice A i c] (by rfl) rfl rfl (by simp only [List.map_toArray, List.map_cons, List.map_nil]; rfl) ?_
      with_reducible refine (CW.out _ ((Fr.refl (fun _ => False) W4).drew)).mono ?_
      rintro e a1 ⟨rfl, hq⟩
      refine ⟨_, rfl, ?_⟩
      have Fa1 : Kp (Fr (fun _ => False) W4 a1) := ⟨((Fr.refl (fun _ => False) W4).drew).trans hq (fun _ _ h => h)⟩
      clear hq
      refine hK.out _ _ (lds_blk (H84.out.fr Fa1.out (fun h => h)) HML.out) (fun hHeld => ?_)
      clear hK K
      refine norm_ (a' := ?_) ?_ ?_
      rotate_left
      · show Act.put _ (some 35) _ = _
        simp only [Act.put, List.setIfInBounds_toArray, List.set_cons_zero, List.set_cons_succ]
        rfl
      refine pure_ (i := 9) (N := some 36) (v := ?_) (a' := ?_) #[true, true, true, true, true, true, true, true, true, true, false] rfl rfl (by kernel_rfl) (fun _ _ _ h => h) (Or.inl ⟨by rfl, ?_⟩) ?_ ?_
      rotate_left
      · intro w'
        go_simp
        with_reducible rfl
      rotate_left
      · simp only [Act.put, List.setIfInBounds_toArray, List.set_cons_zero, List.set_cons_succ]
        rfl
      refine pure_ (i := 10) (N := some 37) (v := ?_) (a' := ?_) #[true, true, true, true, true, true, true, true, true, true, true] rfl rfl (by kernel_rfl) (fun _ _ _ h => h) (Or.inl ⟨by rfl, ?_⟩) ?_ ?_
      rotate_left
      · intro w'
        go_simp
        with_reducible rfl
      rotate_left
      · simp only [Act.put, List.setIfInBounds_toArray, List.set_cons_zero, List.set_cons_succ]
        rfl
      refine done_ (by kernel_rfl) ?_
      have HF5 := Kp.mk (HF4.out.trans Fa1.out (fun _ _ h => h))
      clear CW Fa1 HF4 H84
      go_wp2_with fail
      refine ⟨⟨i + 1, by go_num, by omega, HF5⟩, ?_⟩
      simp only [intOf]
      omega
    · have hlti : ¬ (i : Int) ≤ (len : Int) := by omega
      go_wp2_with fail
      go_ret
      exact ⟨rfl, HF.out⟩
end Go.Proofs.YtjbhaopocabfaaaDoor.Sha
