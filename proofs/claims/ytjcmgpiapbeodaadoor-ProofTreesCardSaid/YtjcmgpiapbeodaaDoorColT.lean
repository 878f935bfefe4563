/-
  CollideTrees.
-/
import Derived.Test.YtjcmgpiapbeodaaDoorCTree2
set_option linter.unusedSimpArgs false
set_option linter.unusedVariables false
namespace Go.Proofs.YtjcmgpiapbeodaaDoor.Sha
open Go.Proofs.YtjcmgpiapbeodaaDoor.Pf Go.Proofs.YtjcmgpiapbeodaaDoor.Len Go.Proofs.YtjcmgpiapbeodaaDoor.PProofTakes
open Go.RowKit Go.Proofs.YtjcmgpiapbeodaaDoor.Mem Go.Proofs.YtjcmgpiapbeodaaDoorW.PrintWords Go.Proofs.YtjcmgpiapbeodaaDoorW.PrintLast Go.Proofs.YtjcmgpiapbeodaaDoor.Pl Go.Proofs.YtjcmgpiapbeodaaDoor.Wk
attribute [local go_sem ↓] Go.wp_at_zero Go.wp_at_succ wp_load_hash wp_store_hash wp_load_mid23 wp_load_mid25 wp_store_mid25 wp_build_hash
attribute [local go_sem] rowAt_drew rowOk_drew midOk_drew midAt_drew rowBlock rowCells rowOff midFree_drew
theorem wp_load_pairT (W : World) (a : Act) (K : Act → World → Prop) (Q : Exit → Act → World → Prop) (x : Operand) (d : Tmp) (ty : TypeId) (pos : String) (af) (gd)
    (hx : midOk W 2 (a.eval x) = true) :
    Oper.wp Tryd.prog { dst := some d, op := .load 36 x, type := ty, pos := pos, after := af, guard := gd } a W K Q = K (a.put (some d) (.agg (midAt W 2 (a.eval x)))) W := by
  obtain ⟨b, o, cs, t, fr, hv, hb, hz⟩ : ∃ b o cs t fr, a.eval x = .pointer (some ⟨b, o, none⟩) ∧ W.heap[b]? = some (.cells cs t fr) ∧ o + 2 ≤ cs.size := by
    unfold midOk at hx
    split at hx
    · rename_i b o hv
      split at hx
      · rename_i cs t fr hb
        exact ⟨b, o, cs, t, fr, hv, hb, of_decide_eq_true hx⟩
      · cases hx
    · cases hx
  have hi : (Tryd.prog.info? 36).map (·.size) = some 2 := by kernel_rfl
  have h := run_loadAt_mid (P := Tryd.prog) W b o 36 (cs.extract o (o + 2)).toList _ (World.rangeAt_of_block hb o 2) Tryd.underlying36 rfl (by rw [hi, Array.length_toList, Array.size_extract, show min (o + 2) cs.size - o = 2 by omega])
  have e : (execOp a.eval { dst := some d, op := .load 36 x, type := ty, pos := pos, after := af, guard := gd }).run Tryd.prog W = .ok (.value (.agg (cs.extract o (o + 2)))) W := by
    unfold execOp
    simp only [hv, Sem.run_bind, h, Result.andThen_ok, Sem.run_pure, Array.toArray_toList]
  have hra : midAt W 2 (a.eval x) = cs.extract o (o + 2) := by rw [hv]; simp only [midAt, hb]
  unfold Oper.wp
  rw [e, hra]
  rfl
theorem mid_pairT {w : World} {b : Nat} {x y : Value} (h : Blk w b 36 [x, y]) : midOk w 2 (.pointer (some ⟨b, 0, none⟩)) = true ∧ midAt w 2 (.pointer (some ⟨b, 0, none⟩)) = #[x, y] := by
  refine ⟨midOk_blk (o := 0) (n := 2) h (by simp), ?_⟩
  have h2 := midAt_blk (o := 0) (n := 2) h
  rwa [List.drop_zero, List.take_of_length_le (by simp)] at h2
attribute [local go_sem ↓] wp_load_pairT
theorem pairD_joins {f : List Int → List Int → List Int} {x y : Nd} {w : List Pf.St} {r : List Int × List Int} (h : pairD f x y w = some r) : ∃ xl xr yl yr t w', x = .join xl xr ∧ y = .join yl yr ∧ w = t :: w' := by
  cases w with
  | nil => simp [pairD] at h
  | cons t w' =>
    cases x with
    | giv _ => simp [pairD] at h
    | join xl xr =>
      cases y with
      | giv _ => simp [pairD] at h
      | join yl yr => exact ⟨xl, xr, yl, yr, t, w', rfl, rfl, rfl⟩
set_option maxHeartbeats 4000000 in
set_option maxRecDepth 100000 in
theorem parts_same (s : Nat) (hs : s ≤ 32) (g1 g2 : Nat) (al ar bl br : Nd) (va1 va2 vb1 vb2 : Value) (h1 h2 : List Int) (w : World) (hA : Blk w g1 145 (va1 :: va2 :: bytes h1)) (hB : Blk w g2 145 (vb1 :: vb2 :: bytes h2)) (n1 : NdAt w s al va1) (n2 : NdAt w s ar va2) (n3 : NdAt w s bl vb1) (n4 : NdAt w s br vb2)
    (hp : parts (nodeL s) (.join al ar) (.join bl br) = none) :
    Calls Tryd.prog 47 #[.iface 143 (.pointer (some ⟨g1, 0, none⟩)), .iface 143 (.pointer (some ⟨g2, 0, none⟩))] w fun e w' =>
      e = .returned (.tuple #[.agg #[.slice none 0 0, .slice none 0 0], .bool false]) ∧ Fr (fun _ => False) w w' := by
  have C1 := Kp.mk (fun (W : World) (hf : Fr (fun _ => False) w W) => children_join g1 va1 va2 h1 W (hA.fr hf (fun h => h)))
  have C2 := Kp.mk (fun (W : World) (hf : Fr (fun _ => False) w W) => children_join g2 vb1 vb2 h2 W (hB.fr hf (fun h => h)))
  have S1 := Kp.mk (fun (W : World) (hf : Fr (fun _ => False) w W) => sums_of hs (n1.kept hf))
  have S2 := Kp.mk (fun (W : World) (hf : Fr (fun _ => False) w W) => sums_of hs (n2.kept hf))
  have S3 := Kp.mk (fun (W : World) (hf : Fr (fun _ => False) w W) => sums_of hs (n3.kept hf))
  have S4 := Kp.mk (fun (W : World) (hf : Fr (fun _ => False) w W) => sums_of hs (n4.kept hf))
  have Lx1 := Kp.mk (n1.sum_len hs)
  have Lx2 := Kp.mk (n2.sum_len hs)
  have Ly1 := Kp.mk (n3.sum_len hs)
  have Ly2 := Kp.mk (n4.sum_len hs)
  have hp := parts_none _ hp
  generalize al.sum (nodeL s) = x1 at S1 Lx1 hp
  generalize ar.sum (nodeL s) = x2 at S2 Lx2 hp
  generalize bl.sum (nodeL s) = y1 at S3 Ly1 hp
  generalize br.sum (nodeL s) = y2 at S4 Ly2 hp
  obtain ⟨hx, hx2⟩ := hp
  clear hA hB n1 n2 n3 n4
  go_enter Tryd.func47, Tryd.ntmps47
  go_upto_region 1 with (fail)
  obtain ⟨g4, hg4⟩ : ∃ g4, g4 = w.heap.size := ⟨_, rfl⟩
  obtain ⟨W1, hW1⟩ : ∃ W1, W1 = w.alloc (.cells #[.slice none 0 0, .slice none 0 0] 36) := ⟨_, rfl⟩
  have H41 : Kp (Blk W1 g4 36 [.slice none 0 0, .slice none 0 0]) := ⟨by rw [hW1, hg4]; exact Blk.new w _ _⟩
  have HF1 : Kp (Fr (fun _ => False) w W1) := ⟨by rw [hW1]; exact (Fr.refl _ w).alloc _⟩
  have HG : Kp (w.heap.size ≤ g4) := ⟨by omega⟩
  rw [← hg4, ← hW1]
  clear hW1 hg4
  go_wp2_with (fail)
  refine (C1.out W1 HF1.out).mono ?_
  rintro e W2 ⟨rfl, hf⟩
  have HF2 := Kp.mk (HF1.out.trans hf (fun _ _ h => h))
  have H42 := Kp.mk (H41.out.fr hf (fun h => h))
  clear hf HF1 H41
  go_wp2_with (fail)
  refine (C2.out W2 HF2.out).mono ?_
  rintro e W3 ⟨rfl, hf⟩
  have HF3 := Kp.mk (HF2.out.trans hf (fun _ _ h => h))
  have H43 := Kp.mk (H42.out.fr hf (fun h => h))
  clear hf HF2 H42
  go_upto_region 3 with (fail)
  have HFd := Kp.mk HF3.out
  have H4d := Kp.mk H43.out
  clear HF3 H43
  have e1 : ∀ W, (Op.equalIn 10000 29 (.agg (bytes x1).toArray) (.agg (bytes y1).toArray)).run Tryd.prog W = .ok true W := fun W => by
    have h := eq32c x1 y1 Lx1.out Ly1.out W
    rw [decide_eq_true hx] at h; exact h
  have e2 : ∀ W, (Op.equalIn 10000 29 (.agg (bytes x2).toArray) (.agg (bytes y2).toArray)).run Tryd.prog W = .ok true W := fun W => by
    have h := eq32c x2 y2 Lx2.out Ly2.out W
    rw [decide_eq_true hx2] at h; exact h
  clear hx hx2
  go_upto_region 4 with (first
    | (refine goesSumG (some 32) rfl (by rfl) (Operand.tmp 31) rfl _ rfl x1 (S1.out _ HFd.out) ?_; intro We hf; have HFe := Kp.mk (HFd.out.trans hf (fun _ _ h => h)); have H4e := Kp.mk (H4d.out.fr hf (fun h => h)); clear hf)
    | (refine goesSumG (some 34) rfl (by rfl) (Operand.tmp 33) rfl _ rfl y1 (S3.out _ HFe.out) ?_; intro Wf hf; have HFf := Kp.mk (HFe.out.trans hf (fun _ _ h => h)); have H4f := Kp.mk (H4e.out.fr hf (fun h => h)); clear hf)
    | (refine goesSumG (some 38) rfl (by rfl) (Operand.tmp 37) rfl _ rfl x2 (S2.out _ HFf.out) ?_; intro Wg hf; have HFg := Kp.mk (HFf.out.trans hf (fun _ _ h => h)); have H4g := Kp.mk (H4f.out.fr hf (fun h => h)); clear hf)
    | (refine goesSumG (some 40) rfl (by rfl) (Operand.tmp 39) rfl _ rfl y2 (S4.out _ HFg.out) ?_; intro Wh hf; have HFh := Kp.mk (HFg.out.trans hf (fun _ _ h => h)); have H4h := Kp.mk (H4g.out.fr hf (fun h => h)); clear hf))
  clear e1 e2
  have hfz := fr_setCells g4 [.slice none 0 0, .slice none 0 0] 0 Wh
  have hbz := blk_put H4h.out (ys := [.slice none 0 0, .slice none 0 0]) rfl
  have HFz := Kp.mk (HFh.out.trans (S := (fun _ => False)) hfz (fun q hq e => by have := HG.out; omega))
  have Hbz := Kp.mk hbz
  clear hfz hbz
  go_wp2_with (refine wpList_storeT rfl rfl 36 (Operand.tmp 4) (Operand.tmp 44) rfl g4 0 [.slice none 0 0, .slice none 0 0] rfl rfl (blk_there H4h.out 0 _ (Nat.le_refl 2)) (by kernel_rfl) (by simp [Value.oneCell']) ?_)
  refine bodyPost_ret (results_cell_tmp rfl _ _ g4 36 _ (0, 0) _ (.bool false) rfl rfl (show (World.setCells Wh g4 0 [.slice none 0 0, .slice none 0 0]).heap[g4]? = some (.cells ([.slice none 0 0, .slice none 0 0] : List Value).toArray 36 (0, 0)) from Hbz.out) Tryd.underlying36 rfl (by kernel_rfl)) rfl ?_
  exact ⟨rfl, HFz.out⟩
theorem fld_two (ev : Operand → Value) (o : Oper) (x : Operand) (t1 t2 : TypeId) (u1 u2 : Value) (b : Option Nat) (w : World) (ho : o.op = .field 101 x 0) (hx : ev x = .agg #[.iface t1 u1, .iface t2 u2, .map b]) : (execOp ev o).run Tryd.prog w = .ok (.value (.iface t1 u1)) w := by
  have h : (Instr.field 101 (.agg #[.iface t1 u1, .iface t2 u2, .map b]) 0).run Tryd.prog w = .ok (.iface t1 u1) w := by kernel_rfl
  unfold execOp
  simp only [ho, hx, Sem.run_bind, h, Result.andThen_ok, Sem.run_pure]
set_option maxHeartbeats 4000000 in
set_option maxRecDepth 100000 in
theorem CollideTrees_calls (k n m : Int) (PA PB : Option Addr) (cA cB : Nat) (root a b : List Int) (pa pb : List (List Int)) (w : World) (hL : Laid w) (hP : HRow w (fun _ => False) PA cA pa) (hQ : HRow w (fun _ => False) PB cB pb) (hrt : root.length = 32) (ha : a.length = 32) (hb : b.length = 32) :
    Calls Tryd.prog 19 #[.int .i64 k, .int .i64 n, .agg (bytes root).toArray, .int .i64 m, .agg (bytes a).toArray, .slice PA pa.length cA, .agg (bytes b).toArray, .slice PB pb.length cB] w fun e w' =>
      ((colT (strength k) n m root a pa b pb ≠ 0 ∧ e = .returned (.tuple #[.agg #[.slice none 0 0, .slice none 0 0], .int .i64 (colT (strength k) n m root a pa b pb)])) ∨
        (colT (strength k) n m root a pa b pb = 0 ∧ ∃ P1 P2 A1 c1 A2 c2, e = .returned (.tuple #[.agg #[.slice A1 P1.length c1, .slice A2 P2.length c2], .int .i64 0]) ∧ Src w' (fun q => q < w.heap.size) A1 c1 P1 ∧ Src w' (fun q => q < w.heap.size) A2 c2 P2 ∧
          pairD (nodeL (strength k)) (freshN m.toNat n.toNat a pa) (freshN m.toNat n.toNat b pb) (fromD m.toNat 0 n.toNat) = some (P1, P2))) ∧ Fr (fun _ => False) w w' := by
  have HS32 := strength_le k
  have CK1 : Kp (∀ W, Fr (fun _ => False) w W → Calls Tryd.prog 20 #[.int .i64 k, .slice PA pa.length cA, .int .i64 n, .agg (bytes root).toArray, .int .i64 m, .agg (bytes a).toArray] W fun e w' => e = .returned (.int .i64 (checkT (strength k) n m pa root a)) ∧ Fr (fun _ => False) W w') :=
    ⟨fun W hf => CheckTree_calls k PA cA pa n m root a W (hL.fr hf (fun _ h => h.elim)) (hP.fr hf) hrt ha⟩
  have CK2 : Kp (∀ W, Fr (fun _ => False) w W → Calls Tryd.prog 20 #[.int .i64 k, .slice PB pb.length cB, .int .i64 n, .agg (bytes root).toArray, .int .i64 m, .agg (bytes b).toArray] W fun e w' => e = .returned (.int .i64 (checkT (strength k) n m pb root b)) ∧ Fr (fun _ => False) W w') :=
    ⟨fun W hf => CheckTree_calls k PB cB pb n m root b W (hL.fr hf (fun _ h => h.elim)) (hQ.fr hf) hrt hb⟩
  have CC1 : Kp (treOk n m → pa.length = (from' m.toNat n.toNat).length → ∀ W, Fr (fun _ => False) w W → Calls Tryd.prog 46 #[.int .i64 k, .slice PA pa.length cA, .int .i64 ((n.toNat : Nat) : Int), .int .i64 ((m.toNat : Nat) : Int), .agg (bytes a).toArray] W fun e w' => ∃ v1 v2 b N, e = .returned (.agg #[v1, v2, .map (some b)]) ∧
      NdAt w' (strength k) (freshN m.toNat n.toNat a pa) v1 ∧ NdAt w' (strength k) (oldN m.toNat n.toNat a pa) v2 ∧ MapB w' b N (climbK (nodeL (strength k)) m.toNat n.toNat a pa) ∧ N ≤ 60 ∧ W.heap.size ≤ b ∧ Fr (fun _ => False) W w') :=
    ⟨fun h hl W hf => by
      obtain ⟨h1, h2, h3⟩ := treOk_nat h
      exact climbedTree_calls k PA cA pa m.toNat n.toNat a W (hL.fr hf (fun _ h => h.elim)) (hP.fr hf) h1 h2 h3 hl ha⟩
  have CC2 : Kp (treOk n m → pb.length = (from' m.toNat n.toNat).length → ∀ W, Fr (fun _ => False) w W → Calls Tryd.prog 46 #[.int .i64 k, .slice PB pb.length cB, .int .i64 ((n.toNat : Nat) : Int), .int .i64 ((m.toNat : Nat) : Int), .agg (bytes b).toArray] W fun e w' => ∃ v1 v2 bM N, e = .returned (.agg #[v1, v2, .map (some bM)]) ∧
      NdAt w' (strength k) (freshN m.toNat n.toNat b pb) v1 ∧ NdAt w' (strength k) (oldN m.toNat n.toNat b pb) v2 ∧ MapB w' bM N (climbK (nodeL (strength k)) m.toNat n.toNat b pb) ∧ N ≤ 60 ∧ W.heap.size ≤ bM ∧ Fr (fun _ => False) W w') :=
    ⟨fun h hl W hf => by
      obtain ⟨h1, h2, h3⟩ := treOk_nat h
      exact climbedTree_calls k PB cB pb m.toNat n.toNat b W (hL.fr hf (fun _ h => h.elim)) (hQ.fr hf) h1 h2 h3 hl hb⟩
  have HTH := Kp.mk (fun (h1 : checkT (strength k) n m pa root a = 0) (h2 : checkT (strength k) n m pb root b = 0) (hne : a ≠ b) => trees_there h1 h2 hne)
  obtain ⟨R, hR⟩ : ∃ R, R = colT (strength k) n m root a pa b pb := ⟨_, rfl⟩
  rw [← hR]
  unfold colT at hR
  obtain ⟨D, hD⟩ : ∃ D, D = pairD (nodeL (strength k)) (freshN m.toNat n.toNat a pa) (freshN m.toNat n.toNat b pb) (fromD m.toNat 0 n.toNat) := ⟨_, rfl⟩
  rw [← hD] at HTH ⊢
  have HD := Kp.mk hD
  have hcmp : ∀ W, (Op.equalIn 10000 29 (.agg (bytes a).toArray) (.agg (bytes b).toArray)).run Tryd.prog W = .ok (decide (a = b)) W := fun W => eq32 a b ha hb W
  have HRT := Kp.mk hrt
  have HLA := Kp.mk ha
  have HLB := Kp.mk hb
  generalize checkT (strength k) n m pa root a = k1 at CK1 HTH hR
  generalize checkT (strength k) n m pb root b = k2 at CK2 HTH hR
  have HR := Kp.mk hR
  obtain ⟨s, hs⟩ : ∃ s, s = strength k := ⟨_, rfl⟩
  rw [← hs] at CC1 CC2 HD HS32
  have HS := Kp.mk HS32
  obtain ⟨qa, hqa⟩ : ∃ q, q = pa.length := ⟨_, rfl⟩
  obtain ⟨qb, hqb⟩ : ∃ q, q = pb.length := ⟨_, rfl⟩
  rw [← hqa] at CK1 CC1 HR
  rw [← hqb] at CK2 CC2 HR
  rw [← hqa, ← hqb]
  clear hL hP hQ hrt ha hb hR hD hs hqa hqb HS32
  go_enter Tryd.func19, Tryd.ntmps19
  go_upto_region 1 with (fail)
  obtain ⟨g10, hg10⟩ : ∃ g, g = w.heap.size := ⟨_, rfl⟩
  obtain ⟨g12, hg12⟩ : ∃ g, g = w.heap.size + 1 := ⟨_, rfl⟩
  obtain ⟨g14, hg14⟩ : ∃ g, g = w.heap.size + 1 + 1 := ⟨_, rfl⟩
  obtain ⟨g16, hg16⟩ : ∃ g, g = w.heap.size + 1 + 1 + 1 := ⟨_, rfl⟩
  rw [← hg16, ← hg14, ← hg12, ← hg10]
  obtain ⟨W1, hW1⟩ : ∃ W, W = (((w.alloc (.cells (bytes root).toArray 29)).alloc (.cells (bytes a).toArray 29)).alloc (.cells (bytes b).toArray 29)).alloc (.cells #[.slice none 0 0, .slice none 0 0] 36) := ⟨_, rfl⟩
  have H10_1 : Kp (Blk W1 g10 29 (bytes root)) := ⟨by rw [hW1, hg10]; exact (((Blk.new w _ _).alloc _).alloc _).alloc _⟩
  have H12_1 : Kp (Blk W1 g12 29 (bytes a)) := ⟨by rw [hW1, hg12]; exact ((Blk.new' _ _ _ (by simp)).alloc _).alloc _⟩
  have H14_1 : Kp (Blk W1 g14 29 (bytes b)) := ⟨by rw [hW1, hg14]; exact (Blk.new' _ _ _ (by simp)).alloc _⟩
  have H16_1 : Kp (Blk W1 g16 36 [.slice none 0 0, .slice none 0 0]) := ⟨by rw [hW1, hg16]; exact Blk.new' _ _ _ (by simp)⟩
  have HF1 : Kp (Fr (fun _ => False) w W1) := ⟨by rw [hW1]; exact ((((Fr.refl _ w).alloc _).alloc _).alloc _).alloc _⟩
  have HG16 : Kp (w.heap.size ≤ g16) := ⟨by omega⟩
  rw [← hW1]
  clear hW1 hg10 hg12 hg14 hg16
  by_cases h : treOk n m
  case neg =>
    have HR0 : Kp (R = 1) := ⟨by rw [HR.out, if_neg h]⟩
    unfold treOk at h
    rcases (by omega : (n < 1 ∨ 281474976710656 < n) ∨ (1 ≤ n ∧ n ≤ 281474976710656 ∧ m < 1) ∨ (1 ≤ n ∧ n ≤ 281474976710656 ∧ 1 ≤ m ∧ n < m)) with hn | ⟨h1, h2, h3⟩ | ⟨h1, h2, h3, h4⟩
    · clear h
      go_wp2_with fail
      refine (sized_no n hn _).mono ?_
      rintro e W2 ⟨rfl, hf⟩
      have HF2 := Kp.mk (HF1.out.trans hf (fun _ _ h => h))
      have H10_2 := Kp.mk (H10_1.out.fr hf (fun h => h))
      have H12_2 := Kp.mk (H12_1.out.fr hf (fun h => h))
      have H14_2 := Kp.mk (H14_1.out.fr hf (fun h => h))
      have H16_2 := Kp.mk (H16_1.out.fr hf (fun h => h))
      clear hf HF1 H10_1 H12_1 H14_1 H16_1
      have hfz := fr_setCells g16 [.slice none 0 0, .slice none 0 0] 0 W2
      have hbz := blk_put H16_2.out (ys := [.slice none 0 0, .slice none 0 0]) rfl
      have HFz := Kp.mk (HF2.out.trans (S := (fun _ => False)) hfz (fun q hq e => by have := HG16.out; omega))
      have Hbz := Kp.mk hbz
      clear hfz hbz
      go_wp2_with (refine wpList_storeT rfl rfl 36 (Operand.tmp 16) (Operand.tmp 44) rfl g16 0 [.slice none 0 0, .slice none 0 0] rfl rfl (blk_there H16_2.out 0 _ (Nat.le_refl 2)) (by kernel_rfl) (by simp [Value.oneCell']) ?_)
      refine bodyPost_ret (results_cell_tmp rfl _ _ g16 36 _ (0, 0) _ (.int .i64 1) rfl rfl (show (World.setCells W2 g16 0 [.slice none 0 0, .slice none 0 0]).heap[g16]? = some (.cells ([.slice none 0 0, .slice none 0 0] : List Value).toArray 36 (0, 0)) from Hbz.out) Tryd.underlying36 rfl (by kernel_rfl)) rfl ?_
      exact ⟨.inl ⟨by rw [HR0.out]; decide, by first | (rw [HR0.out]; rfl) | rw [HR0.out]⟩, HFz.out⟩
    · clear h
      obtain ⟨n', rfl⟩ := Int.eq_ofNat_of_zero_le (show 0 ≤ n by omega)
      have hd1 : decide (m < 1) = true := decide_eq_true (by omega)
      go_wp2_with fail
      refine (sized_yes n' (by omega) (by omega) _).mono ?_
      rintro e W2 ⟨rfl, hf⟩
      have HF2 := Kp.mk (HF1.out.trans hf (fun _ _ h => h))
      have H10_2 := Kp.mk (H10_1.out.fr hf (fun h => h))
      have H12_2 := Kp.mk (H12_1.out.fr hf (fun h => h))
      have H14_2 := Kp.mk (H14_1.out.fr hf (fun h => h))
      have H16_2 := Kp.mk (H16_1.out.fr hf (fun h => h))
      clear hf HF1 H10_1 H12_1 H14_1 H16_1
      have hfz := fr_setCells g16 [.slice none 0 0, .slice none 0 0] 0 W2
      have hbz := blk_put H16_2.out (ys := [.slice none 0 0, .slice none 0 0]) rfl
      have HFz := Kp.mk (HF2.out.trans (S := (fun _ => False)) hfz (fun q hq e => by have := HG16.out; omega))
      have Hbz := Kp.mk hbz
      clear hfz hbz
      go_wp2_with (refine wpList_storeT rfl rfl 36 (Operand.tmp 16) (Operand.tmp 44) rfl g16 0 [.slice none 0 0, .slice none 0 0] rfl rfl (blk_there H16_2.out 0 _ (Nat.le_refl 2)) (by kernel_rfl) (by simp [Value.oneCell']) ?_)
      refine bodyPost_ret (results_cell_tmp rfl _ _ g16 36 _ (0, 0) _ (.int .i64 1) rfl rfl (show (World.setCells W2 g16 0 [.slice none 0 0, .slice none 0 0]).heap[g16]? = some (.cells ([.slice none 0 0, .slice none 0 0] : List Value).toArray 36 (0, 0)) from Hbz.out) Tryd.underlying36 rfl (by kernel_rfl)) rfl ?_
      exact ⟨.inl ⟨by rw [HR0.out]; decide, by first | (rw [HR0.out]; rfl) | rw [HR0.out]⟩, HFz.out⟩
    · clear h
      obtain ⟨n', rfl⟩ := Int.eq_ofNat_of_zero_le (show 0 ≤ n by omega)
      have hd1 : decide (m < 1) = false := decide_eq_false (by omega)
      have hd2 : decide ((n' : Int) < m) = true := decide_eq_true (by omega)
      go_wp2_with fail
      refine (sized_yes n' (by omega) (by omega) _).mono ?_
      rintro e W2 ⟨rfl, hf⟩
      have HF2 := Kp.mk (HF1.out.trans hf (fun _ _ h => h))
      have H10_2 := Kp.mk (H10_1.out.fr hf (fun h => h))
      have H12_2 := Kp.mk (H12_1.out.fr hf (fun h => h))
      have H14_2 := Kp.mk (H14_1.out.fr hf (fun h => h))
      have H16_2 := Kp.mk (H16_1.out.fr hf (fun h => h))
      clear hf HF1 H10_1 H12_1 H14_1 H16_1
      have hfz := fr_setCells g16 [.slice none 0 0, .slice none 0 0] 0 W2
      have hbz := blk_put H16_2.out (ys := [.slice none 0 0, .slice none 0 0]) rfl
      have HFz := Kp.mk (HF2.out.trans (S := (fun _ => False)) hfz (fun q hq e => by have := HG16.out; omega))
      have Hbz := Kp.mk hbz
      clear hfz hbz
      go_wp2_with (refine wpList_storeT rfl rfl 36 (Operand.tmp 16) (Operand.tmp 44) rfl g16 0 [.slice none 0 0, .slice none 0 0] rfl rfl (blk_there H16_2.out 0 _ (Nat.le_refl 2)) (by kernel_rfl) (by simp [Value.oneCell']) ?_)
      refine bodyPost_ret (results_cell_tmp rfl _ _ g16 36 _ (0, 0) _ (.int .i64 1) rfl rfl (show (World.setCells W2 g16 0 [.slice none 0 0, .slice none 0 0]).heap[g16]? = some (.cells ([.slice none 0 0, .slice none 0 0] : List Value).toArray 36 (0, 0)) from Hbz.out) Tryd.underlying36 rfl (by kernel_rfl)) rfl ?_
      exact ⟨.inl ⟨by rw [HR0.out]; decide, by first | (rw [HR0.out]; rfl) | rw [HR0.out]⟩, HFz.out⟩
  have HOK := Kp.mk h
  obtain ⟨l, hl⟩ : ∃ l, l = (from' m.toNat n.toNat).length := ⟨_, rfl⟩
  have HR1 : Kp (R = if qa = l ∧ qb = l then if k1 = 0 ∧ k2 = 0 then if a = b then 92 else 0 else 91 else 90) := ⟨by subst hl; rw [HR.out, if_pos h]⟩
  unfold treOk at h
  obtain ⟨hn1, hn2, hm1, hm2⟩ := h
  obtain ⟨n', rfl⟩ := Int.eq_ofNat_of_zero_le (show 0 ≤ n by omega)
  obtain ⟨m', rfl⟩ := Int.eq_ofNat_of_zero_le (show 0 ≤ m by omega)
  simp only [Int.toNat_natCast] at CC1 CC2 HD hl
  have hni : 1 ≤ n' ∧ n' ≤ 281474976710656 ∧ 0 < m' ∧ m' ≤ n' := by omega
  have HNI := Kp.mk hni
  have CS := Kp.mk (fun W => sized_yes n' hni.1 hni.2.1 W)
  have CW := Kp.mk (fun W => wayFrom_step m' n' hni.2.2.1 hni.2.2.2 hni.2.1 W)
  clear hn1 hn2 hm1 hm2 HR
  have hd1 : decide ((m' : Int) < 1) = false := decide_eq_false (by omega)
  have hd2 : decide ((n' : Int) < (m' : Int)) = false := decide_eq_false (by omega)
  go_wp2_with fail
  refine (CS.out _).mono ?_
  rintro e W2 ⟨rfl, hf⟩
  have HF2 := Kp.mk (HF1.out.trans hf (fun _ _ h => h))
  have H10_2 := Kp.mk (H10_1.out.fr hf (fun h => h))
  have H12_2 := Kp.mk (H12_1.out.fr hf (fun h => h))
  have H14_2 := Kp.mk (H14_1.out.fr hf (fun h => h))
  have H16_2 := Kp.mk (H16_1.out.fr hf (fun h => h))
  clear hf HF1 H10_1 H12_1 H14_1 H16_1
  go_wp2_with fail
  refine (CW.out _).mono ?_
  rintro e W3 ⟨vw, rfl, hO, hf⟩
  have HF3 := Kp.mk (HF2.out.trans hf (fun _ _ h => h))
  have H10_3 := Kp.mk (H10_2.out.fr hf (fun h => h))
  have H12_3 := Kp.mk (H12_2.out.fr hf (fun h => h))
  have H14_3 := Kp.mk (H14_2.out.fr hf (fun h => h))
  have H16_3 := Kp.mk (H16_2.out.fr hf (fun h => h))
  clear hf HF2 H10_2 H12_2 H14_2 H16_2
  obtain ⟨Aw, cw, hvw⟩ := hO.slice
  rw [List.length_map] at hvw
  subst hvw
  clear CW hO CS hd1 hd2 hni
  rw [← hl] at CC1 CC2
  rw [← hl]
  clear hl
  go_upto_region 4 with (fail)
  obtain ⟨W4, hW4⟩ : ∃ W, W = W3.alloc (.cells #[.int .i64 ((seedA m' 0 n' : Nat) : Int), .int .i64 (m' : Int)] 91) := ⟨_, rfl⟩
  have hf : Fr (fun _ => False) W3 W4 := by rw [hW4]; exact (Fr.refl _ W3).alloc _
  rw [← hW4]
  clear hW4
  have HF4 := Kp.mk (HF3.out.trans hf (fun _ _ h => h))
  have H10_4 := Kp.mk (H10_3.out.fr hf (fun h => h))
  have H12_4 := Kp.mk (H12_3.out.fr hf (fun h => h))
  have H14_4 := Kp.mk (H14_3.out.fr hf (fun h => h))
  have H16_4 := Kp.mk (H16_3.out.fr hf (fun h => h))
  clear hf HF3 H10_3 H12_3 H14_3 H16_3
  by_cases hla : qa = l
  case neg =>
    have HR0 : Kp (R = 90) := ⟨by rw [HR1.out, if_neg (fun h => hla h.1)]⟩
    have hne : ((qa : Int) == (l : Int)) = false := by rw [beq_eq_false_iff_ne]; omega
    have hfz := fr_setCells g16 [.slice none 0 0, .slice none 0 0] 0 W4
    have hbz := blk_put H16_4.out (ys := [.slice none 0 0, .slice none 0 0]) rfl
    have HFz := Kp.mk (HF4.out.trans (S := (fun _ => False)) hfz (fun q hq e => by have := HG16.out; omega))
    have Hbz := Kp.mk hbz
    clear hfz hbz
    go_wp2_with (refine wpList_storeT rfl rfl 36 (Operand.tmp 16) (Operand.tmp 63) rfl g16 0 [.slice none 0 0, .slice none 0 0] rfl rfl (blk_there H16_4.out 0 _ (Nat.le_refl 2)) (by kernel_rfl) (by simp [Value.oneCell']) ?_)
    refine bodyPost_ret (results_cell_tmp rfl _ _ g16 36 _ (0, 0) _ (.int .i64 90) rfl rfl (show (World.setCells W4 g16 0 [.slice none 0 0, .slice none 0 0]).heap[g16]? = some (.cells ([.slice none 0 0, .slice none 0 0] : List Value).toArray 36 (0, 0)) from Hbz.out) Tryd.underlying36 rfl (by kernel_rfl)) rfl ?_
    exact ⟨.inl ⟨by rw [HR0.out]; decide, by first | (rw [HR0.out]; rfl) | rw [HR0.out]⟩, HFz.out⟩
  subst hla
  by_cases hlb : qb = qa
  case neg =>
    have HR0 : Kp (R = 90) := ⟨by rw [HR1.out, if_neg (fun h => hlb h.2)]⟩
    have hne : ((qb : Int) == (qa : Int)) = false := by rw [beq_eq_false_iff_ne]; omega
    have hfz := fr_setCells g16 [.slice none 0 0, .slice none 0 0] 0 W4
    have hbz := blk_put H16_4.out (ys := [.slice none 0 0, .slice none 0 0]) rfl
    have HFz := Kp.mk (HF4.out.trans (S := (fun _ => False)) hfz (fun q hq e => by have := HG16.out; omega))
    have Hbz := Kp.mk hbz
    clear hfz hbz
    go_wp2_with (refine wpList_storeT rfl rfl 36 (Operand.tmp 16) (Operand.tmp 63) rfl g16 0 [.slice none 0 0, .slice none 0 0] rfl rfl (blk_there H16_4.out 0 _ (Nat.le_refl 2)) (by kernel_rfl) (by simp [Value.oneCell']) ?_)
    refine bodyPost_ret (results_cell_tmp rfl _ _ g16 36 _ (0, 0) _ (.int .i64 90) rfl rfl (show (World.setCells W4 g16 0 [.slice none 0 0, .slice none 0 0]).heap[g16]? = some (.cells ([.slice none 0 0, .slice none 0 0] : List Value).toArray 36 (0, 0)) from Hbz.out) Tryd.underlying36 rfl (by kernel_rfl)) rfl ?_
    exact ⟨.inl ⟨by rw [HR0.out]; decide, by first | (rw [HR0.out]; rfl) | rw [HR0.out]⟩, HFz.out⟩
  subst hlb
  have CD1 := Kp.mk (CC1.out HOK.out rfl)
  have CD2 := Kp.mk (CC2.out HOK.out rfl)
  clear CC1 CC2
  have HR2 : Kp (R = if k1 = 0 ∧ k2 = 0 then if a = b then 92 else 0 else 91) := ⟨by rw [HR1.out, if_pos ⟨rfl, rfl⟩]⟩
  clear HR1
  obtain ⟨mo10, ma10⟩ := mid_b H10_4.out HRT.out
  obtain ⟨mo12, ma12⟩ := mid_b H12_4.out HLA.out
  go_upto_region 6 with (fail)
  go_wp2_with (fail)
  refine (CK1.out W4 HF4.out).mono ?_
  rintro e W5 ⟨rfl, hf⟩
  have HF5 := Kp.mk (HF4.out.trans hf (fun _ _ h => h))
  have H10_5 := Kp.mk (H10_4.out.fr hf (fun h => h))
  have H12_5 := Kp.mk (H12_4.out.fr hf (fun h => h))
  have H14_5 := Kp.mk (H14_4.out.fr hf (fun h => h))
  have H16_5 := Kp.mk (H16_4.out.fr hf (fun h => h))
  clear hf HF4 H10_4 H12_4 H14_4 H16_4
  clear mo10 ma10 mo12 ma12
  by_cases hk1 : k1 = 0
  case neg =>
    have HR0 : Kp (R = 91) := ⟨by rw [HR2.out, if_neg (fun h => hk1 h.1)]⟩
    have hne : (k1 == 0) = false := by rw [beq_eq_false_iff_ne]; exact hk1
    go_upto_region 7 with (fail)
    clear hne
    have hfz := fr_setCells g16 [.slice none 0 0, .slice none 0 0] 0 W5
    have hbz := blk_put H16_5.out (ys := [.slice none 0 0, .slice none 0 0]) rfl
    have HFz := Kp.mk (HF5.out.trans (S := (fun _ => False)) hfz (fun q hq e => by have := HG16.out; omega))
    have Hbz := Kp.mk hbz
    clear hfz hbz
    go_wp2_with (refine wpList_storeT rfl rfl 36 (Operand.tmp 16) (Operand.tmp 82) rfl g16 0 [.slice none 0 0, .slice none 0 0] rfl rfl (blk_there H16_5.out 0 _ (Nat.le_refl 2)) (by kernel_rfl) (by simp [Value.oneCell']) ?_)
    refine bodyPost_ret (results_cell_tmp rfl _ _ g16 36 _ (0, 0) _ (.int .i64 91) rfl rfl (show (World.setCells W5 g16 0 [.slice none 0 0, .slice none 0 0]).heap[g16]? = some (.cells ([.slice none 0 0, .slice none 0 0] : List Value).toArray 36 (0, 0)) from Hbz.out) Tryd.underlying36 rfl (by kernel_rfl)) rfl ?_
    exact ⟨.inl ⟨by rw [HR0.out]; decide, by first | (rw [HR0.out]; rfl) | rw [HR0.out]⟩, HFz.out⟩
  have HK1 := Kp.mk hk1
  rw [hk1]
  clear hk1
  obtain ⟨mo10, ma10⟩ := mid_b H10_5.out HRT.out
  obtain ⟨mo14, ma14⟩ := mid_b H14_5.out HLB.out
  go_wp2_with (fail)
  refine (CK2.out W5 HF5.out).mono ?_
  rintro e W6 ⟨rfl, hf⟩
  have HF6 := Kp.mk (HF5.out.trans hf (fun _ _ h => h))
  have H10_6 := Kp.mk (H10_5.out.fr hf (fun h => h))
  have H12_6 := Kp.mk (H12_5.out.fr hf (fun h => h))
  have H14_6 := Kp.mk (H14_5.out.fr hf (fun h => h))
  have H16_6 := Kp.mk (H16_5.out.fr hf (fun h => h))
  clear hf HF5 H10_5 H12_5 H14_5 H16_5
  clear mo10 ma10 mo14 ma14
  by_cases hk2 : k2 = 0
  case neg =>
    have HR0 : Kp (R = 91) := ⟨by rw [HR2.out, if_neg (fun h => hk2 h.2)]⟩
    have hne : (k2 == 0) = false := by rw [beq_eq_false_iff_ne]; exact hk2
    go_upto_region 7 with (fail)
    clear hne
    have hfz := fr_setCells g16 [.slice none 0 0, .slice none 0 0] 0 W6
    have hbz := blk_put H16_6.out (ys := [.slice none 0 0, .slice none 0 0]) rfl
    have HFz := Kp.mk (HF6.out.trans (S := (fun _ => False)) hfz (fun q hq e => by have := HG16.out; omega))
    have Hbz := Kp.mk hbz
    clear hfz hbz
    go_wp2_with (refine wpList_storeT rfl rfl 36 (Operand.tmp 16) (Operand.tmp 82) rfl g16 0 [.slice none 0 0, .slice none 0 0] rfl rfl (blk_there H16_6.out 0 _ (Nat.le_refl 2)) (by kernel_rfl) (by simp [Value.oneCell']) ?_)
    refine bodyPost_ret (results_cell_tmp rfl _ _ g16 36 _ (0, 0) _ (.int .i64 91) rfl rfl (show (World.setCells W6 g16 0 [.slice none 0 0, .slice none 0 0]).heap[g16]? = some (.cells ([.slice none 0 0, .slice none 0 0] : List Value).toArray 36 (0, 0)) from Hbz.out) Tryd.underlying36 rfl (by kernel_rfl)) rfl ?_
    exact ⟨.inl ⟨by rw [HR0.out]; decide, by first | (rw [HR0.out]; rfl) | rw [HR0.out]⟩, HFz.out⟩
  have HK2 := Kp.mk hk2
  rw [hk2]
  clear hk2
  obtain ⟨mo12, ma12⟩ := mid_b H12_6.out HLA.out
  obtain ⟨mo14, ma14⟩ := mid_b H14_6.out HLB.out
  go_upto_region 8 with (fail)
  by_cases hab : a = b
  case pos =>
    have HR0 : Kp (R = 92) := ⟨by rw [HR2.out, if_pos ⟨HK1.out, HK2.out⟩, if_pos hab]⟩
    have hd : decide (a = b) = true := decide_eq_true hab
    simp only [hd] at hcmp
    clear hd hab
    go_upto_region 9 with (fail)
    clear hcmp mo12 ma12 mo14 ma14
    have hfz := fr_setCells g16 [.slice none 0 0, .slice none 0 0] 0 W6
    have hbz := blk_put H16_6.out (ys := [.slice none 0 0, .slice none 0 0]) rfl
    have HFz := Kp.mk (HF6.out.trans (S := (fun _ => False)) hfz (fun q hq e => by have := HG16.out; omega))
    have Hbz := Kp.mk hbz
    clear hfz hbz
    go_wp2_with (refine wpList_storeT rfl rfl 36 (Operand.tmp 16) (Operand.tmp 86) rfl g16 0 [.slice none 0 0, .slice none 0 0] rfl rfl (blk_there H16_6.out 0 _ (Nat.le_refl 2)) (by kernel_rfl) (by simp [Value.oneCell']) ?_)
    refine bodyPost_ret (results_cell_tmp rfl _ _ g16 36 _ (0, 0) _ (.int .i64 92) rfl rfl (show (World.setCells W6 g16 0 [.slice none 0 0, .slice none 0 0]).heap[g16]? = some (.cells ([.slice none 0 0, .slice none 0 0] : List Value).toArray 36 (0, 0)) from Hbz.out) Tryd.underlying36 rfl (by kernel_rfl)) rfl ?_
    exact ⟨.inl ⟨by rw [HR0.out]; decide, by first | (rw [HR0.out]; rfl) | rw [HR0.out]⟩, HFz.out⟩
  have HR0 : Kp (R = 0) := ⟨by rw [HR2.out, if_pos ⟨HK1.out, HK2.out⟩, if_neg hab]⟩
  obtain ⟨P12, hP12⟩ := HTH.out HK1.out HK2.out hab
  have hd : decide (a = b) = false := decide_eq_false hab
  simp only [hd] at hcmp
  clear hd hab
  go_upto_region 10 with (fail)
  clear hcmp mo12 ma12 mo14 ma14 HTH HR2 CK1 CK2
  refine start_ (n := 16) (S := fun w' => Lds w' 29 (.pointer (some ⟨g12, 0, none⟩)) (.agg (bytes a).toArray) ∧ Lds w' 29 (.pointer (some ⟨g14, 0, none⟩)) (.agg (bytes b).toArray)) (ds := []) #[false, false, false, false, false, false, false, false, false, false, false, false, false, false, false, false] (by kernel_rfl) rfl rfl ⟨lds_hsh (H12_6.out.drew) HLA.out, lds_hsh (H14_6.out.drew) HLB.out⟩ (fun hHeld => ?_)
  refine pure_ (i := 0) (N := some 87) (v := ?_) (a' := ?_) #[true, false, false, false, false, false, false, false, false, false, false, false, false, false, false, false] rfl rfl (by kernel_rfl) (fun _ _ _ h => h) (Or.inl ⟨by rfl, ?_⟩) ?_ ?_
  rotate_left
  · intro w'
    go_simp
    with_reducible rfl
  rotate_left
  · simp only [Act.put, List.setIfInBounds_toArray, List.set_cons_zero, List.set_cons_succ]
    rfl
  refine pure_ (i := 1) (N := some 88) (v := ?_) (a' := ?_) #[true, true, false, false, false, false, false, false, false, false, false, false, false, false, false, false] rfl rfl (by kernel_rfl) (fun _ _ _ h => h) (Or.inl ⟨by rfl, ?_⟩) ?_ ?_
  rotate_left
  · intro w'
    go_simp
    with_reducible rfl
  rotate_left
  · simp only [Act.put, List.setIfInBounds_toArray, List.set_cons_zero, List.set_cons_succ]
    rfl
  refine pure_ (i := 2) (N := some 89) (v := ?_) (a' := ?_) #[true, true, true, false, false, false, false, false, false, false, false, false, false, false, false, false] rfl rfl (by kernel_rfl) (fun _ _ _ h => h) (Or.inl ⟨by rfl, ?_⟩) ?_ ?_
  rotate_left
  · intro w'
    go_simp
    with_reducible rfl
  rotate_left
  · simp only [Act.put, List.setIfInBounds_toArray, List.set_cons_zero, List.set_cons_succ]
    rfl
  refine pure_ (i := 3) (N := some 90) (v := ?_) (a' := ?_) #[true, true, true, true, false, false, false, false, false, false, false, false, false, false, false, false] rfl rfl (by kernel_rfl) (fun _ _ _ h => h) (Or.inl ⟨by rfl, ?_⟩) ?_ ?_
  rotate_left
  · intro w'
    go_simp
    with_reducible rfl
  rotate_left
  · simp only [Act.put, List.setIfInBounds_toArray, List.set_cons_zero, List.set_cons_succ]
    rfl
  refine pure_ (i := 7) (N := some 94) (v := ?_) (a' := ?_) #[true, true, true, true, false, false, false, true, false, false, false, false, false, false, false, false] rfl rfl (by kernel_rfl) (fun _ _ _ h => h) (Or.inl ⟨by rfl, ?_⟩) ?_ ?_
  rotate_left
  · intro w'
    go_simp
    with_reducible rfl
  rotate_left
  · simp only [Act.put, List.setIfInBounds_toArray, List.set_cons_zero, List.set_cons_succ]
    rfl
  refine pure_ (i := 8) (N := some 95) (v := ?_) (a' := ?_) #[true, true, true, true, false, false, false, true, true, false, false, false, false, false, false, false] rfl rfl (by kernel_rfl) (fun _ _ _ h => h) (Or.inl ⟨by rfl, ?_⟩) ?_ ?_
  rotate_left
  · intro w'
    go_simp
    with_reducible rfl
  rotate_left
  · simp only [Act.put, List.setIfInBounds_toArray, List.set_cons_zero, List.set_cons_succ]
    rfl
  refine pure_ (i := 9) (N := some 96) (v := ?_) (a' := ?_) #[true, true, true, true, false, false, false, true, true, true, false, false, false, false, false, false] rfl rfl (by kernel_rfl) (fun _ _ _ h => h) (Or.inl ⟨by rfl, ?_⟩) ?_ ?_
  rotate_left
  · intro w'
    go_simp
    with_reducible rfl
  rotate_left
  · simp only [Act.put, List.setIfInBounds_toArray, List.set_cons_zero, List.set_cons_succ]
    rfl
  refine pure_ (i := 10) (N := some 97) (v := ?_) (a' := ?_) #[true, true, true, true, false, false, false, true, true, true, true, false, false, false, false, false] rfl rfl (by kernel_rfl) (fun _ _ _ h => h) (Or.inl ⟨by rfl, ?_⟩) ?_ ?_
  rotate_left
  · intro w'
    go_simp
    with_reducible rfl
  rotate_left
  · simp only [Act.put, List.setIfInBounds_toArray, List.set_cons_zero, List.set_cons_succ]
    rfl
  refine take_ (i := 4) (N := some 91) (v := ?_) (a' := ?_) #[true, true, true, true, true, false, false, true, true, true, true, false, false, false, false, false] rfl rfl (by kernel_rfl) (fun _ _ _ h => h) (Or.inl ⟨by rfl, ?_⟩) hHeld ?_ ?_
  rotate_left
  · rintro w' ⟨s0, s1⟩
    refine Lds.run s0 (x := ?_) ?_ ?_
    · exact (Operand.tmp 12)
    · rfl
    · rfl
  rotate_left
  · simp only [Act.put, List.setIfInBounds_toArray, List.set_cons_zero, List.set_cons_succ]
    rfl
  refine take_ (i := 11) (N := some 98) (v := ?_) (a' := ?_) #[true, true, true, true, true, false, false, true, true, true, true, true, false, false, false, false] rfl rfl (by kernel_rfl) (fun _ _ _ h => h) (Or.inl ⟨by rfl, ?_⟩) hHeld ?_ ?_
  rotate_left
  · rintro w' ⟨s0, s1⟩
    refine Lds.run s1 (x := ?_) ?_ ?_
    · exact (Operand.tmp 14)
    · rfl
    · rfl
  rotate_left
  · simp only [Act.put, List.setIfInBounds_toArray, List.set_cons_zero, List.set_cons_succ]
    rfl
  refine one_ (i := 5) (N := some 92) #[true, true, true, true, true, true, false, true, true, true, true, true, false, false, false, false] rfl rfl (by kernel_rfl) (by decide) (fun K hK => ?_)
  refine goes_ Tryd.func46 (by kernel_rfl) rfl #[.int .i64 k, .slice PA qb cA, .int .i64 (n' : Int), .int .i64 (m' : Int), .agg (bytes a).toArray] (by rfl) rfl rfl (by simp only [List.map_toArray, List.map_cons, List.map_nil]; rfl) ?_
  with_reducible refine (CD1.out _ HF6.out.drew).mono ?_
  rintro e a1 ⟨v1, v2, bM, NM, rfl, hn1, hn2, -, -, -, hf1⟩
  refine ⟨_, rfl, ?_⟩
  obtain ⟨t1, u1, rfl⟩ := hn1.iface
  obtain ⟨t2, u2, rfl⟩ := hn2.iface
  refine hK.out _ _ ⟨lds_hsh (H12_6.out.drew.fr hf1 (fun h => h)) HLA.out, lds_hsh (H14_6.out.drew.fr hf1 (fun h => h)) HLB.out⟩ (fun hHeld => ?_)
  clear hK K
  refine norm_ (a' := ?_) ?_ ?_
  rotate_left
  · show Act.put _ (some 92) _ = _
    simp only [Act.put, List.setIfInBounds_toArray, List.set_cons_zero, List.set_cons_succ]
    rfl
  refine pure_ (i := 6) (N := some 93) (v := ?_) (a' := ?_) #[true, true, true, true, true, true, true, true, true, true, true, true, false, false, false, false] rfl rfl (by kernel_rfl) (fun _ _ _ h => h) (Or.inl ⟨by rfl, ?_⟩) ?_ ?_
  rotate_left
  · intro w'
    refine fld_two _ _ (Operand.tmp 92) t1 t2 u1 u2 (some bM) w' ?_ ?_
    · rfl
    · rfl
  rotate_left
  · simp only [Act.put, List.setIfInBounds_toArray, List.set_cons_zero, List.set_cons_succ]
    rfl
  refine one_ (i := 12) (N := some 99) #[true, true, true, true, true, true, true, true, true, true, true, true, true, false, false, false] rfl rfl (by kernel_rfl) (by decide) (fun K hK => ?_)
  refine goes_ Tryd.func46 (by kernel_rfl) rfl #[.int .i64 k, .slice PB qb cB, .int .i64 (n' : Int), .int .i64 (m' : Int), .agg (bytes b).toArray] (by rfl) rfl rfl (by simp only [List.map_toArray, List.map_cons, List.map_nil]; rfl) ?_
  with_reducible refine (CD2.out _ (HF6.out.drew.trans hf1 (fun _ _ h => h))).mono ?_
  rintro e a2 ⟨v3, v4, bN, NN, rfl, hn3, hn4, -, -, -, hf2⟩
  refine ⟨_, rfl, ?_⟩
  obtain ⟨t3, u3, rfl⟩ := hn3.iface
  obtain ⟨t4, u4, rfl⟩ := hn4.iface
  refine hK.out _ _ ⟨lds_hsh ((H12_6.out.drew.fr hf1 (fun h => h)).fr hf2 (fun h => h)) HLA.out, lds_hsh ((H14_6.out.drew.fr hf1 (fun h => h)).fr hf2 (fun h => h)) HLB.out⟩ (fun hHeld => ?_)
  clear hK K
  refine norm_ (a' := ?_) ?_ ?_
  rotate_left
  · show Act.put _ (some 99) _ = _
    simp only [Act.put, List.setIfInBounds_toArray, List.set_cons_zero, List.set_cons_succ]
    rfl
  refine pure_ (i := 13) (N := some 100) (v := ?_) (a' := ?_) #[true, true, true, true, true, true, true, true, true, true, true, true, true, true, false, false] rfl rfl (by kernel_rfl) (fun _ _ _ h => h) (Or.inl ⟨by rfl, ?_⟩) ?_ ?_
  rotate_left
  · intro w'
    refine fld_two _ _ (Operand.tmp 99) t3 t4 u3 u4 (some bN) w' ?_ ?_
    · rfl
    · rfl
  rotate_left
  · simp only [Act.put, List.setIfInBounds_toArray, List.set_cons_zero, List.set_cons_succ]
    rfl
  refine pure_ (i := 14) (N := some 20) (v := ?_) (a' := ?_) #[true, true, true, true, true, true, true, true, true, true, true, true, true, true, true, false] rfl rfl (by kernel_rfl) (fun _ _ _ h => h) (Or.inl ⟨by rfl, ?_⟩) ?_ ?_
  rotate_left
  · intro w'
    go_simp
    with_reducible rfl
  rotate_left
  · simp only [Act.put, List.setIfInBounds_toArray, List.set_cons_zero, List.set_cons_succ]
    rfl
  refine pure_ (i := 15) (N := some 21) (v := ?_) (a' := ?_) #[true, true, true, true, true, true, true, true, true, true, true, true, true, true, true, true] rfl rfl (by kernel_rfl) (fun _ _ _ h => h) (Or.inl ⟨by rfl, ?_⟩) ?_ ?_
  rotate_left
  · intro w'
    go_simp
    with_reducible rfl
  rotate_left
  · simp only [Act.put, List.setIfInBounds_toArray, List.set_cons_zero, List.set_cons_succ]
    rfl
  refine done_ (by kernel_rfl) ?_
  have HFa := Kp.mk ((HF6.out.drew.trans hf1 (fun _ _ h => h)).trans hf2 (fun _ _ h => h))
  have H16a := Kp.mk ((H16_6.out.drew.fr hf1 (fun h => h)).fr hf2 (fun h => h))
  have HNXa := Kp.mk (hn1.kept hf2)
  have HNYa := Kp.mk hn3
  clear hHeld hn1 hn2 hn3 hn4 hf1 hf2 HF6 H10_6 H12_6 H14_6 H16_6 CD1 CD2
  obtain ⟨P1, P2⟩ := P12
  have HPa : Kp (pairD (nodeL s) (freshN m' n' a pa) (freshN m' n' b pb) (fromD m' 0 n') = some (P1, P2)) := ⟨by rw [← HD.out]; exact hP12⟩
  have HDE := Kp.mk hP12
  clear hP12 HD
  generalize a2 = Wa at HFa H16a HNXa HNYa ⊢
  go_wp2_with (fail)
  go_loopg [20, 21, 22] n' (fun g x y pv wr => ∃ (gs a0 b0 : Nat) (xn yn : Nd), pv = .pointer (some ⟨gs, 0, none⟩) ∧ Kp (a0 < m' ∧ m' ≤ b0 ∧ b0 ≤ n' ∧ b0 - a0 ≤ g) ∧ Kp (pairD (nodeL s) xn yn (fromD m' a0 b0) = some (P1, P2)) ∧ Kp (Blk wr gs 91 [.int .i64 (a0 : Int), .int .i64 (b0 : Int)]) ∧ Kp (NdAt wr s xn x) ∧ Kp (NdAt wr s yn y) ∧ Kp (Blk wr g16 36 [.slice none 0 0, .slice none 0 0]) ∧ Kp (w.heap.size ≤ gs) ∧ Kp (Fr (fun _ => False) w wr))
  case atStart => exact ⟨Wa.heap.size, 0, n', freshN m' n' a pa, freshN m' n' b pb, rfl, ⟨by have := HNI.out; omega⟩, HPa, ⟨Blk.new Wa _ _⟩, ⟨HNXa.out.kept ((Fr.refl _ Wa).alloc _)⟩, ⟨HNYa.out.kept ((Fr.refl _ Wa).alloc _)⟩, ⟨H16a.out.alloc _⟩, ⟨HFa.out.size⟩, ⟨HFa.out.alloc _⟩⟩
  case round =>
    clear HPa HFa H16a HNXa HNYa
    obtain ⟨gs, a0, b0, xn, yn, rfl, HA, HPD, HSP, HNX, HNY, H16, HGS, HF⟩ := hrel
    have hmb : m' < b0 := by
      rcases Nat.lt_or_ge m' b0 with h | h
      · exact h
      · have h1 := HPD.out
        rw [fromD_end (by omega)] at h1
        simp [pairD] at h1
    have h2 : a0 + 2 ≤ b0 := by have := HA.out; omega
    have hb48 : b0 ≤ 281474976710656 := by have := HA.out; have := HNI.out; omega
    have H2 := Kp.mk (And.intro hmb h2)
    obtain ⟨xl, xr, yl, yr, tt, ww, rfl, rfl, hww⟩ := pairD_joins HPD.out
    obtain ⟨g1, va1, va2, rfl, hB1, hl1, hr1⟩ := HNX.out
    obtain ⟨g2, vb1, vb2, rfl, hB2, hl2, hr2⟩ := HNY.out
    have HSP_0 := HSP
    have H16_0 := H16
    have HXB_0 := Kp.mk hB1
    have HYB_0 := Kp.mk hB2
    have Nxl_0 := Kp.mk hl1
    have Nxr_0 := Kp.mk hr1
    have Nyl_0 := Kp.mk hl2
    have Nyr_0 := Kp.mk hr2
    have HF_0 := HF
    have CC := Kp.mk (fun W => cut_calls a0 b0 h2 hb48 W)
    have HCL := Kp.mk (And.intro (cut_gt a0 b0) (cut_lt h2))
    have HLft := Kp.mk (fun (hi : m' ≤ cut a0 b0) => fromD_left ⟨hmb, h2⟩ hi)
    have HRgt := Kp.mk (fun (hi : cut a0 b0 < m') => fromD_right ⟨hmb, h2⟩ hi)
    have hne : ((b0 : Int) == (m' : Int)) = false := by rw [beq_eq_false_iff_ne]; omega
    have c0 : wr.cell? ⟨gs, 1, none⟩ = some (.int .i64 (b0 : Int)) := HSP.out.cell 1 _ rfl
    clear HSP HNX HNY H16 HF hB1 hB2 hl1 hl2 hr1 hr2 hmb h2 hb48
    go_upto_region 13 with (fail)
    clear c0 hne
    cases hp : parts (nodeL s) (.join xl xr) (.join yl yr) with
    | some q =>
      have hq : q = (P1, P2) := by
        have h := HPD.out
        rw [hww, pairD_some _ hp] at h
        exact Option.some.inj h
      subst hq
      have HPT := Kp.mk hp
      clear hp hww
      go_wp2_with (fail)
      refine (parts_join s HS.out g1 g2 xl xr yl yr va1 va2 vb1 vb2 _ _ wr HXB_0.out HYB_0.out Nxl_0.out Nxr_0.out Nyl_0.out Nyr_0.out P1 P2 HPT.out).mono ?_
      rintro e W2 ⟨A1, c1, A2, c2, rfl, s1, s2, hf⟩
      have HS1 := Kp.mk s1
      have HS2 := Kp.mk s2
      have HF2 := Kp.mk (HF_0.out.trans hf (fun _ _ h => h))
      have H162 := Kp.mk (H16_0.out.fr hf (fun h => h))
      have H16L := Kp.mk (H16_0.out.lt)
      have HSZw := Kp.mk (HF_0.out.size)
      obtain ⟨l1, hl1⟩ : ∃ l, l = P1.length := ⟨_, rfl⟩
      obtain ⟨l2, hl2⟩ : ∃ l, l = P2.length := ⟨_, rfl⟩
      rw [← hl1, ← hl2]
      have HLL := Kp.mk (And.intro hl1 hl2)
      clear s1 s2 hf hl1 hl2 HSP_0 H16_0 HXB_0 HYB_0 Nxl_0 Nxr_0 Nyl_0 Nyr_0 HF_0
      go_upto_region 14 with (fail)
      obtain ⟨g23, hg⟩ : ∃ g, g = W2.heap.size := ⟨_, rfl⟩
      obtain ⟨W3, hW⟩ : ∃ W, W = W2.alloc (.cells #[.slice A1 l1 c1, .slice A2 l2 c2] 36) := ⟨_, rfl⟩
      have H23 : Blk W3 g23 36 [.slice A1 l1 c1, .slice A2 l2 c2] := by rw [hW, hg]; exact Blk.new W2 _ _
      have hfa : Fr (fun _ => False) W2 W3 := by rw [hW]; exact (Fr.refl _ W2).alloc _
      rw [← hg, ← hW]
      obtain ⟨mo, ma⟩ := mid_pairT H23
      have H163 := Kp.mk (H162.out.fr hfa (fun h => h))
      have HF3 := Kp.mk (HF2.out.trans hfa (fun _ _ h => h))
      have HS13 := Kp.mk (HS1.out.fr (hfa.mono (S' := fun q => q < wr.heap.size) (fun _ _ h => h.elim)))
      have HS23 := Kp.mk (HS2.out.fr (hfa.mono (S' := fun q => q < wr.heap.size) (fun _ _ h => h.elim)))
      clear hg hW H23 hfa H162 HF2 HS1 HS2
      have hfz := fr_setCells g16 [.slice A1 l1 c1, .slice A2 l2 c2] 0 W3
      have hbz := blk_put H163.out (ys := [.slice A1 l1 c1, .slice A2 l2 c2]) rfl
      have HFz := Kp.mk (HF3.out.trans (S := (fun _ => False)) hfz (fun q hq e => by have := HG16.out; omega))
      have HSz1 := Kp.mk ((HS13.out.fr (hfz.mono (S' := fun q => q < wr.heap.size) (fun q _ h => by rw [h]; exact H16L.out))).mono (S' := fun q => q < w.heap.size) (fun _ _ h => Nat.lt_of_lt_of_le h HSZw.out))
      have HSz2 := Kp.mk ((HS23.out.fr (hfz.mono (S' := fun q => q < wr.heap.size) (fun q _ h => by rw [h]; exact H16L.out))).mono (S' := fun q => q < w.heap.size) (fun _ _ h => Nat.lt_of_lt_of_le h HSZw.out))
      have Hbz := Kp.mk hbz
      clear hfz hbz HS13 HS23
      go_wp2_with (refine wpList_storeT rfl rfl 36 (Operand.tmp 16) (Operand.tmp 114) rfl g16 0 [.slice A1 l1 c1, .slice A2 l2 c2] rfl rfl (blk_there H163.out 0 _ (Nat.le_refl 2)) (by kernel_rfl) (by simp [Value.oneCell']) ?_)
      refine bodyPost_ret (results_cell_tmp rfl _ _ g16 36 _ (0, 0) _ (.int .i64 0) rfl rfl (show (World.setCells W3 g16 0 [.slice A1 l1 c1, .slice A2 l2 c2]).heap[g16]? = some (.cells ([.slice A1 l1 c1, .slice A2 l2 c2] : List Value).toArray 36 (0, 0)) from Hbz.out) Tryd.underlying36 rfl (by kernel_rfl)) rfl ?_
      exact ⟨.inr ⟨HR0.out, P1, P2, A1, c1, A2, c2, by rw [← HLL.out.1, ← HLL.out.2], HSz1.out, HSz2.out, HDE.out⟩, HFz.out⟩
    | none =>
      have HPD1 : Kp (pairD (nodeL s) (.join xl xr) (.join yl yr) (tt :: ww) = if tt.r = true then pairD (nodeL s) xl yl ww else pairD (nodeL s) xr yr ww) := ⟨pairD_next _ hp⟩
      have HPT := Kp.mk hp
      have HWW := Kp.mk hww
      clear hp hww
      go_wp2_with (fail)
      refine (parts_same s HS.out g1 g2 xl xr yl yr va1 va2 vb1 vb2 _ _ wr HXB_0.out HYB_0.out Nxl_0.out Nxr_0.out Nyl_0.out Nyr_0.out HPT.out).mono ?_
      rintro e W2 ⟨rfl, hf⟩
      have HSP_2 := Kp.mk (HSP_0.out.fr hf (fun h => h))
      have H16_2 := Kp.mk (H16_0.out.fr hf (fun h => h))
      have HXB_2 := Kp.mk (HXB_0.out.fr hf (fun h => h))
      have HYB_2 := Kp.mk (HYB_0.out.fr hf (fun h => h))
      have Nxl_2 := Kp.mk (Nxl_0.out.kept hf)
      have Nxr_2 := Kp.mk (Nxr_0.out.kept hf)
      have Nyl_2 := Kp.mk (Nyl_0.out.kept hf)
      have Nyr_2 := Kp.mk (Nyr_0.out.kept hf)
      have HF_2 := Kp.mk (HF_0.out.trans hf (fun _ _ h => h))
      clear hf HF_0 HSP_0 H16_0 HXB_0 HYB_0 Nxl_0 Nxr_0 Nyl_0 Nyr_0
      go_upto_region 14 with (fail)
      obtain ⟨W3, hW⟩ : ∃ W, W = W2.alloc (.cells #[.slice none 0 0, .slice none 0 0] 36) := ⟨_, rfl⟩
      have hf : Fr (fun _ => False) W2 W3 := by rw [hW]; exact (Fr.refl _ W2).alloc _
      rw [← hW]
      clear hW
      have HSP_3 := Kp.mk (HSP_2.out.fr hf (fun h => h))
      have H16_3 := Kp.mk (H16_2.out.fr hf (fun h => h))
      have HXB_3 := Kp.mk (HXB_2.out.fr hf (fun h => h))
      have HYB_3 := Kp.mk (HYB_2.out.fr hf (fun h => h))
      have Nxl_3 := Kp.mk (Nxl_2.out.kept hf)
      have Nxr_3 := Kp.mk (Nxr_2.out.kept hf)
      have Nyl_3 := Kp.mk (Nyl_2.out.kept hf)
      have Nyr_3 := Kp.mk (Nyr_2.out.kept hf)
      have HF_3 := Kp.mk (HF_2.out.trans hf (fun _ _ h => h))
      clear hf HF_2 HSP_2 H16_2 HXB_2 HYB_2 Nxl_2 Nxr_2 Nyl_2 Nyr_2
      go_upto_region 16 with (fail)
      go_wp2_with (fail)
      refine (children_join g1 va1 va2 _ W3 HXB_3.out).mono ?_
      rintro e W4 ⟨rfl, hf⟩
      have HSP_4 := Kp.mk (HSP_3.out.fr hf (fun h => h))
      have H16_4 := Kp.mk (H16_3.out.fr hf (fun h => h))
      have HXB_4 := Kp.mk (HXB_3.out.fr hf (fun h => h))
      have HYB_4 := Kp.mk (HYB_3.out.fr hf (fun h => h))
      have Nxl_4 := Kp.mk (Nxl_3.out.kept hf)
      have Nxr_4 := Kp.mk (Nxr_3.out.kept hf)
      have Nyl_4 := Kp.mk (Nyl_3.out.kept hf)
      have Nyr_4 := Kp.mk (Nyr_3.out.kept hf)
      have HF_4 := Kp.mk (HF_3.out.trans hf (fun _ _ h => h))
      clear hf HF_3 HSP_3 H16_3 HXB_3 HYB_3 Nxl_3 Nxr_3 Nyl_3 Nyr_3
      go_upto_region 17 with (fail)
      go_wp2_with (fail)
      refine (children_join g2 vb1 vb2 _ W4 HYB_4.out).mono ?_
      rintro e W5 ⟨rfl, hf⟩
      have HSP_5 := Kp.mk (HSP_4.out.fr hf (fun h => h))
      have H16_5 := Kp.mk (H16_4.out.fr hf (fun h => h))
      have HXB_5 := Kp.mk (HXB_4.out.fr hf (fun h => h))
      have HYB_5 := Kp.mk (HYB_4.out.fr hf (fun h => h))
      have Nxl_5 := Kp.mk (Nxl_4.out.kept hf)
      have Nxr_5 := Kp.mk (Nxr_4.out.kept hf)
      have Nyl_5 := Kp.mk (Nyl_4.out.kept hf)
      have Nyr_5 := Kp.mk (Nyr_4.out.kept hf)
      have HF_5 := Kp.mk (HF_4.out.trans hf (fun _ _ h => h))
      clear hf HF_4 HSP_4 H16_4 HXB_4 HYB_4 Nxl_4 Nxr_4 Nyl_4 Nyr_4
      go_upto_region 18 with (fail)
      have HSr := Kp.mk (blk_range HSP_5.out)
      go_wp2_with (refine wpList_load_mid rfl 91 _ rfl gs 0 rfl [.int .i64 (a0 : Int), .int .i64 (b0 : Int)] _ HSr.out Tryd.underlying91 rfl (by kernel_rfl) ?_)
      refine (CC.out W5).mono ?_
      rintro e W9 ⟨rfl, hf⟩
      have HSP_9 := Kp.mk (HSP_5.out.fr hf (fun h => h))
      have H16_9 := Kp.mk (H16_5.out.fr hf (fun h => h))
      have HXB_9 := Kp.mk (HXB_5.out.fr hf (fun h => h))
      have HYB_9 := Kp.mk (HYB_5.out.fr hf (fun h => h))
      have Nxl_9 := Kp.mk (Nxl_5.out.kept hf)
      have Nxr_9 := Kp.mk (Nxr_5.out.kept hf)
      have Nyl_9 := Kp.mk (Nyl_5.out.kept hf)
      have Nyr_9 := Kp.mk (Nyr_5.out.kept hf)
      have HF_9 := Kp.mk (HF_5.out.trans hf (fun _ _ h => h))
      clear hf HF_5 HSP_5 H16_5 HXB_5 HYB_5 Nxl_5 Nxr_5 Nyl_5 Nyr_5
      clear HSr CC
      generalize cut a0 b0 = c at HCL HLft HRgt ⊢
      have hc48 : c ≤ 281474976710656 := by have := HCL.out; have := HA.out; have := HNI.out; omega
      by_cases hic : m' ≤ c
      · have HPD2 : Kp (pairD (nodeL s) xl yl (fromD m' a0 c) = some (P1, P2)) := ⟨by
          have h := HPD.out
          rw [HWW.out, HPD1.out] at h
          have h2 := HWW.out
          rw [HLft.out hic] at h2
          obtain ⟨rfl, rfl⟩ := List.cons.inj h2
          rwa [if_pos rfl] at h⟩
        have c9 : W9.cell? ⟨gs, 1, none⟩ = some (.int .i64 (b0 : Int)) := HSP_9.out.cell 1 _ rfl
        have f9 : W9.frozen? ⟨gs, 1, none⟩ = false := HSP_9.out.free 1
        go_upto_region 22 with (fail)
        have hset : Fr (fun q => q = gs) W9 (W9.setCell ⟨gs, 1, none⟩ (.int .i64 (c : Int))) := Fr.set (S := fun q => q = gs) (a := ⟨gs, 1, none⟩) (Fr.refl (fun q => q = gs) W9) (fun _ => rfl) _
        have HSPt := Kp.mk (show Blk _ gs 91 [.int .i64 (a0 : Int), .int .i64 (c : Int)] from HSP_9.out.set 1 _)
        have H16t := Kp.mk (H16_9.out.fr hset (blk_ne_type H16_9.out HSP_9.out (by decide)))
        have NXt := Kp.mk (Nxl_9.out.keep hset (fun q cur hc e => blk_ne_type HSP_9.out hc (by decide) e.symm))
        have NYt := Kp.mk (Nyl_9.out.keep hset (fun q cur hc e => blk_ne_type HSP_9.out hc (by decide) e.symm))
        have HFt := Kp.mk (HF_9.out.trans (S := (fun _ => False)) hset (fun q hq e => by have := HGS.out; omega))
        clear hset c9 f9 HSP_9 H16_9 HXB_9 HYB_9 Nxl_9 Nxr_9 Nyl_9 Nyr_9 HF_9
        generalize World.setCell W9 _ _ = Wt at HSPt H16t NXt NYt HFt ⊢
        have HSr := Kp.mk (blk_range HSPt.out)
        go_wp2_with (refine wpList_load_mid rfl 91 _ rfl gs 0 rfl [.int .i64 (a0 : Int), .int .i64 (c : Int)] _ HSr.out Tryd.underlying91 rfl (by kernel_rfl) ?_)
        obtain ⟨g', hg⟩ : ∃ g'', gk = g'' + 1 := ⟨gk - 1, by have := HA.out; omega⟩
        subst hg
        go_roundg g'
        case measure => omega
        case rel => exact ⟨Wt.heap.size, a0, c, xl, yl, rfl, ⟨by have h1 := HA.out; have h2 := HCL.out; omega⟩, HPD2, ⟨Blk.new Wt _ _⟩, ⟨NXt.out.kept ((Fr.refl _ Wt).alloc _)⟩, ⟨NYt.out.kept ((Fr.refl _ Wt).alloc _)⟩, ⟨H16t.out.alloc _⟩, ⟨HFt.out.size⟩, ⟨HFt.out.alloc _⟩⟩
      · have HPD2 : Kp (pairD (nodeL s) xr yr (fromD m' c b0) = some (P1, P2)) := ⟨by
          have h := HPD.out
          rw [HWW.out, HPD1.out] at h
          have h2 := HWW.out
          rw [HRgt.out (by omega)] at h2
          obtain ⟨rfl, rfl⟩ := List.cons.inj h2
          rwa [if_neg (by simp)] at h⟩
        have c9 : W9.cell? ⟨gs, 0, none⟩ = some (.int .i64 (a0 : Int)) := HSP_9.out.cell 0 _ rfl
        have f9 : W9.frozen? ⟨gs, 0, none⟩ = false := HSP_9.out.free 0
        go_upto_region 22 with (fail)
        have hset : Fr (fun q => q = gs) W9 (W9.setCell ⟨gs, 0, none⟩ (.int .i64 (c : Int))) := Fr.set (S := fun q => q = gs) (a := ⟨gs, 0, none⟩) (Fr.refl (fun q => q = gs) W9) (fun _ => rfl) _
        have HSPt := Kp.mk (show Blk _ gs 91 [.int .i64 (c : Int), .int .i64 (b0 : Int)] from HSP_9.out.set 0 _)
        have H16t := Kp.mk (H16_9.out.fr hset (blk_ne_type H16_9.out HSP_9.out (by decide)))
        have NXt := Kp.mk (Nxr_9.out.keep hset (fun q cur hc e => blk_ne_type HSP_9.out hc (by decide) e.symm))
        have NYt := Kp.mk (Nyr_9.out.keep hset (fun q cur hc e => blk_ne_type HSP_9.out hc (by decide) e.symm))
        have HFt := Kp.mk (HF_9.out.trans (S := (fun _ => False)) hset (fun q hq e => by have := HGS.out; omega))
        clear hset c9 f9 HSP_9 H16_9 HXB_9 HYB_9 Nxl_9 Nxr_9 Nyl_9 Nyr_9 HF_9
        generalize World.setCell W9 _ _ = Wt at HSPt H16t NXt NYt HFt ⊢
        have HSr := Kp.mk (blk_range HSPt.out)
        go_wp2_with (refine wpList_load_mid rfl 91 _ rfl gs 0 rfl [.int .i64 (c : Int), .int .i64 (b0 : Int)] _ HSr.out Tryd.underlying91 rfl (by kernel_rfl) ?_)
        obtain ⟨g', hg⟩ : ∃ g'', gk = g'' + 1 := ⟨gk - 1, by have := HA.out; omega⟩
        subst hg
        go_roundg g'
        case measure => omega
        case rel => exact ⟨Wt.heap.size, c, b0, xr, yr, rfl, ⟨by have h1 := HA.out; have h2 := HCL.out; omega⟩, HPD2, ⟨Blk.new Wt _ _⟩, ⟨NXt.out.kept ((Fr.refl _ Wt).alloc _)⟩, ⟨NYt.out.kept ((Fr.refl _ Wt).alloc _)⟩, ⟨H16t.out.alloc _⟩, ⟨HFt.out.size⟩, ⟨HFt.out.alloc _⟩⟩

end Go.Proofs.YtjcmgpiapbeodaaDoor.Sha
