/-
  The walk of parts.
-/
import Derived.Test.YtjcmgpiapbeodaaDoorHides
import Derived.Test.YtjcmgpiapbeodaaDoorNodes
set_option linter.unusedSimpArgs false
set_option linter.unusedVariables false
namespace Go.Proofs.YtjcmgpiapbeodaaDoor.Sha
open Go.Proofs.YtjcmgpiapbeodaaDoor.Pf Go.Proofs.YtjcmgpiapbeodaaDoor.Len Go.Proofs.YtjcmgpiapbeodaaDoor.PProofTakes
open Go.RowKit Go.Proofs.YtjcmgpiapbeodaaDoor.Mem Go.Proofs.YtjcmgpiapbeodaaDoorW.PrintWords Go.Proofs.YtjcmgpiapbeodaaDoorW.PrintLast Go.Proofs.YtjcmgpiapbeodaaDoor.Pl Go.Proofs.YtjcmgpiapbeodaaDoor.Wk
attribute [local go_sem ↓] Go.wp_at_zero Go.wp_at_succ wp_load_hash wp_store_hash wp_load_mid23 wp_load_mid25 wp_store_mid25 wp_build_hash
attribute [local go_sem] rowAt_drew rowOk_drew midOk_drew midAt_drew rowBlock rowCells rowOff midFree_drew
theorem wpList_storeT {ops : Array Oper} {rest : List Oper} {o : Oper} {a : Act} {w : World} {Q : Exit → Act → World → Prop} (hg : o.guard = none) (hd : o.dst = none) (T : TypeId) (x y : Operand) (ho : o.op = .store T x y) (b k : Nat) (r : List Value)
    (hx : a.eval x = .pointer (some ⟨b, k, none⟩)) (hy : a.eval y = .agg r.toArray) (ht : w.there b k r.length) (hi : (Tryd.prog.info? T).map (·.size) = some r.length) (h1 : ∀ u ∈ r, u.oneCell' = true) (h : wpList Tryd.prog ops Q rest (a.put none undef) (w.setCells b k r)) : wpList Tryd.prog ops Q (o :: rest) a w := by
  refine wpList_plain hg fun _ hK => ?_
  unfold Oper.wp
  rw [st_agg a.eval o x y w T b k r ho hx hy ht hi h1]
  show _
  have h1 := hK _ _ h
  rw [← hd] at h1
  exact h1
/-- a call of sum, guarded or not, in a plain region -/
theorem goesSumG {ops : Array Oper} {Q : Exit → Act → World → Prop} {rest : List Oper} {oi : Oper} {a : Act} {w : World} (N : Option Tmp) (hd : oi.dst = N) (hw : Region.wanted oi (yielded ops a.tmps) = true) (x : Operand) (ho : oi.op = .call { callee := .invoke x "ledger/proof.sum", args := #[], argTypes := #[] })
    (v : Value) (hx : a.eval x = v) (h : List Int) (hs : Sums w v h) (hk : ∀ w', Fr (fun _ => False) w w' → wpList Tryd.prog ops Q rest (a.put N (.agg (bytes h).toArray)) w') : wpList Tryd.prog ops Q (oi :: rest) a w := by
  obtain ⟨f, recv, hr, hc⟩ := hs
  refine wpList_step fun K hK => ?_
  rw [if_pos hw]
  unfold Oper.wp
  rw [run_sum (h := h) hr x ho hx, Oper.upon_enter]
  refine hc.mono fun e w' hh => ?_
  obtain ⟨rfl, hf⟩ := hh
  subst hd
  exact hK _ _ (hk w' hf)
theorem eq32c (M N : List Int) (h : M.length = 32) (hn : N.length = 32) (W : World) : (Op.equalIn 10000 29 (.agg (bytes M).toArray) (.agg (bytes N).toArray)).run Tryd.prog W = .ok (decide (M = N)) W :=
  run_equalIn_ints W 9998 29 5 32 .u8 Tryd.underlying29 Tryd.underlying5 size_u8 M N h hn
theorem blk_put {w : World} {g : Nat} {T : TypeId} {xs ys : List Value} (h : Blk w g T xs) (hl : xs.length = ys.length) : Blk (w.setCells g 0 ys) g T ys := by
  have h1 := Blk.setCells g T [] ys [] xs w hl (by simpa using h)
  simpa using h1
set_option maxHeartbeats 4000000 in
set_option maxRecDepth 100000 in
theorem parts_join (s : Nat) (hs : s ≤ 32) (g1 g2 : Nat) (al ar bl br : Nd) (va1 va2 vb1 vb2 : Value) (h1 h2 : List Int) (w : World) (hA : Blk w g1 145 (va1 :: va2 :: bytes h1)) (hB : Blk w g2 145 (vb1 :: vb2 :: bytes h2)) (n1 : NdAt w s al va1) (n2 : NdAt w s ar va2) (n3 : NdAt w s bl vb1) (n4 : NdAt w s br vb2) (P1 P2 : List Int)
    (hp : parts (nodeL s) (.join al ar) (.join bl br) = some (P1, P2)) :
    Calls Tryd.prog 47 #[.iface 143 (.pointer (some ⟨g1, 0, none⟩)), .iface 143 (.pointer (some ⟨g2, 0, none⟩))] w fun e w' =>
      ∃ A1 c1 A2 c2, e = .returned (.tuple #[.agg #[.slice A1 P1.length c1, .slice A2 P2.length c2], .bool true]) ∧ Src w' (fun q => q < w.heap.size) A1 c1 P1 ∧ Src w' (fun q => q < w.heap.size) A2 c2 P2 ∧ Fr (fun _ => False) w w' := by
  have C1 := Kp.mk (fun (W : World) (hf : Fr (fun _ => False) w W) => children_join g1 va1 va2 h1 W (hA.fr hf (fun h => h)))
  have C2 := Kp.mk (fun (W : World) (hf : Fr (fun _ => False) w W) => children_join g2 vb1 vb2 h2 W (hB.fr hf (fun h => h)))
  have S1 := Kp.mk (fun (W : World) (hf : Fr (fun _ => False) w W) => sums_of hs (n1.kept hf))
  have S2 := Kp.mk (fun (W : World) (hf : Fr (fun _ => False) w W) => sums_of hs (n2.kept hf))
  have S3 := Kp.mk (fun (W : World) (hf : Fr (fun _ => False) w W) => sums_of hs (n3.kept hf))
  have S4 := Kp.mk (fun (W : World) (hf : Fr (fun _ => False) w W) => sums_of hs (n4.kept hf))
  have Lx1 := Kp.mk (n1.sum_len hs)
  have Lx2 := Kp.mk (n2.sum_len hs)
  have Ly1 := Kp.mk (n3.sum_len hs)
  have Ly2 := Kp.mk (n4.sum_len hs)
  simp only [parts] at hp
  generalize al.sum (nodeL s) = x1 at S1 Lx1 hp
  generalize ar.sum (nodeL s) = x2 at S2 Lx2 hp
  generalize bl.sum (nodeL s) = y1 at S3 Ly1 hp
  generalize br.sum (nodeL s) = y2 at S4 Ly2 hp
  obtain ⟨hne, rfl, rfl⟩ : ¬ (x1 = y1 ∧ x2 = y2) ∧ 1 :: (x1 ++ x2) = P1 ∧ 1 :: (y1 ++ y2) = P2 := by
    by_cases h : x1 = y1 ∧ x2 = y2
    · rw [if_pos h] at hp; cases hp
    · rw [if_neg h] at hp
      have h2 := Prod.mk.inj (Option.some.inj hp)
      exact ⟨h, h2.1, h2.2⟩
  clear hA hB n1 n2 n3 n4 hp
  go_enter Tryd.func47, Tryd.ntmps47
  go_upto_region 1 with (fail)
  obtain ⟨g4, hg4⟩ : ∃ g4, g4 = w.heap.size := ⟨_, rfl⟩
  obtain ⟨W1, hW1⟩ : ∃ W1, W1 = w.alloc (.cells #[.slice none 0 0, .slice none 0 0] 36) := ⟨_, rfl⟩
  have H41 : Kp (Blk W1 g4 36 [.slice none 0 0, .slice none 0 0]) := ⟨by rw [hW1, hg4]; exact Blk.new w _ _⟩
  have HF1 : Kp (Fr (fun _ => False) w W1) := ⟨by rw [hW1]; exact (Fr.refl _ w).alloc _⟩
  have HG : Kp (w.heap.size ≤ g4) := ⟨by omega⟩
  rw [← hg4, ← hW1]
  clear hW1 hg4
  go_wp2_with (fail)
  refine (C1.out W1 HF1.out).mono ?_
  rintro e W2 ⟨rfl, hf⟩
  have HF2 := Kp.mk (HF1.out.trans hf (fun _ _ h => h))
  have H42 := Kp.mk (H41.out.fr hf (fun h => h))
  clear hf HF1 H41
  go_wp2_with (fail)
  refine (C2.out W2 HF2.out).mono ?_
  rintro e W3 ⟨rfl, hf⟩
  have HF3 := Kp.mk (HF2.out.trans hf (fun _ _ h => h))
  have H43 := Kp.mk (H42.out.fr hf (fun h => h))
  clear hf HF2 H42
  go_upto_region 3 with (fail)
  have HFd := Kp.mk HF3.out
  have H4d := Kp.mk H43.out
  clear HF3 H43
  by_cases hx : x1 = y1
  · have hx2 : x2 ≠ y2 := fun h => hne ⟨hx, h⟩
    have e1 : ∀ W, (Op.equalIn 10000 29 (.agg (bytes x1).toArray) (.agg (bytes y1).toArray)).run Tryd.prog W = .ok true W := fun W => by
      have h := eq32c x1 y1 Lx1.out Ly1.out W
      rw [decide_eq_true hx] at h; exact h
    have e2 : ∀ W, (Op.equalIn 10000 29 (.agg (bytes x2).toArray) (.agg (bytes y2).toArray)).run Tryd.prog W = .ok false W := fun W => by
      have h := eq32c x2 y2 Lx2.out Ly2.out W
      rw [decide_eq_false hx2] at h; exact h
    clear hx hx2 hne
    go_upto_region 5 with (first
      | (refine goesSumG (some 32) rfl (by rfl) (Operand.tmp 31) rfl _ rfl x1 (S1.out _ HFd.out) ?_; intro We hf; have HFe := Kp.mk (HFd.out.trans hf (fun _ _ h => h)); have H4e := Kp.mk (H4d.out.fr hf (fun h => h)); clear hf)
      | (refine goesSumG (some 34) rfl (by rfl) (Operand.tmp 33) rfl _ rfl y1 (S3.out _ HFe.out) ?_; intro Wf hf; have HFf := Kp.mk (HFe.out.trans hf (fun _ _ h => h)); have H4f := Kp.mk (H4e.out.fr hf (fun h => h)); clear hf)
      | (refine goesSumG (some 38) rfl (by rfl) (Operand.tmp 37) rfl _ rfl x2 (S2.out _ HFf.out) ?_; intro Wg hf; have HFg := Kp.mk (HFf.out.trans hf (fun _ _ h => h)); have H4g := Kp.mk (H4f.out.fr hf (fun h => h)); clear hf)
      | (refine goesSumG (some 40) rfl (by rfl) (Operand.tmp 39) rfl _ rfl y2 (S4.out _ HFg.out) ?_; intro Wh hf; have HFh := Kp.mk (HFg.out.trans hf (fun _ _ h => h)); have H4h := Kp.mk (H4g.out.fr hf (fun h => h)); clear hf))
    clear e1 e2
    have HFp := Kp.mk HFh.out
    have H4p := Kp.mk H4h.out
    go_wp2_with (first
      | (refine goesSumG (some 46) rfl (by rfl) (Operand.tmp 45) rfl _ rfl x1 (S1.out _ HFp.out) ?_; intro Wi hf; have HFi := Kp.mk (HFp.out.trans hf (fun _ _ h => h)); have H4i := Kp.mk (H4p.out.fr hf (fun h => h)); clear hf)
      | (refine goesSumG (some 48) rfl (by rfl) (Operand.tmp 47) rfl _ rfl x2 (S2.out _ HFi.out) ?_; intro Wj hf; have HFj := Kp.mk (HFi.out.trans hf (fun _ _ h => h)); have H4j := Kp.mk (H4i.out.fr hf (fun h => h)); clear hf))
    refine (nodeBytes_calls x1 x2 Lx1.out Lx2.out _).mono ?_
    rintro e Wk ⟨v, rfl, hO, hf⟩
    obtain ⟨gbA, cbA, rfl, hge, -, hcl, hrd⟩ := own_form (xs := 1 :: (x1 ++ x2)) hO (by simp)
    have HSAk := Kp.mk (show Src Wk (fun q => q < w.heap.size ∨ q = g4) (some ⟨gbA, 0, none⟩) cbA (1 :: (x1 ++ x2)) from ⟨hcl, .inr (.inr ⟨gbA, 0, rfl, hrd, fun h => by have := H4j.out.lt; have := HFj.out.size; omega⟩)⟩)
    have HFk := Kp.mk (HFj.out.trans hf (fun _ _ h => h))
    have H4k := Kp.mk (H4j.out.fr hf (fun h => h))
    obtain ⟨qA, hqA⟩ : ∃ q, q = (1 :: (x1 ++ x2)).length := ⟨_, rfl⟩
    rw [← hqA]
    have HQA := Kp.mk hqA
    clear hqA
    clear hO hf hge hcl hrd
    go_wp2_with (first
      | (refine goesSumG (some 51) rfl (by rfl) (Operand.tmp 50) rfl _ rfl y1 (S3.out _ HFk.out) ?_; intro Wl hf; have HFl := Kp.mk (HFk.out.trans hf (fun _ _ h => h)); have H4l := Kp.mk (H4k.out.fr hf (fun h => h)); have HSAl := Kp.mk (HSAk.out.fr (hf.mono (S' := fun q => q < w.heap.size ∨ q = g4) (fun _ _ h => h.elim))); clear hf)
      | (refine goesSumG (some 53) rfl (by rfl) (Operand.tmp 52) rfl _ rfl y2 (S4.out _ HFl.out) ?_; intro Wm hf; have HFm := Kp.mk (HFl.out.trans hf (fun _ _ h => h)); have H4m := Kp.mk (H4l.out.fr hf (fun h => h)); have HSAm := Kp.mk (HSAl.out.fr (hf.mono (S' := fun q => q < w.heap.size ∨ q = g4) (fun _ _ h => h.elim))); clear hf))
    refine (nodeBytes_calls y1 y2 Ly1.out Ly2.out _).mono ?_
    rintro e Wn ⟨v, rfl, hO, hf⟩
    obtain ⟨gbB, cbB, rfl, hge, -, hcl, hrd⟩ := own_form (xs := 1 :: (y1 ++ y2)) hO (by simp)
    have HSBn := Kp.mk (show Src Wn (fun q => q < w.heap.size ∨ q = g4) (some ⟨gbB, 0, none⟩) cbB (1 :: (y1 ++ y2)) from ⟨hcl, .inr (.inr ⟨gbB, 0, rfl, hrd, fun h => by have := H4m.out.lt; have := HFm.out.size; omega⟩)⟩)
    have HFn := Kp.mk (HFm.out.trans hf (fun _ _ h => h))
    have H4n := Kp.mk (H4m.out.fr hf (fun h => h))
    obtain ⟨qB, hqB⟩ : ∃ q, q = (1 :: (y1 ++ y2)).length := ⟨_, rfl⟩
    rw [← hqB]
    have HQB := Kp.mk hqB
    clear hqB
    have HSAn := Kp.mk (HSAm.out.fr (hf.mono (S' := fun q => q < w.heap.size ∨ q = g4) (fun _ _ h => h.elim)))
    clear hO hf hge hcl hrd
    obtain ⟨vs, hvs⟩ : ∃ vs : List Value, vs = [.slice (some ⟨gbA, 0, none⟩) qA cbA, .slice (some ⟨gbB, 0, none⟩) qB cbB] := ⟨_, rfl⟩
    have HVS := Kp.mk hvs
    have hv2 : vs.length = 2 := by rw [hvs]; rfl
    have hv1 : ∀ u ∈ vs, u.oneCell' = true := by rw [hvs]; simp [Value.oneCell']
    have hfz := fr_setCells g4 vs 0 Wn
    have hbz := blk_put H4n.out (ys := vs) (by rw [hv2]; rfl)
    have HFz := Kp.mk (HFn.out.trans (S := fun _ => False) hfz (fun q hq e => by have := HG.out; omega))
    have HSAz := Kp.mk ((HSAn.out.fr (hfz.mono (S' := fun q => q < w.heap.size ∨ q = g4) (fun _ _ h => .inr h))).mono (S' := fun q => q < w.heap.size) (fun _ _ h => .inl h))
    have HSBz := Kp.mk ((HSBn.out.fr (hfz.mono (S' := fun q => q < w.heap.size ∨ q = g4) (fun _ _ h => .inr h))).mono (S' := fun q => q < w.heap.size) (fun _ _ h => .inl h))
    have Hbz := Kp.mk hbz
    have HV := Kp.mk (And.intro hv2 hv1)
    clear hfz hbz hv2 hv1 hvs
    go_wp2_with (refine wpList_storeT rfl rfl 36 (Operand.tmp 4) (Operand.tmp 55) rfl g4 0 vs rfl (by rw [HVS.out]; rfl) (blk_there H4n.out 0 _ (by rw [HV.out.1]; exact Nat.le_refl 2)) (by rw [HV.out.1]; kernel_rfl) HV.out.2 ?_)
    refine bodyPost_ret (results_cell_tmp rfl _ _ g4 36 _ (0, 0) _ (.bool true) rfl rfl (show (World.setCells Wn g4 0 vs).heap[g4]? = some (.cells vs.toArray 36 (0, 0)) from Hbz.out) Tryd.underlying36 rfl (by rw [List.size_toArray, HV.out.1]; kernel_rfl)) rfl ?_
    exact ⟨some ⟨gbA, 0, none⟩, cbA, some ⟨gbB, 0, none⟩, cbB, by rw [HVS.out, HQA.out, HQB.out]; rfl, HSAz.out, HSBz.out, HFz.out⟩
  · have e1 : ∀ W, (Op.equalIn 10000 29 (.agg (bytes x1).toArray) (.agg (bytes y1).toArray)).run Tryd.prog W = .ok false W := fun W => by
      have h := eq32c x1 y1 Lx1.out Ly1.out W
      rw [decide_eq_false hx] at h; exact h
    clear hx hne
    go_upto_region 5 with (first
      | (refine goesSumG (some 32) rfl (by rfl) (Operand.tmp 31) rfl _ rfl x1 (S1.out _ HFd.out) ?_; intro We hf; have HFe := Kp.mk (HFd.out.trans hf (fun _ _ h => h)); have H4e := Kp.mk (H4d.out.fr hf (fun h => h)); clear hf)
      | (refine goesSumG (some 34) rfl (by rfl) (Operand.tmp 33) rfl _ rfl y1 (S3.out _ HFe.out) ?_; intro Wf hf; have HFf := Kp.mk (HFe.out.trans hf (fun _ _ h => h)); have H4f := Kp.mk (H4e.out.fr hf (fun h => h)); clear hf))
    clear e1
    have HFp := Kp.mk HFf.out
    have H4p := Kp.mk H4f.out
    go_wp2_with (first
      | (refine goesSumG (some 46) rfl (by rfl) (Operand.tmp 45) rfl _ rfl x1 (S1.out _ HFp.out) ?_; intro Wi hf; have HFi := Kp.mk (HFp.out.trans hf (fun _ _ h => h)); have H4i := Kp.mk (H4p.out.fr hf (fun h => h)); clear hf)
      | (refine goesSumG (some 48) rfl (by rfl) (Operand.tmp 47) rfl _ rfl x2 (S2.out _ HFi.out) ?_; intro Wj hf; have HFj := Kp.mk (HFi.out.trans hf (fun _ _ h => h)); have H4j := Kp.mk (H4i.out.fr hf (fun h => h)); clear hf))
    refine (nodeBytes_calls x1 x2 Lx1.out Lx2.out _).mono ?_
    rintro e Wk ⟨v, rfl, hO, hf⟩
    obtain ⟨gbA, cbA, rfl, hge, -, hcl, hrd⟩ := own_form (xs := 1 :: (x1 ++ x2)) hO (by simp)
    have HSAk := Kp.mk (show Src Wk (fun q => q < w.heap.size ∨ q = g4) (some ⟨gbA, 0, none⟩) cbA (1 :: (x1 ++ x2)) from ⟨hcl, .inr (.inr ⟨gbA, 0, rfl, hrd, fun h => by have := H4j.out.lt; have := HFj.out.size; omega⟩)⟩)
    have HFk := Kp.mk (HFj.out.trans hf (fun _ _ h => h))
    have H4k := Kp.mk (H4j.out.fr hf (fun h => h))
    obtain ⟨qA, hqA⟩ : ∃ q, q = (1 :: (x1 ++ x2)).length := ⟨_, rfl⟩
    rw [← hqA]
    have HQA := Kp.mk hqA
    clear hqA
    clear hO hf hge hcl hrd
    go_wp2_with (first
      | (refine goesSumG (some 51) rfl (by rfl) (Operand.tmp 50) rfl _ rfl y1 (S3.out _ HFk.out) ?_; intro Wl hf; have HFl := Kp.mk (HFk.out.trans hf (fun _ _ h => h)); have H4l := Kp.mk (H4k.out.fr hf (fun h => h)); have HSAl := Kp.mk (HSAk.out.fr (hf.mono (S' := fun q => q < w.heap.size ∨ q = g4) (fun _ _ h => h.elim))); clear hf)
      | (refine goesSumG (some 53) rfl (by rfl) (Operand.tmp 52) rfl _ rfl y2 (S4.out _ HFl.out) ?_; intro Wm hf; have HFm := Kp.mk (HFl.out.trans hf (fun _ _ h => h)); have H4m := Kp.mk (H4l.out.fr hf (fun h => h)); have HSAm := Kp.mk (HSAl.out.fr (hf.mono (S' := fun q => q < w.heap.size ∨ q = g4) (fun _ _ h => h.elim))); clear hf))
    refine (nodeBytes_calls y1 y2 Ly1.out Ly2.out _).mono ?_
    rintro e Wn ⟨v, rfl, hO, hf⟩
    obtain ⟨gbB, cbB, rfl, hge, -, hcl, hrd⟩ := own_form (xs := 1 :: (y1 ++ y2)) hO (by simp)
    have HSBn := Kp.mk (show Src Wn (fun q => q < w.heap.size ∨ q = g4) (some ⟨gbB, 0, none⟩) cbB (1 :: (y1 ++ y2)) from ⟨hcl, .inr (.inr ⟨gbB, 0, rfl, hrd, fun h => by have := H4m.out.lt; have := HFm.out.size; omega⟩)⟩)
    have HFn := Kp.mk (HFm.out.trans hf (fun _ _ h => h))
    have H4n := Kp.mk (H4m.out.fr hf (fun h => h))
    obtain ⟨qB, hqB⟩ : ∃ q, q = (1 :: (y1 ++ y2)).length := ⟨_, rfl⟩
    rw [← hqB]
    have HQB := Kp.mk hqB
    clear hqB
    have HSAn := Kp.mk (HSAm.out.fr (hf.mono (S' := fun q => q < w.heap.size ∨ q = g4) (fun _ _ h => h.elim)))
    clear hO hf hge hcl hrd
    obtain ⟨vs, hvs⟩ : ∃ vs : List Value, vs = [.slice (some ⟨gbA, 0, none⟩) qA cbA, .slice (some ⟨gbB, 0, none⟩) qB cbB] := ⟨_, rfl⟩
    have HVS := Kp.mk hvs
    have hv2 : vs.length = 2 := by rw [hvs]; rfl
    have hv1 : ∀ u ∈ vs, u.oneCell' = true := by rw [hvs]; simp [Value.oneCell']
    have hfz := fr_setCells g4 vs 0 Wn
    have hbz := blk_put H4n.out (ys := vs) (by rw [hv2]; rfl)
    have HFz := Kp.mk (HFn.out.trans (S := fun _ => False) hfz (fun q hq e => by have := HG.out; omega))
    have HSAz := Kp.mk ((HSAn.out.fr (hfz.mono (S' := fun q => q < w.heap.size ∨ q = g4) (fun _ _ h => .inr h))).mono (S' := fun q => q < w.heap.size) (fun _ _ h => .inl h))
    have HSBz := Kp.mk ((HSBn.out.fr (hfz.mono (S' := fun q => q < w.heap.size ∨ q = g4) (fun _ _ h => .inr h))).mono (S' := fun q => q < w.heap.size) (fun _ _ h => .inl h))
    have Hbz := Kp.mk hbz
    have HV := Kp.mk (And.intro hv2 hv1)
    clear hfz hbz hv2 hv1 hvs
    go_wp2_with (refine wpList_storeT rfl rfl 36 (Operand.tmp 4) (Operand.tmp 55) rfl g4 0 vs rfl (by rw [HVS.out]; rfl) (blk_there H4n.out 0 _ (by rw [HV.out.1]; exact Nat.le_refl 2)) (by rw [HV.out.1]; kernel_rfl) HV.out.2 ?_)
    refine bodyPost_ret (results_cell_tmp rfl _ _ g4 36 _ (0, 0) _ (.bool true) rfl rfl (show (World.setCells Wn g4 0 vs).heap[g4]? = some (.cells vs.toArray 36 (0, 0)) from Hbz.out) Tryd.underlying36 rfl (by rw [List.size_toArray, HV.out.1]; kernel_rfl)) rfl ?_
    exact ⟨some ⟨gbA, 0, none⟩, cbA, some ⟨gbB, 0, none⟩, cbB, by rw [HVS.out, HQA.out, HQB.out]; rfl, HSAz.out, HSBz.out, HFz.out⟩
end Go.Proofs.YtjcmgpiapbeodaaDoor.Sha
