/-
  LeafBytes, NodeBytes, Collides, and collides by the law.
-/
import Derived.Test.YtjcmgpiapbeodaaDoorBytes
import Derived.Lib.AppendZeros
set_option linter.unusedSimpArgs false
set_option linter.unusedVariables false
namespace Go.Proofs.YtjcmgpiapbeodaaDoor.Sha
open Go.RowKit Go.Proofs.YtjcmgpiapbeodaaDoor.Mem Go.Proofs.YtjcmgpiapbeodaaDoorW.PrintWords Go.Proofs.YtjcmgpiapbeodaaDoorW.PrintLast Go.Proofs.YtjcmgpiapbeodaaDoor.Pl Go.Proofs.YtjcmgpiapbeodaaDoor.Wk
attribute [local go_sem ↓] Go.wp_at_zero Go.wp_at_succ wp_load_hash wp_store_hash wp_load_mid23 wp_load_mid25 wp_store_mid25 wp_build_hash
attribute [local go_sem] rowAt_drew rowOk_drew midOk_drew midAt_drew rowBlock rowCells rowOff midFree_drew
def zr32 : List Int := [0, 0, 0, 0, 0, 0, 0, 0, 0, 0, 0, 0, 0, 0, 0, 0, 0, 0, 0, 0, 0, 0, 0, 0, 0, 0, 0, 0, 0, 0, 0, 0]
theorem own_one (w : World) (x : Int) (base : Nat) (hb : base ≤ w.heap.size) : (w.alloc (.cells #[.int .u8 x] 5)).ownsRow base 5 1 (.slice (some ⟨w.heap.size, 0, none⟩) 1 1) 1 (bytes [x]) :=
  World.ownsRow_lit w #[.int .u8 x] 1 hb (by unfold maxLen; omega) rfl
theorem owns_keep {w w1 : World} {base n : Nat} {E : TypeId} {sz : Nat} {v : Value} {xs : List Value} {S : Nat → Prop} (h : w.ownsRow base E sz v n xs) (hf : Fr S w w1) (hs : ∀ k, v.ownBlock = some k → ¬ S k) : w1.ownsRow base E sz v n xs := by
  refine ⟨h.1, ?_⟩
  rcases h.2 with h' | ⟨g, cap, cur, rfl, hb, hg, hr⟩
  · exact .inl h'
  · refine .inr ⟨g, cap, cur, rfl, hb, ?_, hr⟩
    have hlt : g < w.heap.size := by
      rcases Nat.lt_or_ge g w.heap.size with h | h
      · exact h
      · rw [Array.getElem?_eq_none h] at hg; cases hg
    exact (hf.block g hlt (hs g rfl)).trans hg
theorem owns_low {w : World} {base base' n : Nat} {E : TypeId} {sz : Nat} {v : Value} {xs : List Value} (h : w.ownsRow base E sz v n xs) (hb : base' ≤ base) : w.ownsRow base' E sz v n xs := by
  refine ⟨h.1, ?_⟩
  rcases h.2 with h' | ⟨g, cap, cur, rfl, hg, hr⟩
  · exact .inl h'
  · exact .inr ⟨g, cap, cur, rfl, Nat.le_trans hb hg, hr⟩
set_option maxHeartbeats 4000000 in
set_option maxRecDepth 100000 in
theorem leafBytes_calls (A : Option Addr) (c : Nat) (p : List Int) (w : World) (hX : Src w (fun _ => False) A c p) (hp : p.length ≤ 140737488351232) : Calls Tryd.prog 10 #[.slice A p.length c] w fun e w' =>
    ∃ v, e = .returned v ∧ w'.ownsRow w.heap.size 5 1 v (0 :: p).length (bytes (0 :: p)) ∧ Fr (fun _ => False) w w' := by
  have HX := Kp.mk hX
  obtain ⟨n, hn⟩ : ∃ n, n = p.length := ⟨_, rfl⟩
  have HN := Kp.mk hn
  rw [← hn] at hp ⊢
  have HO := Kp.mk (own_one w 0 w.heap.size (Nat.le_refl _))
  have hfa := (Fr.refl (fun _ => False) w).alloc (.cells #[.int .u8 0] 5)
  have HFA := Kp.mk hfa
  have HXa := Kp.mk (HX.out.fr hfa)
  clear hX hn hfa
  go_enter Tryd.func10, Tryd.ntmps10
  go_wp2_with (at_builtin; refine wpList_appendS rfl _ _ rfl rfl w.heap.size _ [0] rfl HO.out _ n _ p HN.out rfl HXa.out (by have := HN.out; simp only [List.length_singleton]; omega) (by exact HFA.out.size) ?_; intro v1 W1 h1 h2 h3; have HO1 := Kp.mk h1; have HG1 := Kp.mk h2; clear h1 h2 h3)
  go_ret
  refine ⟨v1, rfl, HO1.out, ?_⟩
  have hg := ((Fr.refl (fun q => q = w.heap.size) w).alloc (.cells #[.int .u8 0] 5)).grown HG1.out (fun q _ h => (Option.some.inj h).symm)
  exact (Fr.refl (fun _ => False) w).trans hg (fun q hq h => by omega)
theorem grown_nil (w : World) (n : Nat) (h0 : 0 < n) (hn : n ≤ 100000) : ∃ cap cur, n ≤ cap ∧ cap ≤ maxLen ∧ cur.size = cap ∧ (Builtin.append_ #[22, 3] 22 #[.slice none 0 0, .int .i64 (n : Int)]).run Tryd.prog w = .ok (.slice (some ⟨w.heap.size, 0, none⟩) n cap) (w.drew.alloc (.cells cur 5)) := by
  have hi := (by kernel_rfl : (Tryd.prog.info? 5).map (fun i => (i.zero, i.size, i.bytes)) = some (some (.int .u8 0), 1, 1))
  obtain ⟨i0, h1, h2, h3, h4⟩ := info_parts hi
  have h := Lib.run_append_nil_zeros (P := Tryd.prog) w 22 3 22 5 i0 (.int .u8 0) .i64 .i64 Tryd.underlying22 Tryd.underlying3 h1 h2 n h0 (by omega) (by omega) (by rw [h4]; omega)
  refine ⟨_, _, grownCap_ge w n 0 5, grownCap_le_maxLen w n 0 5 (by unfold maxLen; omega), ?_, h⟩
  have hg := grownCap_ge w n 0 5
  simp only [Array.size_append, size_zeroCells, Value.cells, List.size_toArray, List.length_cons, List.length_nil]
  omega
set_option maxHeartbeats 4000000 in
set_option maxRecDepth 100000 in
theorem grow_calls (n : Nat) (h0 : 0 < n) (hn : n ≤ 100000) (w : World) : Calls Tryd.prog 64 #[.slice none 0 0, .int .i64 (n : Int)] w fun e w' =>
    ∃ g cap, e = .returned (.slice (some ⟨g, 0, none⟩) 0 cap) ∧ w'.ownsRow w.heap.size 5 1 (.slice (some ⟨g, 0, none⟩) 0 cap) 0 [] ∧ Fr (fun _ => False) w w' := by
  obtain ⟨cap, cur, c1, c2, c3, c4⟩ := grown_nil w n h0 hn
  have HC := Kp.mk (And.intro c2 c3)
  clear c2 c3
  go_enter Tryd.func64, Tryd.ntmps64
  go_wp2_with (at_builtin; refine Lib.wpList_append_run _ rfl _ _ _ _ rfl _ _ rfl rfl _ _ c4 ?_)
  go_ret
  refine ⟨w.heap.size, cap, rfl, ⟨rfl, .inr ⟨w.heap.size, cap, cur, rfl, Nat.le_refl _, Blk.new w.drew cur _, Nat.zero_le _, HC.out.1, by rw [HC.out.2, Nat.mul_one], by simp⟩⟩, ((Fr.refl (fun _ => False) w).drew).alloc _⟩
set_option maxHeartbeats 4000000 in
set_option maxRecDepth 100000 in
/-- Concat, of three lists of 1, 32 and 32 bytes -/
theorem concat_calls (gs : Nat) (A1 A2 A3 : Option Addr) (c1 c2 c3 : Nat) (p1 p2 p3 : List Int) (w : World) (hB : Blk w gs 22 [.slice A1 1 c1, .slice A2 32 c2, .slice A3 32 c3]) (h1 : Src w (fun _ => False) A1 c1 p1) (h2 : Src w (fun _ => False) A2 c2 p2) (h3 : Src w (fun _ => False) A3 c3 p3) (l1 : p1.length = 1) (l2 : p2.length = 32) (l3 : p3.length = 32) :
    Calls Tryd.prog 37 #[.slice (some ⟨gs, 0, none⟩) 3 3] w fun e w' => ∃ v, e = .returned v ∧ w'.ownsRow w.heap.size 5 1 v (p1 ++ (p2 ++ p3)).length (bytes (p1 ++ (p2 ++ p3))) ∧ Fr (fun _ => False) w w' := by
  have HB := Kp.mk hB
  have HX1 := Kp.mk h1
  have HX2 := Kp.mk h2
  have HX3 := Kp.mk h3
  have HL1 := Kp.mk l1
  have HL2 := Kp.mk l2
  have HL3 := Kp.mk l3
  have d0 : w.cell? ⟨gs, 0, none⟩ = some (.slice A1 1 c1) := hB.cell 0 _ rfl
  have d1 : w.cell? ⟨gs, 1, none⟩ = some (.slice A2 32 c2) := hB.cell 1 _ rfl
  have d2 : w.cell? ⟨gs, 2, none⟩ = some (.slice A3 32 c3) := hB.cell 2 _ rfl
  have CG := Kp.mk (fun W => grow_calls 65 (by decide) (by decide) W)
  clear hB h1 h2 h3 l1 l2 l3
  go_enter Tryd.func37, Tryd.ntmps37
  go_wp2_with fail
  go_loop [3, 11] (fun n i => (i = .int .i64 0 ∧ n = .int .i64 0) ∨ (i = .int .i64 1 ∧ n = .int .i64 1) ∨ (i = .int .i64 2 ∧ n = .int .i64 33) ∨ (i = .int .i64 3 ∧ n = .int .i64 65)) (fun _ i => 3 - (intOf i).toNat)
  case atStart => exact .inl ⟨rfl, rfl⟩
  case round =>
    rcases hrel with ⟨rfl, rfl⟩ | ⟨rfl, rfl⟩ | ⟨rfl, rfl⟩ | ⟨rfl, rfl⟩
    · go_wp2_with fail
      go_round
      case rel => exact .inr (.inl ⟨rfl, rfl⟩)
      case measure => simp only [intOf]; decide
    · go_wp2_with fail
      go_round
      case rel => exact .inr (.inr (.inl ⟨rfl, rfl⟩))
      case measure => simp only [intOf]; decide
    · go_wp2_with fail
      go_round
      case rel => exact .inr (.inr (.inr ⟨rfl, rfl⟩))
      case measure => simp only [intOf]; decide
    · go_wp2_with fail
      refine (CG.out w).mono ?_
      rintro e W1 ⟨g, cap, rfl, hO, hf⟩
      have HO0 := Kp.mk hO
      have HF0 := Kp.mk hf
      clear hO hf CG d0 d1 d2
      go_wp2_with fail
      go_loopw [6, 27] (fun v i wr => ((i = .int .i64 0 ∧ Kp (wr.ownsRow w.heap.size 5 1 v ([] : List Int).length (bytes []))) ∨ (i = .int .i64 1 ∧ Kp (wr.ownsRow w.heap.size 5 1 v ([] ++ p1).length (bytes ([] ++ p1)))) ∨ (i = .int .i64 2 ∧ Kp (wr.ownsRow w.heap.size 5 1 v ([] ++ p1 ++ p2).length (bytes ([] ++ p1 ++ p2)))) ∨ (i = .int .i64 3 ∧ Kp (wr.ownsRow w.heap.size 5 1 v ([] ++ p1 ++ p2 ++ p3).length (bytes ([] ++ p1 ++ p2 ++ p3))))) ∧ Kp (Fr (fun _ => False) w wr)) (fun _ i _ => 3 - (intOf i).toNat)
      case atStart => exact ⟨.inl ⟨rfl, HO0⟩, HF0⟩
      case round =>
        clear HO0 HF0
        obtain ⟨hrel, HF⟩ := hrel
        rcases hrel with ⟨rfl, HO⟩ | ⟨rfl, HO⟩ | ⟨rfl, HO⟩ | ⟨rfl, HO⟩
        · skip
          have cj : wr.cell? ⟨gs, 0, none⟩ = some (.slice A1 1 c1) := (HB.out.fr HF.out (fun h => h)).cell 0 _ rfl
          have HXr := Kp.mk (HX1.out.fr HF.out)
          go_wp2_with (at_builtin; refine wpList_appendS rfl _ _ rfl rfl w.heap.size _ ([]) rfl HO.out _ 1 _ p1 HL1.out.symm rfl HXr.out (by have h1 := HL1.out; have h2 := HL2.out; have h3 := HL3.out; simp only [List.length_append, List.length_nil]; omega) (by exact HF.out.size) ?_; intro v1 W1 h1 h2 h3; have HO1 := Kp.mk h1; have HG1 := Kp.mk h2; clear h1 h2 h3)
          have HFn := Kp.mk (HF.out.grown HG1.out (fun q hq h => by have := (HO.out.lt q h).1; omega))
          refine ⟨⟨.inr (.inl ⟨rfl, HO1⟩), HFn⟩, ?_⟩
          simp only [intOf]; decide
        · skip
          have cj : wr.cell? ⟨gs, 1, none⟩ = some (.slice A2 32 c2) := (HB.out.fr HF.out (fun h => h)).cell 1 _ rfl
          have HXr := Kp.mk (HX2.out.fr HF.out)
          go_wp2_with (at_builtin; refine wpList_appendS rfl _ _ rfl rfl w.heap.size _ ([] ++ p1) rfl HO.out _ 32 _ p2 HL2.out.symm rfl HXr.out (by have h1 := HL1.out; have h2 := HL2.out; have h3 := HL3.out; simp only [List.length_append, List.length_nil]; omega) (by exact HF.out.size) ?_; intro v1 W1 h1 h2 h3; have HO1 := Kp.mk h1; have HG1 := Kp.mk h2; clear h1 h2 h3)
          have HFn := Kp.mk (HF.out.grown HG1.out (fun q hq h => by have := (HO.out.lt q h).1; omega))
          refine ⟨⟨.inr (.inr (.inl ⟨rfl, HO1⟩)), HFn⟩, ?_⟩
          simp only [intOf]; decide
        · skip
          have cj : wr.cell? ⟨gs, 2, none⟩ = some (.slice A3 32 c3) := (HB.out.fr HF.out (fun h => h)).cell 2 _ rfl
          have HXr := Kp.mk (HX3.out.fr HF.out)
          go_wp2_with (at_builtin; refine wpList_appendS rfl _ _ rfl rfl w.heap.size _ ([] ++ p1 ++ p2) rfl HO.out _ 32 _ p3 HL3.out.symm rfl HXr.out (by have h1 := HL1.out; have h2 := HL2.out; have h3 := HL3.out; simp only [List.length_append, List.length_nil]; omega) (by exact HF.out.size) ?_; intro v1 W1 h1 h2 h3; have HO1 := Kp.mk h1; have HG1 := Kp.mk h2; clear h1 h2 h3)
          have HFn := Kp.mk (HF.out.grown HG1.out (fun q hq h => by have := (HO.out.lt q h).1; omega))
          refine ⟨⟨.inr (.inr (.inr ⟨rfl, HO1⟩)), HFn⟩, ?_⟩
          simp only [intOf]; decide
        · have h := HO.out
          rw [List.nil_append, List.append_assoc] at h
          have HR := Kp.mk h
          clear h HO
          go_wp2_with fail
          go_ret
          exact ⟨_, rfl, HR.out, HF.out⟩
theorem src_blk {w : World} {b : Nat} {T : TypeId} {q : List Int} (hb : Blk w b T (bytes q)) (hq : q.length = 32) : Src w (fun _ => False) (some ⟨b, 0, none⟩) 32 q :=
  ⟨by omega, .inr (.inr ⟨_, 0, rfl, ⟨hb.lt, fun i hi => by rw [Nat.zero_add]; exact hb.cell i _ (bytes_get _ i hi)⟩, fun h => h⟩)⟩
theorem slice_all (W : World) (g : Nat) : (Instr.sliceAt 29 (.pointer (some ⟨g, 0, none⟩)) none none none).run Tryd.prog W = .ok (.slice (some ⟨g, 0, none⟩) 32 32) W := by kernel_rfl
theorem bs_b1 (ev : Operand → Value) (o : Oper) (w : World) (ho : o.op = .buildSlice 22 1 #[(0, .const (.int .u8 1))]) (hc : ev (.const (.int .u8 1)) = .int .u8 1) :
    (execOp ev o).run Tryd.prog w = .ok (.value (.slice (some ⟨w.heap.size, 0, none⟩) 1 1)) (w.alloc (.cells #[.int .u8 1] 5)) := by
  unfold execOp
  simp only [ho]
  go_simp
theorem bs_b3 (ev : Operand → Value) (o : Oper) (x y z : Operand) (w : World) (A1 A2 A3 : Option Addr) (n1 n2 n3 c1 c2 c3 : Nat) (ho : o.op = .buildSlice 63 3 #[(0, x), (1, y), (2, z)]) (hx : ev x = .slice A1 n1 c1) (hy : ev y = .slice A2 n2 c2) (hz : ev z = .slice A3 n3 c3) :
    (execOp ev o).run Tryd.prog w = .ok (.value (.slice (some ⟨w.heap.size, 0, none⟩) 3 3)) (w.alloc (.cells #[.slice A1 n1 c1, .slice A2 n2 c2, .slice A3 n3 c3] 22)) := by
  unfold execOp
  simp only [ho]
  go_simp
set_option maxHeartbeats 4000000 in
set_option maxRecDepth 100000 in
theorem nodeBytes_calls (l r : List Int) (h1 : l.length = 32) (h2 : r.length = 32) (w : World) : Calls Tryd.prog 11 #[.agg (bytes l).toArray, .agg (bytes r).toArray] w fun e w' =>
    ∃ v, e = .returned v ∧ w'.ownsRow w.heap.size 5 1 v (1 :: (l ++ r)).length (bytes (1 :: (l ++ r))) ∧ Fr (fun _ => False) w w' := by
  have HL := Kp.mk h1
  have HR := Kp.mk h2
  clear h1 h2
  go_enter Tryd.func11, Tryd.ntmps11
  go_upto_region 1 with (fail)
  obtain ⟨g2, hg2⟩ : ∃ g2, g2 = w.heap.size := ⟨_, rfl⟩
  obtain ⟨g3, hg3⟩ : ∃ g3, g3 = w.heap.size + 1 := ⟨_, rfl⟩
  rw [← hg3, ← hg2]
  obtain ⟨W1, hW1⟩ : ∃ W1, W1 = (w.alloc (.cells (bytes l).toArray 29)).alloc (.cells (bytes r).toArray 29) := ⟨_, rfl⟩
  have H2 : Kp (Blk W1 g2 29 (bytes l)) := ⟨by rw [hW1, hg2]; exact (Blk.new w _ _).alloc _⟩
  have H3 : Kp (Blk W1 g3 29 (bytes r)) := ⟨by rw [hW1, hg3]; exact Blk.new' _ _ _ (by simp)⟩
  have HF : Kp (Fr (fun _ => False) w W1) := ⟨by rw [hW1]; exact ((Fr.refl _ w).alloc _).alloc _⟩
  rw [← hW1]
  clear hW1 hg2 hg3
  have hs2 : ∀ W, (Instr.sliceAt 29 (.pointer (some ⟨g2, 0, none⟩)) none none none).run Tryd.prog W = .ok (.slice (some ⟨g2, 0, none⟩) 32 32) W := fun W => slice_all W g2
  have hs3 : ∀ W, (Instr.sliceAt 29 (.pointer (some ⟨g3, 0, none⟩)) none none none).run Tryd.prog W = .ok (.slice (some ⟨g3, 0, none⟩) 32 32) W := fun W => slice_all W g3
  refine start_ (n := 6) (S := fun w' => True) (ds := []) #[false, false, false, false, false, false] (by kernel_rfl) rfl rfl trivial (fun hHeld => ?_)
  refine pure_ (i := 1) (N := some 6) (v := ?_) (a' := ?_) #[false, true, false, false, false, false] rfl rfl (by kernel_rfl) (fun _ _ _ h => h) (Or.inl ⟨by rfl, ?_⟩) ?_ ?_
  rotate_left
  · intro w'
    go_simp
    with_reducible rfl
  rotate_left
  · simp only [Act.put, List.setIfInBounds_toArray, List.set_cons_zero, List.set_cons_succ]
    rfl
  refine pure_ (i := 2) (N := some 7) (v := ?_) (a' := ?_) #[false, true, true, false, false, false] rfl rfl (by kernel_rfl) (fun _ _ _ h => h) (Or.inl ⟨by rfl, ?_⟩) ?_ ?_
  rotate_left
  · intro w'
    go_simp
    with_reducible rfl
  rotate_left
  · simp only [Act.put, List.setIfInBounds_toArray, List.set_cons_zero, List.set_cons_succ]
    rfl
  refine one_ (i := 0) (N := some 5) #[true, true, true, false, false, false] rfl rfl (by kernel_rfl) (by decide) (fun K hK => ?_)
  refine value_ (by rfl) rfl (bs_b1 _ _ _ rfl rfl) ?_
  obtain ⟨g5, hg5⟩ : ∃ g5, g5 = W1.drew.heap.size := ⟨_, rfl⟩
  obtain ⟨W2, hW2⟩ : ∃ W2, W2 = W1.drew.alloc (.cells #[.int .u8 1] 5) := ⟨_, rfl⟩
  have hfA : Fr (fun _ => False) W1 W2 := by rw [hW2]; exact ((Fr.refl (fun _ => False) W1).drew).alloc _
  have H5 : Kp (Src W2 (fun _ => False) (some ⟨g5, 0, none⟩) 1 [1]) := ⟨by rw [hW2, hg5]; exact src_new W1.drew [1] 5 1 (Nat.le_refl _)⟩
  have H22 := Kp.mk (H2.out.fr hfA (fun h => h))
  have H32 := Kp.mk (H3.out.fr hfA (fun h => h))
  have HF2 := Kp.mk (HF.out.trans hfA (fun _ _ h => h))
  rw [← hW2, ← hg5]
  clear hg5 hW2 hfA
  refine hK.out _ _ trivial (fun hHeld => ?_)
  clear hK K
  refine norm_ (a' := ?_) ?_ ?_
  rotate_left
  · show Act.put _ (some 5) _ = _
    simp only [Act.put, List.setIfInBounds_toArray, List.set_cons_zero, List.set_cons_succ]
    rfl
  refine one_ (i := 3) (N := some 8) #[true, true, true, true, false, false] rfl rfl (by kernel_rfl) (by decide) (fun K hK => ?_)
  refine value_ (by rfl) rfl (bs_b3 _ _ (Operand.tmp 5) (Operand.tmp 6) (Operand.tmp 7) _ _ _ _ _ _ _ _ _ _ rfl rfl rfl rfl) ?_
  obtain ⟨g8, hg8⟩ : ∃ g8, g8 = W2.heap.size := ⟨_, rfl⟩
  obtain ⟨W3, hW3⟩ : ∃ W3, W3 = W2.alloc (.cells #[.slice (some ⟨g5, 0, none⟩) 1 1, .slice (some ⟨g2, 0, none⟩) 32 32, .slice (some ⟨g3, 0, none⟩) 32 32] 22) := ⟨_, rfl⟩
  have hfB : Fr (fun _ => False) W2 W3 := by rw [hW3]; exact (Fr.refl (fun _ => False) W2).alloc _
  have H8 : Kp (Blk W3 g8 22 [.slice (some ⟨g5, 0, none⟩) 1 1, .slice (some ⟨g2, 0, none⟩) 32 32, .slice (some ⟨g3, 0, none⟩) 32 32]) := ⟨by rw [hW3, hg8]; exact Blk.new W2 _ _⟩
  have HF3 := Kp.mk (HF2.out.trans hfB (fun _ _ h => h))
  have H53 := Kp.mk (H5.out.fr hfB)
  have H23 := Kp.mk (src_blk (H22.out.fr hfB (fun h => h)) HL.out)
  have H33 := Kp.mk (src_blk (H32.out.fr hfB (fun h => h)) HR.out)
  rw [← hW3, ← hg8]
  clear hg8 hW3 hfB
  refine hK.out _ _ trivial (fun hHeld => ?_)
  clear hK K
  refine norm_ (a' := ?_) ?_ ?_
  rotate_left
  · show Act.put _ (some 8) _ = _
    simp only [Act.put, List.setIfInBounds_toArray, List.set_cons_zero, List.set_cons_succ]
    rfl
  refine one_ (i := 4) (N := some 9) #[true, true, true, true, true, false] rfl rfl (by kernel_rfl) (by decide) (fun K hK => ?_)
  refine goes_ Tryd.func37 (by kernel_rfl) rfl #[.slice (some ⟨g8, 0, none⟩) 3 3] (by rfl) rfl rfl (by simp only [List.map_toArray, List.map_cons, List.map_nil]; rfl) ?_
  with_reducible refine (concat_calls g8 _ _ _ 1 32 32 [1] l r _ H8.out H53.out H23.out H33.out rfl HL.out HR.out).mono ?_
  rintro e W5 ⟨v, rfl, hO, hf⟩
  refine ⟨_, rfl, ?_⟩
  have HO := Kp.mk hO
  have HF5 := Kp.mk (HF3.out.trans hf (fun _ _ h => h))
  clear hO hf
  refine hK.out _ _ trivial (fun hHeld => ?_)
  clear hK K
  refine norm_ (a' := ?_) ?_ ?_
  rotate_left
  · show Act.put _ (some 9) _ = _
    simp only [Act.put, List.setIfInBounds_toArray, List.set_cons_zero, List.set_cons_succ]
    rfl
  refine pure_ (i := 5) (N := some 4) (v := ?_) (a' := ?_) #[true, true, true, true, true, true] rfl rfl (by kernel_rfl) (fun _ _ _ h => h) (Or.inl ⟨by rfl, ?_⟩) ?_ ?_
  rotate_left
  · intro w'
    go_simp
    with_reducible rfl
  rotate_left
  · simp only [Act.put, List.setIfInBounds_toArray, List.set_cons_zero, List.set_cons_succ]
    rfl
  refine done_ (by kernel_rfl) ?_
  go_wp2_with (fail)
  go_ret
  exact ⟨v, rfl, owns_low HO.out HF3.out.size, HF5.out⟩
theorem al_hash (ev : Operand → Value) (o : Oper) (w : World) (ho : o.op = .alloc 29) : (execOp ev o).run Tryd.prog w = .ok (.value (.pointer (some ⟨w.heap.size, 0, none⟩))) (w.alloc (.cells (bytes zr32).toArray 29)) := by
  unfold execOp
  simp only [ho]
  go_simp
  rfl
theorem lds_bytes {w : World} {a : Addr} {v : Value} (h : w.cell? a = some v) : Lds w 22 (.pointer (some a)) v := by
  intro ev o x ho hx
  unfold execOp
  simp only [ho, hx]
  go_simp
theorem slice_upto (W : World) (g s : Nat) (hs : s ≤ 32) : (Instr.sliceAt 29 (.pointer (some ⟨g, 0, none⟩)) none (some (.int .i64 (s : Int))) none).run Tryd.prog W = .ok (.slice (some ⟨g, 0, none⟩) s 32) W := by
  have hal : Tryd.prog.arrayLen 29 = 32 := by kernel_rfl
  have hel : Tryd.prog.elem 29 = 5 := by kernel_rfl
  rw [run_sliceAt_array_h (P := Tryd.prog) W 29 ⟨g, 0, none⟩ (by rw [hal, hel]; exact Tryd.underlying29) .i64 (s : Int) (by omega) (by rw [hal]; omega), hel, size_u8, hal]
  simp only [Result.andThen_ok, slicedAt, Int.toNat_natCast]
  rw [if_neg (by omega), Nat.zero_mul, Addr.add_lit, Nat.sub_zero, Nat.sub_zero]
theorem byt_layWord {w : Nat} (x : BitVec w) (sz : Nat) : Byt (layWord x sz) := fun b hb => by
  obtain ⟨i, _, rfl⟩ := List.mem_map.1 hb
  omega
theorem byt_words (B : Bool) (c : Chain) : Byt (words B c) := fun b hb => by
  cases B
  · obtain ⟨x, _, h⟩ := List.mem_flatMap.1 hb
    exact byt_layWord _ _ b h
  · obtain ⟨x, _, h⟩ := List.mem_flatMap.1 hb
    exact byt_layWord _ _ b h
theorem hash_byt (p : List Int) : Byt (hash false p) := byt_words _ _
set_option maxHeartbeats 4000000 in
set_option maxRecDepth 100000 in
theorem kept_calls (k : Int) (w : World) : Calls Tryd.prog 13 #[.int .i64 k] w fun e w' => e = .returned (.int .i64 (strength k : Nat)) ∧ w' = w := by
  have hs : (1 ≤ k ∧ k ≤ 31 ∧ ((strength k : Nat) : Int) = k) ∨ (¬ (1 ≤ k ∧ k ≤ 31) ∧ ((strength k : Nat) : Int) = 32) := by
    unfold strength
    by_cases h : 1 ≤ k ∧ k ≤ 31
    · rw [if_pos h]; exact .inl ⟨h.1, h.2, by omega⟩
    · rw [if_neg h]; exact .inr ⟨h, rfl⟩
  generalize ((strength k : Nat) : Int) = s at hs ⊢
  rcases hs with ⟨h1, h2, rfl⟩ | ⟨h, rfl⟩
  · go_enter Tryd.func13, Tryd.ntmps13
    go_wp2
    go_ret
    exact ⟨rfl, rfl⟩
  · rcases (by omega : k < 1 ∨ (1 ≤ k ∧ 31 < k)) with h1 | ⟨h1, h2⟩
    · clear h
      go_enter Tryd.func13, Tryd.ntmps13
      go_wp2
      go_ret
      exact ⟨rfl, rfl⟩
    · clear h
      go_enter Tryd.func13, Tryd.ntmps13
      go_wp2
      go_ret
      exact ⟨rfl, rfl⟩
theorem src_reads {w : World} {b : Nat} {T : TypeId} {q : List Int} (hb : Blk w b T (bytes q)) (hq : q.length = 32) : Reads w b 0 q := ⟨hb.lt, fun i hi => by rw [Nat.zero_add]; exact hb.cell i _ (bytes_get _ i hi)⟩
/-- do two texts collide at a strength? -/
def collP (s : Nat) (a b : List Int) : Prop := a ≠ b ∧ (hash false a).take s = (hash false b).take s
instance (s : Nat) (a b : List Int) : Decidable (collP s a b) := by unfold collP; exact inferInstance
set_option maxHeartbeats 4000000 in
set_option maxRecDepth 100000 in
theorem Collides_calls (k : Int) (A B : Option Addr) (c d : Nat) (a b : List Int) (w : World) (hL : Laid w) (hX : Src w (fun _ => False) A c a) (hY : Src w (fun _ => False) B d b) (ha : Byt a) (hb : Byt b) (la : a.length ≤ maxCount) (lb : b.length ≤ maxCount) :
    Calls Tryd.prog 16 #[.int .i64 k, .agg #[.slice A a.length c, .slice B b.length d]] w fun e w' => e = .returned (.bool (decide (collP (strength k) a b))) ∧ Fr (fun _ => False) w w' := by
  have CA0 : Kp (∀ W, Fr (fun _ => False) w W → Calls Tryd.prog 12 #[.slice A a.length c] W fun e w' => e = .returned (.agg (bytes (hash false a)).toArray) ∧ Fr (fun _ => False) W w') :=
    ⟨fun W hf => (F32.hash_calls A c a W (hL.fr hf (fun _ h => h.elim)) (hX.fr hf) la).mono fun _ _ h => ⟨h.1, Fr.of_below h.2 _⟩⟩
  have CB0 : Kp (∀ W, Fr (fun _ => False) w W → Calls Tryd.prog 12 #[.slice B b.length d] W fun e w' => e = .returned (.agg (bytes (hash false b)).toArray) ∧ Fr (fun _ => False) W w') :=
    ⟨fun W hf => (F32.hash_calls B d b W (hL.fr hf (fun _ h => h.elim)) (hY.fr hf) lb).mono fun _ _ h => ⟨h.1, Fr.of_below h.2 _⟩⟩
  have CE : Kp (∀ W, Fr (fun _ => False) w W → Calls Tryd.prog 42 #[.slice A a.length c, .slice B b.length d] W fun e w' => e = .returned (.bool (decide (a = b))) ∧ w' = W) :=
    ⟨fun W hf => equal_calls A B c d a b W (hX.fr hf) (hY.fr hf) ha hb⟩
  have hP : Kp (collP (strength k) a b = (a ≠ b ∧ (hash false a).take (strength k) = (hash false b).take (strength k))) := ⟨rfl⟩
  have Hha32 := Kp.mk (hlen a)
  have Hhb32 := Kp.mk (hlen b)
  have Hba := Kp.mk (hash_byt a)
  have Hbb := Kp.mk (hash_byt b)
  generalize hash false a = ha at CA0 hP Hha32 Hba
  generalize hash false b = hb at CB0 hP Hhb32 Hbb
  obtain ⟨PP, hPP⟩ : ∃ PP, PP = decide (collP (strength k) a b) := ⟨_, rfl⟩
  rw [← hPP]
  have HPP : Kp (PP = decide (a ≠ b ∧ ha.take (strength k) = hb.take (strength k))) := ⟨by rw [hPP]; exact decide_eq_decide.2 (iff_of_eq hP.out)⟩
  have hsk := strength_le k
  have hs1 := strength_one k
  obtain ⟨s, hs⟩ : ∃ s, s = strength k := ⟨_, rfl⟩
  rw [← hs] at HPP hsk hs1
  have hks : ((k < 1 ∨ (1 ≤ k ∧ 31 < k)) ∧ (32 : Int) = (s : Int)) ∨ (1 ≤ k ∧ k ≤ 31 ∧ k = (s : Int)) := by
    rw [hs]
    unfold strength
    by_cases h : 1 ≤ k ∧ k ≤ 31
    · rw [if_pos h]; exact .inr ⟨h.1, h.2, by omega⟩
    · rw [if_neg h]; exact .inl ⟨by omega, rfl⟩
  obtain ⟨n, hn⟩ : ∃ n, n = a.length := ⟨_, rfl⟩
  obtain ⟨m, hm⟩ : ∃ m, m = b.length := ⟨_, rfl⟩
  rw [← hn] at CA0 CE ⊢
  rw [← hm] at CB0 CE ⊢
  have HAB : Kp ((a = b) = (a = b)) := ⟨rfl⟩
  clear hP hPP hs hn hm hL hX hY la lb
  go_enter Tryd.func16, Tryd.ntmps16
  go_upto_region 1 with (fail)
  obtain ⟨g3, hg3⟩ : ∃ g3, g3 = w.heap.size := ⟨_, rfl⟩
  obtain ⟨W1, hW1⟩ : ∃ W1, W1 = w.alloc (.cells #[.slice A n c, .slice B m d] 36) := ⟨_, rfl⟩
  have H3 : Kp (Blk W1 g3 36 [.slice A n c, .slice B m d]) := ⟨by rw [hW1, hg3]; exact Blk.new w _ _⟩
  have HF : Kp (Fr (fun _ => False) w W1) := ⟨by rw [hW1]; exact (Fr.refl _ w).alloc _⟩
  rw [← hg3, ← hW1]
  clear hW1 hg3
  have LA : Kp (∀ W, Fr (fun _ => False) W1 W → Lds W 22 (.pointer (some ⟨g3, 0, none⟩)) (.slice A n c)) := ⟨fun W hf => lds_bytes ((H3.out.fr hf (fun h => h)).cell 0 _ rfl)⟩
  have LB : Kp (∀ W, Fr (fun _ => False) W1 W → Lds W 22 (.pointer (some ⟨g3, 1, none⟩)) (.slice B m d)) := ⟨fun W hf => lds_bytes ((H3.out.fr hf (fun h => h)).cell 1 _ rfl)⟩
  have CA := Kp.mk (fun W (hf : Fr (fun _ => False) W1 W) => CA0.out W (HF.out.trans hf (fun _ _ h => h)))
  have CB := Kp.mk (fun W (hf : Fr (fun _ => False) W1 W) => CB0.out W (HF.out.trans hf (fun _ _ h => h)))
  have CEq := Kp.mk (fun W (hf : Fr (fun _ => False) W1 W) => CE.out W (HF.out.trans hf (fun _ _ h => h)))
  clear CA0 CB0 CE H3
  obtain ⟨bb, hbb⟩ : ∃ bb : Bool, bb = decide (k < 1 ∨ 31 < k) := ⟨_, rfl⟩
  have HBB := Kp.mk hbb
  have HKS := Kp.mk hks
  clear hbb hks
  go_cut [12] from 7 to 12 (fun v wc => v = .bool bb ∧ W1 = wc)
  case first =>
    rcases (by omega : k < 1 ∨ (1 ≤ k ∧ 31 < k) ∨ (1 ≤ k ∧ k ≤ 31)) with h1 | ⟨h1, h2⟩ | ⟨h1, h2⟩
    · go_wp2_with fail
      go_meet
      case rel => exact ⟨by rw [HBB.out, decide_eq_true (.inl h1)], rfl⟩
    · go_wp2_with fail
      go_meet
      case rel => exact ⟨by rw [HBB.out, decide_eq_true (.inr h2)], rfl⟩
    · go_wp2_with fail
      go_meet
      case rel => exact ⟨by rw [HBB.out, decide_eq_false (show ¬ (k < 1 ∨ 31 < k) by omega)]; first | rfl | (simp; omega), rfl⟩
  case rest =>
    obtain ⟨rfl, rfl⟩ := hcut
    go_upto_if 12 with (fail)
    go_cut [0] (fun v0 wc => v0 = .int .i64 (s : Int) ∧ W1 = wc)
    case first =>
      cases bb
      · have hk : k = (s : Int) := by
          have h := HBB.out
          have h2 := HKS.out
          have h3 : ¬ (k < 1 ∨ 31 < k) := fun h4 => by rw [decide_eq_true h4] at h; cases h
          omega
        subst hk
        go_wp2_with fail
        go_meet
        case rel => exact ⟨rfl, rfl⟩
      · have hk : (32 : Int) = (s : Int) := by
          have h := HBB.out
          have h2 := HKS.out
          have h3 : k < 1 ∨ 31 < k := of_decide_eq_true h.symm
          omega
        have HK := Kp.mk hk
        clear hk
        go_wp2_with fail
        go_meet
        case rel => exact ⟨by rw [← HK.out], rfl⟩
    case rest =>
      obtain ⟨rfl, rfl⟩ := hcut
      go_wp2_with fail
      refine start_ (n := 10) (S := fun w' => Fr (fun _ => False) W1 w') (ds := []) #[false, false, false, false, false, false, false, false, false, false] (by kernel_rfl) rfl rfl ((Fr.refl (fun _ => False) W1).drew) (fun hHeld => ?_)
      refine pure_ (i := 0) (N := some 13) (v := ?_) (a' := ?_) #[true, false, false, false, false, false, false, false, false, false] rfl rfl (by kernel_rfl) (fun _ _ _ h => h) (Or.inl ⟨by rfl, ?_⟩) ?_ ?_
      rotate_left
      · intro w'
        go_simp
        with_reducible rfl
      rotate_left
      · simp only [Act.put, List.setIfInBounds_toArray, List.set_cons_zero, List.set_cons_succ]
        rfl
      refine take_ (i := 1) (N := some 14) (v := ?_) (a' := ?_) #[true, true, false, false, false, false, false, false, false, false] rfl rfl (by kernel_rfl) (fun _ _ _ h => h) (Or.inl ⟨by rfl, ?_⟩) hHeld ?_ ?_
      rotate_left
      · intro w' s0
        refine Lds.run (LA.out w' s0) (x := ?_) ?_ ?_
        · exact (Operand.tmp 13)
        · rfl
        · rfl
      rotate_left
      · simp only [Act.put, List.setIfInBounds_toArray, List.set_cons_zero, List.set_cons_succ]
        rfl
      refine pure_ (i := 3) (N := some 16) (v := ?_) (a' := ?_) #[true, true, false, true, false, false, false, false, false, false] rfl rfl (by kernel_rfl) (fun _ _ _ h => h) (Or.inl ⟨by rfl, ?_⟩) ?_ ?_
      rotate_left
      · intro w'
        go_simp
        with_reducible rfl
      rotate_left
      · simp only [Act.put, List.setIfInBounds_toArray, List.set_cons_zero, List.set_cons_succ]
        rfl
      refine take_ (i := 4) (N := some 17) (v := ?_) (a' := ?_) #[true, true, false, true, true, false, false, false, false, false] rfl rfl (by kernel_rfl) (fun _ _ _ h => h) (Or.inl ⟨by rfl, ?_⟩) hHeld ?_ ?_
      rotate_left
      · intro w' s0
        refine Lds.run (LB.out w' s0) (x := ?_) ?_ ?_
        · exact (Operand.tmp 16)
        · rfl
        · rfl
      rotate_left
      · simp only [Act.put, List.setIfInBounds_toArray, List.set_cons_zero, List.set_cons_succ]
        rfl
      refine join_ (σ := Nat × Nat) 0 #[true, true, true, true, true, true, true, true, true, true] (fun (s : Nat × Nat) => match s with | (g5, g6) => show List (Tmp × Value) from [(13, .pointer (some ⟨g3, 0, none⟩)), (14, .slice A n c), (15, .agg (bytes ha).toArray), (16, .pointer (some ⟨g3, 1, none⟩)), (17, .slice B m d), (18, .agg (bytes hb).toArray), (5, .pointer (some ⟨g5, 0, none⟩)), (6, .pointer (some ⟨g6, 0, none⟩))]) (fun (s : Nat × Nat) w' => match s with | (g5, g6) => Fr (fun _ => False) W1 w' ∧ Blk w' g5 29 (bytes ha) ∧ Blk w' g6 29 (bytes hb) ∧ W1.heap.size ≤ g5 ∧ W1.heap.size ≤ g6 ∧ g5 ≠ g6) ?_ ?_
      rotate_left
      intro hD0
      refine join_ (σ := Nat × Nat) 1 #[true, true, true, true, true, true, true, true, true, false] (fun (s : Nat × Nat) => match s with | (g5, g6) => show List (Tmp × Value) from [(13, .pointer (some ⟨g3, 0, none⟩)), (14, .slice A n c), (15, .agg (bytes ha).toArray), (16, .pointer (some ⟨g3, 1, none⟩)), (17, .slice B m d), (18, .agg (bytes hb).toArray), (5, .pointer (some ⟨g5, 0, none⟩)), (6, .pointer (some ⟨g6, 0, none⟩))]) (fun (s : Nat × Nat) w' => match s with | (g5, g6) => Fr (fun _ => False) W1 w' ∧ Blk w' g5 29 (bytes ha) ∧ Blk w' g6 29 (bytes zr32) ∧ W1.heap.size ≤ g5 ∧ W1.heap.size ≤ g6 ∧ g5 ≠ g6) ?_ ?_
      rotate_left
      intro hD1
      refine join_ (σ := Nat × Nat) 2 #[true, true, true, true, true, true, true, true, false, false] (fun (s : Nat × Nat) => match s with | (g5, g6) => show List (Tmp × Value) from [(13, .pointer (some ⟨g3, 0, none⟩)), (14, .slice A n c), (15, .agg (bytes ha).toArray), (16, .pointer (some ⟨g3, 1, none⟩)), (17, .slice B m d), (18, .agg (bytes hb).toArray), (5, .pointer (some ⟨g5, 0, none⟩)), (6, .pointer (some ⟨g6, 0, none⟩))]) (fun (s : Nat × Nat) w' => match s with | (g5, g6) => Fr (fun _ => False) W1 w' ∧ Blk w' g5 29 (bytes zr32) ∧ Blk w' g6 29 (bytes zr32) ∧ W1.heap.size ≤ g5 ∧ W1.heap.size ≤ g6 ∧ g5 ≠ g6) ?_ ?_
      rotate_left
      intro hD2
      refine join_ (σ := Nat) 3 #[true, true, true, true, true, true, true, false, false, false] (fun (g5 : Nat) => show List (Tmp × Value) from [(13, .pointer (some ⟨g3, 0, none⟩)), (14, .slice A n c), (15, .agg (bytes ha).toArray), (16, .pointer (some ⟨g3, 1, none⟩)), (17, .slice B m d), (18, .agg (bytes hb).toArray), (5, .pointer (some ⟨g5, 0, none⟩))]) (fun (g5 : Nat) w' => Fr (fun _ => False) W1 w' ∧ Blk w' g5 29 (bytes zr32) ∧ W1.heap.size ≤ g5) ?_ ?_
      rotate_left
      intro hD3
      refine join_ (σ := Nat) 3 #[true, true, true, true, true, true, false, true, false, false] (fun (g6 : Nat) => show List (Tmp × Value) from [(13, .pointer (some ⟨g3, 0, none⟩)), (14, .slice A n c), (15, .agg (bytes ha).toArray), (16, .pointer (some ⟨g3, 1, none⟩)), (17, .slice B m d), (18, .agg (bytes hb).toArray), (6, .pointer (some ⟨g6, 0, none⟩))]) (fun (g6 : Nat) w' => Fr (fun _ => False) W1 w' ∧ Blk w' g6 29 (bytes zr32) ∧ W1.heap.size ≤ g6) ?_ ?_
      rotate_left
      intro hD4
      refine join_ (σ := Nat × Nat) 3 #[true, true, true, true, true, false, true, true, false, false] (fun (s : Nat × Nat) => match s with | (g5, g6) => show List (Tmp × Value) from [(13, .pointer (some ⟨g3, 0, none⟩)), (14, .slice A n c), (15, .agg (bytes ha).toArray), (16, .pointer (some ⟨g3, 1, none⟩)), (17, .slice B m d), (5, .pointer (some ⟨g5, 0, none⟩)), (6, .pointer (some ⟨g6, 0, none⟩))]) (fun (s : Nat × Nat) w' => match s with | (g5, g6) => Fr (fun _ => False) W1 w' ∧ Blk w' g5 29 (bytes zr32) ∧ Blk w' g6 29 (bytes zr32) ∧ W1.heap.size ≤ g5 ∧ W1.heap.size ≤ g6 ∧ g5 ≠ g6) ?_ ?_
      rotate_left
      intro hD5
      refine join_ (σ := Unit) 4 #[true, true, true, true, true, true, false, false, false, false] (fun (_ : Unit) => show List (Tmp × Value) from [(13, .pointer (some ⟨g3, 0, none⟩)), (14, .slice A n c), (15, .agg (bytes ha).toArray), (16, .pointer (some ⟨g3, 1, none⟩)), (17, .slice B m d), (18, .agg (bytes hb).toArray)]) (fun (_ : Unit) w' => Fr (fun _ => False) W1 w') ?_ ?_
      rotate_left
      intro hD6
      refine join_ (σ := Nat) 4 #[true, true, true, true, true, false, true, false, false, false] (fun (g5 : Nat) => show List (Tmp × Value) from [(13, .pointer (some ⟨g3, 0, none⟩)), (14, .slice A n c), (15, .agg (bytes ha).toArray), (16, .pointer (some ⟨g3, 1, none⟩)), (17, .slice B m d), (5, .pointer (some ⟨g5, 0, none⟩))]) (fun (g5 : Nat) w' => Fr (fun _ => False) W1 w' ∧ Blk w' g5 29 (bytes zr32) ∧ W1.heap.size ≤ g5) ?_ ?_
      rotate_left
      intro hD7
      refine join_ (σ := Nat) 4 #[true, true, true, true, true, false, false, true, false, false] (fun (g6 : Nat) => show List (Tmp × Value) from [(13, .pointer (some ⟨g3, 0, none⟩)), (14, .slice A n c), (15, .agg (bytes ha).toArray), (16, .pointer (some ⟨g3, 1, none⟩)), (17, .slice B m d), (6, .pointer (some ⟨g6, 0, none⟩))]) (fun (g6 : Nat) w' => Fr (fun _ => False) W1 w' ∧ Blk w' g6 29 (bytes zr32) ∧ W1.heap.size ≤ g6) ?_ ?_
      rotate_left
      intro hD8
      refine join_ (σ := Nat × Nat) 4 #[true, true, false, true, true, false, true, true, false, false] (fun (s : Nat × Nat) => match s with | (g5, g6) => show List (Tmp × Value) from [(13, .pointer (some ⟨g3, 0, none⟩)), (14, .slice A n c), (16, .pointer (some ⟨g3, 1, none⟩)), (17, .slice B m d), (5, .pointer (some ⟨g5, 0, none⟩)), (6, .pointer (some ⟨g6, 0, none⟩))]) (fun (s : Nat × Nat) w' => match s with | (g5, g6) => Fr (fun _ => False) W1 w' ∧ Blk w' g5 29 (bytes zr32) ∧ Blk w' g6 29 (bytes zr32) ∧ W1.heap.size ≤ g5 ∧ W1.heap.size ≤ g6 ∧ g5 ≠ g6) ?_ ?_
      rotate_left
      intro hD9
      refine join_ (σ := Unit) 5 #[true, true, true, true, true, false, false, false, false, false] (fun (_ : Unit) => show List (Tmp × Value) from [(13, .pointer (some ⟨g3, 0, none⟩)), (14, .slice A n c), (15, .agg (bytes ha).toArray), (16, .pointer (some ⟨g3, 1, none⟩)), (17, .slice B m d)]) (fun (_ : Unit) w' => Fr (fun _ => False) W1 w') ?_ ?_
      rotate_left
      intro hD10
      refine join_ (σ := Nat) 5 #[true, true, false, true, true, false, true, false, false, false] (fun (g5 : Nat) => show List (Tmp × Value) from [(13, .pointer (some ⟨g3, 0, none⟩)), (14, .slice A n c), (16, .pointer (some ⟨g3, 1, none⟩)), (17, .slice B m d), (5, .pointer (some ⟨g5, 0, none⟩))]) (fun (g5 : Nat) w' => Fr (fun _ => False) W1 w' ∧ Blk w' g5 29 (bytes zr32) ∧ W1.heap.size ≤ g5) ?_ ?_
      rotate_left
      intro hD11
      refine join_ (σ := Nat) 5 #[true, true, false, true, true, false, false, true, false, false] (fun (g6 : Nat) => show List (Tmp × Value) from [(13, .pointer (some ⟨g3, 0, none⟩)), (14, .slice A n c), (16, .pointer (some ⟨g3, 1, none⟩)), (17, .slice B m d), (6, .pointer (some ⟨g6, 0, none⟩))]) (fun (g6 : Nat) w' => Fr (fun _ => False) W1 w' ∧ Blk w' g6 29 (bytes zr32) ∧ W1.heap.size ≤ g6) ?_ ?_
      rotate_left
      intro hD12
      · skip
        refine three_ (i := 2) (j := 6) (k := 7) (Ni := some 15) (Nj := some 5) (Nk := some 6) #[true, true, true, true, true, false, false, false, false, false] #[true, true, false, true, true, false, true, false, false, false] #[true, true, false, true, true, false, false, true, false, false] rfl rfl rfl rfl rfl rfl (by kernel_rfl) (by decide) (by decide) (by decide) (fun K hK => ?_) (fun K hK => ?_) (fun K hK => ?_)
        · skip
          refine goes_ Tryd.func12 (by kernel_rfl) rfl #[.slice A n c] (by rfl) rfl rfl (by simp only [List.map_toArray, List.map_cons, List.map_nil]; rfl) ?_
          with_reducible refine (CA.out _ hHeld).mono ?_
          rintro e wy ⟨rfl, hq⟩
          refine ⟨_, rfl, ?_⟩
          have Fy : Fr (fun _ => False) W1 wy := hHeld.trans hq (fun _ _ h => h)
          refine hK.out _ _ Fy (fun _ => ?_)
          clear hK K
          refine norm_ (a' := ?_) ?_ ?_
          rotate_left
          · show Act.put _ (some 15) _ = _
            simp only [Act.put, List.setIfInBounds_toArray, List.set_cons_zero, List.set_cons_succ]
            rfl
          refine norm_ ?_ (hD10 () _ Fy)
          simp only [putAll, Act.put, List.setIfInBounds_toArray, List.set_cons_zero, List.set_cons_succ]
        · skip
          refine value_ (by rfl) rfl (al_hash _ _ _ rfl) ?_
          have hal : Fr (fun _ => False) W1.drew (W1.drew.alloc (.cells (bytes zr32).toArray 29)) := (Fr.refl _ W1.drew).alloc _
          have Fy : Fr (fun _ => False) W1 (W1.drew.alloc (.cells (bytes zr32).toArray 29)) := hHeld.trans hal (fun _ _ h => h)
          have Byg5 : Blk (W1.drew.alloc (.cells (bytes zr32).toArray 29)) W1.drew.heap.size 29 (bytes zr32) := Blk.new W1.drew _ _
          have Gyg5 : W1.heap.size ≤ W1.drew.heap.size := hHeld.size
          refine hK.out _ _ Fy (fun _ => ?_)
          clear hK K
          refine norm_ (a' := ?_) ?_ ?_
          rotate_left
          · show Act.put _ (some 5) _ = _
            simp only [Act.put, List.setIfInBounds_toArray, List.set_cons_zero, List.set_cons_succ]
            rfl
          refine norm_ ?_ (hD11 W1.drew.heap.size _ ⟨Fy, Byg5, Gyg5⟩)
          simp only [putAll, Act.put, List.setIfInBounds_toArray, List.set_cons_zero, List.set_cons_succ]
        · skip
          refine value_ (by rfl) rfl (al_hash _ _ _ rfl) ?_
          have hal : Fr (fun _ => False) W1.drew (W1.drew.alloc (.cells (bytes zr32).toArray 29)) := (Fr.refl _ W1.drew).alloc _
          have Fy : Fr (fun _ => False) W1 (W1.drew.alloc (.cells (bytes zr32).toArray 29)) := hHeld.trans hal (fun _ _ h => h)
          have Byg6 : Blk (W1.drew.alloc (.cells (bytes zr32).toArray 29)) W1.drew.heap.size 29 (bytes zr32) := Blk.new W1.drew _ _
          have Gyg6 : W1.heap.size ≤ W1.drew.heap.size := hHeld.size
          refine hK.out _ _ Fy (fun _ => ?_)
          clear hK K
          refine norm_ (a' := ?_) ?_ ?_
          rotate_left
          · show Act.put _ (some 6) _ = _
            simp only [Act.put, List.setIfInBounds_toArray, List.set_cons_zero, List.set_cons_succ]
            rfl
          refine norm_ ?_ (hD12 W1.drew.heap.size _ ⟨Fy, Byg6, Gyg6⟩)
          simp only [putAll, Act.put, List.setIfInBounds_toArray, List.set_cons_zero, List.set_cons_succ]
      rotate_left
      · skip
        rintro ⟨g5, g6⟩ wx ⟨Fx, Bg5, Bg6, Gg5, Gg6, NEg5g6⟩
        refine norm_ (a' := ?_) ?_ ?_
        rotate_left
        · simp only [putAll, Act.put, List.setIfInBounds_toArray, List.set_cons_zero, List.set_cons_succ]
          rfl
        refine one_ (i := 9) (N := none) #[true, true, true, true, true, true, true, true, true, true] rfl rfl (by kernel_rfl) (by decide) (fun K hK => ?_)
        refine skip_ (by rfl) rfl (st_hash _ _ (Operand.tmp 6) (Operand.tmp 18) wx g6 _ _ hb rfl rfl rfl Bg6 rfl Hhb32.out) ?_
        have hst : Fr (fun q => q = g6) wx (wx.setRow g6 (bytes hb).toArray) := ⟨rfl, rfl, rfl, by simp [World.setRow], fun q _ hq => setRow_other _ _ q _ hq⟩
        have Fy : Fr (fun _ => False) W1 (wx.setRow g6 (bytes hb).toArray) := Fx.trans (S := fun _ => False) hst (fun q hq e => by have := Gg6; omega)
        have Byg6 : Blk (wx.setRow g6 (bytes hb).toArray) g6 29 (bytes hb) := setRow_heap _ g6 _ _ _ _ Bg6
        have Byg5 := Bg5.fr hst (NEg5g6)
        refine hK.out _ _ Fy (fun _ => ?_)
        clear hK K
        refine norm_ ?_ (hD0 (g5, g6) _ ⟨Fy, Byg5, Byg6, Gg5, Gg6, NEg5g6⟩)
        simp only [putAll, Act.put, List.setIfInBounds_toArray, List.set_cons_zero, List.set_cons_succ]
      · skip
        rintro ⟨g5, g6⟩ wx ⟨Fx, Bg5, Bg6, Gg5, Gg6, NEg5g6⟩
        refine norm_ (a' := ?_) ?_ ?_
        rotate_left
        · simp only [putAll, Act.put, List.setIfInBounds_toArray, List.set_cons_zero, List.set_cons_succ]
          rfl
        refine one_ (i := 8) (N := none) #[true, true, true, true, true, true, true, true, true, false] rfl rfl (by kernel_rfl) (by decide) (fun K hK => ?_)
        refine skip_ (by rfl) rfl (st_hash _ _ (Operand.tmp 5) (Operand.tmp 15) wx g5 _ _ ha rfl rfl rfl Bg5 rfl Hha32.out) ?_
        have hst : Fr (fun q => q = g5) wx (wx.setRow g5 (bytes ha).toArray) := ⟨rfl, rfl, rfl, by simp [World.setRow], fun q _ hq => setRow_other _ _ q _ hq⟩
        have Fy : Fr (fun _ => False) W1 (wx.setRow g5 (bytes ha).toArray) := Fx.trans (S := fun _ => False) hst (fun q hq e => by have := Gg5; omega)
        have Byg5 : Blk (wx.setRow g5 (bytes ha).toArray) g5 29 (bytes ha) := setRow_heap _ g5 _ _ _ _ Bg5
        have Byg6 := Bg6.fr hst (NEg5g6.symm)
        refine hK.out _ _ Fy (fun _ => ?_)
        clear hK K
        refine norm_ ?_ (hD1 (g5, g6) _ ⟨Fy, Byg5, Byg6, Gg5, Gg6, NEg5g6⟩)
        simp only [putAll, Act.put, List.setIfInBounds_toArray, List.set_cons_zero, List.set_cons_succ]
      · skip
        rintro g5 wx ⟨Fx, Bg5, Gg5⟩
        refine norm_ (a' := ?_) ?_ ?_
        rotate_left
        · simp only [putAll, Act.put, List.setIfInBounds_toArray, List.set_cons_zero, List.set_cons_succ]
          rfl
        refine one_ (i := 7) (N := some 6) #[true, true, true, true, true, true, true, true, false, false] rfl rfl (by kernel_rfl) (by decide) (fun K hK => ?_)
        refine value_ (by rfl) rfl (al_hash _ _ _ rfl) ?_
        have hal : Fr (fun _ => False) wx (wx.alloc (.cells (bytes zr32).toArray 29)) := (Fr.refl _ wx).alloc _
        have Fy : Fr (fun _ => False) W1 (wx.alloc (.cells (bytes zr32).toArray 29)) := Fx.trans hal (fun _ _ h => h)
        have Byg6 : Blk (wx.alloc (.cells (bytes zr32).toArray 29)) wx.heap.size 29 (bytes zr32) := Blk.new wx _ _
        have Gyg6 : W1.heap.size ≤ wx.heap.size := Fx.size
        have Byg5 := Bg5.fr hal (fun h => h)
        have NEyg5 : g5 ≠ wx.heap.size := Nat.ne_of_lt Bg5.lt
        refine hK.out _ _ Fy (fun _ => ?_)
        clear hK K
        refine norm_ (a' := ?_) ?_ ?_
        rotate_left
        · show Act.put _ (some 6) _ = _
          simp only [Act.put, List.setIfInBounds_toArray, List.set_cons_zero, List.set_cons_succ]
          rfl
        refine norm_ ?_ (hD2 (g5, wx.heap.size) _ ⟨Fy, Byg5, Byg6, Gg5, Gyg6, NEyg5⟩)
        simp only [putAll, Act.put, List.setIfInBounds_toArray, List.set_cons_zero, List.set_cons_succ]
      · skip
        rintro g6 wx ⟨Fx, Bg6, Gg6⟩
        refine norm_ (a' := ?_) ?_ ?_
        rotate_left
        · simp only [putAll, Act.put, List.setIfInBounds_toArray, List.set_cons_zero, List.set_cons_succ]
          rfl
        refine one_ (i := 6) (N := some 5) #[true, true, true, true, true, true, true, true, false, false] rfl rfl (by kernel_rfl) (by decide) (fun K hK => ?_)
        refine value_ (by rfl) rfl (al_hash _ _ _ rfl) ?_
        have hal : Fr (fun _ => False) wx (wx.alloc (.cells (bytes zr32).toArray 29)) := (Fr.refl _ wx).alloc _
        have Fy : Fr (fun _ => False) W1 (wx.alloc (.cells (bytes zr32).toArray 29)) := Fx.trans hal (fun _ _ h => h)
        have Byg5 : Blk (wx.alloc (.cells (bytes zr32).toArray 29)) wx.heap.size 29 (bytes zr32) := Blk.new wx _ _
        have Gyg5 : W1.heap.size ≤ wx.heap.size := Fx.size
        have Byg6 := Bg6.fr hal (fun h => h)
        have NEyg6 : g6 ≠ wx.heap.size := Nat.ne_of_lt Bg6.lt
        refine hK.out _ _ Fy (fun _ => ?_)
        clear hK K
        refine norm_ (a' := ?_) ?_ ?_
        rotate_left
        · show Act.put _ (some 5) _ = _
          simp only [Act.put, List.setIfInBounds_toArray, List.set_cons_zero, List.set_cons_succ]
          rfl
        refine norm_ ?_ (hD2 (wx.heap.size, g6) _ ⟨Fy, Byg5, Byg6, Gyg5, Gg6, NEyg6.symm⟩)
        simp only [putAll, Act.put, List.setIfInBounds_toArray, List.set_cons_zero, List.set_cons_succ]
      · skip
        rintro ⟨g5, g6⟩ wx ⟨Fx, Bg5, Bg6, Gg5, Gg6, NEg5g6⟩
        refine norm_ (a' := ?_) ?_ ?_
        rotate_left
        · simp only [putAll, Act.put, List.setIfInBounds_toArray, List.set_cons_zero, List.set_cons_succ]
          rfl
        refine one_ (i := 5) (N := some 18) #[true, true, true, true, true, true, true, true, false, false] rfl rfl (by kernel_rfl) (by decide) (fun K hK => ?_)
        refine goes_ Tryd.func12 (by kernel_rfl) rfl #[.slice B m d] (by rfl) rfl rfl (by simp only [List.map_toArray, List.map_cons, List.map_nil]; rfl) ?_
        with_reducible refine (CB.out _ Fx).mono ?_
        rintro e wy ⟨rfl, hq⟩
        refine ⟨_, rfl, ?_⟩
        have Fy : Fr (fun _ => False) W1 wy := Fx.trans hq (fun _ _ h => h)
        have Byg5 := Bg5.fr hq (fun h => h)
        have Byg6 := Bg6.fr hq (fun h => h)
        refine hK.out _ _ Fy (fun _ => ?_)
        clear hK K
        refine norm_ (a' := ?_) ?_ ?_
        rotate_left
        · show Act.put _ (some 18) _ = _
          simp only [Act.put, List.setIfInBounds_toArray, List.set_cons_zero, List.set_cons_succ]
          rfl
        refine norm_ ?_ (hD2 (g5, g6) _ ⟨Fy, Byg5, Byg6, Gg5, Gg6, NEg5g6⟩)
        simp only [putAll, Act.put, List.setIfInBounds_toArray, List.set_cons_zero, List.set_cons_succ]
      · skip
        rintro ⟨⟩ wx Fx
        refine norm_ (a' := ?_) ?_ ?_
        rotate_left
        · simp only [putAll, Act.put, List.setIfInBounds_toArray, List.set_cons_zero, List.set_cons_succ]
          rfl
        refine two_ (i := 6) (j := 7) (Ni := some 5) (Nj := some 6) #[true, true, true, true, true, true, true, false, false, false] #[true, true, true, true, true, true, false, true, false, false] rfl rfl rfl rfl (by kernel_rfl) (by decide) (by decide) (fun K hK => ?_) (fun K hK => ?_)
        · skip
          refine value_ (by rfl) rfl (al_hash _ _ _ rfl) ?_
          have hal : Fr (fun _ => False) wx (wx.alloc (.cells (bytes zr32).toArray 29)) := (Fr.refl _ wx).alloc _
          have Fy : Fr (fun _ => False) W1 (wx.alloc (.cells (bytes zr32).toArray 29)) := Fx.trans hal (fun _ _ h => h)
          have Byg5 : Blk (wx.alloc (.cells (bytes zr32).toArray 29)) wx.heap.size 29 (bytes zr32) := Blk.new wx _ _
          have Gyg5 : W1.heap.size ≤ wx.heap.size := Fx.size
          refine hK.out _ _ Fy (fun _ => ?_)
          clear hK K
          refine norm_ (a' := ?_) ?_ ?_
          rotate_left
          · show Act.put _ (some 5) _ = _
            simp only [Act.put, List.setIfInBounds_toArray, List.set_cons_zero, List.set_cons_succ]
            rfl
          refine norm_ ?_ (hD3 wx.heap.size _ ⟨Fy, Byg5, Gyg5⟩)
          simp only [putAll, Act.put, List.setIfInBounds_toArray, List.set_cons_zero, List.set_cons_succ]
        · skip
          refine value_ (by rfl) rfl (al_hash _ _ _ rfl) ?_
          have hal : Fr (fun _ => False) wx (wx.alloc (.cells (bytes zr32).toArray 29)) := (Fr.refl _ wx).alloc _
          have Fy : Fr (fun _ => False) W1 (wx.alloc (.cells (bytes zr32).toArray 29)) := Fx.trans hal (fun _ _ h => h)
          have Byg6 : Blk (wx.alloc (.cells (bytes zr32).toArray 29)) wx.heap.size 29 (bytes zr32) := Blk.new wx _ _
          have Gyg6 : W1.heap.size ≤ wx.heap.size := Fx.size
          refine hK.out _ _ Fy (fun _ => ?_)
          clear hK K
          refine norm_ (a' := ?_) ?_ ?_
          rotate_left
          · show Act.put _ (some 6) _ = _
            simp only [Act.put, List.setIfInBounds_toArray, List.set_cons_zero, List.set_cons_succ]
            rfl
          refine norm_ ?_ (hD4 wx.heap.size _ ⟨Fy, Byg6, Gyg6⟩)
          simp only [putAll, Act.put, List.setIfInBounds_toArray, List.set_cons_zero, List.set_cons_succ]
      · skip
        rintro g5 wx ⟨Fx, Bg5, Gg5⟩
        refine norm_ (a' := ?_) ?_ ?_
        rotate_left
        · simp only [putAll, Act.put, List.setIfInBounds_toArray, List.set_cons_zero, List.set_cons_succ]
          rfl
        refine two_ (i := 5) (j := 7) (Ni := some 18) (Nj := some 6) #[true, true, true, true, true, true, true, false, false, false] #[true, true, true, true, true, false, true, true, false, false] rfl rfl rfl rfl (by kernel_rfl) (by decide) (by decide) (fun K hK => ?_) (fun K hK => ?_)
        · skip
          refine goes_ Tryd.func12 (by kernel_rfl) rfl #[.slice B m d] (by rfl) rfl rfl (by simp only [List.map_toArray, List.map_cons, List.map_nil]; rfl) ?_
          with_reducible refine (CB.out _ Fx).mono ?_
          rintro e wy ⟨rfl, hq⟩
          refine ⟨_, rfl, ?_⟩
          have Fy : Fr (fun _ => False) W1 wy := Fx.trans hq (fun _ _ h => h)
          have Byg5 := Bg5.fr hq (fun h => h)
          refine hK.out _ _ Fy (fun _ => ?_)
          clear hK K
          refine norm_ (a' := ?_) ?_ ?_
          rotate_left
          · show Act.put _ (some 18) _ = _
            simp only [Act.put, List.setIfInBounds_toArray, List.set_cons_zero, List.set_cons_succ]
            rfl
          refine norm_ ?_ (hD3 g5 _ ⟨Fy, Byg5, Gg5⟩)
          simp only [putAll, Act.put, List.setIfInBounds_toArray, List.set_cons_zero, List.set_cons_succ]
        · skip
          refine value_ (by rfl) rfl (al_hash _ _ _ rfl) ?_
          have hal : Fr (fun _ => False) wx (wx.alloc (.cells (bytes zr32).toArray 29)) := (Fr.refl _ wx).alloc _
          have Fy : Fr (fun _ => False) W1 (wx.alloc (.cells (bytes zr32).toArray 29)) := Fx.trans hal (fun _ _ h => h)
          have Byg6 : Blk (wx.alloc (.cells (bytes zr32).toArray 29)) wx.heap.size 29 (bytes zr32) := Blk.new wx _ _
          have Gyg6 : W1.heap.size ≤ wx.heap.size := Fx.size
          have Byg5 := Bg5.fr hal (fun h => h)
          have NEyg5 : g5 ≠ wx.heap.size := Nat.ne_of_lt Bg5.lt
          refine hK.out _ _ Fy (fun _ => ?_)
          clear hK K
          refine norm_ (a' := ?_) ?_ ?_
          rotate_left
          · show Act.put _ (some 6) _ = _
            simp only [Act.put, List.setIfInBounds_toArray, List.set_cons_zero, List.set_cons_succ]
            rfl
          refine norm_ ?_ (hD5 (g5, wx.heap.size) _ ⟨Fy, Byg5, Byg6, Gg5, Gyg6, NEyg5⟩)
          simp only [putAll, Act.put, List.setIfInBounds_toArray, List.set_cons_zero, List.set_cons_succ]
      · skip
        rintro g6 wx ⟨Fx, Bg6, Gg6⟩
        refine norm_ (a' := ?_) ?_ ?_
        rotate_left
        · simp only [putAll, Act.put, List.setIfInBounds_toArray, List.set_cons_zero, List.set_cons_succ]
          rfl
        refine two_ (i := 5) (j := 6) (Ni := some 18) (Nj := some 5) #[true, true, true, true, true, true, false, true, false, false] #[true, true, true, true, true, false, true, true, false, false] rfl rfl rfl rfl (by kernel_rfl) (by decide) (by decide) (fun K hK => ?_) (fun K hK => ?_)
        · skip
          refine goes_ Tryd.func12 (by kernel_rfl) rfl #[.slice B m d] (by rfl) rfl rfl (by simp only [List.map_toArray, List.map_cons, List.map_nil]; rfl) ?_
          with_reducible refine (CB.out _ Fx).mono ?_
          rintro e wy ⟨rfl, hq⟩
          refine ⟨_, rfl, ?_⟩
          have Fy : Fr (fun _ => False) W1 wy := Fx.trans hq (fun _ _ h => h)
          have Byg6 := Bg6.fr hq (fun h => h)
          refine hK.out _ _ Fy (fun _ => ?_)
          clear hK K
          refine norm_ (a' := ?_) ?_ ?_
          rotate_left
          · show Act.put _ (some 18) _ = _
            simp only [Act.put, List.setIfInBounds_toArray, List.set_cons_zero, List.set_cons_succ]
            rfl
          refine norm_ ?_ (hD4 g6 _ ⟨Fy, Byg6, Gg6⟩)
          simp only [putAll, Act.put, List.setIfInBounds_toArray, List.set_cons_zero, List.set_cons_succ]
        · skip
          refine value_ (by rfl) rfl (al_hash _ _ _ rfl) ?_
          have hal : Fr (fun _ => False) wx (wx.alloc (.cells (bytes zr32).toArray 29)) := (Fr.refl _ wx).alloc _
          have Fy : Fr (fun _ => False) W1 (wx.alloc (.cells (bytes zr32).toArray 29)) := Fx.trans hal (fun _ _ h => h)
          have Byg5 : Blk (wx.alloc (.cells (bytes zr32).toArray 29)) wx.heap.size 29 (bytes zr32) := Blk.new wx _ _
          have Gyg5 : W1.heap.size ≤ wx.heap.size := Fx.size
          have Byg6 := Bg6.fr hal (fun h => h)
          have NEyg6 : g6 ≠ wx.heap.size := Nat.ne_of_lt Bg6.lt
          refine hK.out _ _ Fy (fun _ => ?_)
          clear hK K
          refine norm_ (a' := ?_) ?_ ?_
          rotate_left
          · show Act.put _ (some 5) _ = _
            simp only [Act.put, List.setIfInBounds_toArray, List.set_cons_zero, List.set_cons_succ]
            rfl
          refine norm_ ?_ (hD5 (wx.heap.size, g6) _ ⟨Fy, Byg5, Byg6, Gyg5, Gg6, NEyg6.symm⟩)
          simp only [putAll, Act.put, List.setIfInBounds_toArray, List.set_cons_zero, List.set_cons_succ]
      · skip
        rintro ⟨g5, g6⟩ wx ⟨Fx, Bg5, Bg6, Gg5, Gg6, NEg5g6⟩
        refine norm_ (a' := ?_) ?_ ?_
        rotate_left
        · simp only [putAll, Act.put, List.setIfInBounds_toArray, List.set_cons_zero, List.set_cons_succ]
          rfl
        refine one_ (i := 2) (N := some 15) #[true, true, true, true, true, false, true, true, false, false] rfl rfl (by kernel_rfl) (by decide) (fun K hK => ?_)
        refine goes_ Tryd.func12 (by kernel_rfl) rfl #[.slice A n c] (by rfl) rfl rfl (by simp only [List.map_toArray, List.map_cons, List.map_nil]; rfl) ?_
        with_reducible refine (CA.out _ Fx).mono ?_
        rintro e wy ⟨rfl, hq⟩
        refine ⟨_, rfl, ?_⟩
        have Fy : Fr (fun _ => False) W1 wy := Fx.trans hq (fun _ _ h => h)
        have Byg5 := Bg5.fr hq (fun h => h)
        have Byg6 := Bg6.fr hq (fun h => h)
        refine hK.out _ _ Fy (fun _ => ?_)
        clear hK K
        refine norm_ (a' := ?_) ?_ ?_
        rotate_left
        · show Act.put _ (some 15) _ = _
          simp only [Act.put, List.setIfInBounds_toArray, List.set_cons_zero, List.set_cons_succ]
          rfl
        refine norm_ ?_ (hD5 (g5, g6) _ ⟨Fy, Byg5, Byg6, Gg5, Gg6, NEg5g6⟩)
        simp only [putAll, Act.put, List.setIfInBounds_toArray, List.set_cons_zero, List.set_cons_succ]
      · skip
        rintro ⟨⟩ wx Fx
        refine norm_ (a' := ?_) ?_ ?_
        rotate_left
        · simp only [putAll, Act.put, List.setIfInBounds_toArray, List.set_cons_zero, List.set_cons_succ]
          rfl
        refine three_ (i := 5) (j := 6) (k := 7) (Ni := some 18) (Nj := some 5) (Nk := some 6) #[true, true, true, true, true, true, false, false, false, false] #[true, true, true, true, true, false, true, false, false, false] #[true, true, true, true, true, false, false, true, false, false] rfl rfl rfl rfl rfl rfl (by kernel_rfl) (by decide) (by decide) (by decide) (fun K hK => ?_) (fun K hK => ?_) (fun K hK => ?_)
        · skip
          refine goes_ Tryd.func12 (by kernel_rfl) rfl #[.slice B m d] (by rfl) rfl rfl (by simp only [List.map_toArray, List.map_cons, List.map_nil]; rfl) ?_
          with_reducible refine (CB.out _ Fx).mono ?_
          rintro e wy ⟨rfl, hq⟩
          refine ⟨_, rfl, ?_⟩
          have Fy : Fr (fun _ => False) W1 wy := Fx.trans hq (fun _ _ h => h)
          refine hK.out _ _ Fy (fun _ => ?_)
          clear hK K
          refine norm_ (a' := ?_) ?_ ?_
          rotate_left
          · show Act.put _ (some 18) _ = _
            simp only [Act.put, List.setIfInBounds_toArray, List.set_cons_zero, List.set_cons_succ]
            rfl
          refine norm_ ?_ (hD6 () _ Fy)
          simp only [putAll, Act.put, List.setIfInBounds_toArray, List.set_cons_zero, List.set_cons_succ]
        · skip
          refine value_ (by rfl) rfl (al_hash _ _ _ rfl) ?_
          have hal : Fr (fun _ => False) wx (wx.alloc (.cells (bytes zr32).toArray 29)) := (Fr.refl _ wx).alloc _
          have Fy : Fr (fun _ => False) W1 (wx.alloc (.cells (bytes zr32).toArray 29)) := Fx.trans hal (fun _ _ h => h)
          have Byg5 : Blk (wx.alloc (.cells (bytes zr32).toArray 29)) wx.heap.size 29 (bytes zr32) := Blk.new wx _ _
          have Gyg5 : W1.heap.size ≤ wx.heap.size := Fx.size
          refine hK.out _ _ Fy (fun _ => ?_)
          clear hK K
          refine norm_ (a' := ?_) ?_ ?_
          rotate_left
          · show Act.put _ (some 5) _ = _
            simp only [Act.put, List.setIfInBounds_toArray, List.set_cons_zero, List.set_cons_succ]
            rfl
          refine norm_ ?_ (hD7 wx.heap.size _ ⟨Fy, Byg5, Gyg5⟩)
          simp only [putAll, Act.put, List.setIfInBounds_toArray, List.set_cons_zero, List.set_cons_succ]
        · skip
          refine value_ (by rfl) rfl (al_hash _ _ _ rfl) ?_
          have hal : Fr (fun _ => False) wx (wx.alloc (.cells (bytes zr32).toArray 29)) := (Fr.refl _ wx).alloc _
          have Fy : Fr (fun _ => False) W1 (wx.alloc (.cells (bytes zr32).toArray 29)) := Fx.trans hal (fun _ _ h => h)
          have Byg6 : Blk (wx.alloc (.cells (bytes zr32).toArray 29)) wx.heap.size 29 (bytes zr32) := Blk.new wx _ _
          have Gyg6 : W1.heap.size ≤ wx.heap.size := Fx.size
          refine hK.out _ _ Fy (fun _ => ?_)
          clear hK K
          refine norm_ (a' := ?_) ?_ ?_
          rotate_left
          · show Act.put _ (some 6) _ = _
            simp only [Act.put, List.setIfInBounds_toArray, List.set_cons_zero, List.set_cons_succ]
            rfl
          refine norm_ ?_ (hD8 wx.heap.size _ ⟨Fy, Byg6, Gyg6⟩)
          simp only [putAll, Act.put, List.setIfInBounds_toArray, List.set_cons_zero, List.set_cons_succ]
      · skip
        rintro g5 wx ⟨Fx, Bg5, Gg5⟩
        refine norm_ (a' := ?_) ?_ ?_
        rotate_left
        · simp only [putAll, Act.put, List.setIfInBounds_toArray, List.set_cons_zero, List.set_cons_succ]
          rfl
        refine two_ (i := 2) (j := 7) (Ni := some 15) (Nj := some 6) #[true, true, true, true, true, false, true, false, false, false] #[true, true, false, true, true, false, true, true, false, false] rfl rfl rfl rfl (by kernel_rfl) (by decide) (by decide) (fun K hK => ?_) (fun K hK => ?_)
        · skip
          refine goes_ Tryd.func12 (by kernel_rfl) rfl #[.slice A n c] (by rfl) rfl rfl (by simp only [List.map_toArray, List.map_cons, List.map_nil]; rfl) ?_
          with_reducible refine (CA.out _ Fx).mono ?_
          rintro e wy ⟨rfl, hq⟩
          refine ⟨_, rfl, ?_⟩
          have Fy : Fr (fun _ => False) W1 wy := Fx.trans hq (fun _ _ h => h)
          have Byg5 := Bg5.fr hq (fun h => h)
          refine hK.out _ _ Fy (fun _ => ?_)
          clear hK K
          refine norm_ (a' := ?_) ?_ ?_
          rotate_left
          · show Act.put _ (some 15) _ = _
            simp only [Act.put, List.setIfInBounds_toArray, List.set_cons_zero, List.set_cons_succ]
            rfl
          refine norm_ ?_ (hD7 g5 _ ⟨Fy, Byg5, Gg5⟩)
          simp only [putAll, Act.put, List.setIfInBounds_toArray, List.set_cons_zero, List.set_cons_succ]
        · skip
          refine value_ (by rfl) rfl (al_hash _ _ _ rfl) ?_
          have hal : Fr (fun _ => False) wx (wx.alloc (.cells (bytes zr32).toArray 29)) := (Fr.refl _ wx).alloc _
          have Fy : Fr (fun _ => False) W1 (wx.alloc (.cells (bytes zr32).toArray 29)) := Fx.trans hal (fun _ _ h => h)
          have Byg6 : Blk (wx.alloc (.cells (bytes zr32).toArray 29)) wx.heap.size 29 (bytes zr32) := Blk.new wx _ _
          have Gyg6 : W1.heap.size ≤ wx.heap.size := Fx.size
          have Byg5 := Bg5.fr hal (fun h => h)
          have NEyg5 : g5 ≠ wx.heap.size := Nat.ne_of_lt Bg5.lt
          refine hK.out _ _ Fy (fun _ => ?_)
          clear hK K
          refine norm_ (a' := ?_) ?_ ?_
          rotate_left
          · show Act.put _ (some 6) _ = _
            simp only [Act.put, List.setIfInBounds_toArray, List.set_cons_zero, List.set_cons_succ]
            rfl
          refine norm_ ?_ (hD9 (g5, wx.heap.size) _ ⟨Fy, Byg5, Byg6, Gg5, Gyg6, NEyg5⟩)
          simp only [putAll, Act.put, List.setIfInBounds_toArray, List.set_cons_zero, List.set_cons_succ]
      · skip
        rintro g6 wx ⟨Fx, Bg6, Gg6⟩
        refine norm_ (a' := ?_) ?_ ?_
        rotate_left
        · simp only [putAll, Act.put, List.setIfInBounds_toArray, List.set_cons_zero, List.set_cons_succ]
          rfl
        refine two_ (i := 2) (j := 6) (Ni := some 15) (Nj := some 5) #[true, true, true, true, true, false, false, true, false, false] #[true, true, false, true, true, false, true, true, false, false] rfl rfl rfl rfl (by kernel_rfl) (by decide) (by decide) (fun K hK => ?_) (fun K hK => ?_)
        · skip
          refine goes_ Tryd.func12 (by kernel_rfl) rfl #[.slice A n c] (by rfl) rfl rfl (by simp only [List.map_toArray, List.map_cons, List.map_nil]; rfl) ?_
          with_reducible refine (CA.out _ Fx).mono ?_
          rintro e wy ⟨rfl, hq⟩
          refine ⟨_, rfl, ?_⟩
          have Fy : Fr (fun _ => False) W1 wy := Fx.trans hq (fun _ _ h => h)
          have Byg6 := Bg6.fr hq (fun h => h)
          refine hK.out _ _ Fy (fun _ => ?_)
          clear hK K
          refine norm_ (a' := ?_) ?_ ?_
          rotate_left
          · show Act.put _ (some 15) _ = _
            simp only [Act.put, List.setIfInBounds_toArray, List.set_cons_zero, List.set_cons_succ]
            rfl
          refine norm_ ?_ (hD8 g6 _ ⟨Fy, Byg6, Gg6⟩)
          simp only [putAll, Act.put, List.setIfInBounds_toArray, List.set_cons_zero, List.set_cons_succ]
        · skip
          refine value_ (by rfl) rfl (al_hash _ _ _ rfl) ?_
          have hal : Fr (fun _ => False) wx (wx.alloc (.cells (bytes zr32).toArray 29)) := (Fr.refl _ wx).alloc _
          have Fy : Fr (fun _ => False) W1 (wx.alloc (.cells (bytes zr32).toArray 29)) := Fx.trans hal (fun _ _ h => h)
          have Byg5 : Blk (wx.alloc (.cells (bytes zr32).toArray 29)) wx.heap.size 29 (bytes zr32) := Blk.new wx _ _
          have Gyg5 : W1.heap.size ≤ wx.heap.size := Fx.size
          have Byg6 := Bg6.fr hal (fun h => h)
          have NEyg6 : g6 ≠ wx.heap.size := Nat.ne_of_lt Bg6.lt
          refine hK.out _ _ Fy (fun _ => ?_)
          clear hK K
          refine norm_ (a' := ?_) ?_ ?_
          rotate_left
          · show Act.put _ (some 5) _ = _
            simp only [Act.put, List.setIfInBounds_toArray, List.set_cons_zero, List.set_cons_succ]
            rfl
          refine norm_ ?_ (hD9 (wx.heap.size, g6) _ ⟨Fy, Byg5, Byg6, Gyg5, Gg6, NEyg6.symm⟩)
          simp only [putAll, Act.put, List.setIfInBounds_toArray, List.set_cons_zero, List.set_cons_succ]
      rintro ⟨g5, g6⟩ wx ⟨Fx, Bg5, Bg6, Gg5, Gg6, NEg5g6⟩
      refine norm_ (a' := ?_) ?_ ?_
      rotate_left
      · simp only [putAll, Act.put, List.setIfInBounds_toArray, List.set_cons_zero, List.set_cons_succ]
        rfl
      refine done_ (by kernel_rfl) ?_
      have HF9 := Kp.mk (HF.out.trans Fx.drew (fun _ _ h => h))
      have HLA := Kp.mk (LA.out wx.drew Fx.drew)
      have HLB := Kp.mk (LB.out wx.drew Fx.drew)
      have HCE := Kp.mk (CEq.out wx.drew Fx.drew)
      have sA : Src wx.drew (fun _ => False) (some ⟨g5, 0, none⟩) 32 (ha.take s) := ⟨by rw [List.length_take]; omega, .inr (.inr ⟨g5, 0, rfl, (src_reads Bg5.drew Hha32.out).take s, fun h => h⟩)⟩
      have sB : Src wx.drew (fun _ => False) (some ⟨g6, 0, none⟩) 32 (hb.take s) := ⟨by rw [List.length_take]; omega, .inr (.inr ⟨g6, 0, rfl, (src_reads Bg6.drew Hhb32.out).take s, fun h => h⟩)⟩
      have hC2 := equal_calls _ _ 32 32 _ _ wx.drew sA sB (fun x hx => Hba.out x (List.mem_of_mem_take hx)) (fun x hx => Hbb.out x (List.mem_of_mem_take hx))
      rw [List.length_take, List.length_take, Hha32.out, Hhb32.out, Nat.min_eq_left hsk] at hC2
      have HC2 := Kp.mk hC2
      have hs5 : ∀ W, (Instr.sliceAt 29 (.pointer (some ⟨g5, 0, none⟩)) none (some (.int .i64 (s : Int))) none).run Tryd.prog W = .ok (.slice (some ⟨g5, 0, none⟩) s 32) W := fun W => slice_upto W g5 s hsk
      have hs6 : ∀ W, (Instr.sliceAt 29 (.pointer (some ⟨g6, 0, none⟩)) none (some (.int .i64 (s : Int))) none).run Tryd.prog W = .ok (.slice (some ⟨g6, 0, none⟩) s 32) W := fun W => slice_upto W g6 s hsk
      clear Fx Bg5 Bg6 Gg5 Gg6 NEg5g6 sA sB hC2
      go_wp2_with fail
      by_cases hab : a = b
      · have hp : PP = false := by rw [HPP.out, decide_eq_false (fun h => h.1 hab)]
        have HP := Kp.mk hp
        rw [decide_eq_true hab] at HCE
        clear hab hp hs5 hs6
        refine start_ (n := 14) (S := fun w' => Lds w' 22 (.pointer (some ⟨g3, 0, none⟩)) (.slice A n c) ∧ Lds w' 22 (.pointer (some ⟨g3, 1, none⟩)) (.slice B m d)) (ds := []) #[false, false, false, false, false, false, false, false, false, false, false, false, false, false] (by kernel_rfl) rfl rfl ⟨HLA.out, HLB.out⟩ (fun hHeld => ?_)
        refine pure_ (i := 0) (N := some 19) (v := ?_) (a' := ?_) #[true, false, false, false, false, false, false, false, false, false, false, false, false, false] rfl rfl (by kernel_rfl) (fun _ _ _ h => h) (Or.inl ⟨by rfl, ?_⟩) ?_ ?_
        rotate_left
        · intro w'
          go_simp
          with_reducible rfl
        rotate_left
        · simp only [Act.put, List.setIfInBounds_toArray, List.set_cons_zero, List.set_cons_succ]
          rfl
        refine pure_ (i := 2) (N := some 21) (v := ?_) (a' := ?_) #[true, false, true, false, false, false, false, false, false, false, false, false, false, false] rfl rfl (by kernel_rfl) (fun _ _ _ h => h) (Or.inl ⟨by rfl, ?_⟩) ?_ ?_
        rotate_left
        · intro w'
          go_simp
          with_reducible rfl
        rotate_left
        · simp only [Act.put, List.setIfInBounds_toArray, List.set_cons_zero, List.set_cons_succ]
          rfl
        refine take_ (i := 1) (N := some 20) (v := ?_) (a' := ?_) #[true, true, true, false, false, false, false, false, false, false, false, false, false, false] rfl rfl (by kernel_rfl) (fun _ _ _ h => h) (Or.inl ⟨by rfl, ?_⟩) hHeld ?_ ?_
        rotate_left
        · rintro w' ⟨s0, s1⟩
          refine Lds.run s0 (x := ?_) ?_ ?_
          · exact (Operand.tmp 19)
          · rfl
          · rfl
        rotate_left
        · simp only [Act.put, List.setIfInBounds_toArray, List.set_cons_zero, List.set_cons_succ]
          rfl
        refine take_ (i := 3) (N := some 22) (v := ?_) (a' := ?_) #[true, true, true, true, false, false, false, false, false, false, false, false, false, false] rfl rfl (by kernel_rfl) (fun _ _ _ h => h) (Or.inl ⟨by rfl, ?_⟩) hHeld ?_ ?_
        rotate_left
        · rintro w' ⟨s0, s1⟩
          refine Lds.run s1 (x := ?_) ?_ ?_
          · exact (Operand.tmp 21)
          · rfl
          · rfl
        rotate_left
        · simp only [Act.put, List.setIfInBounds_toArray, List.set_cons_zero, List.set_cons_succ]
          rfl
        refine one_ (i := 4) (N := some 23) #[true, true, true, true, true, false, false, false, false, false, false, false, false, false] rfl rfl (by kernel_rfl) (by decide) (fun K hK => ?_)
        refine goes_ Tryd.func42 (by kernel_rfl) rfl #[.slice A n c, .slice B m d] (by rfl) rfl rfl (by simp only [List.map_toArray, List.map_cons, List.map_nil]; rfl) ?_
        with_reducible refine (HCE.out).mono ?_
        rintro e a1 ⟨rfl, rfl⟩
        refine ⟨_, rfl, ?_⟩
        refine hK.out _ _ ⟨HLA.out, HLB.out⟩ (fun hHeld => ?_)
        clear hK K
        refine norm_ (a' := ?_) ?_ ?_
        rotate_left
        · show Act.put _ (some 23) _ = _
          simp only [Act.put, List.setIfInBounds_toArray, List.set_cons_zero, List.set_cons_succ]
          rfl
        refine pure_ (i := 5) (N := some 24) (v := ?_) (a' := ?_) #[true, true, true, true, true, true, false, false, false, false, false, false, false, false] rfl rfl (by kernel_rfl) (fun _ _ _ h => h) (Or.inl ⟨by rfl, ?_⟩) ?_ ?_
        rotate_left
        · intro w'
          go_simp
          with_reducible rfl
        rotate_left
        · simp only [Act.put, List.setIfInBounds_toArray, List.set_cons_zero, List.set_cons_succ]
          rfl
        refine pure_ (i := 6) (N := some 25) (v := ?_) (a' := ?_) #[true, true, true, true, true, true, true, false, false, false, false, false, false, false] rfl rfl (by kernel_rfl) (fun _ _ _ h => h) (Or.inl ⟨by rfl, ?_⟩) ?_ ?_
        rotate_left
        · intro w'
          go_simp
          with_reducible rfl
        rotate_left
        · simp only [Act.put, List.setIfInBounds_toArray, List.set_cons_zero, List.set_cons_succ]
          rfl
        refine pure_ (i := 7) (N := some 26) (v := undef) (a' := ?_) #[true, true, true, true, true, true, true, true, false, false, false, false, false, false] rfl rfl (by kernel_rfl) (fun _ _ _ h => h) (Or.inr ⟨by rfl, rfl⟩) ?_ ?_
        rotate_left
        · simp only [Act.put, List.setIfInBounds_toArray, List.set_cons_zero, List.set_cons_succ]
          rfl
        refine pure_ (i := 8) (N := some 27) (v := undef) (a' := ?_) #[true, true, true, true, true, true, true, true, true, false, false, false, false, false] rfl rfl (by kernel_rfl) (fun _ _ _ h => h) (Or.inr ⟨by rfl, rfl⟩) ?_ ?_
        rotate_left
        · simp only [Act.put, List.setIfInBounds_toArray, List.set_cons_zero, List.set_cons_succ]
          rfl
        refine pure_ (i := 9) (N := some 28) (v := undef) (a' := ?_) #[true, true, true, true, true, true, true, true, true, true, false, false, false, false] rfl rfl (by kernel_rfl) (fun _ _ _ h => h) (Or.inr ⟨by rfl, rfl⟩) ?_ ?_
        rotate_left
        · simp only [Act.put, List.setIfInBounds_toArray, List.set_cons_zero, List.set_cons_succ]
          rfl
        refine pure_ (i := 10) (N := some 29) (v := undef) (a' := ?_) #[true, true, true, true, true, true, true, true, true, true, true, false, false, false] rfl rfl (by kernel_rfl) (fun _ _ _ h => h) (Or.inr ⟨by rfl, rfl⟩) ?_ ?_
        rotate_left
        · simp only [Act.put, List.setIfInBounds_toArray, List.set_cons_zero, List.set_cons_succ]
          rfl
        refine pure_ (i := 11) (N := some 30) (v := undef) (a' := ?_) #[true, true, true, true, true, true, true, true, true, true, true, true, false, false] rfl rfl (by kernel_rfl) (fun _ _ _ h => h) (Or.inr ⟨by rfl, rfl⟩) ?_ ?_
        rotate_left
        · simp only [Act.put, List.setIfInBounds_toArray, List.set_cons_zero, List.set_cons_succ]
          rfl
        refine pure_ (i := 12) (N := some 31) (v := ?_) (a' := ?_) #[true, true, true, true, true, true, true, true, true, true, true, true, true, false] rfl rfl (by kernel_rfl) (fun _ _ _ h => h) (Or.inl ⟨by rfl, ?_⟩) ?_ ?_
        rotate_left
        · intro w'
          go_simp
          with_reducible rfl
        rotate_left
        · simp only [Act.put, List.setIfInBounds_toArray, List.set_cons_zero, List.set_cons_succ]
          rfl
        refine pure_ (i := 13) (N := some 4) (v := ?_) (a' := ?_) #[true, true, true, true, true, true, true, true, true, true, true, true, true, true] rfl rfl (by kernel_rfl) (fun _ _ _ h => h) (Or.inl ⟨by rfl, ?_⟩) ?_ ?_
        rotate_left
        · intro w'
          go_simp
          with_reducible rfl
        rotate_left
        · simp only [Act.put, List.setIfInBounds_toArray, List.set_cons_zero, List.set_cons_succ]
          rfl
        refine done_ (by kernel_rfl) ?_
        go_wp2_with (fail)
        go_ret
        exact ⟨by rw [HP.out]; rfl, HF9.out⟩
      · rw [decide_eq_false hab] at HCE
        by_cases hh : ha.take s = hb.take s
        · have hp : PP = true := by rw [HPP.out, decide_eq_true ⟨hab, hh⟩]
          have HP := Kp.mk hp
          rw [decide_eq_true hh] at HC2
          clear hab hh hp
          refine start_ (n := 14) (S := fun w' => Lds w' 22 (.pointer (some ⟨g3, 0, none⟩)) (.slice A n c) ∧ Lds w' 22 (.pointer (some ⟨g3, 1, none⟩)) (.slice B m d)) (ds := []) #[false, false, false, false, false, false, false, false, false, false, false, false, false, false] (by kernel_rfl) rfl rfl ⟨HLA.out, HLB.out⟩ (fun hHeld => ?_)
          refine pure_ (i := 0) (N := some 19) (v := ?_) (a' := ?_) #[true, false, false, false, false, false, false, false, false, false, false, false, false, false] rfl rfl (by kernel_rfl) (fun _ _ _ h => h) (Or.inl ⟨by rfl, ?_⟩) ?_ ?_
          rotate_left
          · intro w'
            go_simp
            with_reducible rfl
          rotate_left
          · simp only [Act.put, List.setIfInBounds_toArray, List.set_cons_zero, List.set_cons_succ]
            rfl
          refine pure_ (i := 2) (N := some 21) (v := ?_) (a' := ?_) #[true, false, true, false, false, false, false, false, false, false, false, false, false, false] rfl rfl (by kernel_rfl) (fun _ _ _ h => h) (Or.inl ⟨by rfl, ?_⟩) ?_ ?_
          rotate_left
          · intro w'
            go_simp
            with_reducible rfl
          rotate_left
          · simp only [Act.put, List.setIfInBounds_toArray, List.set_cons_zero, List.set_cons_succ]
            rfl
          refine take_ (i := 1) (N := some 20) (v := ?_) (a' := ?_) #[true, true, true, false, false, false, false, false, false, false, false, false, false, false] rfl rfl (by kernel_rfl) (fun _ _ _ h => h) (Or.inl ⟨by rfl, ?_⟩) hHeld ?_ ?_
          rotate_left
          · rintro w' ⟨s0, s1⟩
            refine Lds.run s0 (x := ?_) ?_ ?_
            · exact (Operand.tmp 19)
            · rfl
            · rfl
          rotate_left
          · simp only [Act.put, List.setIfInBounds_toArray, List.set_cons_zero, List.set_cons_succ]
            rfl
          refine take_ (i := 3) (N := some 22) (v := ?_) (a' := ?_) #[true, true, true, true, false, false, false, false, false, false, false, false, false, false] rfl rfl (by kernel_rfl) (fun _ _ _ h => h) (Or.inl ⟨by rfl, ?_⟩) hHeld ?_ ?_
          rotate_left
          · rintro w' ⟨s0, s1⟩
            refine Lds.run s1 (x := ?_) ?_ ?_
            · exact (Operand.tmp 21)
            · rfl
            · rfl
          rotate_left
          · simp only [Act.put, List.setIfInBounds_toArray, List.set_cons_zero, List.set_cons_succ]
            rfl
          refine one_ (i := 4) (N := some 23) #[true, true, true, true, true, false, false, false, false, false, false, false, false, false] rfl rfl (by kernel_rfl) (by decide) (fun K hK => ?_)
          refine goes_ Tryd.func42 (by kernel_rfl) rfl #[.slice A n c, .slice B m d] (by rfl) rfl rfl (by simp only [List.map_toArray, List.map_cons, List.map_nil]; rfl) ?_
          with_reducible refine (HCE.out).mono ?_
          rintro e a1 ⟨rfl, rfl⟩
          refine ⟨_, rfl, ?_⟩
          refine hK.out _ _ ⟨HLA.out, HLB.out⟩ (fun hHeld => ?_)
          clear hK K
          refine norm_ (a' := ?_) ?_ ?_
          rotate_left
          · show Act.put _ (some 23) _ = _
            simp only [Act.put, List.setIfInBounds_toArray, List.set_cons_zero, List.set_cons_succ]
            rfl
          refine pure_ (i := 5) (N := some 24) (v := ?_) (a' := ?_) #[true, true, true, true, true, true, false, false, false, false, false, false, false, false] rfl rfl (by kernel_rfl) (fun _ _ _ h => h) (Or.inl ⟨by rfl, ?_⟩) ?_ ?_
          rotate_left
          · intro w'
            go_simp
            with_reducible rfl
          rotate_left
          · simp only [Act.put, List.setIfInBounds_toArray, List.set_cons_zero, List.set_cons_succ]
            rfl
          refine pure_ (i := 6) (N := some 25) (v := ?_) (a' := ?_) #[true, true, true, true, true, true, true, false, false, false, false, false, false, false] rfl rfl (by kernel_rfl) (fun _ _ _ h => h) (Or.inl ⟨by rfl, ?_⟩) ?_ ?_
          rotate_left
          · intro w'
            go_simp
            with_reducible rfl
          rotate_left
          · simp only [Act.put, List.setIfInBounds_toArray, List.set_cons_zero, List.set_cons_succ]
            rfl
          refine pure_ (i := 7) (N := some 26) (v := ?_) (a' := ?_) #[true, true, true, true, true, true, true, true, false, false, false, false, false, false] rfl rfl (by kernel_rfl) (fun _ _ _ h => h) (Or.inl ⟨by rfl, ?_⟩) ?_ ?_
          rotate_left
          · intro w'
            go_simp
            with_reducible rfl
          rotate_left
          · simp only [Act.put, List.setIfInBounds_toArray, List.set_cons_zero, List.set_cons_succ]
            rfl
          refine pure_ (i := 8) (N := some 27) (v := ?_) (a' := ?_) #[true, true, true, true, true, true, true, true, true, false, false, false, false, false] rfl rfl (by kernel_rfl) (fun _ _ _ h => h) (Or.inl ⟨by rfl, ?_⟩) ?_ ?_
          rotate_left
          · intro w'
            go_simp
            with_reducible rfl
          rotate_left
          · simp only [Act.put, List.setIfInBounds_toArray, List.set_cons_zero, List.set_cons_succ]
            rfl
          refine pure_ (i := 9) (N := some 28) (v := ?_) (a' := ?_) #[true, true, true, true, true, true, true, true, true, true, false, false, false, false] rfl rfl (by kernel_rfl) (fun _ _ _ h => h) (Or.inl ⟨by rfl, ?_⟩) ?_ ?_
          rotate_left
          · intro w'
            go_simp
            with_reducible rfl
          rotate_left
          · simp only [Act.put, List.setIfInBounds_toArray, List.set_cons_zero, List.set_cons_succ]
            rfl
          refine pure_ (i := 10) (N := some 29) (v := ?_) (a' := ?_) #[true, true, true, true, true, true, true, true, true, true, true, false, false, false] rfl rfl (by kernel_rfl) (fun _ _ _ h => h) (Or.inl ⟨by rfl, ?_⟩) ?_ ?_
          rotate_left
          · intro w'
            go_simp
            with_reducible rfl
          rotate_left
          · simp only [Act.put, List.setIfInBounds_toArray, List.set_cons_zero, List.set_cons_succ]
            rfl
          refine one_ (i := 11) (N := some 30) #[true, true, true, true, true, true, true, true, true, true, true, true, false, false] rfl rfl (by kernel_rfl) (by decide) (fun K hK => ?_)
          refine goes_ Tryd.func42 (by kernel_rfl) rfl #[.slice (some ⟨g5, 0, none⟩) s 32, .slice (some ⟨g6, 0, none⟩) s 32] (by rfl) rfl rfl (by simp only [List.map_toArray, List.map_cons, List.map_nil]; rfl) ?_
          with_reducible refine (HC2.out).mono ?_
          rintro e a2 ⟨rfl, rfl⟩
          refine ⟨_, rfl, ?_⟩
          refine hK.out _ _ ⟨HLA.out, HLB.out⟩ (fun hHeld => ?_)
          clear hK K
          refine norm_ (a' := ?_) ?_ ?_
          rotate_left
          · show Act.put _ (some 30) _ = _
            simp only [Act.put, List.setIfInBounds_toArray, List.set_cons_zero, List.set_cons_succ]
            rfl
          refine pure_ (i := 12) (N := some 31) (v := ?_) (a' := ?_) #[true, true, true, true, true, true, true, true, true, true, true, true, true, false] rfl rfl (by kernel_rfl) (fun _ _ _ h => h) (Or.inl ⟨by rfl, ?_⟩) ?_ ?_
          rotate_left
          · intro w'
            go_simp
            with_reducible rfl
          rotate_left
          · simp only [Act.put, List.setIfInBounds_toArray, List.set_cons_zero, List.set_cons_succ]
            rfl
          refine pure_ (i := 13) (N := some 4) (v := ?_) (a' := ?_) #[true, true, true, true, true, true, true, true, true, true, true, true, true, true] rfl rfl (by kernel_rfl) (fun _ _ _ h => h) (Or.inl ⟨by rfl, ?_⟩) ?_ ?_
          rotate_left
          · intro w'
            go_simp
            with_reducible rfl
          rotate_left
          · simp only [Act.put, List.setIfInBounds_toArray, List.set_cons_zero, List.set_cons_succ]
            rfl
          refine done_ (by kernel_rfl) ?_
          go_wp2_with (fail)
          go_ret
          exact ⟨by rw [HP.out]; rfl, HF9.out⟩
        · have hp : PP = false := by rw [HPP.out, decide_eq_false (fun h => hh h.2)]
          have HP := Kp.mk hp
          rw [decide_eq_false hh] at HC2
          clear hab hh hp
          refine start_ (n := 14) (S := fun w' => Lds w' 22 (.pointer (some ⟨g3, 0, none⟩)) (.slice A n c) ∧ Lds w' 22 (.pointer (some ⟨g3, 1, none⟩)) (.slice B m d)) (ds := []) #[false, false, false, false, false, false, false, false, false, false, false, false, false, false] (by kernel_rfl) rfl rfl ⟨HLA.out, HLB.out⟩ (fun hHeld => ?_)
          refine pure_ (i := 0) (N := some 19) (v := ?_) (a' := ?_) #[true, false, false, false, false, false, false, false, false, false, false, false, false, false] rfl rfl (by kernel_rfl) (fun _ _ _ h => h) (Or.inl ⟨by rfl, ?_⟩) ?_ ?_
          rotate_left
          · intro w'
            go_simp
            with_reducible rfl
          rotate_left
          · simp only [Act.put, List.setIfInBounds_toArray, List.set_cons_zero, List.set_cons_succ]
            rfl
          refine pure_ (i := 2) (N := some 21) (v := ?_) (a' := ?_) #[true, false, true, false, false, false, false, false, false, false, false, false, false, false] rfl rfl (by kernel_rfl) (fun _ _ _ h => h) (Or.inl ⟨by rfl, ?_⟩) ?_ ?_
          rotate_left
          · intro w'
            go_simp
            with_reducible rfl
          rotate_left
          · simp only [Act.put, List.setIfInBounds_toArray, List.set_cons_zero, List.set_cons_succ]
            rfl
          refine take_ (i := 1) (N := some 20) (v := ?_) (a' := ?_) #[true, true, true, false, false, false, false, false, false, false, false, false, false, false] rfl rfl (by kernel_rfl) (fun _ _ _ h => h) (Or.inl ⟨by rfl, ?_⟩) hHeld ?_ ?_
          rotate_left
          · rintro w' ⟨s0, s1⟩
            refine Lds.run s0 (x := ?_) ?_ ?_
            · exact (Operand.tmp 19)
            · rfl
            · rfl
          rotate_left
          · simp only [Act.put, List.setIfInBounds_toArray, List.set_cons_zero, List.set_cons_succ]
            rfl
          refine take_ (i := 3) (N := some 22) (v := ?_) (a' := ?_) #[true, true, true, true, false, false, false, false, false, false, false, false, false, false] rfl rfl (by kernel_rfl) (fun _ _ _ h => h) (Or.inl ⟨by rfl, ?_⟩) hHeld ?_ ?_
          rotate_left
          · rintro w' ⟨s0, s1⟩
            refine Lds.run s1 (x := ?_) ?_ ?_
            · exact (Operand.tmp 21)
            · rfl
            · rfl
          rotate_left
          · simp only [Act.put, List.setIfInBounds_toArray, List.set_cons_zero, List.set_cons_succ]
            rfl
          refine one_ (i := 4) (N := some 23) #[true, true, true, true, true, false, false, false, false, false, false, false, false, false] rfl rfl (by kernel_rfl) (by decide) (fun K hK => ?_)
          refine goes_ Tryd.func42 (by kernel_rfl) rfl #[.slice A n c, .slice B m d] (by rfl) rfl rfl (by simp only [List.map_toArray, List.map_cons, List.map_nil]; rfl) ?_
          with_reducible refine (HCE.out).mono ?_
          rintro e a1 ⟨rfl, rfl⟩
          refine ⟨_, rfl, ?_⟩
          refine hK.out _ _ ⟨HLA.out, HLB.out⟩ (fun hHeld => ?_)
          clear hK K
          refine norm_ (a' := ?_) ?_ ?_
          rotate_left
          · show Act.put _ (some 23) _ = _
            simp only [Act.put, List.setIfInBounds_toArray, List.set_cons_zero, List.set_cons_succ]
            rfl
          refine pure_ (i := 5) (N := some 24) (v := ?_) (a' := ?_) #[true, true, true, true, true, true, false, false, false, false, false, false, false, false] rfl rfl (by kernel_rfl) (fun _ _ _ h => h) (Or.inl ⟨by rfl, ?_⟩) ?_ ?_
          rotate_left
          · intro w'
            go_simp
            with_reducible rfl
          rotate_left
          · simp only [Act.put, List.setIfInBounds_toArray, List.set_cons_zero, List.set_cons_succ]
            rfl
          refine pure_ (i := 6) (N := some 25) (v := ?_) (a' := ?_) #[true, true, true, true, true, true, true, false, false, false, false, false, false, false] rfl rfl (by kernel_rfl) (fun _ _ _ h => h) (Or.inl ⟨by rfl, ?_⟩) ?_ ?_
          rotate_left
          · intro w'
            go_simp
            with_reducible rfl
          rotate_left
          · simp only [Act.put, List.setIfInBounds_toArray, List.set_cons_zero, List.set_cons_succ]
            rfl
          refine pure_ (i := 7) (N := some 26) (v := ?_) (a' := ?_) #[true, true, true, true, true, true, true, true, false, false, false, false, false, false] rfl rfl (by kernel_rfl) (fun _ _ _ h => h) (Or.inl ⟨by rfl, ?_⟩) ?_ ?_
          rotate_left
          · intro w'
            go_simp
            with_reducible rfl
          rotate_left
          · simp only [Act.put, List.setIfInBounds_toArray, List.set_cons_zero, List.set_cons_succ]
            rfl
          refine pure_ (i := 8) (N := some 27) (v := ?_) (a' := ?_) #[true, true, true, true, true, true, true, true, true, false, false, false, false, false] rfl rfl (by kernel_rfl) (fun _ _ _ h => h) (Or.inl ⟨by rfl, ?_⟩) ?_ ?_
          rotate_left
          · intro w'
            go_simp
            with_reducible rfl
          rotate_left
          · simp only [Act.put, List.setIfInBounds_toArray, List.set_cons_zero, List.set_cons_succ]
            rfl
          refine pure_ (i := 9) (N := some 28) (v := ?_) (a' := ?_) #[true, true, true, true, true, true, true, true, true, true, false, false, false, false] rfl rfl (by kernel_rfl) (fun _ _ _ h => h) (Or.inl ⟨by rfl, ?_⟩) ?_ ?_
          rotate_left
          · intro w'
            go_simp
            with_reducible rfl
          rotate_left
          · simp only [Act.put, List.setIfInBounds_toArray, List.set_cons_zero, List.set_cons_succ]
            rfl
          refine pure_ (i := 10) (N := some 29) (v := ?_) (a' := ?_) #[true, true, true, true, true, true, true, true, true, true, true, false, false, false] rfl rfl (by kernel_rfl) (fun _ _ _ h => h) (Or.inl ⟨by rfl, ?_⟩) ?_ ?_
          rotate_left
          · intro w'
            go_simp
            with_reducible rfl
          rotate_left
          · simp only [Act.put, List.setIfInBounds_toArray, List.set_cons_zero, List.set_cons_succ]
            rfl
          refine one_ (i := 11) (N := some 30) #[true, true, true, true, true, true, true, true, true, true, true, true, false, false] rfl rfl (by kernel_rfl) (by decide) (fun K hK => ?_)
          refine goes_ Tryd.func42 (by kernel_rfl) rfl #[.slice (some ⟨g5, 0, none⟩) s 32, .slice (some ⟨g6, 0, none⟩) s 32] (by rfl) rfl rfl (by simp only [List.map_toArray, List.map_cons, List.map_nil]; rfl) ?_
          with_reducible refine (HC2.out).mono ?_
          rintro e a2 ⟨rfl, rfl⟩
          refine ⟨_, rfl, ?_⟩
          refine hK.out _ _ ⟨HLA.out, HLB.out⟩ (fun hHeld => ?_)
          clear hK K
          refine norm_ (a' := ?_) ?_ ?_
          rotate_left
          · show Act.put _ (some 30) _ = _
            simp only [Act.put, List.setIfInBounds_toArray, List.set_cons_zero, List.set_cons_succ]
            rfl
          refine pure_ (i := 12) (N := some 31) (v := ?_) (a' := ?_) #[true, true, true, true, true, true, true, true, true, true, true, true, true, false] rfl rfl (by kernel_rfl) (fun _ _ _ h => h) (Or.inl ⟨by rfl, ?_⟩) ?_ ?_
          rotate_left
          · intro w'
            go_simp
            with_reducible rfl
          rotate_left
          · simp only [Act.put, List.setIfInBounds_toArray, List.set_cons_zero, List.set_cons_succ]
            rfl
          refine pure_ (i := 13) (N := some 4) (v := ?_) (a' := ?_) #[true, true, true, true, true, true, true, true, true, true, true, true, true, true] rfl rfl (by kernel_rfl) (fun _ _ _ h => h) (Or.inl ⟨by rfl, ?_⟩) ?_ ?_
          rotate_left
          · intro w'
            go_simp
            with_reducible rfl
          rotate_left
          · simp only [Act.put, List.setIfInBounds_toArray, List.set_cons_zero, List.set_cons_succ]
            rfl
          refine done_ (by kernel_rfl) ?_
          go_wp2_with (fail)
          go_ret
          exact ⟨by rw [HP.out]; rfl, HF9.out⟩
end Go.Proofs.YtjcmgpiapbeodaaDoor.Sha
