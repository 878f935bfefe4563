/-
  One round of the document's answer, kind 256.
-/
import Derived.Test.YtjcfnflkiialbaaDoorRNum
namespace Go.Proofs.YtjcfnflkiialbaaDoor.Sha
open Go.RowKit Go.Proofs.YtjcfnflkiialbaaDoor.Mem Go.Proofs.YtjcfnflkiialbaaDoorW.PrintWords
def v32w (v : Eight 32) : List Value := v.list.map fun x => .int .u64 (x.toNat : Int)
theorem wide_nat (x : BitVec 32) : (x.toNat : Int) = ((x.setWidth 64).toNat : Int) := by
  rw [BitVec.toNat_setWidth, Nat.mod_eq_of_lt (Nat.lt_of_lt_of_le x.isLt (by decide))]
theorem xor32w (x y : BitVec 32) : bits .xor .u64 (x.toNat : Int) (y.toNat : Int) = ((x ^^^ y).toNat : Int) := by
  rw [wide_nat x, wide_nat y, xor64, wide_nat (x ^^^ y), BitVec.setWidth_xor]
theorem and32w (x y : BitVec 32) : bits .and .u64 (x.toNat : Int) (y.toNat : Int) = ((x &&& y).toNat : Int) := by
  rw [wide_nat x, wide_nat y, and64, wide_nat (x &&& y), BitVec.setWidth_and]
theorem or32w (x y : BitVec 32) : bits .or .u64 (x.toNat : Int) (y.toNat : Int) = ((x ||| y).toNat : Int) := by
  rw [wide_nat x, wide_nat y, or64, wide_nat (x ||| y), BitVec.setWidth_or]
theorem not32w (x y : BitVec 32) : bits .and .u64 (bits .xor .u64 IntKind.u64.max (x.toNat : Int)) (y.toNat : Int) = ((~~~x &&& y).toNat : Int) := by
  have h1 : IntKind.u64.max = ((BitVec.allOnes 64).toNat : Int) := by decide
  rw [h1, wide_nat x, xor64, BitVec.allOnes_xor, wide_nat y, and64, wide_nat (~~~x &&& y)]
  congr 2
  ext i hi
  simp only [BitVec.getElem_and, BitVec.getElem_not, BitVec.getElem_setWidth, BitVec.getLsbD_and, BitVec.getLsbD_not]
  by_cases h : i < 32
  · simp [h]
  · simp [BitVec.getLsbD_of_ge y i (by omega)]
theorem sum7 (h s c k x g m : BitVec 32) : Int.tmod (IntKind.u64.wrap (IntKind.u64.wrap (IntKind.u64.wrap (IntKind.u64.wrap (IntKind.u64.wrap (IntKind.u64.wrap ((h.toNat : Int) + (s.toNat : Int)) + (c.toNat : Int)) + (k.toNat : Int)) + (x.toNat : Int)) + (g.toNat : Int)) + (m.toNat : Int))) 4294967296 = ((h + s + c + k + x + g + m).toNat : Int) := by
  simp only [wrap64u, BitVec.toNat_add]
  have := h.isLt; have := s.isLt; have := c.isLt; have := k.isLt; have := x.isLt; have := g.isLt; have := m.isLt
  rw [Int.tmod_eq_emod_of_nonneg (by omega)]
  omega
theorem sum6 (d h s c k x : BitVec 32) : Int.tmod (IntKind.u64.wrap ((d.toNat : Int) + IntKind.u64.wrap (IntKind.u64.wrap (IntKind.u64.wrap (IntKind.u64.wrap ((h.toNat : Int) + (s.toNat : Int)) + (c.toNat : Int)) + (k.toNat : Int)) + (x.toNat : Int)))) 4294967296 = ((d + (h + s + c + k + x)).toNat : Int) := by
  simp only [wrap64u, BitVec.toNat_add]
  have := h.isLt; have := s.isLt; have := c.isLt; have := k.isLt; have := x.isLt; have := d.isLt
  rw [Int.tmod_eq_emod_of_nonneg (by omega)]
  omega
theorem rword32i_calls (z : Int) (w : World) : Calls Tryd.prog 79 #[.int .i64 1, .int .u64 z] w fun e w' => e = .returned (.int .u64 (Int.tmod z 4294967296)) ∧ Drawn0 w w' :=
  PShaConstants.ledgerref01_word.calls 1 z _ w (by unfold PShaConstants.ledgerref01_word.f; rw [if_pos rfl])
attribute [local go_sem ↓] wp_store_v8
attribute [local go_sem] rowOk_drew rowOk_drewN rowBlock rowCells v8ok_ints
set_option maxHeartbeats 2000000 in
set_option maxRecDepth 100000 in
theorem rround32_calls (v : Eight 32) (k x : BitVec 32) (w : World) (hL : RLaid w) :
    Calls Tryd.prog 78 #[.int .i64 1, .agg (v32w v).toArray, .int .u64 (k.toNat : Int), .int .u64 (x.toNat : Int)] w fun e w' => e = .returned (.agg (v32w (round turns32 v k x)).toArray) ∧ Fr (fun _ => False) w w' := by
  obtain ⟨a, b, c, d, e, f, g, h⟩ := v
  have HL := Kp.mk hL
  clear hL
  simp only [v32w, Eight.list, List.map_cons, List.map_nil]
  go_enter Tryd.func78, Tryd.ntmps78
  go_upto_region 1 with (fail)
  obtain ⟨gv, hgv⟩ : ∃ gv, gv = w.heap.size := ⟨_, rfl⟩
  obtain ⟨gr, hgr⟩ : ∃ gr, gr = w.heap.size + 1 := ⟨_, rfl⟩
  rw [← hgr, ← hgv]
  obtain ⟨W2, hW2⟩ : ∃ W2, W2 = (w.alloc (.cells #[.int .u64 (a.toNat : Int), .int .u64 (b.toNat : Int), .int .u64 (c.toNat : Int), .int .u64 (d.toNat : Int), .int .u64 (e.toNat : Int), .int .u64 (f.toNat : Int), .int .u64 (g.toNat : Int), .int .u64 (h.toNat : Int)] 65)).alloc (.cells #[.int .u64 0, .int .u64 0, .int .u64 0, .int .u64 0, .int .u64 0, .int .u64 0, .int .u64 0, .int .u64 0] 65) := ⟨_, rfl⟩
  have HV : Kp (Blk W2 gv 65 [.int .u64 (a.toNat : Int), .int .u64 (b.toNat : Int), .int .u64 (c.toNat : Int), .int .u64 (d.toNat : Int), .int .u64 (e.toNat : Int), .int .u64 (f.toNat : Int), .int .u64 (g.toNat : Int), .int .u64 (h.toNat : Int)]) := ⟨by rw [hW2, hgv]; exact (Blk.new w _ _).alloc _⟩
  have HR : Kp (Blk W2 gr 65 [.int .u64 0, .int .u64 0, .int .u64 0, .int .u64 0, .int .u64 0, .int .u64 0, .int .u64 0, .int .u64 0]) := ⟨by rw [hW2, hgr]; exact Blk.new' _ _ _ (by simp)⟩
  have Hne : Kp (gv ≠ gr) := ⟨by rw [hgv, hgr]; omega⟩
  have Hgr : Kp (w.heap.size ≤ gr) := ⟨by rw [hgr]; omega⟩
  have HF : Kp (Fr (fun _ => False) w W2) := ⟨by rw [hW2]; exact ((Fr.refl _ w).alloc _).alloc _⟩
  rw [← hW2]
  clear hW2 hgv hgr
  have hrow : Kp ((W2.alloc (.cells #[.int .u64 0, .int .u64 0, .int .u64 0, .int .u64 0, .int .u64 0, .int .u64 0, .int .u64 0, .int .u64 0, .int .u64 0, .int .u64 0, .int .u64 0, .int .u64 0] 117)).heap[W2.heap.size]? = some (.cells #[.int .u64 0, .int .u64 0, .int .u64 0, .int .u64 0, .int .u64 0, .int .u64 0, .int .u64 0, .int .u64 0, .int .u64 0, .int .u64 0, .int .u64 0, .int .u64 0] 117 (0, 0))) := ⟨Blk.new W2 _ _⟩
  have hone : (#[.int .u64 2, .int .u64 13, .int .u64 22, .int .u64 6, .int .u64 11, .int .u64 25, .int .u64 7, .int .u64 18, .int .u64 3, .int .u64 17, .int .u64 19, .int .u64 10] : Array Value).all (fun v => v.oneCell') = true := by
    show (([.int .u64 2, .int .u64 13, .int .u64 22, .int .u64 6, .int .u64 11, .int .u64 25, .int .u64 7, .int .u64 18, .int .u64 3, .int .u64 17, .int .u64 19, .int .u64 10] : List Value).toArray).all (fun v => v.oneCell') = true
    rw [List.all_toArray]; rfl
  have hi12 : (Tryd.prog.info? 117).map (·.size) = some 12 := by kernel_rfl
  have hrg : Kp (W2.rangeAt 7 12 [.int .u64 2, .int .u64 13, .int .u64 22, .int .u64 6, .int .u64 11, .int .u64 25, .int .u64 7, .int .u64 18, .int .u64 3, .int .u64 17, .int .u64 19, .int .u64 10]) := ⟨rt_range (HL.out.fr HF.out) 12 (by decide)⟩
  go_wp2_with (first
    | refine wpList_load_mid rfl 117 _ rfl 7 12 rfl [.int .u64 2, .int .u64 13, .int .u64 22, .int .u64 6, .int .u64 11, .int .u64 25, .int .u64 7, .int .u64 18, .int .u64 3, .int .u64 17, .int .u64 19, .int .u64 10] _ hrg.out Tryd.underlying117 rfl hi12 ?_
    | refine wpList_store_row rfl 117 _ _ rfl W2.heap.size #[.int .u64 2, .int .u64 13, .int .u64 22, .int .u64 6, .int .u64 11, .int .u64 25, .int .u64 7, .int .u64 18, .int .u64 3, .int .u64 17, .int .u64 19, .int .u64 10] rfl rfl 117 #[.int .u64 0, .int .u64 0, .int .u64 0, .int .u64 0, .int .u64 0, .int .u64 0, .int .u64 0, .int .u64 0, .int .u64 0, .int .u64 0, .int .u64 0, .int .u64 0] (by exact hrow.out) hi12 rfl hone ?_)
  obtain ⟨gt, hgt⟩ : ∃ gt, gt = W2.heap.size := ⟨_, rfl⟩
  have HT3 : Kp (Blk ((W2.alloc (.cells #[.int .u64 0, .int .u64 0, .int .u64 0, .int .u64 0, .int .u64 0, .int .u64 0, .int .u64 0, .int .u64 0, .int .u64 0, .int .u64 0, .int .u64 0, .int .u64 0] 117)).setRow W2.heap.size #[.int .u64 2, .int .u64 13, .int .u64 22, .int .u64 6, .int .u64 11, .int .u64 25, .int .u64 7, .int .u64 18, .int .u64 3, .int .u64 17, .int .u64 19, .int .u64 10]) gt 117 [.int .u64 2, .int .u64 13, .int .u64 22, .int .u64 6, .int .u64 11, .int .u64 25, .int .u64 7, .int .u64 18, .int .u64 3, .int .u64 17, .int .u64 19, .int .u64 10]) := ⟨by rw [hgt]; exact blk_row W2 _ _ _⟩
  have HV3 := Kp.mk (blk_keep HV.out (Fr.refl (fun _ => False) W2) (fun h => h) (.cells #[.int .u64 0, .int .u64 0, .int .u64 0, .int .u64 0, .int .u64 0, .int .u64 0, .int .u64 0, .int .u64 0, .int .u64 0, .int .u64 0, .int .u64 0, .int .u64 0] 117) #[.int .u64 2, .int .u64 13, .int .u64 22, .int .u64 6, .int .u64 11, .int .u64 25, .int .u64 7, .int .u64 18, .int .u64 3, .int .u64 17, .int .u64 19, .int .u64 10])
  have HR3 := Kp.mk (blk_keep HR.out (Fr.refl (fun _ => False) W2) (fun h => h) (.cells #[.int .u64 0, .int .u64 0, .int .u64 0, .int .u64 0, .int .u64 0, .int .u64 0, .int .u64 0, .int .u64 0, .int .u64 0, .int .u64 0, .int .u64 0, .int .u64 0] 117) #[.int .u64 2, .int .u64 13, .int .u64 22, .int .u64 6, .int .u64 11, .int .u64 25, .int .u64 7, .int .u64 18, .int .u64 3, .int .u64 17, .int .u64 19, .int .u64 10])
  have HF3 := Kp.mk (fr_row HF.out (.cells #[.int .u64 0, .int .u64 0, .int .u64 0, .int .u64 0, .int .u64 0, .int .u64 0, .int .u64 0, .int .u64 0, .int .u64 0, .int .u64 0, .int .u64 0, .int .u64 0] 117) #[.int .u64 2, .int .u64 13, .int .u64 22, .int .u64 6, .int .u64 11, .int .u64 25, .int .u64 7, .int .u64 18, .int .u64 3, .int .u64 17, .int .u64 19, .int .u64 10])
  rw [← hgt] at HT3 HV3 HR3 HF3 ⊢
  generalize hW3 : World.setRow _ gt _ = W3 at HT3 HV3 HR3 HF3 ⊢
  clear hW3 hgt hrow hrg HV HR HF
  have cv0 := HV3.out.cell 0 _ rfl
  have cv1 := HV3.out.cell 1 _ rfl
  have cv2 := HV3.out.cell 2 _ rfl
  have cv3 := HV3.out.cell 3 _ rfl
  have cv4 := HV3.out.cell 4 _ rfl
  have cv5 := HV3.out.cell 5 _ rfl
  have cv6 := HV3.out.cell 6 _ rfl
  have cv7 := HV3.out.cell 7 _ rfl
  have ct0 := HT3.out.cell 0 _ rfl
  have ct1 := HT3.out.cell 1 _ rfl
  have ct2 := HT3.out.cell 2 _ rfl
  have ct3 := HT3.out.cell 3 _ rfl
  have ct4 := HT3.out.cell 4 _ rfl
  have ct5 := HT3.out.cell 5 _ rfl
  have ue6 : ∀ w, Calls Tryd.prog 80 #[.int .i64 1, .int .u64 (e.toNat : Int), .int .u64 6] w fun e' w' => e' = .returned (.int .u64 ((rot e 6).toNat : Int)) ∧ ∃ n, w' = w.drewN n := fun w => (rturn32_calls e 6 (by decide) (by decide) w).mono fun _ _ h => ⟨h.1, h.2.out⟩
  have ue11 : ∀ w, Calls Tryd.prog 80 #[.int .i64 1, .int .u64 (e.toNat : Int), .int .u64 11] w fun e' w' => e' = .returned (.int .u64 ((rot e 11).toNat : Int)) ∧ ∃ n, w' = w.drewN n := fun w => (rturn32_calls e 11 (by decide) (by decide) w).mono fun _ _ h => ⟨h.1, h.2.out⟩
  have ue25 : ∀ w, Calls Tryd.prog 80 #[.int .i64 1, .int .u64 (e.toNat : Int), .int .u64 25] w fun e' w' => e' = .returned (.int .u64 ((rot e 25).toNat : Int)) ∧ ∃ n, w' = w.drewN n := fun w => (rturn32_calls e 25 (by decide) (by decide) w).mono fun _ _ h => ⟨h.1, h.2.out⟩
  have ua2 : ∀ w, Calls Tryd.prog 80 #[.int .i64 1, .int .u64 (a.toNat : Int), .int .u64 2] w fun e' w' => e' = .returned (.int .u64 ((rot a 2).toNat : Int)) ∧ ∃ n, w' = w.drewN n := fun w => (rturn32_calls a 2 (by decide) (by decide) w).mono fun _ _ h => ⟨h.1, h.2.out⟩
  have ua13 : ∀ w, Calls Tryd.prog 80 #[.int .i64 1, .int .u64 (a.toNat : Int), .int .u64 13] w fun e' w' => e' = .returned (.int .u64 ((rot a 13).toNat : Int)) ∧ ∃ n, w' = w.drewN n := fun w => (rturn32_calls a 13 (by decide) (by decide) w).mono fun _ _ h => ⟨h.1, h.2.out⟩
  have ua22 : ∀ w, Calls Tryd.prog 80 #[.int .i64 1, .int .u64 (a.toNat : Int), .int .u64 22] w fun e' w' => e' = .returned (.int .u64 ((rot a 22).toNat : Int)) ∧ ∃ n, w' = w.drewN n := fun w => (rturn32_calls a 22 (by decide) (by decide) w).mono fun _ _ h => ⟨h.1, h.2.out⟩
  go_upto_region 2 with (fail)
  go_quiet (first
    | (go_at_call_of 80 (Value.int IntKind.u64 6); exact Calls.quiet_of (ue6 _))
    | (go_at_call_of 80 (Value.int IntKind.u64 11); exact Calls.quiet_of (ue11 _))
    | (go_at_call_of 80 (Value.int IntKind.u64 25); exact Calls.quiet_of (ue25 _)))
  go_upto_region 5 with (fail)
  have HV4 := Kp.mk (HV3.out.drewN nq)
  have HT4 := Kp.mk (HT3.out.drewN nq)
  have HR4 := Kp.mk (HR3.out.drewN nq)
  have HF4 := Kp.mk (HF3.out.drewN nq)
  generalize World.drewN W3 nq = W4 at HV4 HT4 HR4 HF4 ⊢
  clear cv0 cv1 cv2 cv3 cv4 cv5 cv6 cv7 ct0 ct1 ct2 ct3 ct4 ct5 HV3 HT3 HR3 HF3 ue6 ue11 ue25
  have cv0 := HV4.out.cell 0 _ rfl
  have cv1 := HV4.out.cell 1 _ rfl
  have cv2 := HV4.out.cell 2 _ rfl
  have cv3 := HV4.out.cell 3 _ rfl
  have cv4 := HV4.out.cell 4 _ rfl
  have cv5 := HV4.out.cell 5 _ rfl
  have cv6 := HV4.out.cell 6 _ rfl
  have cv7 := HV4.out.cell 7 _ rfl
  have ct0 := HT4.out.cell 0 _ rfl
  have ct1 := HT4.out.cell 1 _ rfl
  have ct2 := HT4.out.cell 2 _ rfl
  go_quiet (first
    | (go_at_call_of 80 (Value.int IntKind.u64 2); exact Calls.quiet_of (ua2 _))
    | (go_at_call_of 80 (Value.int IntKind.u64 13); exact Calls.quiet_of (ua13 _))
    | (go_at_call_of 80 (Value.int IntKind.u64 22); exact Calls.quiet_of (ua22 _)))
  go_upto_region 7 with (fail)
  have HV5 := Kp.mk (HV4.out.drewN nq)
  have HR5 := Kp.mk (HR4.out.drewN nq)
  have HF5 := Kp.mk (HF4.out.drewN nq)
  generalize World.drewN W4 nq = W5 at HV5 HR5 HF5 ⊢
  clear cv0 cv1 cv2 cv3 cv4 cv5 cv6 cv7 ct0 ct1 ct2 HV4 HT4 HR4 HF4 ua2 ua13 ua22
  have cv0 := HV5.out.cell 0 _ rfl
  have cv1 := HV5.out.cell 1 _ rfl
  have cv2 := HV5.out.cell 2 _ rfl
  have cv3 := HV5.out.cell 3 _ rfl
  have cv4 := HV5.out.cell 4 _ rfl
  have cv5 := HV5.out.cell 5 _ rfl
  have cv6 := HV5.out.cell 6 _ rfl
  have cv7 := HV5.out.cell 7 _ rfl
  have hRO := rowOk_blk HR5.out (by kernel_rfl)
  have hne : gv ≠ gr := Hne.out
  go_region_held3 (fun w' => w'.cell? ⟨gv, 0, none⟩ = some (.int .u64 (a.toNat : Int)) ∧ w'.cell? ⟨gv, 1, none⟩ = some (.int .u64 (b.toNat : Int)) ∧ w'.cell? ⟨gv, 2, none⟩ = some (.int .u64 (c.toNat : Int)) ∧ w'.cell? ⟨gv, 3, none⟩ = some (.int .u64 (d.toNat : Int)) ∧ w'.cell? ⟨gv, 4, none⟩ = some (.int .u64 (e.toNat : Int)) ∧ w'.cell? ⟨gv, 5, none⟩ = some (.int .u64 (f.toNat : Int)) ∧ w'.cell? ⟨gv, 6, none⟩ = some (.int .u64 (g.toNat : Int)) ∧ rowOk w' 65 (.pointer (some ⟨gr, 0, none⟩)) = true) (refine ⟨?_, ?_, ?_, ?_, ?_, ?_, ?_, ?_⟩ <;> first | go_keep | (go_split_ands; first | assumption | (refine cell_setRow_ne _ _ _ _ _ _ ?_ hne; assumption) | (refine rowOk_setRow _ _ _ _ ?_ rfl (by kernel_rfl); assumption))) (first | (go_at_call 79; (refine (rword32i_calls _ _).mono ?_); rintro e' w' ⟨rfl, hd⟩; obtain ⟨n, rfl⟩ := hd.out))
  have hi8 : (Tryd.prog.info? 65).map (·.size) = some 8 := by kernel_rfl
  simp only [not32w, and32w, or32w, xor32w, sum7, sum6]
  go_wp2
  refine bodyPost_ret (results_cell_row rfl _ _ gr 65 _ (0, 0) _ rfl (setRow_heap _ gr _ _ _ _ (HR5.out.drewN _)) Tryd.underlying65 rfl hi8) rfl ?_
  refine ⟨?_, ?_⟩
  · simp only [round, choice_or, most_or, BitVec.add_assoc, great0, great1, turns32]
  · exact (HF5.out.drewN _).trans (S' := fun k => k = gr) ⟨rfl, rfl, rfl, by simp [World.setRow], fun k _ hk => setRow_other _ _ k _ hk⟩ (fun k hk he => by have := Hgr.out; omega)
end Go.Proofs.YtjcfnflkiialbaaDoor.Sha
