/-
  The walks of start and New.
-/
import Derived.Test.YtjcfnflkiialbaaDoorDig
namespace Go.Proofs.YtjcfnflkiialbaaDoor.Sha
open Go.RowKit Go.Proofs.YtjcfnflkiialbaaDoor.Mem
set_option maxHeartbeats 4000000 in
set_option maxRecDepth 100000 in
theorem start512_calls (x0 x1 x2 x3 x4 x5 x6 x7 : Int) (w : World)
    (h0 : w.cell? ⟨3, 0, none⟩ = some (.int .u64 x0)) (h1 : w.cell? ⟨3, 1, none⟩ = some (.int .u64 x1)) (h2 : w.cell? ⟨3, 2, none⟩ = some (.int .u64 x2)) (h3 : w.cell? ⟨3, 3, none⟩ = some (.int .u64 x3))
    (h4 : w.cell? ⟨3, 4, none⟩ = some (.int .u64 x4)) (h5 : w.cell? ⟨3, 5, none⟩ = some (.int .u64 x5)) (h6 : w.cell? ⟨3, 6, none⟩ = some (.int .u64 x6)) (h7 : w.cell? ⟨3, 7, none⟩ = some (.int .u64 x7)) (hg : 3 < w.heap.size) :
    Calls Tryd.prog 54 #[.int .i64 512] w fun e w' => e = .returned (.agg #[.int .u32 0, .int .u32 0, .int .u32 0, .int .u32 0, .int .u32 0, .int .u32 0, .int .u32 0, .int .u32 0, .int .u64 x0, .int .u64 x1, .int .u64 x2, .int .u64 x3, .int .u64 x4, .int .u64 x5, .int .u64 x6, .int .u64 x7]) ∧ Below w.heap.size w w' := by
  have hb := Below.refl w.heap.size w
  go_enter Tryd.func54, Tryd.ntmps54
  go_wp2
  (try simp only [Exit.inBlock, Exit.then])
  refine bodyPost_ret (results_cell_row rfl _ _ w.heap.size 90 _ (0, 0) _ rfl (heap_alloc_new w _) Tryd.underlying90 rfl (by kernel_rfl)) rfl ?_
  exact ⟨rfl, hb.alloc (Nat.le_refl _) _⟩
theorem index8u (a b c d e f g h : Int) (i : Nat) (hi : i < 8) (w : World) :
    (Instr.index 65 (.agg #[.int .u64 a, .int .u64 b, .int .u64 c, .int .u64 d, .int .u64 e, .int .u64 f, .int .u64 g, .int .u64 h]) (.int .i64 (i : Int))).run Tryd.prog w = .ok (#[Value.int .u64 a, .int .u64 b, .int .u64 c, .int .u64 d, .int .u64 e, .int .u64 f, .int .u64 g, .int .u64 h].getD i undef) w := by
  have h8 : i = 0 ∨ i = 1 ∨ i = 2 ∨ i = 3 ∨ i = 4 ∨ i = 5 ∨ i = 6 ∨ i = 7 := by omega
  rcases h8 with rfl | rfl | rfl | rfl | rfl | rfl | rfl | rfl <;> simp [Instr.index, run_underlying Tryd.underlying65, asIntOf, go_sem]
def half (x : Int) : Value := .int .u32 (x / 4294967296 % 4294967296)
def halves (x0 x1 x2 x3 x4 x5 x6 x7 : Int) (n : Nat) : List Value := ([half x0, half x1, half x2, half x3, half x4, half x5, half x6, half x7].take n ++ List.replicate (8 - n) (.int .u32 0)) ++ List.replicate 8 (.int .u64 0)
set_option maxHeartbeats 8000000 in
set_option maxRecDepth 100000 in
theorem start256_calls (x0 x1 x2 x3 x4 x5 x6 x7 : Int) (w : World)
    (h0 : w.cell? ⟨3, 0, none⟩ = some (.int .u64 x0)) (h1 : w.cell? ⟨3, 1, none⟩ = some (.int .u64 x1)) (h2 : w.cell? ⟨3, 2, none⟩ = some (.int .u64 x2)) (h3 : w.cell? ⟨3, 3, none⟩ = some (.int .u64 x3))
    (h4 : w.cell? ⟨3, 4, none⟩ = some (.int .u64 x4)) (h5 : w.cell? ⟨3, 5, none⟩ = some (.int .u64 x5)) (h6 : w.cell? ⟨3, 6, none⟩ = some (.int .u64 x6)) (h7 : w.cell? ⟨3, 7, none⟩ = some (.int .u64 x7)) (hg : 3 < w.heap.size) :
    Calls Tryd.prog 54 #[.int .i64 256] w fun e w' => e = .returned (.agg #[half x0, half x1, half x2, half x3, half x4, half x5, half x6, half x7, .int .u64 0, .int .u64 0, .int .u64 0, .int .u64 0, .int .u64 0, .int .u64 0, .int .u64 0, .int .u64 0]) ∧ Below w.heap.size w w' := by
  go_enter Tryd.func54, Tryd.ntmps54
  go_wp2
  have hB3 : Kp (Blk ((w.alloc (.cells (List.replicate 8 (Value.int .u32 0) ++ List.replicate 8 (Value.int .u64 0)).toArray 90)).alloc (.cells (List.replicate 8 (Value.int .u32 0) ++ List.replicate 8 (Value.int .u64 0)).toArray 90)) (w.heap.size + 1) 90 (halves x0 x1 x2 x3 x4 x5 x6 x7 0)) := ⟨Blk.new' _ _ _ (by simp)⟩
  have hB2 : Kp (Blk ((w.alloc (.cells (List.replicate 8 (Value.int .u32 0) ++ List.replicate 8 (Value.int .u64 0)).toArray 90)).alloc (.cells (List.replicate 8 (Value.int .u32 0) ++ List.replicate 8 (Value.int .u64 0)).toArray 90)) w.heap.size 90 (List.replicate 8 (Value.int .u32 0) ++ List.replicate 8 (Value.int .u64 0))) := ⟨(Blk.new w _ _).alloc _⟩
  have hF : Kp (Fr (fun _ => False) w ((w.alloc (.cells (List.replicate 8 (Value.int .u32 0) ++ List.replicate 8 (Value.int .u64 0)).toArray 90)).alloc (.cells (List.replicate 8 (Value.int .u32 0) ++ List.replicate 8 (Value.int .u64 0)).toArray 90))) := ⟨((Fr.refl _ w).alloc _).alloc _⟩
  clear h0 h1 h2 h3 h4 h5 h6 h7 hg
  go_loopw [11] (fun i wr => ∃ n : Nat, i = .int .i64 (n : Int) ∧ Kp (n ≤ 8) ∧ Kp (Blk wr (w.heap.size + 1) 90 (halves x0 x1 x2 x3 x4 x5 x6 x7 n)) ∧ Kp (Blk wr w.heap.size 90 (List.replicate 8 (Value.int .u32 0) ++ List.replicate 8 (Value.int .u64 0))) ∧ Kp (Fr (fun _ => False) w wr)) (fun i _ => 8 - (intOf i).toNat)
  case atStart => exact ⟨0, rfl, ⟨Nat.zero_le _⟩, hB3, hB2, hF⟩
  case round =>
    clear hB3 hB2 hF
    obtain ⟨n, rfl, G1, HV, H2, HF⟩ := hrel
    have hn8 : n = 0 ∨ n = 1 ∨ n = 2 ∨ n = 3 ∨ n = 4 ∨ n = 5 ∨ n = 6 ∨ n = 7 ∨ n = 8 := by have := G1.out; omega
    clear G1
    have hne : w.heap.size + 1 ≠ w.heap.size := Nat.succ_ne_self _
    rcases hn8 with rfl | rfl | rfl | rfl | rfl | rfl | rfl | rfl | rfl
    · have hcv := HV.out.cell 0 (.int .u32 0) rfl
      have hfz := HV.out.free 0
      have hix : ∀ w, (Instr.index 65 (.agg #[.int .u64 x0, .int .u64 x1, .int .u64 x2, .int .u64 x3, .int .u64 x4, .int .u64 x5, .int .u64 x6, .int .u64 x7]) (.int .i64 0)).run Tryd.prog w = .ok (.int .u64 x0) w := index8u x0 x1 x2 x3 x4 x5 x6 x7 0 (by decide)
      go_wp2
      go_roundw
      case rel => exact ⟨1, by go_num, ⟨by omega⟩, ⟨HV.out.set 0 (half x0)⟩, ⟨H2.out.set_ne hne _⟩, ⟨HF.out.set (fun h => absurd h (by simp)) _⟩⟩
      case measure => simp [intOf]
    · have hcv := HV.out.cell 1 (.int .u32 0) rfl
      have hfz := HV.out.free 1
      have hix : ∀ w, (Instr.index 65 (.agg #[.int .u64 x0, .int .u64 x1, .int .u64 x2, .int .u64 x3, .int .u64 x4, .int .u64 x5, .int .u64 x6, .int .u64 x7]) (.int .i64 1)).run Tryd.prog w = .ok (.int .u64 x1) w := index8u x0 x1 x2 x3 x4 x5 x6 x7 1 (by decide)
      go_wp2
      go_roundw
      case rel => exact ⟨2, by go_num, ⟨by omega⟩, ⟨HV.out.set 1 (half x1)⟩, ⟨H2.out.set_ne hne _⟩, ⟨HF.out.set (fun h => absurd h (by simp)) _⟩⟩
      case measure => simp [intOf]
    · have hcv := HV.out.cell 2 (.int .u32 0) rfl
      have hfz := HV.out.free 2
      have hix : ∀ w, (Instr.index 65 (.agg #[.int .u64 x0, .int .u64 x1, .int .u64 x2, .int .u64 x3, .int .u64 x4, .int .u64 x5, .int .u64 x6, .int .u64 x7]) (.int .i64 2)).run Tryd.prog w = .ok (.int .u64 x2) w := index8u x0 x1 x2 x3 x4 x5 x6 x7 2 (by decide)
      go_wp2
      go_roundw
      case rel => exact ⟨3, by go_num, ⟨by omega⟩, ⟨HV.out.set 2 (half x2)⟩, ⟨H2.out.set_ne hne _⟩, ⟨HF.out.set (fun h => absurd h (by simp)) _⟩⟩
      case measure => simp [intOf]
    · have hcv := HV.out.cell 3 (.int .u32 0) rfl
      have hfz := HV.out.free 3
      have hix : ∀ w, (Instr.index 65 (.agg #[.int .u64 x0, .int .u64 x1, .int .u64 x2, .int .u64 x3, .int .u64 x4, .int .u64 x5, .int .u64 x6, .int .u64 x7]) (.int .i64 3)).run Tryd.prog w = .ok (.int .u64 x3) w := index8u x0 x1 x2 x3 x4 x5 x6 x7 3 (by decide)
      go_wp2
      go_roundw
      case rel => exact ⟨4, by go_num, ⟨by omega⟩, ⟨HV.out.set 3 (half x3)⟩, ⟨H2.out.set_ne hne _⟩, ⟨HF.out.set (fun h => absurd h (by simp)) _⟩⟩
      case measure => simp [intOf]
    · have hcv := HV.out.cell 4 (.int .u32 0) rfl
      have hfz := HV.out.free 4
      have hix : ∀ w, (Instr.index 65 (.agg #[.int .u64 x0, .int .u64 x1, .int .u64 x2, .int .u64 x3, .int .u64 x4, .int .u64 x5, .int .u64 x6, .int .u64 x7]) (.int .i64 4)).run Tryd.prog w = .ok (.int .u64 x4) w := index8u x0 x1 x2 x3 x4 x5 x6 x7 4 (by decide)
      go_wp2
      go_roundw
      case rel => exact ⟨5, by go_num, ⟨by omega⟩, ⟨HV.out.set 4 (half x4)⟩, ⟨H2.out.set_ne hne _⟩, ⟨HF.out.set (fun h => absurd h (by simp)) _⟩⟩
      case measure => simp [intOf]
    · have hcv := HV.out.cell 5 (.int .u32 0) rfl
      have hfz := HV.out.free 5
      have hix : ∀ w, (Instr.index 65 (.agg #[.int .u64 x0, .int .u64 x1, .int .u64 x2, .int .u64 x3, .int .u64 x4, .int .u64 x5, .int .u64 x6, .int .u64 x7]) (.int .i64 5)).run Tryd.prog w = .ok (.int .u64 x5) w := index8u x0 x1 x2 x3 x4 x5 x6 x7 5 (by decide)
      go_wp2
      go_roundw
      case rel => exact ⟨6, by go_num, ⟨by omega⟩, ⟨HV.out.set 5 (half x5)⟩, ⟨H2.out.set_ne hne _⟩, ⟨HF.out.set (fun h => absurd h (by simp)) _⟩⟩
      case measure => simp [intOf]
    · have hcv := HV.out.cell 6 (.int .u32 0) rfl
      have hfz := HV.out.free 6
      have hix : ∀ w, (Instr.index 65 (.agg #[.int .u64 x0, .int .u64 x1, .int .u64 x2, .int .u64 x3, .int .u64 x4, .int .u64 x5, .int .u64 x6, .int .u64 x7]) (.int .i64 6)).run Tryd.prog w = .ok (.int .u64 x6) w := index8u x0 x1 x2 x3 x4 x5 x6 x7 6 (by decide)
      go_wp2
      go_roundw
      case rel => exact ⟨7, by go_num, ⟨by omega⟩, ⟨HV.out.set 6 (half x6)⟩, ⟨H2.out.set_ne hne _⟩, ⟨HF.out.set (fun h => absurd h (by simp)) _⟩⟩
      case measure => simp [intOf]
    · have hcv := HV.out.cell 7 (.int .u32 0) rfl
      have hfz := HV.out.free 7
      have hix : ∀ w, (Instr.index 65 (.agg #[.int .u64 x0, .int .u64 x1, .int .u64 x2, .int .u64 x3, .int .u64 x4, .int .u64 x5, .int .u64 x6, .int .u64 x7]) (.int .i64 7)).run Tryd.prog w = .ok (.int .u64 x7) w := index8u x0 x1 x2 x3 x4 x5 x6 x7 7 (by decide)
      go_wp2
      go_roundw
      case rel => exact ⟨8, by go_num, ⟨by omega⟩, ⟨HV.out.set 7 (half x7)⟩, ⟨H2.out.set_ne hne _⟩, ⟨HF.out.set (fun h => absurd h (by simp)) _⟩⟩
      case measure => simp [intOf]
    · have hl0 := HV.out.cell 0 (.int .u32 (x0 / 4294967296 % 4294967296)) rfl
      have hs0 := H2.out.cell 0 (.int .u32 0) rfl
      have hf0 := H2.out.free 0
      have hl1 := HV.out.cell 1 (.int .u32 (x1 / 4294967296 % 4294967296)) rfl
      have hs1 := H2.out.cell 1 (.int .u32 0) rfl
      have hf1 := H2.out.free 1
      have hl2 := HV.out.cell 2 (.int .u32 (x2 / 4294967296 % 4294967296)) rfl
      have hs2 := H2.out.cell 2 (.int .u32 0) rfl
      have hf2 := H2.out.free 2
      have hl3 := HV.out.cell 3 (.int .u32 (x3 / 4294967296 % 4294967296)) rfl
      have hs3 := H2.out.cell 3 (.int .u32 0) rfl
      have hf3 := H2.out.free 3
      have hl4 := HV.out.cell 4 (.int .u32 (x4 / 4294967296 % 4294967296)) rfl
      have hs4 := H2.out.cell 4 (.int .u32 0) rfl
      have hf4 := H2.out.free 4
      have hl5 := HV.out.cell 5 (.int .u32 (x5 / 4294967296 % 4294967296)) rfl
      have hs5 := H2.out.cell 5 (.int .u32 0) rfl
      have hf5 := H2.out.free 5
      have hl6 := HV.out.cell 6 (.int .u32 (x6 / 4294967296 % 4294967296)) rfl
      have hs6 := H2.out.cell 6 (.int .u32 0) rfl
      have hf6 := H2.out.free 6
      have hl7 := HV.out.cell 7 (.int .u32 (x7 / 4294967296 % 4294967296)) rfl
      have hs7 := H2.out.cell 7 (.int .u32 0) rfl
      have hf7 := H2.out.free 7
      have hl8 := HV.out.cell 8 (.int .u64 0) rfl
      have hs8 := H2.out.cell 8 (.int .u64 0) rfl
      have hf8 := H2.out.free 8
      have hl9 := HV.out.cell 9 (.int .u64 0) rfl
      have hs9 := H2.out.cell 9 (.int .u64 0) rfl
      have hf9 := H2.out.free 9
      have hl10 := HV.out.cell 10 (.int .u64 0) rfl
      have hs10 := H2.out.cell 10 (.int .u64 0) rfl
      have hf10 := H2.out.free 10
      have hl11 := HV.out.cell 11 (.int .u64 0) rfl
      have hs11 := H2.out.cell 11 (.int .u64 0) rfl
      have hf11 := H2.out.free 11
      have hl12 := HV.out.cell 12 (.int .u64 0) rfl
      have hs12 := H2.out.cell 12 (.int .u64 0) rfl
      have hf12 := H2.out.free 12
      have hl13 := HV.out.cell 13 (.int .u64 0) rfl
      have hs13 := H2.out.cell 13 (.int .u64 0) rfl
      have hf13 := H2.out.free 13
      have hl14 := HV.out.cell 14 (.int .u64 0) rfl
      have hs14 := H2.out.cell 14 (.int .u64 0) rfl
      have hf14 := H2.out.free 14
      have hl15 := HV.out.cell 15 (.int .u64 0) rfl
      have hs15 := H2.out.cell 15 (.int .u64 0) rfl
      have hf15 := H2.out.free 15
      have hfin := Kp.mk ((((((((((((((((H2.out.set 0 (.int .u32 (x0 / 4294967296 % 4294967296))).set 1 (.int .u32 (x1 / 4294967296 % 4294967296))).set 2 (.int .u32 (x2 / 4294967296 % 4294967296))).set 3 (.int .u32 (x3 / 4294967296 % 4294967296))).set 4 (.int .u32 (x4 / 4294967296 % 4294967296))).set 5 (.int .u32 (x5 / 4294967296 % 4294967296))).set 6 (.int .u32 (x6 / 4294967296 % 4294967296))).set 7 (.int .u32 (x7 / 4294967296 % 4294967296))).set 8 (.int .u64 0)).set 9 (.int .u64 0)).set 10 (.int .u64 0)).set 11 (.int .u64 0)).set 12 (.int .u64 0)).set 13 (.int .u64 0)).set 14 (.int .u64 0)).set 15 (.int .u64 0))
      go_wp2
      (try simp only [Exit.inBlock, Exit.then])
      refine bodyPost_ret (results_cell_row rfl _ _ w.heap.size 90 _ (0, 0) _ rfl hfin.out Tryd.underlying90 rfl (by kernel_rfl)) rfl ?_
      exact ⟨rfl, Fr.below ((((((((((((((((HF.out.set (fun h => absurd h (Nat.lt_irrefl _)) _).set (fun h => absurd h (Nat.lt_irrefl _)) _).set (fun h => absurd h (Nat.lt_irrefl _)) _).set (fun h => absurd h (Nat.lt_irrefl _)) _).set (fun h => absurd h (Nat.lt_irrefl _)) _).set (fun h => absurd h (Nat.lt_irrefl _)) _).set (fun h => absurd h (Nat.lt_irrefl _)) _).set (fun h => absurd h (Nat.lt_irrefl _)) _).set (fun h => absurd h (Nat.lt_irrefl _)) _).set (fun h => absurd h (Nat.lt_irrefl _)) _).set (fun h => absurd h (Nat.lt_irrefl _)) _).set (fun h => absurd h (Nat.lt_irrefl _)) _).set (fun h => absurd h (Nat.lt_irrefl _)) _).set (fun h => absurd h (Nat.lt_irrefl _)) _).set (fun h => absurd h (Nat.lt_irrefl _)) _).set (fun h => absurd h (Nat.lt_irrefl _)) _) (fun _ _ h => h)⟩
end Go.Proofs.YtjcfnflkiialbaaDoor.Sha
