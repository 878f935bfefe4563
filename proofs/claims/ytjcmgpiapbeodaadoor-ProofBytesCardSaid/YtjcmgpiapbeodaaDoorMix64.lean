/-
  The walk of mix for kind 256. The walk of mix for kind 512.
-/
import Derived.Test.YtjcmgpiapbeodaaDoorDig
namespace Go.Proofs.YtjcmgpiapbeodaaDoor.Sha.M32
open Go.RowKit Go.Proofs.YtjcmgpiapbeodaaDoor.Mem
set_option maxHeartbeats 4000000 in
set_option maxRecDepth 100000 in
theorem mix_calls (b : Nat) (cnt : Nat) (c : Chain) (rv : Value) (bs os m cp : Nat) (xs : List Int) (hx : xs.length = 64) (hm : 64 ≤ m) (hmc : m ≤ cp) (w : World) (hL : Laid w)
    (hD : Blk w b 135 (dcells false cnt c rv)) (hX : Reads w bs os xs) :
    Calls Tryd.prog 67 #[.pointer (some ⟨b, 0, none⟩), .slice (some ⟨bs, os, none⟩) m cp] w fun e w' =>
      ∃ r, e = .returned r ∧ Blk w' b 135 (dcells false cnt (mixC false c xs) rv) ∧ Fr (fun k => k = b) w w' := by
  have hk := hD.cell 0 _ rfl
  have HL := Kp.mk hL
  have HD := Kp.mk hD
  have HX := Kp.mk hX
  have HXL := Kp.mk hx
  have HLT := Kp.mk hD.lt
  have HSL := Kp.mk hX.1
  clear hL hD hX hx
  simp only [kind] at hk
  go_enter Tryd.func67, Tryd.ntmps67
  go_wp2_with fail
  have hnew : Kp (Blk (w.alloc (.cells (List.replicate 64 (Value.int .u32 0)).toArray 163)) w.heap.size 163 ([] ++ List.replicate 16 (Value.int .u32 0) ++ List.replicate 48 (Value.int .u32 0))) := ⟨Blk.new w _ _⟩
  have hrd : Kp (Reads (w.alloc (.cells (List.replicate 64 (Value.int .u32 0)).toArray 163)) bs os xs) := ⟨HX.out.fr ((Fr.refl (fun _ => False) w).alloc _) (fun h => h)⟩
  refine (L32.load_calls 163 w.heap.size 0 16 64 bs os m cp [] (List.replicate 16 (.int .u32 0)) (List.replicate 48 (.int .u32 0)) xs rfl rfl (fun v hv => ⟨0, List.eq_of_mem_replicate hv⟩) (by omega) (by omega) (by omega) hmc (by rw [HXL.out]; omega) (Nat.ne_of_lt HSL.out) (w.alloc (.cells (List.replicate 64 (Value.int .u32 0)).toArray 163)) hnew.out hrd.out.1 (fun i hi => hrd.out.2 i (by rw [HXL.out]; omega))).mono ?_
  rintro e w1 ⟨r, rfl, hB1, hF1⟩
  have hF : Kp (Fr (fun _ => False) w w1) := ⟨((Fr.refl (fun _ => False) w).alloc _).trans hF1 (fun k hk he => Nat.lt_irrefl _ (he ▸ hk))⟩
  have HB := Kp.mk hB1
  have HD1 := Kp.mk (HD.out.fr hF.out (fun h => h))
  have HL1 := Kp.mk (HL.out.fr hF.out (fun _ h => h.elim))
  obtain ⟨bw, hbw⟩ : ∃ bw, bw = w.heap.size := ⟨_, rfl⟩
  have HW := Kp.mk (show b ≠ bw from fun h => by have := HLT.out; omega)
  have HWl := Kp.mk (show low ≤ bw by have := HL.out.size; omega)
  rw [← hbw] at HB ⊢
  have HBW := Kp.mk hbw
  clear hnew hrd hB1 hF1 HD HL HX HXL HSL hk hbw
  have hk := HD1.out.cell 0 (.int .i64 ((kind false : Nat) : Int)) rfl
  simp only [kind] at hk
  have h0 : w1.cell? ⟨2, 0, none⟩ = some (.int .i64 2) := HL1.out.t256 0 (by decide)
  have h1 : w1.cell? ⟨2, 1, none⟩ = some (.int .i64 13) := HL1.out.t256 1 (by decide)
  have h2 : w1.cell? ⟨2, 2, none⟩ = some (.int .i64 22) := HL1.out.t256 2 (by decide)
  have h3 : w1.cell? ⟨2, 3, none⟩ = some (.int .i64 6) := HL1.out.t256 3 (by decide)
  have h4 : w1.cell? ⟨2, 4, none⟩ = some (.int .i64 11) := HL1.out.t256 4 (by decide)
  have h5 : w1.cell? ⟨2, 5, none⟩ = some (.int .i64 25) := HL1.out.t256 5 (by decide)
  have h6 : w1.cell? ⟨2, 6, none⟩ = some (.int .i64 7) := HL1.out.t256 6 (by decide)
  have h7 : w1.cell? ⟨2, 7, none⟩ = some (.int .i64 18) := HL1.out.t256 7 (by decide)
  have h8 : w1.cell? ⟨2, 8, none⟩ = some (.int .i64 3) := HL1.out.t256 8 (by decide)
  have h9 : w1.cell? ⟨2, 9, none⟩ = some (.int .i64 17) := HL1.out.t256 9 (by decide)
  have h10 : w1.cell? ⟨2, 10, none⟩ = some (.int .i64 19) := HL1.out.t256 10 (by decide)
  have h11 : w1.cell? ⟨2, 11, none⟩ = some (.int .i64 10) := HL1.out.t256 11 (by decide)
  obtain ⟨cs, cl⟩ := c
  obtain ⟨c0, c1, c2, c3, c4, c5, c6, c7⟩ := cs
  obtain ⟨d0, d1, d2, d3, d4, d5, d6, d7⟩ := cl
  go_wp2_with fail
  have hcomp := C32.compress_calls 163 b bw 1 (.int .i64 256) (.int .i64 (cnt : Nat)) ⟨c0, c1, c2, c3, c4, c5, c6, c7⟩ [Sha.u64 d0, Sha.u64 d1, Sha.u64 d2, Sha.u64 d3, Sha.u64 d4, Sha.u64 d5, Sha.u64 d6, Sha.u64 d7, rv] (wordsOf 4 xs 16) K256 (by simp [wordsOf]) (by kernel_rfl) w1.drew HD1.out.drew HB.out.drew HW.out (fun h => absurd HWl.out (by rw [← h]; decide)) (HL1.out.r256.fr ((Fr.refl (fun _ => False) w1).drew) (fun h => h))
  unfold C32.tv at hcomp
  have HC := Kp.mk hcomp
  clear hcomp
  go_region_with (go_at_call 95; (with_reducible refine (HC.out).mono ?_); rintro e w2 ⟨r2, rfl, u, hu, HD2, HF2⟩; have HD2 := Kp.mk HD2; have HF2 := Kp.mk HF2; have hu := Kp.mk hu)
  all_goals (try go_wp2)
  all_goals first | go_end0 | ((try simp only [Exit.inBlock, Exit.then]); refine bodyPost_ret (results_none rfl _ _ _) rfl ?_)
  all_goals
    obtain ⟨u0, u1, u2, u3, u4, u5, u6, u7⟩ := u
    refine ⟨_, rfl, ?_, ?_⟩
    · have e : mixC false ⟨⟨c0, c1, c2, c3, c4, c5, c6, c7⟩, ⟨d0, d1, d2, d3, d4, d5, d6, d7⟩⟩ xs = ⟨⟨u0, u1, u2, u3, u4, u5, u6, u7⟩, ⟨d0, d1, d2, d3, d4, d5, d6, d7⟩⟩ := by
        unfold mixC
        simp only [hu.out]
      rw [e]
      exact HD2.out
    · exact (hF.out.drew.mono (fun _ _ h => h.elim)).trans HF2.out (fun k hk he => he.elim id (fun e => absurd hk (by rw [e, HBW.out]; exact Nat.lt_irrefl _)))
end Go.Proofs.YtjcmgpiapbeodaaDoor.Sha.M32
namespace Go.Proofs.YtjcmgpiapbeodaaDoor.Sha.M64
open Go.RowKit Go.Proofs.YtjcmgpiapbeodaaDoor.Mem
set_option maxHeartbeats 4000000 in
set_option maxRecDepth 100000 in
theorem mix_calls (b : Nat) (cnt : Nat) (c : Chain) (rv : Value) (bs os m cp : Nat) (xs : List Int) (hx : xs.length = 128) (hm : 128 ≤ m) (hmc : m ≤ cp) (w : World) (hL : Laid w)
    (hD : Blk w b 135 (dcells true cnt c rv)) (hX : Reads w bs os xs) :
    Calls Tryd.prog 67 #[.pointer (some ⟨b, 0, none⟩), .slice (some ⟨bs, os, none⟩) m cp] w fun e w' =>
      ∃ r, e = .returned r ∧ Blk w' b 135 (dcells true cnt (mixC true c xs) rv) ∧ Fr (fun k => k = b) w w' := by
  have hk := hD.cell 0 _ rfl
  have HL := Kp.mk hL
  have HD := Kp.mk hD
  have HX := Kp.mk hX
  have HXL := Kp.mk hx
  have HLT := Kp.mk hD.lt
  have HSL := Kp.mk hX.1
  clear hL hD hX hx
  simp only [kind] at hk
  go_enter Tryd.func67, Tryd.ntmps67
  go_wp2_with fail
  have hnew : Kp (Blk (w.alloc (.cells (List.replicate 80 (Value.int .u64 0)).toArray 170)) w.heap.size 170 ([] ++ List.replicate 16 (Value.int .u64 0) ++ List.replicate 64 (Value.int .u64 0))) := ⟨Blk.new w _ _⟩
  have hrd : Kp (Reads (w.alloc (.cells (List.replicate 80 (Value.int .u64 0)).toArray 170)) bs os xs) := ⟨HX.out.fr ((Fr.refl (fun _ => False) w).alloc _) (fun h => h)⟩
  refine (L64.load_calls 170 w.heap.size 0 16 80 bs os m cp [] (List.replicate 16 (.int .u64 0)) (List.replicate 64 (.int .u64 0)) xs rfl rfl (fun v hv => ⟨0, List.eq_of_mem_replicate hv⟩) (by omega) (by omega) (by omega) hmc (by rw [HXL.out]; omega) (Nat.ne_of_lt HSL.out) (w.alloc (.cells (List.replicate 80 (Value.int .u64 0)).toArray 170)) hnew.out hrd.out.1 (fun i hi => hrd.out.2 i (by rw [HXL.out]; omega))).mono ?_
  rintro e w1 ⟨r, rfl, hB1, hF1⟩
  have hF : Kp (Fr (fun _ => False) w w1) := ⟨((Fr.refl (fun _ => False) w).alloc _).trans hF1 (fun k hk he => Nat.lt_irrefl _ (he ▸ hk))⟩
  have HB := Kp.mk hB1
  have HD1 := Kp.mk (HD.out.fr hF.out (fun h => h))
  have HL1 := Kp.mk (HL.out.fr hF.out (fun _ h => h.elim))
  obtain ⟨bw, hbw⟩ : ∃ bw, bw = w.heap.size := ⟨_, rfl⟩
  have HW := Kp.mk (show b ≠ bw from fun h => by have := HLT.out; omega)
  have HWl := Kp.mk (show low ≤ bw by have := HL.out.size; omega)
  rw [← hbw] at HB ⊢
  have HBW := Kp.mk hbw
  clear hnew hrd hB1 hF1 HD HL HX HXL HSL hk hbw
  have hk := HD1.out.cell 0 (.int .i64 ((kind true : Nat) : Int)) rfl
  simp only [kind] at hk
  have h0 : w1.cell? ⟨4, 0, none⟩ = some (.int .i64 28) := HL1.out.t512 0 (by decide)
  have h1 : w1.cell? ⟨4, 1, none⟩ = some (.int .i64 34) := HL1.out.t512 1 (by decide)
  have h2 : w1.cell? ⟨4, 2, none⟩ = some (.int .i64 39) := HL1.out.t512 2 (by decide)
  have h3 : w1.cell? ⟨4, 3, none⟩ = some (.int .i64 14) := HL1.out.t512 3 (by decide)
  have h4 : w1.cell? ⟨4, 4, none⟩ = some (.int .i64 18) := HL1.out.t512 4 (by decide)
  have h5 : w1.cell? ⟨4, 5, none⟩ = some (.int .i64 41) := HL1.out.t512 5 (by decide)
  have h6 : w1.cell? ⟨4, 6, none⟩ = some (.int .i64 1) := HL1.out.t512 6 (by decide)
  have h7 : w1.cell? ⟨4, 7, none⟩ = some (.int .i64 8) := HL1.out.t512 7 (by decide)
  have h8 : w1.cell? ⟨4, 8, none⟩ = some (.int .i64 7) := HL1.out.t512 8 (by decide)
  have h9 : w1.cell? ⟨4, 9, none⟩ = some (.int .i64 19) := HL1.out.t512 9 (by decide)
  have h10 : w1.cell? ⟨4, 10, none⟩ = some (.int .i64 61) := HL1.out.t512 10 (by decide)
  have h11 : w1.cell? ⟨4, 11, none⟩ = some (.int .i64 6) := HL1.out.t512 11 (by decide)
  obtain ⟨cs, cl⟩ := c
  obtain ⟨c0, c1, c2, c3, c4, c5, c6, c7⟩ := cs
  obtain ⟨d0, d1, d2, d3, d4, d5, d6, d7⟩ := cl
  go_wp2_with fail
  have hcomp := C64.compress_calls 170 b bw 3 (.int .i64 512) (.int .i64 (cnt : Nat)) (Sha.u32 c0) (Sha.u32 c1) (Sha.u32 c2) (Sha.u32 c3) (Sha.u32 c4) (Sha.u32 c5) (Sha.u32 c6) (Sha.u32 c7) ⟨d0, d1, d2, d3, d4, d5, d6, d7⟩ [rv] (wordsOf 8 xs 16) K512 (by simp [wordsOf]) (by kernel_rfl) w1.drew HD1.out.drew HB.out.drew HW.out (fun h => absurd HWl.out (by rw [← h]; decide)) (HL1.out.r512.fr ((Fr.refl (fun _ => False) w1).drew) (fun h => h))
  unfold C64.tv at hcomp
  have HC := Kp.mk hcomp
  clear hcomp
  go_region_with (go_at_call 97; (with_reducible refine (HC.out).mono ?_); rintro e w2 ⟨r2, rfl, u, hu, HD2, HF2⟩; have HD2 := Kp.mk HD2; have HF2 := Kp.mk HF2; have hu := Kp.mk hu)
  all_goals (try go_wp2)
  all_goals first | go_end0 | ((try simp only [Exit.inBlock, Exit.then]); refine bodyPost_ret (results_none rfl _ _ _) rfl ?_)
  all_goals
    obtain ⟨u0, u1, u2, u3, u4, u5, u6, u7⟩ := u
    refine ⟨_, rfl, ?_, ?_⟩
    · have e : mixC true ⟨⟨c0, c1, c2, c3, c4, c5, c6, c7⟩, ⟨d0, d1, d2, d3, d4, d5, d6, d7⟩⟩ xs = ⟨⟨c0, c1, c2, c3, c4, c5, c6, c7⟩, ⟨u0, u1, u2, u3, u4, u5, u6, u7⟩⟩ := by
        unfold mixC
        simp only [hu.out]
      rw [e]
      exact HD2.out
    · exact (hF.out.drew.mono (fun _ _ h => h.elim)).trans HF2.out (fun k hk he => he.elim id (fun e => absurd hk (by rw [e, HBW.out]; exact Nat.lt_irrefl _)))
end Go.Proofs.YtjcmgpiapbeodaaDoor.Sha.M64
