/-
  The walk of sha.Constants: the round constants of each kind, byte by byte, in new memory.
-/
import Derived.Test.YtjcfnflkiialbaaDoorPShaConstantsx1
import Derived.Deep.RegionWith
namespace Go.Proofs.YtjcfnflkiialbaaDoor.Wk
open Go.RowKit Go.Proofs.YtjcfnflkiialbaaDoor.PShaConstants Go.Proofs.YtjcfnflkiialbaaDoorW.PrintWords Go.Proofs.YtjcfnflkiialbaaDoorW.PrintLast Go.Proofs.YtjcfnflkiialbaaDoorW.PrintMore
theorem info_u8 : (Tryd.prog.info? 5).map (fun i => (i.zero, i.size, i.bytes)) = some (some (.int .u8 0), 1, 1) := by kernel_rfl
def zeros (n : Nat) : Array Value := madeCells #[.int .u8 0] n
theorem make_bytes (n : Int) (h0 : 0 ≤ n) (h1 : n ≤ 140737488355328) (w : World) : (Instr.makeSlice 23 (.int .i64 0) (.int .i64 n)).run Tryd.prog w = .ok (.slice (some ⟨w.heap.size, 0, none⟩) 0 n.toNat) (w.alloc (.cells (zeros n.toNat) 5)) := by
  obtain ⟨i0, hi, hz0, hz1, hz2⟩ := info_parts info_u8
  have h := run_make (P := Tryd.prog) w 23 5 i0 (.int .u8 0) Tryd.underlying23 hi hz0 .i64 .i64 0 n (by omega) h0 (by rw [hz2]; omega) (by omega)
  rw [hz1, Nat.mul_one] at h
  exact h
theorem make256 (w : World) : (Instr.makeSlice 23 (.int .i64 0) (.int .i64 256)).run Tryd.prog w = .ok (.slice (some ⟨w.heap.size, 0, none⟩) 0 256) (w.alloc (.cells (zeros 256) 5)) := make_bytes 256 (by omega) (by omega) w
theorem make640 (w : World) : (Instr.makeSlice 23 (.int .i64 0) (.int .i64 640)).run Tryd.prog w = .ok (.slice (some ⟨w.heap.size, 0, none⟩) 0 640) (w.alloc (.cells (zeros 640) 5)) := make_bytes 640 (by omega) (by omega) w
theorem own_zeros (w : World) (n : Nat) (hn : n ≤ 1000) : Kd.R (Kd.int .u8) 5 (w.alloc (.cells (zeros n) 5)) w.heap.size (fun k => k = w.heap.size) (.slice (some ⟨w.heap.size, 0, none⟩) 0 n) [] := by
  refine Kd.R_of_own ⟨by simp [encs], .inr ⟨w.heap.size, n, zeros n, rfl, Nat.le_refl _, ?_, Nat.zero_le _, ?_, ?_, ?_⟩⟩ ?_
  · exact heap_alloc_new _ _
  · unfold maxLen; omega
  · show _ = n * 1
    rw [zeros, size_madeCells, Nat.mul_one]
  · simp [encs]
  · intro k hk; simp [Value.ownBlock] at hk; exact hk.symm

/-- lay, given a row of new zeros: what it hands back is of the call's own memory. -/
theorem lay32_zeros (xs : List Int) (n : Nat) (hx : xs.length = n) (A : Option Addr) (r : List Int) (k N : Nat) (sz : Int) (hr : sha_lay_uint32.f k [] xs sz = some r) (w W : World) (hC : Kd.C (Kd.int .u32) w A n xs)
    (hO : Kd.R (Kd.int .u8) 5 W w.heap.size (fun k => k = w.heap.size) (.slice (some ⟨w.heap.size, 0, none⟩) 0 N) []) (hB : Below w.heap.size w W) :
    Calls Tryd.prog 44 #[.slice (some ⟨w.heap.size, 0, none⟩) 0 N, .slice A n n, .int .i64 sz] W fun e w' => ∃ v, e = .returned v ∧ Kd.R (Kd.int .u8) 5 w' w.heap.size (fun _ => True) v r ∧ Below w.heap.size w w' := by
  subst hx
  refine (sha_lay_uint32.calls k (fun b => b = w.heap.size) _ [] A xs.length xs sz r w _ hB hO ?_ (Nat.le_refl _) hr).mono ?_
  · exact Kd.C_kept_came (Kd.heap_int .u32) hC hB (fun k hk => by rw [hk]; exact Nat.le_refl _)
  · rintro e w' ⟨v, rfl, h1, h2, _⟩
    exact ⟨v, rfl, Kd.R_mono h1 (fun _ _ => trivial), h2⟩
theorem lay64_zeros (xs : List Int) (n : Nat) (hx : xs.length = n) (A : Option Addr) (r : List Int) (k N : Nat) (sz : Int) (hr : sha_lay_uint64.f k [] xs sz = some r) (w W : World) (hC : Kd.C (Kd.int .u64) w A n xs)
    (hO : Kd.R (Kd.int .u8) 5 W w.heap.size (fun k => k = w.heap.size) (.slice (some ⟨w.heap.size, 0, none⟩) 0 N) []) (hB : Below w.heap.size w W) :
    Calls Tryd.prog 45 #[.slice (some ⟨w.heap.size, 0, none⟩) 0 N, .slice A n n, .int .i64 sz] W fun e w' => ∃ v, e = .returned v ∧ Kd.R (Kd.int .u8) 5 w' w.heap.size (fun _ => True) v r ∧ Below w.heap.size w w' := by
  subst hx
  refine (sha_lay_uint64.calls k (fun b => b = w.heap.size) _ [] A xs.length xs sz r w _ hB hO ?_ (Nat.le_refl _) hr).mono ?_
  · exact Kd.C_kept_came (Kd.heap_int .u64) hC hB (fun k hk => by rw [hk]; exact Nat.le_refl _)
  · rintro e w' ⟨v, rfl, h1, h2, _⟩
    exact ⟨v, rfl, Kd.R_mono h1 (fun _ _ => trivial), h2⟩

set_option maxHeartbeats 1000000 in
set_option maxRecDepth 100000 in
theorem const256_calls (xs : List Int) (hx : xs.length = 64) (r : List Int) (k : Nat) (hr : sha_lay_uint32.f k [] xs 4 = some r) (w : World) (hC : Kd.C (Kd.int .u32) w (some ⟨0, 0, none⟩) 64 xs) :
    Calls Tryd.prog 14 #[.int .i64 256] w fun e w' => ∃ v, e = .returned (.tuple #[v, .int .i64 0]) ∧ Kd.R (Kd.int .u8) 5 w' w.heap.size (fun _ => True) v r ∧ Below w.heap.size w w' := by
  have hmk := make256
  have HCC := Aside0.mk hC
  have HR := Aside0.mk hr
  have HX := Aside0.mk hx
  clear hC hr hx
  go_enter Tryd.func14, Tryd.ntmps14
  go_wp2
  go_region_with (go_at_call 44; (with_reducible refine (lay32_zeros xs 64 HX.out _ r k 256 4 HR.out w _ HCC.out (by repeat (first | exact own_zeros w 256 (by omega) | apply Kd.R_drew)) (by repeat (first | exact Below.refl _ _ | apply below_alloc | apply below_drew))).mono ?_); rintro e w' ⟨v, rfl, HO, HB⟩; have HO := Aside0.mk HO; have HB := Aside0.mk HB)
  all_goals (try go_wp2)
  all_goals go_ret2
  all_goals exact ⟨_, rfl, HO.out, HB.out⟩
set_option maxHeartbeats 1000000 in
set_option maxRecDepth 100000 in
theorem const512_calls (xs : List Int) (hx : xs.length = 80) (r : List Int) (k : Nat) (hr : sha_lay_uint64.f k [] xs 8 = some r) (w : World) (hC : Kd.C (Kd.int .u64) w (some ⟨1, 0, none⟩) 80 xs) :
    Calls Tryd.prog 14 #[.int .i64 512] w fun e w' => ∃ v, e = .returned (.tuple #[v, .int .i64 0]) ∧ Kd.R (Kd.int .u8) 5 w' w.heap.size (fun _ => True) v r ∧ Below w.heap.size w w' := by
  have hmk := make640
  have HCC := Aside0.mk hC
  have HR := Aside0.mk hr
  have HX := Aside0.mk hx
  clear hC hr hx
  go_enter Tryd.func14, Tryd.ntmps14
  go_wp2
  go_region_with (go_at_call 45; (with_reducible refine (lay64_zeros xs 80 HX.out _ r k 640 8 HR.out w _ HCC.out (by repeat (first | exact own_zeros w 640 (by omega) | apply Kd.R_drew)) (by repeat (first | exact Below.refl _ _ | apply below_alloc | apply below_drew))).mono ?_); rintro e w' ⟨v, rfl, HO, HB⟩; have HO := Aside0.mk HO; have HB := Aside0.mk HB)
  all_goals (try go_wp2)
  all_goals go_ret2
  all_goals exact ⟨_, rfl, HO.out, HB.out⟩
theorem const_no (n : Int) (h1 : n ≠ 256) (h2 : n ≠ 512) (w : World) :
    Calls Tryd.prog 14 #[.int .i64 n] w fun e w' => e = .returned (.tuple #[.slice none 0 0, .int .i64 10]) ∧ Drawn0 w w' := by
  have g1 : (n == 256) = false := beq_eq_false_iff_ne.mpr h1
  have g2 : (n == 512) = false := beq_eq_false_iff_ne.mpr h2
  go_enter Tryd.func14, Tryd.ntmps14
  go_wp2
  go_ret2
  exact ⟨rfl, Drawn0.refl _⟩
end Go.Proofs.YtjcfnflkiialbaaDoor.Wk
