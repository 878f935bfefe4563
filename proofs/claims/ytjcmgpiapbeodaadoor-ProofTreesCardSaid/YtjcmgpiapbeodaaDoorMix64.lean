/-
  lay for words of 32 bits, over numbers alone: the bytes of the words, the highest first, behind what was there. lay for words of 64 bits, over numbers alone: the bytes of the words, the highest first, behind what was there. The walk of sha.Constants: the round constants of each kind, byte by byte, in new memory. The walks of start and New. The walks of start, New, words, Written: for either kind. append of bytes onto a list that the call owns: at a plain region's list and at a step of a region that draws. The walk of mix for kind 256. The walk of mix for kind 512.
-/
import Derived.Test.YtjcmgpiapbeodaaDoorLayP
import Derived.Test.YtjcmgpiapbeodaaDoorShaState
import Derived.Deep.RegionWith
import Derived.Test.YtjcmgpiapbeodaaDoorDig
import Derived.Deep.RegionLaw
namespace Go.Proofs.YtjcmgpiapbeodaaDoor.Sha.Y32
open Go.RowKit Go.Proofs.YtjcmgpiapbeodaaDoor.Mem Go.Proofs.YtjcmgpiapbeodaaDoor.PProofBytes Go.Proofs.YtjcmgpiapbeodaaDoorW.PrintWords Go.Proofs.YtjcmgpiapbeodaaDoorW.PrintLast Go.Proofs.YtjcmgpiapbeodaaDoorW.PrintMore
def nats (xs : List (BitVec 32)) : List Int := xs.map fun x => (x.toNat : Int)
theorem l1_step (k : Nat) (out : List Int) (s X : Int) (xs : List Int) (len i : Int) (j : Nat) (hj : j ≤ 7) (h : out.length < 140737488355328) :
    sha_lay_uint32.l1 (k + 1) out s X (j : Int) xs len i = sha_lay_uint32.l1 k (out ++ [shr .u32 X (8 * (j : Int)) % 256]) s X ((j : Int) - 1) xs len i := by
  have e1 : wrap64 (8 * (j : Int)) = 8 * (j : Int) := by unfold wrap64; omega
  have e2 : wrap64 ((j : Int) - 1) = (j : Int) - 1 := by unfold wrap64; omega
  rw [sha_lay_uint32.l1, if_pos (by omega), e1, if_pos (by omega), if_pos h, e2]
theorem l1_end (k : Nat) (out : List Int) (s X : Int) (xs : List Int) (len i : Int) : sha_lay_uint32.l1 (k + 1) out s X (-1) xs len i = sha_lay_uint32.l0 k out s xs len (wrap64 (i + 1)) := by
  rw [sha_lay_uint32.l1, if_neg (by omega)]
theorem l1_all (x : BitVec 32) (out : List Int) (c : Nat) (xs : List Int) (len i : Int) (h : out.length + 4 < 140737488355328) :
    sha_lay_uint32.l1 (c + 4 + 1) out 4 (x.toNat : Int) (4 - 1) xs len i = sha_lay_uint32.l0 c (out ++ layWord x 4) 4 xs len (wrap64 (i + 1)) := by
  have e : layWord x 4 = [shr .u32 (x.toNat : Int) 24 % 256, shr .u32 (x.toNat : Int) 16 % 256, shr .u32 (x.toNat : Int) 8 % 256, shr .u32 (x.toNat : Int) 0 % 256] := by
    simp [layWord, List.range_succ, List.range_zero, shr, IntKind.bits, BitVec.toNat_ushiftRight, Nat.shiftRight_eq_div_pow]
  rw [e]
  refine (l1_step _ _ _ _ _ _ _ 3 (by omega) (by (try simp only [List.length_append, List.length_cons, List.length_nil]); omega)).trans ?_
  refine (l1_step _ _ _ _ _ _ _ 2 (by omega) (by (try simp only [List.length_append, List.length_cons, List.length_nil]); omega)).trans ?_
  refine (l1_step _ _ _ _ _ _ _ 1 (by omega) (by (try simp only [List.length_append, List.length_cons, List.length_nil]); omega)).trans ?_
  refine (l1_step _ _ _ _ _ _ _ 0 (by omega) (by (try simp only [List.length_append, List.length_cons, List.length_nil]); omega)).trans ?_
  refine (l1_end _ _ _ _ _ _ _).trans ?_
  simp [List.append_assoc]
theorem nats_get (xs : List (BitVec 32)) (i : Nat) (h : i < xs.length) : rd (nats xs) (i : Int) = ((xs[i].toNat : Nat) : Int) := by
  simp [rd, nats, h]
theorem l0_all (xs : List (BitVec 32)) (hx : xs.length < 1000) : ∀ (n i : Nat) (out : List Int), i + n = xs.length → out.length + 4 * n < 140737488355328 →
    sha_lay_uint32.l0 ((4 + 2) * n + 1) out 4 (nats xs) (xs.length : Int) (i : Int) = some (out ++ (xs.drop i).flatMap fun x => layWord x 4)
  | 0, i, out, hi, _ => by
    rw [sha_lay_uint32.l0, if_neg (by omega), List.drop_eq_nil_of_le (by omega)]
    simp
  | n + 1, i, out, hi, ho => by
    have hlt : i < xs.length := by omega
    rw [show (4 + 2) * (n + 1) + 1 = (((4 + 2) * n + 1) + 4 + 1) + 1 by omega, sha_lay_uint32.l0, if_pos (by omega), if_pos (by omega), if_pos (by simp [nats]; omega),
      nats_get xs i hlt, show wrap64 ((4 : Int) - 1) = 4 - 1 from by unfold wrap64; decide, l1_all _ _ _ _ _ _ (by omega), show wrap64 ((i : Int) + 1) = ((i + 1 : Nat) : Int) from by unfold wrap64; omega,
      l0_all xs hx n (i + 1) _ (by omega) (by simp [layWord]; omega), List.drop_eq_getElem_cons hlt, List.flatMap_cons, List.append_assoc]
theorem f_is (xs : List (BitVec 32)) (hx : xs.length < 1000) (out : List Int) (ho : out.length < 1000000) : sha_lay_uint32.f ((4 + 2) * xs.length + 1) out (nats xs) 4 = some (out ++ xs.flatMap fun x => layWord x 4) := by
  have h := l0_all xs hx xs.length 0 out (by omega) (by omega)
  unfold sha_lay_uint32.f
  rw [show ((nats xs).length : Int) = (xs.length : Int) by simp [nats]]
  exact h
end Go.Proofs.YtjcmgpiapbeodaaDoor.Sha.Y32
namespace Go.Proofs.YtjcmgpiapbeodaaDoor.Sha.Y64
open Go.RowKit Go.Proofs.YtjcmgpiapbeodaaDoor.Mem Go.Proofs.YtjcmgpiapbeodaaDoor.PProofBytes Go.Proofs.YtjcmgpiapbeodaaDoorW.PrintWords Go.Proofs.YtjcmgpiapbeodaaDoorW.PrintLast Go.Proofs.YtjcmgpiapbeodaaDoorW.PrintMore
def nats (xs : List (BitVec 64)) : List Int := xs.map fun x => (x.toNat : Int)
theorem l1_step (k : Nat) (out : List Int) (s X : Int) (xs : List Int) (len i : Int) (j : Nat) (hj : j ≤ 7) (h : out.length < 140737488355328) :
    sha_lay_uint64.l1 (k + 1) out s X (j : Int) xs len i = sha_lay_uint64.l1 k (out ++ [shr .u64 X (8 * (j : Int)) % 256]) s X ((j : Int) - 1) xs len i := by
  have e1 : wrap64 (8 * (j : Int)) = 8 * (j : Int) := by unfold wrap64; omega
  have e2 : wrap64 ((j : Int) - 1) = (j : Int) - 1 := by unfold wrap64; omega
  rw [sha_lay_uint64.l1, if_pos (by omega), e1, if_pos (by omega), if_pos h, e2]
theorem l1_end (k : Nat) (out : List Int) (s X : Int) (xs : List Int) (len i : Int) : sha_lay_uint64.l1 (k + 1) out s X (-1) xs len i = sha_lay_uint64.l0 k out s xs len (wrap64 (i + 1)) := by
  rw [sha_lay_uint64.l1, if_neg (by omega)]
theorem l1_all (x : BitVec 64) (out : List Int) (c : Nat) (xs : List Int) (len i : Int) (h : out.length + 8 < 140737488355328) :
    sha_lay_uint64.l1 (c + 8 + 1) out 8 (x.toNat : Int) (8 - 1) xs len i = sha_lay_uint64.l0 c (out ++ layWord x 8) 8 xs len (wrap64 (i + 1)) := by
  have e : layWord x 8 = [shr .u64 (x.toNat : Int) 56 % 256, shr .u64 (x.toNat : Int) 48 % 256, shr .u64 (x.toNat : Int) 40 % 256, shr .u64 (x.toNat : Int) 32 % 256, shr .u64 (x.toNat : Int) 24 % 256, shr .u64 (x.toNat : Int) 16 % 256, shr .u64 (x.toNat : Int) 8 % 256, shr .u64 (x.toNat : Int) 0 % 256] := by
    simp [layWord, List.range_succ, List.range_zero, shr, IntKind.bits, BitVec.toNat_ushiftRight, Nat.shiftRight_eq_div_pow]
  rw [e]
  refine (l1_step _ _ _ _ _ _ _ 7 (by omega) (by (try simp only [List.length_append, List.length_cons, List.length_nil]); omega)).trans ?_
  refine (l1_step _ _ _ _ _ _ _ 6 (by omega) (by (try simp only [List.length_append, List.length_cons, List.length_nil]); omega)).trans ?_
  refine (l1_step _ _ _ _ _ _ _ 5 (by omega) (by (try simp only [List.length_append, List.length_cons, List.length_nil]); omega)).trans ?_
  refine (l1_step _ _ _ _ _ _ _ 4 (by omega) (by (try simp only [List.length_append, List.length_cons, List.length_nil]); omega)).trans ?_
  refine (l1_step _ _ _ _ _ _ _ 3 (by omega) (by (try simp only [List.length_append, List.length_cons, List.length_nil]); omega)).trans ?_
  refine (l1_step _ _ _ _ _ _ _ 2 (by omega) (by (try simp only [List.length_append, List.length_cons, List.length_nil]); omega)).trans ?_
  refine (l1_step _ _ _ _ _ _ _ 1 (by omega) (by (try simp only [List.length_append, List.length_cons, List.length_nil]); omega)).trans ?_
  refine (l1_step _ _ _ _ _ _ _ 0 (by omega) (by (try simp only [List.length_append, List.length_cons, List.length_nil]); omega)).trans ?_
  refine (l1_end _ _ _ _ _ _ _).trans ?_
  simp [List.append_assoc]
theorem nats_get (xs : List (BitVec 64)) (i : Nat) (h : i < xs.length) : rd (nats xs) (i : Int) = ((xs[i].toNat : Nat) : Int) := by
  simp [rd, nats, h]
theorem l0_all (xs : List (BitVec 64)) (hx : xs.length < 1000) : ∀ (n i : Nat) (out : List Int), i + n = xs.length → out.length + 8 * n < 140737488355328 →
    sha_lay_uint64.l0 ((8 + 2) * n + 1) out 8 (nats xs) (xs.length : Int) (i : Int) = some (out ++ (xs.drop i).flatMap fun x => layWord x 8)
  | 0, i, out, hi, _ => by
    rw [sha_lay_uint64.l0, if_neg (by omega), List.drop_eq_nil_of_le (by omega)]
    simp
  | n + 1, i, out, hi, ho => by
    have hlt : i < xs.length := by omega
    rw [show (8 + 2) * (n + 1) + 1 = (((8 + 2) * n + 1) + 8 + 1) + 1 by omega, sha_lay_uint64.l0, if_pos (by omega), if_pos (by omega), if_pos (by simp [nats]; omega),
      nats_get xs i hlt, show wrap64 ((8 : Int) - 1) = 8 - 1 from by unfold wrap64; decide, l1_all _ _ _ _ _ _ (by omega), show wrap64 ((i : Int) + 1) = ((i + 1 : Nat) : Int) from by unfold wrap64; omega,
      l0_all xs hx n (i + 1) _ (by omega) (by simp [layWord]; omega), List.drop_eq_getElem_cons hlt, List.flatMap_cons, List.append_assoc]
theorem f_is (xs : List (BitVec 64)) (hx : xs.length < 1000) (out : List Int) (ho : out.length < 1000000) : sha_lay_uint64.f ((8 + 2) * xs.length + 1) out (nats xs) 8 = some (out ++ xs.flatMap fun x => layWord x 8) := by
  have h := l0_all xs hx xs.length 0 out (by omega) (by omega)
  unfold sha_lay_uint64.f
  rw [show ((nats xs).length : Int) = (xs.length : Int) by simp [nats]]
  exact h
end Go.Proofs.YtjcmgpiapbeodaaDoor.Sha.Y64
namespace Go.Proofs.YtjcmgpiapbeodaaDoor.Wk
open Go.RowKit Go.Proofs.YtjcmgpiapbeodaaDoor.PProofBytes Go.Proofs.YtjcmgpiapbeodaaDoorW.PrintWords Go.Proofs.YtjcmgpiapbeodaaDoorW.PrintLast Go.Proofs.YtjcmgpiapbeodaaDoorW.PrintMore
theorem info_u8 : (Tryd.prog.info? 5).map (fun i => (i.zero, i.size, i.bytes)) = some (some (.int .u8 0), 1, 1) := by kernel_rfl
def zeros (n : Nat) : Array Value := madeCells #[.int .u8 0] n
theorem make_bytes (n : Int) (h0 : 0 ≤ n) (h1 : n ≤ 140737488355328) (w : World) : (Instr.makeSlice 22 (.int .i64 0) (.int .i64 n)).run Tryd.prog w = .ok (.slice (some ⟨w.heap.size, 0, none⟩) 0 n.toNat) (w.alloc (.cells (zeros n.toNat) 5)) := by
  obtain ⟨i0, hi, hz0, hz1, hz2⟩ := info_parts info_u8
  have h := run_make (P := Tryd.prog) w 22 5 i0 (.int .u8 0) Tryd.underlying22 hi hz0 .i64 .i64 0 n (by omega) h0 (by rw [hz2]; omega) (by omega)
  rw [hz1, Nat.mul_one] at h
  exact h
theorem make256 (w : World) : (Instr.makeSlice 22 (.int .i64 0) (.int .i64 256)).run Tryd.prog w = .ok (.slice (some ⟨w.heap.size, 0, none⟩) 0 256) (w.alloc (.cells (zeros 256) 5)) := make_bytes 256 (by omega) (by omega) w
theorem make640 (w : World) : (Instr.makeSlice 22 (.int .i64 0) (.int .i64 640)).run Tryd.prog w = .ok (.slice (some ⟨w.heap.size, 0, none⟩) 0 640) (w.alloc (.cells (zeros 640) 5)) := make_bytes 640 (by omega) (by omega) w
theorem own_zeros (w : World) (n : Nat) (hn : n ≤ 1000) : Kd.R (Kd.int .u8) 5 (w.alloc (.cells (zeros n) 5)) w.heap.size (fun k => k = w.heap.size) (.slice (some ⟨w.heap.size, 0, none⟩) 0 n) [] := by
  refine Kd.R_of_own ⟨by simp [encs], .inr ⟨w.heap.size, n, zeros n, rfl, Nat.le_refl _, ?_, Nat.zero_le _, ?_, ?_, ?_⟩⟩ ?_
  · exact heap_alloc_new _ _
  · unfold maxLen; omega
  · show _ = n * 1
    rw [zeros, size_madeCells, Nat.mul_one]
  · simp [encs]
  · intro k hk; simp [Value.ownBlock] at hk; exact hk.symm

/-- lay, given a row of new zeros: what it hands back is of the call's own memory. -/
theorem lay32_zeros (xs : List Int) (n : Nat) (hx : xs.length = n) (A : Option Addr) (r : List Int) (k N : Nat) (sz : Int) (hr : sha_lay_uint32.f k [] xs sz = some r) (w W : World) (hC : Kd.C (Kd.int .u32) w A n xs)
    (hO : Kd.R (Kd.int .u8) 5 W w.heap.size (fun k => k = w.heap.size) (.slice (some ⟨w.heap.size, 0, none⟩) 0 N) []) (hB : Below w.heap.size w W) :
    Calls Tryd.prog 98 #[.slice (some ⟨w.heap.size, 0, none⟩) 0 N, .slice A n n, .int .i64 sz] W fun e w' => ∃ v, e = .returned v ∧ Kd.R (Kd.int .u8) 5 w' w.heap.size (fun _ => True) v r ∧ Below w.heap.size w w' := by
  subst hx
  refine (sha_lay_uint32.calls k (fun b => b = w.heap.size) _ [] A xs.length xs sz r w _ hB hO ?_ (Nat.le_refl _) hr).mono ?_
  · exact Kd.C_kept_came (Kd.heap_int .u32) hC hB (fun k hk => by rw [hk]; exact Nat.le_refl _)
  · rintro e w' ⟨v, rfl, h1, h2, _⟩
    exact ⟨v, rfl, Kd.R_mono h1 (fun _ _ => trivial), h2⟩
theorem lay64_zeros (xs : List Int) (n : Nat) (hx : xs.length = n) (A : Option Addr) (r : List Int) (k N : Nat) (sz : Int) (hr : sha_lay_uint64.f k [] xs sz = some r) (w W : World) (hC : Kd.C (Kd.int .u64) w A n xs)
    (hO : Kd.R (Kd.int .u8) 5 W w.heap.size (fun k => k = w.heap.size) (.slice (some ⟨w.heap.size, 0, none⟩) 0 N) []) (hB : Below w.heap.size w W) :
    Calls Tryd.prog 99 #[.slice (some ⟨w.heap.size, 0, none⟩) 0 N, .slice A n n, .int .i64 sz] W fun e w' => ∃ v, e = .returned v ∧ Kd.R (Kd.int .u8) 5 w' w.heap.size (fun _ => True) v r ∧ Below w.heap.size w w' := by
  subst hx
  refine (sha_lay_uint64.calls k (fun b => b = w.heap.size) _ [] A xs.length xs sz r w _ hB hO ?_ (Nat.le_refl _) hr).mono ?_
  · exact Kd.C_kept_came (Kd.heap_int .u64) hC hB (fun k hk => by rw [hk]; exact Nat.le_refl _)
  · rintro e w' ⟨v, rfl, h1, h2, _⟩
    exact ⟨v, rfl, Kd.R_mono h1 (fun _ _ => trivial), h2⟩

end Go.Proofs.YtjcmgpiapbeodaaDoor.Wk
namespace Go.Proofs.YtjcmgpiapbeodaaDoor.Sha
open Go.RowKit Go.Proofs.YtjcmgpiapbeodaaDoor.Mem
set_option maxHeartbeats 4000000 in
set_option maxRecDepth 100000 in
theorem start512_calls (x0 x1 x2 x3 x4 x5 x6 x7 : Int) (w : World)
    (h0 : w.cell? ⟨0, 0, none⟩ = some (.int .u64 x0)) (h1 : w.cell? ⟨0, 1, none⟩ = some (.int .u64 x1)) (h2 : w.cell? ⟨0, 2, none⟩ = some (.int .u64 x2)) (h3 : w.cell? ⟨0, 3, none⟩ = some (.int .u64 x3))
    (h4 : w.cell? ⟨0, 4, none⟩ = some (.int .u64 x4)) (h5 : w.cell? ⟨0, 5, none⟩ = some (.int .u64 x5)) (h6 : w.cell? ⟨0, 6, none⟩ = some (.int .u64 x6)) (h7 : w.cell? ⟨0, 7, none⟩ = some (.int .u64 x7)) (hg : 0 < w.heap.size) :
    Calls Tryd.prog 65 #[.int .i64 512] w fun e w' => e = .returned (.agg #[.int .u32 0, .int .u32 0, .int .u32 0, .int .u32 0, .int .u32 0, .int .u32 0, .int .u32 0, .int .u32 0, .int .u64 x0, .int .u64 x1, .int .u64 x2, .int .u64 x3, .int .u64 x4, .int .u64 x5, .int .u64 x6, .int .u64 x7]) ∧ Below w.heap.size w w' := by
  have hb := Below.refl w.heap.size w
  go_enter Tryd.func65, Tryd.ntmps65
  go_wp2
  (try simp only [Exit.inBlock, Exit.then])
  refine bodyPost_ret (results_cell_row rfl _ _ w.heap.size 132 _ (0, 0) _ rfl (heap_alloc_new w _) Tryd.underlying132 rfl (by kernel_rfl)) rfl ?_
  exact ⟨rfl, hb.alloc (Nat.le_refl _) _⟩
theorem index8u (a b c d e f g h : Int) (i : Nat) (hi : i < 8) (w : World) :
    (Instr.index 130 (.agg #[.int .u64 a, .int .u64 b, .int .u64 c, .int .u64 d, .int .u64 e, .int .u64 f, .int .u64 g, .int .u64 h]) (.int .i64 (i : Int))).run Tryd.prog w = .ok (#[Value.int .u64 a, .int .u64 b, .int .u64 c, .int .u64 d, .int .u64 e, .int .u64 f, .int .u64 g, .int .u64 h].getD i undef) w := by
  have h8 : i = 0 ∨ i = 1 ∨ i = 2 ∨ i = 3 ∨ i = 4 ∨ i = 5 ∨ i = 6 ∨ i = 7 := by omega
  rcases h8 with rfl | rfl | rfl | rfl | rfl | rfl | rfl | rfl <;> simp [Instr.index, run_underlying Tryd.underlying130, asIntOf, go_sem]
def half (x : Int) : Value := .int .u32 (x / 4294967296 % 4294967296)
def halves (x0 x1 x2 x3 x4 x5 x6 x7 : Int) (n : Nat) : List Value := ([half x0, half x1, half x2, half x3, half x4, half x5, half x6, half x7].take n ++ List.replicate (8 - n) (.int .u32 0)) ++ List.replicate 8 (.int .u64 0)
set_option maxHeartbeats 8000000 in
set_option maxRecDepth 100000 in
theorem start256_calls (x0 x1 x2 x3 x4 x5 x6 x7 : Int) (w : World)
    (h0 : w.cell? ⟨0, 0, none⟩ = some (.int .u64 x0)) (h1 : w.cell? ⟨0, 1, none⟩ = some (.int .u64 x1)) (h2 : w.cell? ⟨0, 2, none⟩ = some (.int .u64 x2)) (h3 : w.cell? ⟨0, 3, none⟩ = some (.int .u64 x3))
    (h4 : w.cell? ⟨0, 4, none⟩ = some (.int .u64 x4)) (h5 : w.cell? ⟨0, 5, none⟩ = some (.int .u64 x5)) (h6 : w.cell? ⟨0, 6, none⟩ = some (.int .u64 x6)) (h7 : w.cell? ⟨0, 7, none⟩ = some (.int .u64 x7)) (hg : 0 < w.heap.size) :
    Calls Tryd.prog 65 #[.int .i64 256] w fun e w' => e = .returned (.agg #[half x0, half x1, half x2, half x3, half x4, half x5, half x6, half x7, .int .u64 0, .int .u64 0, .int .u64 0, .int .u64 0, .int .u64 0, .int .u64 0, .int .u64 0, .int .u64 0]) ∧ Below w.heap.size w w' := by
  go_enter Tryd.func65, Tryd.ntmps65
  go_wp2
  have hB3 : Kp (Blk ((w.alloc (.cells (List.replicate 8 (Value.int .u32 0) ++ List.replicate 8 (Value.int .u64 0)).toArray 132)).alloc (.cells (List.replicate 8 (Value.int .u32 0) ++ List.replicate 8 (Value.int .u64 0)).toArray 132)) (w.heap.size + 1) 132 (halves x0 x1 x2 x3 x4 x5 x6 x7 0)) := ⟨Blk.new' _ _ _ (by simp)⟩
  have hB2 : Kp (Blk ((w.alloc (.cells (List.replicate 8 (Value.int .u32 0) ++ List.replicate 8 (Value.int .u64 0)).toArray 132)).alloc (.cells (List.replicate 8 (Value.int .u32 0) ++ List.replicate 8 (Value.int .u64 0)).toArray 132)) w.heap.size 132 (List.replicate 8 (Value.int .u32 0) ++ List.replicate 8 (Value.int .u64 0))) := ⟨(Blk.new w _ _).alloc _⟩
  have hF : Kp (Fr (fun _ => False) w ((w.alloc (.cells (List.replicate 8 (Value.int .u32 0) ++ List.replicate 8 (Value.int .u64 0)).toArray 132)).alloc (.cells (List.replicate 8 (Value.int .u32 0) ++ List.replicate 8 (Value.int .u64 0)).toArray 132))) := ⟨((Fr.refl _ w).alloc _).alloc _⟩
  clear h0 h1 h2 h3 h4 h5 h6 h7 hg
  go_loopw [11] (fun i wr => ∃ n : Nat, i = .int .i64 (n : Int) ∧ Kp (n ≤ 8) ∧ Kp (Blk wr (w.heap.size + 1) 132 (halves x0 x1 x2 x3 x4 x5 x6 x7 n)) ∧ Kp (Blk wr w.heap.size 132 (List.replicate 8 (Value.int .u32 0) ++ List.replicate 8 (Value.int .u64 0))) ∧ Kp (Fr (fun _ => False) w wr)) (fun i _ => 8 - (intOf i).toNat)
  case atStart => exact ⟨0, rfl, ⟨Nat.zero_le _⟩, hB3, hB2, hF⟩
  case round =>
    clear hB3 hB2 hF
    obtain ⟨n, rfl, G1, HV, H2, HF⟩ := hrel
    have hn8 : n = 0 ∨ n = 1 ∨ n = 2 ∨ n = 3 ∨ n = 4 ∨ n = 5 ∨ n = 6 ∨ n = 7 ∨ n = 8 := by have := G1.out; omega
    clear G1
    have hne : w.heap.size + 1 ≠ w.heap.size := Nat.succ_ne_self _
    rcases hn8 with rfl | rfl | rfl | rfl | rfl | rfl | rfl | rfl | rfl
    · have hcv := HV.out.cell 0 (.int .u32 0) rfl
      have hfz := HV.out.free 0
      have hix : ∀ w, (Instr.index 130 (.agg #[.int .u64 x0, .int .u64 x1, .int .u64 x2, .int .u64 x3, .int .u64 x4, .int .u64 x5, .int .u64 x6, .int .u64 x7]) (.int .i64 0)).run Tryd.prog w = .ok (.int .u64 x0) w := index8u x0 x1 x2 x3 x4 x5 x6 x7 0 (by decide)
      go_wp2
      go_roundw
      case rel => exact ⟨1, by go_num, ⟨by omega⟩, ⟨HV.out.set 0 (half x0)⟩, ⟨H2.out.set_ne hne _⟩, ⟨HF.out.set (fun h => absurd h (by simp)) _⟩⟩
      case measure => simp [intOf]
    · have hcv := HV.out.cell 1 (.int .u32 0) rfl
      have hfz := HV.out.free 1
      have hix : ∀ w, (Instr.index 130 (.agg #[.int .u64 x0, .int .u64 x1, .int .u64 x2, .int .u64 x3, .int .u64 x4, .int .u64 x5, .int .u64 x6, .int .u64 x7]) (.int .i64 1)).run Tryd.prog w = .ok (.int .u64 x1) w := index8u x0 x1 x2 x3 x4 x5 x6 x7 1 (by decide)
      go_wp2
      go_roundw
      case rel => exact ⟨2, by go_num, ⟨by omega⟩, ⟨HV.out.set 1 (half x1)⟩, ⟨H2.out.set_ne hne _⟩, ⟨HF.out.set (fun h => absurd h (by simp)) _⟩⟩
      case measure => simp [intOf]
    · have hcv := HV.out.cell 2 (.int .u32 0) rfl
      have hfz := HV.out.free 2
      have hix : ∀ w, (Instr.index 130 (.agg #[.int .u64 x0, .int .u64 x1, .int .u64 x2, .int .u64 x3, .int .u64 x4, .int .u64 x5, .int .u64 x6, .int .u64 x7]) (.int .i64 2)).run Tryd.prog w = .ok (.int .u64 x2) w := index8u x0 x1 x2 x3 x4 x5 x6 x7 2 (by decide)
      go_wp2
      go_roundw
      case rel => exact ⟨3, by go_num, ⟨by omega⟩, ⟨HV.out.set 2 (half x2)⟩, ⟨H2.out.set_ne hne _⟩, ⟨HF.out.set (fun h => absurd h (by simp)) _⟩⟩
      case measure => simp [intOf]
    · have hcv := HV.out.cell 3 (.int .u32 0) rfl
      have hfz := HV.out.free 3
      have hix : ∀ w, (Instr.index 130 (.agg #[.int .u64 x0, .int .u64 x1, .int .u64 x2, .int .u64 x3, .int .u64 x4, .int .u64 x5, .int .u64 x6, .int .u64 x7]) (.int .i64 3)).run Tryd.prog w = .ok (.int .u64 x3) w := index8u x0 x1 x2 x3 x4 x5 x6 x7 3 (by decide)
      go_wp2
      go_roundw
      case rel => exact ⟨4, by go_num, ⟨by omega⟩, ⟨HV.out.set 3 (half x3)⟩, ⟨H2.out.set_ne hne _⟩, ⟨HF.out.set (fun h => absurd h (by simp)) _⟩⟩
      case measure => simp [intOf]
    · have hcv := HV.out.cell 4 (.int .u32 0) rfl
      have hfz := HV.out.free 4
      have hix : ∀ w, (Instr.index 130 (.agg #[.int .u64 x0, .int .u64 x1, .int .u64 x2, .int .u64 x3, .int .u64 x4, .int .u64 x5, .int .u64 x6, .int .u64 x7]) (.int .i64 4)).run Tryd.prog w = .ok (.int .u64 x4) w := index8u x0 x1 x2 x3 x4 x5 x6 x7 4 (by decide)
      go_wp2
      go_roundw
      case rel => exact ⟨5, by go_num, ⟨by omega⟩, ⟨HV.out.set 4 (half x4)⟩, ⟨H2.out.set_ne hne _⟩, ⟨HF.out.set (fun h => absurd h (by simp)) _⟩⟩
      case measure => simp [intOf]
    · have hcv := HV.out.cell 5 (.int .u32 0) rfl
      have hfz := HV.out.free 5
      have hix : ∀ w, (Instr.index 130 (.agg #[.int .u64 x0, .int .u64 x1, .int .u64 x2, .int .u64 x3, .int .u64 x4, .int .u64 x5, .int .u64 x6, .int .u64 x7]) (.int .i64 5)).run Tryd.prog w = .ok (.int .u64 x5) w := index8u x0 x1 x2 x3 x4 x5 x6 x7 5 (by decide)
      go_wp2
      go_roundw
      case rel => exact ⟨6, by go_num, ⟨by omega⟩, ⟨HV.out.set 5 (half x5)⟩, ⟨H2.out.set_ne hne _⟩, ⟨HF.out.set (fun h => absurd h (by simp)) _⟩⟩
      case measure => simp [intOf]
    · have hcv := HV.out.cell 6 (.int .u32 0) rfl
      have hfz := HV.out.free 6
      have hix : ∀ w, (Instr.index 130 (.agg #[.int .u64 x0, .int .u64 x1, .int .u64 x2, .int .u64 x3, .int .u64 x4, .int .u64 x5, .int .u64 x6, .int .u64 x7]) (.int .i64 6)).run Tryd.prog w = .ok (.int .u64 x6) w := index8u x0 x1 x2 x3 x4 x5 x6 x7 6 (by decide)
      go_wp2
      go_roundw
      case rel => exact ⟨7, by go_num, ⟨by omega⟩, ⟨HV.out.set 6 (half x6)⟩, ⟨H2.out.set_ne hne _⟩, ⟨HF.out.set (fun h => absurd h (by simp)) _⟩⟩
      case measure => simp [intOf]
    · have hcv := HV.out.cell 7 (.int .u32 0) rfl
      have hfz := HV.out.free 7
      have hix : ∀ w, (Instr.index 130 (.agg #[.int .u64 x0, .int .u64 x1, .int .u64 x2, .int .u64 x3, .int .u64 x4, .int .u64 x5, .int .u64 x6, .int .u64 x7]) (.int .i64 7)).run Tryd.prog w = .ok (.int .u64 x7) w := index8u x0 x1 x2 x3 x4 x5 x6 x7 7 (by decide)
      go_wp2
      go_roundw
      case rel => exact ⟨8, by go_num, ⟨by omega⟩, ⟨HV.out.set 7 (half x7)⟩, ⟨H2.out.set_ne hne _⟩, ⟨HF.out.set (fun h => absurd h (by simp)) _⟩⟩
      case measure => simp [intOf]
    · have hl0 := HV.out.cell 0 (.int .u32 (x0 / 4294967296 % 4294967296)) rfl
      have hs0 := H2.out.cell 0 (.int .u32 0) rfl
      have hf0 := H2.out.free 0
      have hl1 := HV.out.cell 1 (.int .u32 (x1 / 4294967296 % 4294967296)) rfl
      have hs1 := H2.out.cell 1 (.int .u32 0) rfl
      have hf1 := H2.out.free 1
      have hl2 := HV.out.cell 2 (.int .u32 (x2 / 4294967296 % 4294967296)) rfl
      have hs2 := H2.out.cell 2 (.int .u32 0) rfl
      have hf2 := H2.out.free 2
      have hl3 := HV.out.cell 3 (.int .u32 (x3 / 4294967296 % 4294967296)) rfl
      have hs3 := H2.out.cell 3 (.int .u32 0) rfl
      have hf3 := H2.out.free 3
      have hl4 := HV.out.cell 4 (.int .u32 (x4 / 4294967296 % 4294967296)) rfl
      have hs4 := H2.out.cell 4 (.int .u32 0) rfl
      have hf4 := H2.out.free 4
      have hl5 := HV.out.cell 5 (.int .u32 (x5 / 4294967296 % 4294967296)) rfl
      have hs5 := H2.out.cell 5 (.int .u32 0) rfl
      have hf5 := H2.out.free 5
      have hl6 := HV.out.cell 6 (.int .u32 (x6 / 4294967296 % 4294967296)) rfl
      have hs6 := H2.out.cell 6 (.int .u32 0) rfl
      have hf6 := H2.out.free 6
      have hl7 := HV.out.cell 7 (.int .u32 (x7 / 4294967296 % 4294967296)) rfl
      have hs7 := H2.out.cell 7 (.int .u32 0) rfl
      have hf7 := H2.out.free 7
      have hl8 := HV.out.cell 8 (.int .u64 0) rfl
      have hs8 := H2.out.cell 8 (.int .u64 0) rfl
      have hf8 := H2.out.free 8
      have hl9 := HV.out.cell 9 (.int .u64 0) rfl
      have hs9 := H2.out.cell 9 (.int .u64 0) rfl
      have hf9 := H2.out.free 9
      have hl10 := HV.out.cell 10 (.int .u64 0) rfl
      have hs10 := H2.out.cell 10 (.int .u64 0) rfl
      have hf10 := H2.out.free 10
      have hl11 := HV.out.cell 11 (.int .u64 0) rfl
      have hs11 := H2.out.cell 11 (.int .u64 0) rfl
      have hf11 := H2.out.free 11
      have hl12 := HV.out.cell 12 (.int .u64 0) rfl
      have hs12 := H2.out.cell 12 (.int .u64 0) rfl
      have hf12 := H2.out.free 12
      have hl13 := HV.out.cell 13 (.int .u64 0) rfl
      have hs13 := H2.out.cell 13 (.int .u64 0) rfl
      have hf13 := H2.out.free 13
      have hl14 := HV.out.cell 14 (.int .u64 0) rfl
      have hs14 := H2.out.cell 14 (.int .u64 0) rfl
      have hf14 := H2.out.free 14
      have hl15 := HV.out.cell 15 (.int .u64 0) rfl
      have hs15 := H2.out.cell 15 (.int .u64 0) rfl
      have hf15 := H2.out.free 15
      have hfin := Kp.mk ((((((((((((((((H2.out.set 0 (.int .u32 (x0 / 4294967296 % 4294967296))).set 1 (.int .u32 (x1 / 4294967296 % 4294967296))).set 2 (.int .u32 (x2 / 4294967296 % 4294967296))).set 3 (.int .u32 (x3 / 4294967296 % 4294967296))).set 4 (.int .u32 (x4 / 4294967296 % 4294967296))).set 5 (.int .u32 (x5 / 4294967296 % 4294967296))).set 6 (.int .u32 (x6 / 4294967296 % 4294967296))).set 7 (.int .u32 (x7 / 4294967296 % 4294967296))).set 8 (.int .u64 0)).set 9 (.int .u64 0)).set 10 (.int .u64 0)).set 11 (.int .u64 0)).set 12 (.int .u64 0)).set 13 (.int .u64 0)).set 14 (.int .u64 0)).set 15 (.int .u64 0))
      go_wp2
      (try simp only [Exit.inBlock, Exit.then])
      refine bodyPost_ret (results_cell_row rfl _ _ w.heap.size 132 _ (0, 0) _ rfl hfin.out Tryd.underlying132 rfl (by kernel_rfl)) rfl ?_
      exact ⟨rfl, Fr.below ((((((((((((((((HF.out.set (fun h => absurd h (Nat.lt_irrefl _)) _).set (fun h => absurd h (Nat.lt_irrefl _)) _).set (fun h => absurd h (Nat.lt_irrefl _)) _).set (fun h => absurd h (Nat.lt_irrefl _)) _).set (fun h => absurd h (Nat.lt_irrefl _)) _).set (fun h => absurd h (Nat.lt_irrefl _)) _).set (fun h => absurd h (Nat.lt_irrefl _)) _).set (fun h => absurd h (Nat.lt_irrefl _)) _).set (fun h => absurd h (Nat.lt_irrefl _)) _).set (fun h => absurd h (Nat.lt_irrefl _)) _).set (fun h => absurd h (Nat.lt_irrefl _)) _).set (fun h => absurd h (Nat.lt_irrefl _)) _).set (fun h => absurd h (Nat.lt_irrefl _)) _).set (fun h => absurd h (Nat.lt_irrefl _)) _).set (fun h => absurd h (Nat.lt_irrefl _)) _).set (fun h => absurd h (Nat.lt_irrefl _)) _) (fun _ _ h => h)⟩
end Go.Proofs.YtjcmgpiapbeodaaDoor.Sha
namespace Go.Proofs.YtjcmgpiapbeodaaDoor.Sha
open Go.RowKit Go.Proofs.YtjcmgpiapbeodaaDoor.Mem Go.Proofs.YtjcmgpiapbeodaaDoorW.PrintWords
/-- The digest at block b, whose rest lies in rv, is s. -/
structure Dg (w : World) (b : Nat) (rv : Value) (s : St) : Prop where
  blk : Blk w b 135 (dcells s.B s.cnt s.c rv)
  rest : w.ownsRow low 5 1 rv s.rest.length (bytes s.rest)
  low : Sha.low ≤ b
/-- A list that a call made, base being the heap's size when it was called. -/
def Own (w : World) (base : Nat) (v : Value) (xs : List Int) : Prop := w.ownsRow base 5 1 v xs.length (bytes xs)
theorem start_calls (B : Bool) (c0 c1 c2 c3 c4 c5 c6 c7 : BitVec 32) (d0 d1 d2 d3 d4 d5 d6 d7 : BitVec 64) (hs : start B = ⟨⟨c0, c1, c2, c3, c4, c5, c6, c7⟩, ⟨d0, d1, d2, d3, d4, d5, d6, d7⟩⟩) (w : World) (hL : Laid w) :
    Calls Tryd.prog 65 #[.int .i64 (kind B : Nat)] w fun e w' => e = .returned (.agg #[.int .u32 (c0.toNat : Int), .int .u32 (c1.toNat : Int), .int .u32 (c2.toNat : Int), .int .u32 (c3.toNat : Int), .int .u32 (c4.toNat : Int), .int .u32 (c5.toNat : Int), .int .u32 (c6.toNat : Int), .int .u32 (c7.toNat : Int),
      .int .u64 (d0.toNat : Int), .int .u64 (d1.toNat : Int), .int .u64 (d2.toNat : Int), .int .u64 (d3.toNat : Int), .int .u64 (d4.toNat : Int), .int .u64 (d5.toNat : Int), .int .u64 (d6.toNat : Int), .int .u64 (d7.toNat : Int)]) ∧ Below w.heap.size w w' := by
  have hg : 0 < w.heap.size := Nat.lt_of_lt_of_le (by decide) hL.size
  cases B
  · obtain ⟨h1, h2⟩ := Chain.mk.inj hs
    obtain ⟨rfl, rfl, rfl, rfl, rfl, rfl, rfl, rfl⟩ := Eight.mk.inj h1
    obtain ⟨rfl, rfl, rfl, rfl, rfl, rfl, rfl, rfl⟩ := Eight.mk.inj h2
    refine (start256_calls _ _ _ _ _ _ _ _ w (hL.starts 0 (by decide)) (hL.starts 1 (by decide)) (hL.starts 2 (by decide)) (hL.starts 3 (by decide)) (hL.starts 4 (by decide)) (hL.starts 5 (by decide)) (hL.starts 6 (by decide)) (hL.starts 7 (by decide)) hg).mono ?_
    rintro e w' ⟨rfl, h⟩
    exact ⟨by kernel_rfl, h⟩
  · obtain ⟨h1, h2⟩ := Chain.mk.inj hs
    obtain ⟨rfl, rfl, rfl, rfl, rfl, rfl, rfl, rfl⟩ := Eight.mk.inj h1
    obtain ⟨rfl, rfl, rfl, rfl, rfl, rfl, rfl, rfl⟩ := Eight.mk.inj h2
    refine (start512_calls _ _ _ _ _ _ _ _ w (hL.starts 0 (by decide)) (hL.starts 1 (by decide)) (hL.starts 2 (by decide)) (hL.starts 3 (by decide)) (hL.starts 4 (by decide)) (hL.starts 5 (by decide)) (hL.starts 6 (by decide)) (hL.starts 7 (by decide)) hg).mono ?_
    rintro e w' ⟨rfl, h⟩
    exact ⟨by kernel_rfl, h⟩
set_option maxHeartbeats 4000000 in
set_option maxRecDepth 100000 in
theorem new_calls (B : Bool) (w : World) (hL : Laid w) :
    Calls Tryd.prog 38 #[.int .i64 (kind B : Nat)] w fun e w' => ∃ b, e = .returned (.tuple #[.pointer (some ⟨b, 0, none⟩), .int .i64 0]) ∧ w.heap.size ≤ b ∧ Dg w' b (.slice none 0 0) (St.new B) ∧ Below w.heap.size w w' := by
  obtain ⟨⟨⟨c0, c1, c2, c3, c4, c5, c6, c7⟩, ⟨d0, d1, d2, d3, d4, d5, d6, d7⟩⟩, hs⟩ : ∃ c, c = start B := ⟨_, rfl⟩
  have hst := start_calls B c0 c1 c2 c3 c4 c5 c6 c7 d0 d1 d2 d3 d4 d5 d6 d7 hs.symm w hL
  have HS := Kp.mk hst
  have HE := Kp.mk hs
  have HL := Kp.mk hL.size
  clear hst hs hL
  cases B
  all_goals
    simp only [kind] at HS ⊢
    go_enter Tryd.func38, Tryd.ntmps38
    go_wp2_with fail
    refine HS.out.mono ?_
    rintro e w1 ⟨rfl, h1⟩
    have HB := Kp.mk h1
    clear h1
    go_wp2
    go_ret2
    refine ⟨w1.heap.size, rfl, HB.out.size, ⟨?_, ?_, Nat.le_trans HL.out HB.out.size⟩, HB.out.alloc HB.out.size _⟩
    · show Blk _ _ _ (dcells _ 0 (start _) _)
      rw [← HE.out]
      exact Blk.new _ _ _
    · exact ⟨rfl, .inl ⟨rfl, rfl⟩⟩
set_option maxHeartbeats 1000000 in
set_option maxRecDepth 100000 in
theorem words_calls (B : Bool) (b : Nat) (cnt : Nat) (c : Chain) (rv : Value) (w : World) (hD : Blk w b 135 (dcells B cnt c rv)) :
    Calls Tryd.prog 68 #[.pointer (some ⟨b, 0, none⟩)] w fun e w' => ∃ v, e = .returned v ∧ Own w' w.heap.size v (words B c) ∧ Below w.heap.size w w' := by
  have h0 := hD.cell 0 _ rfl
  have HD := Kp.mk hD
  clear hD
  cases B
  · have hr : Kp (PProofBytes.sha_lay_uint32.f ((4 + 2) * c.s.list.length + 1) [] (Y32.nats c.s.list) 4 = some (words false c)) := ⟨Y32.f_is c.s.list (by simp [Eight.list]) [] (by simp)⟩
    have hC : Kp (Kd.C (Kd.int .u32) w (some ⟨b, 2, none⟩) 8 (Y32.nats c.s.list)) := ⟨by
      refine Kd.C_of_reads (d := (0 : Int)) ⟨rfl, by omega, fun _ => ⟨_, rfl, fun j hj => ?_⟩⟩
      rw [Addr.add_lit, Nat.add_comm]
      have h8 : j = 0 ∨ j = 1 ∨ j = 2 ∨ j = 3 ∨ j = 4 ∨ j = 5 ∨ j = 6 ∨ j = 7 := by omega
      rcases h8 with rfl | rfl | rfl | rfl | rfl | rfl | rfl | rfl <;> exact HD.out.cell _ _ rfl⟩
    have hmk := Wk.make_bytes 32 (by omega) (by omega)
    simp only [kind] at h0
    go_enter Tryd.func68, Tryd.ntmps68
    go_wp2
    go_region_with (go_at_call 98; (with_reducible refine (Wk.lay32_zeros (Y32.nats c.s.list) 8 rfl _ (words false c) _ 32 4 hr.out w _ hC.out (by repeat (first | exact Wk.own_zeros w 32 (by omega) | apply Kd.R_drew)) (by repeat (first | exact Below.refl _ _ | apply below_alloc | apply below_drew))).mono ?_); rintro e w' ⟨v, rfl, HO, HB⟩; have HO := Kp.mk HO; have HB := Kp.mk HB)
    all_goals (try go_wp2)
    all_goals go_ret
    all_goals exact ⟨_, rfl, Kd.own_of_R HO.out, HB.out⟩
  · have hr : Kp (PProofBytes.sha_lay_uint64.f ((8 + 2) * c.l.list.length + 1) [] (Y64.nats c.l.list) 8 = some (words true c)) := ⟨Y64.f_is c.l.list (by simp [Eight.list]) [] (by simp)⟩
    have hC : Kp (Kd.C (Kd.int .u64) w (some ⟨b, 10, none⟩) 8 (Y64.nats c.l.list)) := ⟨by
      refine Kd.C_of_reads (d := (0 : Int)) ⟨rfl, by omega, fun _ => ⟨_, rfl, fun j hj => ?_⟩⟩
      rw [Addr.add_lit, Nat.add_comm]
      have h8 : j = 0 ∨ j = 1 ∨ j = 2 ∨ j = 3 ∨ j = 4 ∨ j = 5 ∨ j = 6 ∨ j = 7 := by omega
      rcases h8 with rfl | rfl | rfl | rfl | rfl | rfl | rfl | rfl <;> exact HD.out.cell _ _ rfl⟩
    have hmk := Wk.make_bytes 64 (by omega) (by omega)
    simp only [kind] at h0
    go_enter Tryd.func68, Tryd.ntmps68
    go_wp2
    go_region_with (go_at_call 99; (with_reducible refine (Wk.lay64_zeros (Y64.nats c.l.list) 8 rfl _ (words true c) _ 64 8 hr.out w _ hC.out (by repeat (first | exact Wk.own_zeros w 64 (by omega) | apply Kd.R_drew)) (by repeat (first | exact Below.refl _ _ | apply below_alloc | apply below_drew))).mono ?_); rintro e w' ⟨v, rfl, HO, HB⟩; have HO := Kp.mk HO; have HB := Kp.mk HB)
    all_goals (try go_wp2)
    all_goals go_ret
    all_goals exact ⟨_, rfl, Kd.own_of_R HO.out, HB.out⟩
end Go.Proofs.YtjcmgpiapbeodaaDoor.Sha
namespace Go.Proofs.YtjcmgpiapbeodaaDoor.Sha
open Go.RowKit Go.Proofs.YtjcmgpiapbeodaaDoor.Mem Go.Proofs.YtjcmgpiapbeodaaDoorW.PrintWords
theorem run_appendB (w : World) (base : Nat) (v : Value) (xs : List Int) (hown : w.ownsRow base 5 1 v xs.length (bytes xs)) (bs os m c : Nat) (p : List Int) (hm : m = p.length) (hr : Reads w bs os p)
    (hb : xs.length + p.length ≤ 140737488355328) (hbase : base ≤ w.heap.size) :
    ∃ v' w', (Builtin.append_ #[22, 22] 22 #[v, .slice (some ⟨bs, os, none⟩) m c]).run Tryd.prog w = .ok v' w' ∧ w'.ownsRow base 5 1 v' (xs ++ p).length (bytes (xs ++ p)) ∧ w.grownBy w' v.ownBlock ∧ (v'.ownBlock = v.ownBlock ∨ v'.ownBlock = some w.heap.size) := by
  obtain ⟨i0, hi, hz0, hz1, hz2⟩ := info_parts Wk.info_u8
  subst hm
  obtain ⟨v', w', h1, h2, h3, _, h5⟩ := run_append_own_at (P := Tryd.prog) w base 22 22 5 i0 (.int .u8 0) 1 1 Tryd.underlying22 hi hz0 hz1 hz2 rfl (by omega) v xs.length (bytes xs) hown
    ⟨bs, os, none⟩ p.length c (bytes p) (by simp [bytes]) (fun j u hu => by
      have hj : j < p.length := by
        rcases Nat.lt_or_ge j p.length with h | h
        · exact h
        · rw [List.getElem?_eq_none (by simpa [bytes] using h)] at hu; cases hu
      rw [bytes_get p j hj] at hu
      rw [Addr.add_lit, hr.2 j hj, ← hu]) (fun u hu => by
      obtain ⟨z, _, rfl⟩ := List.mem_map.1 hu
      rfl) (by unfold maxLen; omega) (by omega) hbase
  refine ⟨v', w', h1, ?_, h3, h5⟩
  rw [List.length_append]
  simpa [bytes] using h2
theorem wpList_appendB {ops : Array Oper} {rest : List Oper} {o : Oper} {a : Act} {w : World} {Q : Exit → Act → World → Prop} (hgd : o.guard = none) (s x : Operand)
    (ho : o.op = .call { callee := .builtin .append, args := #[s, x], argTypes := #[22, 22] }) (hty : o.type = 22) (base : Nat) (v : Value) (xs : List Int) (hs : a.eval s = v) (hown : w.ownsRow base 5 1 v xs.length (bytes xs))
    (bs os m c : Nat) (p : List Int) (hm : m = p.length) (hx : a.eval x = .slice (some ⟨bs, os, none⟩) m c) (hr : Reads w bs os p) (hb : xs.length + p.length ≤ 140737488355328) (hbase : base ≤ w.heap.size)
    (h : ∀ v' w', w'.ownsRow base 5 1 v' (xs ++ p).length (bytes (xs ++ p)) → w.grownBy w' v.ownBlock → (v'.ownBlock = v.ownBlock ∨ v'.ownBlock = some w.heap.size) → wpList Tryd.prog ops Q rest (a.put o.dst v') w') :
    wpList Tryd.prog ops Q (o :: rest) a w := by
  obtain ⟨v', w', hr', h2, h3, h4⟩ := run_appendB w base v xs hown bs os m c p hm hr hb hbase
  refine wpList_plain hgd fun _ hK => ?_
  unfold Oper.wp execOp
  simp only [ho, resolve, invoke, builtin, Sem.run_bind, Sem.run_pure, Result.andThen_ok, List.map_toArray, List.map_cons, List.map_nil, hs, hx, hty, hr']
  exact hK _ _ (h v' w' h2 h3 h4)
theorem step_appendB {ops : Array Oper} {o : Oper} {a : Act} {w : World} {K : Act → World → Prop} {Q : Exit → Act → World → Prop} {E : Prop} (hgd : o.guard = none) (s x : Operand)
    (ho : o.op = .call { callee := .builtin .append, args := #[s, x], argTypes := #[22, 22] }) (hty : o.type = 22) (base : Nat) (v : Value) (xs : List Int) (hs : a.eval s = v) (hown : w.ownsRow base 5 1 v xs.length (bytes xs))
    (bs os m c : Nat) (p : List Int) (hm : m = p.length) (hx : a.eval x = .slice (some ⟨bs, os, none⟩) m c) (hr : Reads w bs os p) (hb : xs.length + p.length ≤ 140737488355328) (hbase : base ≤ w.heap.size)
    (h : ∀ v' w', w'.ownsRow base 5 1 v' (xs ++ p).length (bytes (xs ++ p)) → w.grownBy w' v.ownBlock → (v'.ownBlock = v.ownBlock ∨ v'.ownBlock = some w.heap.size) → K (a.put o.dst v') w') :
    if Region.wanted o (yielded ops a.tmps) = true then Oper.wp Tryd.prog o a w K Q else E := by
  have hw : Region.wanted o (yielded ops a.tmps) = true := by simp [Region.wanted, hgd]
  rw [if_pos hw]
  obtain ⟨v', w', hr', h2, h3, h4⟩ := run_appendB w base v xs hown bs os m c p hm hr hb hbase
  unfold Oper.wp execOp
  simp only [ho, resolve, invoke, builtin, Sem.run_bind, Sem.run_pure, Result.andThen_ok, List.map_toArray, List.map_cons, List.map_nil, hs, hx, hty, hr']
  exact h v' w' h2 h3 h4
/-- onto a list that the call owns, nothing out of nil -/
theorem run_append_nilB (w : World) (base : Nat) (v : Value) (n : Nat) (xs : List Value) (hown : w.ownsRow base 5 1 v n xs) : (Builtin.append_ #[22, 22] 22 #[v, .slice none 0 0]).run Tryd.prog w = .ok v w := by
  obtain ⟨i0, hi, hz0, hz1, hz2⟩ := info_parts Wk.info_u8
  exact run_append_owned_none (P := Tryd.prog) w base 22 22 5 i0 1 Tryd.underlying22 hi v n xs hown
theorem own_form {w : World} {base : Nat} {v : Value} {xs : List Int} (h : w.ownsRow base 5 1 v xs.length (bytes xs)) (hn : 0 < xs.length) :
    ∃ g cap, v = .slice (some ⟨g, 0, none⟩) xs.length cap ∧ base ≤ g ∧ g < w.heap.size ∧ xs.length ≤ cap ∧ Reads w g 0 xs := by
  obtain ⟨g, cap, rfl, hb, hl⟩ := h.form hn
  refine ⟨g, cap, rfl, hb, hl, ?_, hl, fun i hi => ?_⟩
  · rcases h.2 with ⟨h', _⟩ | ⟨g', cap', cur, h', _, hg, hnc, _⟩
    · simp at h'
    · simp only [Value.slice.injEq, Option.some.injEq, Addr.mk.injEq, and_true, true_and] at h'
      obtain ⟨rfl, rfl⟩ := h'
      exact hnc
  · rw [Nat.zero_add, h.cellAt i (by omega), bytes_get xs i hi]
theorem own_shape {w : World} {base n : Nat} {v : Value} {xs : List Value} (h : w.ownsRow base 5 1 v n xs) : ∃ A c, v = .slice A n c ∧ n ≤ c := by
  rcases h.2 with ⟨rfl, rfl⟩ | ⟨g, cap, cur, rfl, _, _, hc, _⟩
  · exact ⟨none, 0, rfl, Nat.le_refl _⟩
  · exact ⟨_, _, rfl, hc⟩
theorem dcells_set1 (B : Bool) (cnt n : Nat) (c : Chain) (rv : Value) : (dcells B cnt c rv).set 1 (.int .i64 (n : Nat)) = dcells B n c rv := rfl
theorem dcells_set18 (B : Bool) (cnt : Nat) (c : Chain) (rv v : Value) : (dcells B cnt c rv).set 18 v = dcells B cnt c v := rfl
def dfoot (b : Nat) (rv : Value) (k : Nat) : Prop := k = b ∨ rv.ownBlock = some k
/-- v lies where rv lay, or in memory that is new since w -/
def Heir (w : World) (v rv : Value) : Prop := v.ownBlock = rv.ownBlock ∨ ∃ g, v.ownBlock = some g ∧ w.heap.size ≤ g
theorem Heir.refl (w : World) (v : Value) : Heir w v v := .inl rfl
theorem Heir.trans {w w1 : World} {a b c : Value} (h : Heir w1 a b) (k : Heir w b c) (hw : w.heap.size ≤ w1.heap.size) : Heir w a c := by
  rcases h with h | ⟨g, h1, h2⟩
  · rcases k with k | ⟨g, k1, k2⟩
    · exact .inl (h.trans k)
    · exact .inr ⟨g, h.trans k1, k2⟩
  · exact .inr ⟨g, h1, Nat.le_trans hw h2⟩
theorem Heir.of {w : World} {v rv : Value} (h : v.ownBlock = rv.ownBlock ∨ v.ownBlock = some w.heap.size) : Heir w v rv := h.elim .inl (fun h => .inr ⟨_, h, Nat.le_refl _⟩)
theorem Heir.not_old {w : World} {v rv : Value} (h : Heir w v rv) {k : Nat} (hv : v.ownBlock = some k) (hk : k < w.heap.size) : rv.ownBlock = some k := by
  rcases h with h | ⟨g, h1, h2⟩
  · exact h.symm.trans hv
  · exact absurd (Option.some.inj (h1.symm.trans hv)) (by omega)
def lenOf : Value → Nat
  | .slice _ n _ => n
  | _ => 0
/-- the same block, cut to nothing -/
theorem own_cut {w : World} {base g n cap : Nat} {xs : List Value} (h : w.ownsRow base 5 1 (.slice (some ⟨g, 0, none⟩) n cap) n xs) : w.ownsRow base 5 1 (.slice (some ⟨g, 0, none⟩) 0 cap) 0 [] := by
  rcases h.2 with ⟨h', _⟩ | ⟨g', cap', cur, h', hb, hg, hnc, hm, hs, _⟩
  · simp at h'
  · simp only [Value.slice.injEq, Option.some.injEq, Addr.mk.injEq, and_true, true_and] at h'
    obtain ⟨rfl, rfl⟩ := h'
    exact ⟨rfl, .inr ⟨g, cap, cur, rfl, hb, hg, Nat.zero_le _, hm, hs, rfl⟩⟩
theorem own_keep {w w' : World} {base n : Nat} {v : Value} {xs : List Value} {S : Nat → Prop} (h : w.ownsRow base 5 1 v n xs) (hf : Fr S w w') (hs : ∀ k, v.ownBlock = some k → ¬ S k) : w'.ownsRow base 5 1 v n xs := by
  refine ⟨h.1, ?_⟩
  rcases h.2 with h' | ⟨g, cap, cur, rfl, hb, hg, hr⟩
  · exact .inl h'
  · refine .inr ⟨g, cap, cur, rfl, hb, ?_, hr⟩
    have hlt : g < w.heap.size := by
      rcases Nat.lt_or_ge g w.heap.size with h | h
      · exact h
      · rw [Array.getElem?_eq_none h] at hg; cases hg
    rw [hf.block g hlt (hs g rfl), hg]
theorem own_lt {w : World} {base n g : Nat} {v : Value} {xs : List Value} (h : w.ownsRow base 5 1 v n xs) (hg : v.ownBlock = some g) : g < w.heap.size ∧ base ≤ g := by
  rcases h.2 with ⟨rfl, _⟩ | ⟨g', cap, cur, rfl, hb, hc, _⟩
  · cases hg
  · have : g' = g := by simpa [Value.ownBlock] using hg
    subst this
    refine ⟨?_, hb⟩
    rcases Nat.lt_or_ge g' w.heap.size with h | h
    · exact h
    · rw [Array.getElem?_eq_none h] at hc; cases hc
/-- a digest's block is not its rest's -/
theorem own_ne {w : World} {base n g b : Nat} {v : Value} {xs vs : List Value} {e : TypeId} (h : w.ownsRow base 5 1 v n xs) (hg : v.ownBlock = some g) (hb : Blk w b e vs) (he : e ≠ 5) : g ≠ b := by
  rcases h.2 with ⟨rfl, _⟩ | ⟨g', cap, cur, rfl, _, hc, _⟩
  · cases hg
  · have : g' = g := by simpa [Value.ownBlock] using hg
    subst this
    rintro rfl
    unfold Blk at hb
    rw [hc] at hb
    simp only [Option.some.injEq, Obj.cells.injEq] at hb
    exact he hb.2.1.symm
end Go.Proofs.YtjcmgpiapbeodaaDoor.Sha
namespace Go.Proofs.YtjcmgpiapbeodaaDoor.Sha.M32
open Go.RowKit Go.Proofs.YtjcmgpiapbeodaaDoor.Mem
set_option maxHeartbeats 4000000 in
set_option maxRecDepth 100000 in
theorem mix_calls (b : Nat) (cnt : Nat) (c : Chain) (rv : Value) (bs os m cp : Nat) (xs : List Int) (hx : xs.length = 64) (hm : 64 ≤ m) (hmc : m ≤ cp) (w : World) (hL : Laid w)
    (hD : Blk w b 135 (dcells false cnt c rv)) (hX : Reads w bs os xs) :
    Calls Tryd.prog 67 #[.pointer (some ⟨b, 0, none⟩), .slice (some ⟨bs, os, none⟩) m cp] w fun e w' =>
      ∃ r, e = .returned r ∧ Blk w' b 135 (dcells false cnt (mixC false c xs) rv) ∧ Fr (fun k => k = b) w w' := by
  have hk := hD.cell 0 _ rfl
  have HL := Kp.mk hL
  have HD := Kp.mk hD
  have HX := Kp.mk hX
  have HXL := Kp.mk hx
  have HLT := Kp.mk hD.lt
  have HSL := Kp.mk hX.1
  clear hL hD hX hx
  simp only [kind] at hk
  go_enter Tryd.func67, Tryd.ntmps67
  go_wp2_with fail
  have hnew : Kp (Blk (w.alloc (.cells (List.replicate 64 (Value.int .u32 0)).toArray 163)) w.heap.size 163 ([] ++ List.replicate 16 (Value.int .u32 0) ++ List.replicate 48 (Value.int .u32 0))) := ⟨Blk.new w _ _⟩
  have hrd : Kp (Reads (w.alloc (.cells (List.replicate 64 (Value.int .u32 0)).toArray 163)) bs os xs) := ⟨HX.out.fr ((Fr.refl (fun _ => False) w).alloc _) (fun h => h)⟩
  refine (L32.load_calls 163 w.heap.size 0 16 64 bs os m cp [] (List.replicate 16 (.int .u32 0)) (List.replicate 48 (.int .u32 0)) xs rfl rfl (fun v hv => ⟨0, List.eq_of_mem_replicate hv⟩) (by omega) (by omega) (by omega) hmc (by rw [HXL.out]; omega) (Nat.ne_of_lt HSL.out) (w.alloc (.cells (List.replicate 64 (Value.int .u32 0)).toArray 163)) hnew.out hrd.out.1 (fun i hi => hrd.out.2 i (by rw [HXL.out]; omega))).mono ?_
  rintro e w1 ⟨r, rfl, hB1, hF1⟩
  have hF : Kp (Fr (fun _ => False) w w1) := ⟨((Fr.refl (fun _ => False) w).alloc _).trans hF1 (fun k hk he => Nat.lt_irrefl _ (he ▸ hk))⟩
  have HB := Kp.mk hB1
  have HD1 := Kp.mk (HD.out.fr hF.out (fun h => h))
  have HL1 := Kp.mk (HL.out.fr hF.out (fun _ h => h.elim))
  obtain ⟨bw, hbw⟩ : ∃ bw, bw = w.heap.size := ⟨_, rfl⟩
  have HW := Kp.mk (show b ≠ bw from fun h => by have := HLT.out; omega)
  have HWl := Kp.mk (show low ≤ bw by have := HL.out.size; omega)
  rw [← hbw] at HB ⊢
  have HBW := Kp.mk hbw
  clear hnew hrd hB1 hF1 HD HL HX HXL HSL hk hbw
  have hk := HD1.out.cell 0 (.int .i64 ((kind false : Nat) : Int)) rfl
  simp only [kind] at hk
  have h0 : w1.cell? ⟨2, 0, none⟩ = some (.int .i64 2) := HL1.out.t256 0 (by decide)
  have h1 : w1.cell? ⟨2, 1, none⟩ = some (.int .i64 13) := HL1.out.t256 1 (by decide)
  have h2 : w1.cell? ⟨2, 2, none⟩ = some (.int .i64 22) := HL1.out.t256 2 (by decide)
  have h3 : w1.cell? ⟨2, 3, none⟩ = some (.int .i64 6) := HL1.out.t256 3 (by decide)
  have h4 : w1.cell? ⟨2, 4, none⟩ = some (.int .i64 11) := HL1.out.t256 4 (by decide)
  have h5 : w1.cell? ⟨2, 5, none⟩ = some (.int .i64 25) := HL1.out.t256 5 (by decide)
  have h6 : w1.cell? ⟨2, 6, none⟩ = some (.int .i64 7) := HL1.out.t256 6 (by decide)
  have h7 : w1.cell? ⟨2, 7, none⟩ = some (.int .i64 18) := HL1.out.t256 7 (by decide)
  have h8 : w1.cell? ⟨2, 8, none⟩ = some (.int .i64 3) := HL1.out.t256 8 (by decide)
  have h9 : w1.cell? ⟨2, 9, none⟩ = some (.int .i64 17) := HL1.out.t256 9 (by decide)
  have h10 : w1.cell? ⟨2, 10, none⟩ = some (.int .i64 19) := HL1.out.t256 10 (by decide)
  have h11 : w1.cell? ⟨2, 11, none⟩ = some (.int .i64 10) := HL1.out.t256 11 (by decide)
  obtain ⟨cs, cl⟩ := c
  obtain ⟨c0, c1, c2, c3, c4, c5, c6, c7⟩ := cs
  obtain ⟨d0, d1, d2, d3, d4, d5, d6, d7⟩ := cl
  go_wp2_with fail
  have hcomp := C32.compress_calls 163 b bw 1 (.int .i64 256) (.int .i64 (cnt : Nat)) ⟨c0, c1, c2, c3, c4, c5, c6, c7⟩ [Sha.u64 d0, Sha.u64 d1, Sha.u64 d2, Sha.u64 d3, Sha.u64 d4, Sha.u64 d5, Sha.u64 d6, Sha.u64 d7, rv] (wordsOf 4 xs 16) K256 (by simp [wordsOf]) (by kernel_rfl) w1.drew HD1.out.drew HB.out.drew HW.out (fun h => absurd HWl.out (by rw [← h]; decide)) (HL1.out.r256.fr ((Fr.refl (fun _ => False) w1).drew) (fun h => h))
  unfold C32.tv at hcomp
  have HC := Kp.mk hcomp
  clear hcomp
  go_region_with (go_at_call 95; (with_reducible refine (HC.out).mono ?_); rintro e w2 ⟨r2, rfl, u, hu, HD2, HF2⟩; have HD2 := Kp.mk HD2; have HF2 := Kp.mk HF2; have hu := Kp.mk hu)
  all_goals (try go_wp2)
  all_goals first | go_end0 | ((try simp only [Exit.inBlock, Exit.then]); refine bodyPost_ret (results_none rfl _ _ _) rfl ?_)
  all_goals
    obtain ⟨u0, u1, u2, u3, u4, u5, u6, u7⟩ := u
    refine ⟨_, rfl, ?_, ?_⟩
    · have e : mixC false ⟨⟨c0, c1, c2, c3, c4, c5, c6, c7⟩, ⟨d0, d1, d2, d3, d4, d5, d6, d7⟩⟩ xs = ⟨⟨u0, u1, u2, u3, u4, u5, u6, u7⟩, ⟨d0, d1, d2, d3, d4, d5, d6, d7⟩⟩ := by
        unfold mixC
        simp only [hu.out]
      rw [e]
      exact HD2.out
    · exact (hF.out.drew.mono (fun _ _ h => h.elim)).trans HF2.out (fun k hk he => he.elim id (fun e => absurd hk (by rw [e, HBW.out]; exact Nat.lt_irrefl _)))
end Go.Proofs.YtjcmgpiapbeodaaDoor.Sha.M32
namespace Go.Proofs.YtjcmgpiapbeodaaDoor.Sha.M64
open Go.RowKit Go.Proofs.YtjcmgpiapbeodaaDoor.Mem
set_option maxHeartbeats 4000000 in
set_option maxRecDepth 100000 in
theorem mix_calls (b : Nat) (cnt : Nat) (c : Chain) (rv : Value) (bs os m cp : Nat) (xs : List Int) (hx : xs.length = 128) (hm : 128 ≤ m) (hmc : m ≤ cp) (w : World) (hL : Laid w)
    (hD : Blk w b 135 (dcells true cnt c rv)) (hX : Reads w bs os xs) :
    Calls Tryd.prog 67 #[.pointer (some ⟨b, 0, none⟩), .slice (some ⟨bs, os, none⟩) m cp] w fun e w' =>
      ∃ r, e = .returned r ∧ Blk w' b 135 (dcells true cnt (mixC true c xs) rv) ∧ Fr (fun k => k = b) w w' := by
  have hk := hD.cell 0 _ rfl
  have HL := Kp.mk hL
  have HD := Kp.mk hD
  have HX := Kp.mk hX
  have HXL := Kp.mk hx
  have HLT := Kp.mk hD.lt
  have HSL := Kp.mk hX.1
  clear hL hD hX hx
  simp only [kind] at hk
  go_enter Tryd.func67, Tryd.ntmps67
  go_wp2_with fail
  have hnew : Kp (Blk (w.alloc (.cells (List.replicate 80 (Value.int .u64 0)).toArray 170)) w.heap.size 170 ([] ++ List.replicate 16 (Value.int .u64 0) ++ List.replicate 64 (Value.int .u64 0))) := ⟨Blk.new w _ _⟩
  have hrd : Kp (Reads (w.alloc (.cells (List.replicate 80 (Value.int .u64 0)).toArray 170)) bs os xs) := ⟨HX.out.fr ((Fr.refl (fun _ => False) w).alloc _) (fun h => h)⟩
  refine (L64.load_calls 170 w.heap.size 0 16 80 bs os m cp [] (List.replicate 16 (.int .u64 0)) (List.replicate 64 (.int .u64 0)) xs rfl rfl (fun v hv => ⟨0, List.eq_of_mem_replicate hv⟩) (by omega) (by omega) (by omega) hmc (by rw [HXL.out]; omega) (Nat.ne_of_lt HSL.out) (w.alloc (.cells (List.replicate 80 (Value.int .u64 0)).toArray 170)) hnew.out hrd.out.1 (fun i hi => hrd.out.2 i (by rw [HXL.out]; omega))).mono ?_
  rintro e w1 ⟨r, rfl, hB1, hF1⟩
  have hF : Kp (Fr (fun _ => False) w w1) := ⟨((Fr.refl (fun _ => False) w).alloc _).trans hF1 (fun k hk he => Nat.lt_irrefl _ (he ▸ hk))⟩
  have HB := Kp.mk hB1
  have HD1 := Kp.mk (HD.out.fr hF.out (fun h => h))
  have HL1 := Kp.mk (HL.out.fr hF.out (fun _ h => h.elim))
  obtain ⟨bw, hbw⟩ : ∃ bw, bw = w.heap.size := ⟨_, rfl⟩
  have HW := Kp.mk (show b ≠ bw from fun h => by have := HLT.out; omega)
  have HWl := Kp.mk (show low ≤ bw by have := HL.out.size; omega)
  rw [← hbw] at HB ⊢
  have HBW := Kp.mk hbw
  clear hnew hrd hB1 hF1 HD HL HX HXL HSL hk hbw
  have hk := HD1.out.cell 0 (.int .i64 ((kind true : Nat) : Int)) rfl
  simp only [kind] at hk
  have h0 : w1.cell? ⟨4, 0, none⟩ = some (.int .i64 28) := HL1.out.t512 0 (by decide)
  have h1 : w1.cell? ⟨4, 1, none⟩ = some (.int .i64 34) := HL1.out.t512 1 (by decide)
  have h2 : w1.cell? ⟨4, 2, none⟩ = some (.int .i64 39) := HL1.out.t512 2 (by decide)
  have h3 : w1.cell? ⟨4, 3, none⟩ = some (.int .i64 14) := HL1.out.t512 3 (by decide)
  have h4 : w1.cell? ⟨4, 4, none⟩ = some (.int .i64 18) := HL1.out.t512 4 (by decide)
  have h5 : w1.cell? ⟨4, 5, none⟩ = some (.int .i64 41) := HL1.out.t512 5 (by decide)
  have h6 : w1.cell? ⟨4, 6, none⟩ = some (.int .i64 1) := HL1.out.t512 6 (by decide)
  have h7 : w1.cell? ⟨4, 7, none⟩ = some (.int .i64 8) := HL1.out.t512 7 (by decide)
  have h8 : w1.cell? ⟨4, 8, none⟩ = some (.int .i64 7) := HL1.out.t512 8 (by decide)
  have h9 : w1.cell? ⟨4, 9, none⟩ = some (.int .i64 19) := HL1.out.t512 9 (by decide)
  have h10 : w1.cell? ⟨4, 10, none⟩ = some (.int .i64 61) := HL1.out.t512 10 (by decide)
  have h11 : w1.cell? ⟨4, 11, none⟩ = some (.int .i64 6) := HL1.out.t512 11 (by decide)
  obtain ⟨cs, cl⟩ := c
  obtain ⟨c0, c1, c2, c3, c4, c5, c6, c7⟩ := cs
  obtain ⟨d0, d1, d2, d3, d4, d5, d6, d7⟩ := cl
  go_wp2_with fail
  have hcomp := C64.compress_calls 170 b bw 3 (.int .i64 512) (.int .i64 (cnt : Nat)) (Sha.u32 c0) (Sha.u32 c1) (Sha.u32 c2) (Sha.u32 c3) (Sha.u32 c4) (Sha.u32 c5) (Sha.u32 c6) (Sha.u32 c7) ⟨d0, d1, d2, d3, d4, d5, d6, d7⟩ [rv] (wordsOf 8 xs 16) K512 (by simp [wordsOf]) (by kernel_rfl) w1.drew HD1.out.drew HB.out.drew HW.out (fun h => absurd HWl.out (by rw [← h]; decide)) (HL1.out.r512.fr ((Fr.refl (fun _ => False) w1).drew) (fun h => h))
  unfold C64.tv at hcomp
  have HC := Kp.mk hcomp
  clear hcomp
  go_region_with (go_at_call 97; (with_reducible refine (HC.out).mono ?_); rintro e w2 ⟨r2, rfl, u, hu, HD2, HF2⟩; have HD2 := Kp.mk HD2; have HF2 := Kp.mk HF2; have hu := Kp.mk hu)
  all_goals (try go_wp2)
  all_goals first | go_end0 | ((try simp only [Exit.inBlock, Exit.then]); refine bodyPost_ret (results_none rfl _ _ _) rfl ?_)
  all_goals
    obtain ⟨u0, u1, u2, u3, u4, u5, u6, u7⟩ := u
    refine ⟨_, rfl, ?_, ?_⟩
    · have e : mixC true ⟨⟨c0, c1, c2, c3, c4, c5, c6, c7⟩, ⟨d0, d1, d2, d3, d4, d5, d6, d7⟩⟩ xs = ⟨⟨c0, c1, c2, c3, c4, c5, c6, c7⟩, ⟨u0, u1, u2, u3, u4, u5, u6, u7⟩⟩ := by
        unfold mixC
        simp only [hu.out]
      rw [e]
      exact HD2.out
    · exact (hF.out.drew.mono (fun _ _ h => h.elim)).trans HF2.out (fun k hk he => he.elim id (fun e => absurd hk (by rw [e, HBW.out]; exact Nat.lt_irrefl _)))
end Go.Proofs.YtjcmgpiapbeodaaDoor.Sha.M64
