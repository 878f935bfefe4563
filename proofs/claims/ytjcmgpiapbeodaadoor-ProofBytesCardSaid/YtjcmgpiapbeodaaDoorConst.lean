/-
  lay for words of 32 bits, over numbers alone: the bytes of the words, the highest first, behind what was there. lay for words of 64 bits, over numbers alone: the bytes of the words, the highest first, behind what was there. The walk of sha.Constants: the round constants of each kind, byte by byte, in new memory.
-/
import Derived.Test.YtjcmgpiapbeodaaDoorLayP
import Derived.Test.YtjcmgpiapbeodaaDoorShaState
import Derived.Deep.RegionWith
namespace Go.Proofs.YtjcmgpiapbeodaaDoor.Sha.Y32
open Go.RowKit Go.Proofs.YtjcmgpiapbeodaaDoor.Mem Go.Proofs.YtjcmgpiapbeodaaDoor.PProofBytes Go.Proofs.YtjcmgpiapbeodaaDoorW.PrintWords Go.Proofs.YtjcmgpiapbeodaaDoorW.PrintLast Go.Proofs.YtjcmgpiapbeodaaDoorW.PrintMore
def nats (xs : List (BitVec 32)) : List Int := xs.map fun x => (x.toNat : Int)
theorem l1_step (k : Nat) (out : List Int) (s X : Int) (xs : List Int) (len i : Int) (j : Nat) (hj : j ≤ 7) (h : out.length < 140737488355328) :
    sha_lay_uint32.l1 (k + 1) out s X (j : Int) xs len i = sha_lay_uint32.l1 k (out ++ [shr .u32 X (8 * (j : Int)) % 256]) s X ((j : Int) - 1) xs len i := by
  have e1 : wrap64 (8 * (j : Int)) = 8 * (j : Int) := by unfold wrap64; omega
  have e2 : wrap64 ((j : Int) - 1) = (j : Int) - 1 := by unfold wrap64; omega
  rw [sha_lay_uint32.l1, if_pos (by omega), e1, if_pos (by omega), if_pos h, e2]
theorem l1_end (k : Nat) (out : List Int) (s X : Int) (xs : List Int) (len i : Int) : sha_lay_uint32.l1 (k + 1) out s X (-1) xs len i = sha_lay_uint32.l0 k out s xs len (wrap64 (i + 1)) := by
  rw [sha_lay_uint32.l1, if_neg (by omega)]
theorem l1_all (x : BitVec 32) (out : List Int) (c : Nat) (xs : List Int) (len i : Int) (h : out.length + 4 < 140737488355328) :
    sha_lay_uint32.l1 (c + 4 + 1) out 4 (x.toNat : Int) (4 - 1) xs len i = sha_lay_uint32.l0 c (out ++ layWord x 4) 4 xs len (wrap64 (i + 1)) := by
  have e : layWord x 4 = [shr .u32 (x.toNat : Int) 24 % 256, shr .u32 (x.toNat : Int) 16 % 256, shr .u32 (x.toNat : Int) 8 % 256, shr .u32 (x.toNat : Int) 0 % 256] := by
    simp [layWord, List.range_succ, List.range_zero, shr, IntKind.bits, BitVec.toNat_ushiftRight, Nat.shiftRight_eq_div_pow]
  rw [e]
  refine (l1_step _ _ _ _ _ _ _ 3 (by omega) (by (try simp only [List.length_append, List.length_cons, List.length_nil]); omega)).trans ?_
  refine (l1_step _ _ _ _ _ _ _ 2 (by omega) (by (try simp only [List.length_append, List.length_cons, List.length_nil]); omega)).trans ?_
  refine (l1_step _ _ _ _ _ _ _ 1 (by omega) (by (try simp only [List.length_append, List.length_cons, List.length_nil]); omega)).trans ?_
  refine (l1_step _ _ _ _ _ _ _ 0 (by omega) (by (try simp only [List.length_append, List.length_cons, List.length_nil]); omega)).trans ?_
  refine (l1_end _ _ _ _ _ _ _).trans ?_
  simp [List.append_assoc]
theorem nats_get (xs : List (BitVec 32)) (i : Nat) (h : i < xs.length) : rd (nats xs) (i : Int) = ((xs[i].toNat : Nat) : Int) := by
  simp [rd, nats, h]
theorem l0_all (xs : List (BitVec 32)) (hx : xs.length < 1000) : ∀ (n i : Nat) (out : List Int), i + n = xs.length → out.length + 4 * n < 140737488355328 →
    sha_lay_uint32.l0 ((4 + 2) * n + 1) out 4 (nats xs) (xs.length : Int) (i : Int) = some (out ++ (xs.drop i).flatMap fun x => layWord x 4)
  | 0, i, out, hi, _ => by
    rw [sha_lay_uint32.l0, if_neg (by omega), List.drop_eq_nil_of_le (by omega)]
    simp
  | n + 1, i, out, hi, ho => by
    have hlt : i < xs.length := by omega
    rw [show (4 + 2) * (n + 1) + 1 = (((4 + 2) * n + 1) + 4 + 1) + 1 by omega, sha_lay_uint32.l0, if_pos (by omega), if_pos (by omega), if_pos (by simp [nats]; omega),
      nats_get xs i hlt, show wrap64 ((4 : Int) - 1) = 4 - 1 from by unfold wrap64; decide, l1_all _ _ _ _ _ _ (by omega), show wrap64 ((i : Int) + 1) = ((i + 1 : Nat) : Int) from by unfold wrap64; omega,
      l0_all xs hx n (i + 1) _ (by omega) (by simp [layWord]; omega), List.drop_eq_getElem_cons hlt, List.flatMap_cons, List.append_assoc]
theorem f_is (xs : List (BitVec 32)) (hx : xs.length < 1000) (out : List Int) (ho : out.length < 1000000) : sha_lay_uint32.f ((4 + 2) * xs.length + 1) out (nats xs) 4 = some (out ++ xs.flatMap fun x => layWord x 4) := by
  have h := l0_all xs hx xs.length 0 out (by omega) (by omega)
  unfold sha_lay_uint32.f
  rw [show ((nats xs).length : Int) = (xs.length : Int) by simp [nats]]
  exact h
end Go.Proofs.YtjcmgpiapbeodaaDoor.Sha.Y32
namespace Go.Proofs.YtjcmgpiapbeodaaDoor.Sha.Y64
open Go.RowKit Go.Proofs.YtjcmgpiapbeodaaDoor.Mem Go.Proofs.YtjcmgpiapbeodaaDoor.PProofBytes Go.Proofs.YtjcmgpiapbeodaaDoorW.PrintWords Go.Proofs.YtjcmgpiapbeodaaDoorW.PrintLast Go.Proofs.YtjcmgpiapbeodaaDoorW.PrintMore
def nats (xs : List (BitVec 64)) : List Int := xs.map fun x => (x.toNat : Int)
theorem l1_step (k : Nat) (out : List Int) (s X : Int) (xs : List Int) (len i : Int) (j : Nat) (hj : j ≤ 7) (h : out.length < 140737488355328) :
    sha_lay_uint64.l1 (k + 1) out s X (j : Int) xs len i = sha_lay_uint64.l1 k (out ++ [shr .u64 X (8 * (j : Int)) % 256]) s X ((j : Int) - 1) xs len i := by
  have e1 : wrap64 (8 * (j : Int)) = 8 * (j : Int) := by unfold wrap64; omega
  have e2 : wrap64 ((j : Int) - 1) = (j : Int) - 1 := by unfold wrap64; omega
  rw [sha_lay_uint64.l1, if_pos (by omega), e1, if_pos (by omega), if_pos h, e2]
theorem l1_end (k : Nat) (out : List Int) (s X : Int) (xs : List Int) (len i : Int) : sha_lay_uint64.l1 (k + 1) out s X (-1) xs len i = sha_lay_uint64.l0 k out s xs len (wrap64 (i + 1)) := by
  rw [sha_lay_uint64.l1, if_neg (by omega)]
theorem l1_all (x : BitVec 64) (out : List Int) (c : Nat) (xs : List Int) (len i : Int) (h : out.length + 8 < 140737488355328) :
    sha_lay_uint64.l1 (c + 8 + 1) out 8 (x.toNat : Int) (8 - 1) xs len i = sha_lay_uint64.l0 c (out ++ layWord x 8) 8 xs len (wrap64 (i + 1)) := by
  have e : layWord x 8 = [shr .u64 (x.toNat : Int) 56 % 256, shr .u64 (x.toNat : Int) 48 % 256, shr .u64 (x.toNat : Int) 40 % 256, shr .u64 (x.toNat : Int) 32 % 256, shr .u64 (x.toNat : Int) 24 % 256, shr .u64 (x.toNat : Int) 16 % 256, shr .u64 (x.toNat : Int) 8 % 256, shr .u64 (x.toNat : Int) 0 % 256] := by
    simp [layWord, List.range_succ, List.range_zero, shr, IntKind.bits, BitVec.toNat_ushiftRight, Nat.shiftRight_eq_div_pow]
  rw [e]
  refine (l1_step _ _ _ _ _ _ _ 7 (by omega) (by (try simp only [List.length_append, List.length_cons, List.length_nil]); omega)).trans ?_
  refine (l1_step _ _ _ _ _ _ _ 6 (by omega) (by (try simp only [List.length_append, List.length_cons, List.length_nil]); omega)).trans ?_
  refine (l1_step _ _ _ _ _ _ _ 5 (by omega) (by (try simp only [List.length_append, List.length_cons, List.length_nil]); omega)).trans ?_
  refine (l1_step _ _ _ _ _ _ _ 4 (by omega) (by (try simp only [List.length_append, List.length_cons, List.length_nil]); omega)).trans ?_
  refine (l1_step _ _ _ _ _ _ _ 3 (by omega) (by (try simp only [List.length_append, List.length_cons, List.length_nil]); omega)).trans ?_
  refine (l1_step _ _ _ _ _ _ _ 2 (by omega) (by (try simp only [List.length_append, List.length_cons, List.length_nil]); omega)).trans ?_
  refine (l1_step _ _ _ _ _ _ _ 1 (by omega) (by (try simp only [List.length_append, List.length_cons, List.length_nil]); omega)).trans ?_
  refine (l1_step _ _ _ _ _ _ _ 0 (by omega) (by (try simp only [List.length_append, List.length_cons, List.length_nil]); omega)).trans ?_
  refine (l1_end _ _ _ _ _ _ _).trans ?_
  simp [List.append_assoc]
theorem nats_get (xs : List (BitVec 64)) (i : Nat) (h : i < xs.length) : rd (nats xs) (i : Int) = ((xs[i].toNat : Nat) : Int) := by
  simp [rd, nats, h]
theorem l0_all (xs : List (BitVec 64)) (hx : xs.length < 1000) : ∀ (n i : Nat) (out : List Int), i + n = xs.length → out.length + 8 * n < 140737488355328 →
    sha_lay_uint64.l0 ((8 + 2) * n + 1) out 8 (nats xs) (xs.length : Int) (i : Int) = some (out ++ (xs.drop i).flatMap fun x => layWord x 8)
  | 0, i, out, hi, _ => by
    rw [sha_lay_uint64.l0, if_neg (by omega), List.drop_eq_nil_of_le (by omega)]
    simp
  | n + 1, i, out, hi, ho => by
    have hlt : i < xs.length := by omega
    rw [show (8 + 2) * (n + 1) + 1 = (((8 + 2) * n + 1) + 8 + 1) + 1 by omega, sha_lay_uint64.l0, if_pos (by omega), if_pos (by omega), if_pos (by simp [nats]; omega),
      nats_get xs i hlt, show wrap64 ((8 : Int) - 1) = 8 - 1 from by unfold wrap64; decide, l1_all _ _ _ _ _ _ (by omega), show wrap64 ((i : Int) + 1) = ((i + 1 : Nat) : Int) from by unfold wrap64; omega,
      l0_all xs hx n (i + 1) _ (by omega) (by simp [layWord]; omega), List.drop_eq_getElem_cons hlt, List.flatMap_cons, List.append_assoc]
theorem f_is (xs : List (BitVec 64)) (hx : xs.length < 1000) (out : List Int) (ho : out.length < 1000000) : sha_lay_uint64.f ((8 + 2) * xs.length + 1) out (nats xs) 8 = some (out ++ xs.flatMap fun x => layWord x 8) := by
  have h := l0_all xs hx xs.length 0 out (by omega) (by omega)
  unfold sha_lay_uint64.f
  rw [show ((nats xs).length : Int) = (xs.length : Int) by simp [nats]]
  exact h
end Go.Proofs.YtjcmgpiapbeodaaDoor.Sha.Y64
namespace Go.Proofs.YtjcmgpiapbeodaaDoor.Wk
open Go.RowKit Go.Proofs.YtjcmgpiapbeodaaDoor.PProofBytes Go.Proofs.YtjcmgpiapbeodaaDoorW.PrintWords Go.Proofs.YtjcmgpiapbeodaaDoorW.PrintLast Go.Proofs.YtjcmgpiapbeodaaDoorW.PrintMore
theorem info_u8 : (Tryd.prog.info? 5).map (fun i => (i.zero, i.size, i.bytes)) = some (some (.int .u8 0), 1, 1) := by kernel_rfl
def zeros (n : Nat) : Array Value := madeCells #[.int .u8 0] n
theorem make_bytes (n : Int) (h0 : 0 ≤ n) (h1 : n ≤ 140737488355328) (w : World) : (Instr.makeSlice 22 (.int .i64 0) (.int .i64 n)).run Tryd.prog w = .ok (.slice (some ⟨w.heap.size, 0, none⟩) 0 n.toNat) (w.alloc (.cells (zeros n.toNat) 5)) := by
  obtain ⟨i0, hi, hz0, hz1, hz2⟩ := info_parts info_u8
  have h := run_make (P := Tryd.prog) w 22 5 i0 (.int .u8 0) Tryd.underlying22 hi hz0 .i64 .i64 0 n (by omega) h0 (by rw [hz2]; omega) (by omega)
  rw [hz1, Nat.mul_one] at h
  exact h
theorem make256 (w : World) : (Instr.makeSlice 22 (.int .i64 0) (.int .i64 256)).run Tryd.prog w = .ok (.slice (some ⟨w.heap.size, 0, none⟩) 0 256) (w.alloc (.cells (zeros 256) 5)) := make_bytes 256 (by omega) (by omega) w
theorem make640 (w : World) : (Instr.makeSlice 22 (.int .i64 0) (.int .i64 640)).run Tryd.prog w = .ok (.slice (some ⟨w.heap.size, 0, none⟩) 0 640) (w.alloc (.cells (zeros 640) 5)) := make_bytes 640 (by omega) (by omega) w
theorem own_zeros (w : World) (n : Nat) (hn : n ≤ 1000) : Kd.R (Kd.int .u8) 5 (w.alloc (.cells (zeros n) 5)) w.heap.size (fun k => k = w.heap.size) (.slice (some ⟨w.heap.size, 0, none⟩) 0 n) [] := by
  refine Kd.R_of_own ⟨by simp [encs], .inr ⟨w.heap.size, n, zeros n, rfl, Nat.le_refl _, ?_, Nat.zero_le _, ?_, ?_, ?_⟩⟩ ?_
  · exact heap_alloc_new _ _
  · unfold maxLen; omega
  · show _ = n * 1
    rw [zeros, size_madeCells, Nat.mul_one]
  · simp [encs]
  · intro k hk; simp [Value.ownBlock] at hk; exact hk.symm

/-- lay, given a row of new zeros: what it hands back is of the call's own memory. -/
theorem lay32_zeros (xs : List Int) (n : Nat) (hx : xs.length = n) (A : Option Addr) (r : List Int) (k N : Nat) (sz : Int) (hr : sha_lay_uint32.f k [] xs sz = some r) (w W : World) (hC : Kd.C (Kd.int .u32) w A n xs)
    (hO : Kd.R (Kd.int .u8) 5 W w.heap.size (fun k => k = w.heap.size) (.slice (some ⟨w.heap.size, 0, none⟩) 0 N) []) (hB : Below w.heap.size w W) :
    Calls Tryd.prog 98 #[.slice (some ⟨w.heap.size, 0, none⟩) 0 N, .slice A n n, .int .i64 sz] W fun e w' => ∃ v, e = .returned v ∧ Kd.R (Kd.int .u8) 5 w' w.heap.size (fun _ => True) v r ∧ Below w.heap.size w w' := by
  subst hx
  refine (sha_lay_uint32.calls k (fun b => b = w.heap.size) _ [] A xs.length xs sz r w _ hB hO ?_ (Nat.le_refl _) hr).mono ?_
  · exact Kd.C_kept_came (Kd.heap_int .u32) hC hB (fun k hk => by rw [hk]; exact Nat.le_refl _)
  · rintro e w' ⟨v, rfl, h1, h2, _⟩
    exact ⟨v, rfl, Kd.R_mono h1 (fun _ _ => trivial), h2⟩
theorem lay64_zeros (xs : List Int) (n : Nat) (hx : xs.length = n) (A : Option Addr) (r : List Int) (k N : Nat) (sz : Int) (hr : sha_lay_uint64.f k [] xs sz = some r) (w W : World) (hC : Kd.C (Kd.int .u64) w A n xs)
    (hO : Kd.R (Kd.int .u8) 5 W w.heap.size (fun k => k = w.heap.size) (.slice (some ⟨w.heap.size, 0, none⟩) 0 N) []) (hB : Below w.heap.size w W) :
    Calls Tryd.prog 99 #[.slice (some ⟨w.heap.size, 0, none⟩) 0 N, .slice A n n, .int .i64 sz] W fun e w' => ∃ v, e = .returned v ∧ Kd.R (Kd.int .u8) 5 w' w.heap.size (fun _ => True) v r ∧ Below w.heap.size w w' := by
  subst hx
  refine (sha_lay_uint64.calls k (fun b => b = w.heap.size) _ [] A xs.length xs sz r w _ hB hO ?_ (Nat.le_refl _) hr).mono ?_
  · exact Kd.C_kept_came (Kd.heap_int .u64) hC hB (fun k hk => by rw [hk]; exact Nat.le_refl _)
  · rintro e w' ⟨v, rfl, h1, h2, _⟩
    exact ⟨v, rfl, Kd.R_mono h1 (fun _ _ => trivial), h2⟩

end Go.Proofs.YtjcmgpiapbeodaaDoor.Wk
