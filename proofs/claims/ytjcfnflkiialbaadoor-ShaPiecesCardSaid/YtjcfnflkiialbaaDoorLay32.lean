/-
  lay for words of 32 bits, over numbers alone: the bytes of the words, the highest first, behind what was there.
-/
import Derived.Test.YtjcfnflkiialbaaDoorPShaConstantsx1
import Derived.Test.YtjcfnflkiialbaaDoorShaState
namespace Go.Proofs.YtjcfnflkiialbaaDoor.Sha.Y32
open Go.RowKit Go.Proofs.YtjcfnflkiialbaaDoor.Mem Go.Proofs.YtjcfnflkiialbaaDoor.PShaConstants Go.Proofs.YtjcfnflkiialbaaDoorW.PrintWords Go.Proofs.YtjcfnflkiialbaaDoorW.PrintLast Go.Proofs.YtjcfnflkiialbaaDoorW.PrintMore
def nats (xs : List (BitVec 32)) : List Int := xs.map fun x => (x.toNat : Int)
theorem l1_step (k : Nat) (out : List Int) (s X : Int) (xs : List Int) (len i : Int) (j : Nat) (hj : j ≤ 7) (h : out.length < 140737488355328) :
    sha_lay_uint32.l1 (k + 1) out s X (j : Int) xs len i = sha_lay_uint32.l1 k (out ++ [shr .u32 X (8 * (j : Int)) % 256]) s X ((j : Int) - 1) xs len i := by
  have e1 : wrap64 (8 * (j : Int)) = 8 * (j : Int) := by unfold wrap64; omega
  have e2 : wrap64 ((j : Int) - 1) = (j : Int) - 1 := by unfold wrap64; omega
  rw [sha_lay_uint32.l1, if_pos (by omega), e1, if_pos (by omega), if_pos h, e2]
theorem l1_end (k : Nat) (out : List Int) (s X : Int) (xs : List Int) (len i : Int) : sha_lay_uint32.l1 (k + 1) out s X (-1) xs len i = sha_lay_uint32.l0 k out s xs len (wrap64 (i + 1)) := by
  rw [sha_lay_uint32.l1, if_neg (by omega)]
theorem l1_all (x : BitVec 32) (out : List Int) (c : Nat) (xs : List Int) (len i : Int) (h : out.length + 4 < 140737488355328) :
    sha_lay_uint32.l1 (c + 4 + 1) out 4 (x.toNat : Int) (4 - 1) xs len i = sha_lay_uint32.l0 c (out ++ layWord x 4) 4 xs len (wrap64 (i + 1)) := by
  have e : layWord x 4 = [shr .u32 (x.toNat : Int) 24 % 256, shr .u32 (x.toNat : Int) 16 % 256, shr .u32 (x.toNat : Int) 8 % 256, shr .u32 (x.toNat : Int) 0 % 256] := by
    simp [layWord, List.range_succ, List.range_zero, shr, IntKind.bits, BitVec.toNat_ushiftRight, Nat.shiftRight_eq_div_pow]
  rw [e]
  refine (l1_step _ _ _ _ _ _ _ 3 (by omega) (by (try simp only [List.length_append, List.length_cons, List.length_nil]); omega)).trans ?_
  refine (l1_step _ _ _ _ _ _ _ 2 (by omega) (by (try simp only [List.length_append, List.length_cons, List.length_nil]); omega)).trans ?_
  refine (l1_step _ _ _ _ _ _ _ 1 (by omega) (by (try simp only [List.length_append, List.length_cons, List.length_nil]); omega)).trans ?_
  refine (l1_step _ _ _ _ _ _ _ 0 (by omega) (by (try simp only [List.length_append, List.length_cons, List.length_nil]); omega)).trans ?_
  refine (l1_end _ _ _ _ _ _ _).trans ?_
  simp [List.append_assoc]
theorem nats_get (xs : List (BitVec 32)) (i : Nat) (h : i < xs.length) : rd (nats xs) (i : Int) = ((xs[i].toNat : Nat) : Int) := by
  simp [rd, nats, h]
theorem l0_all (xs : List (BitVec 32)) (hx : xs.length < 1000) : ∀ (n i : Nat) (out : List Int), i + n = xs.length → out.length + 4 * n < 140737488355328 →
    sha_lay_uint32.l0 ((4 + 2) * n + 1) out 4 (nats xs) (xs.length : Int) (i : Int) = some (out ++ (xs.drop i).flatMap fun x => layWord x 4)
  | 0, i, out, hi, _ => by
    rw [sha_lay_uint32.l0, if_neg (by omega), List.drop_eq_nil_of_le (by omega)]
    simp
  | n + 1, i, out, hi, ho => by
    have hlt : i < xs.length := by omega
    rw [show (4 + 2) * (n + 1) + 1 = (((4 + 2) * n + 1) + 4 + 1) + 1 by omega, sha_lay_uint32.l0, if_pos (by omega), if_pos (by omega), if_pos (by simp [nats]; omega),
      nats_get xs i hlt, show wrap64 ((4 : Int) - 1) = 4 - 1 from by unfold wrap64; decide, l1_all _ _ _ _ _ _ (by omega), show wrap64 ((i : Int) + 1) = ((i + 1 : Nat) : Int) from by unfold wrap64; omega,
      l0_all xs hx n (i + 1) _ (by omega) (by simp [layWord]; omega), List.drop_eq_getElem_cons hlt, List.flatMap_cons, List.append_assoc]
theorem f_is (xs : List (BitVec 32)) (hx : xs.length < 1000) (out : List Int) (ho : out.length < 1000000) : sha_lay_uint32.f ((4 + 2) * xs.length + 1) out (nats xs) 4 = some (out ++ xs.flatMap fun x => layWord x 4) := by
  have h := l0_all xs hx xs.length 0 out (by omega) (by omega)
  unfold sha_lay_uint32.f
  rw [show ((nats xs).length : Int) = (xs.length : Int) by simp [nats]]
  exact h
end Go.Proofs.YtjcfnflkiialbaaDoor.Sha.Y32
