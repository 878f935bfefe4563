/-
  Words: what the program's operations on uint32 and uint64 reckon, told on bit vectors; the walk of turn.
-/
import Derived.Test.YtjcfnflkiialbaaDoorMem
import Derived.Test.YtjcfnflkiialbaaDoorProg
import Derived.KernelRfl
import Derived.Deep.QuietTactic
import Derived.BigQuiet
namespace Go.Proofs.YtjcfnflkiialbaaDoor.Sha
open Go.RowKit Go.Proofs.YtjcfnflkiialbaaDoor.Mem
/-- a word of 32 or 64 bits as the model holds it -/
def u32 (x : BitVec 32) : Value := .int .u32 (x.toNat : Int)
def u64 (x : BitVec 64) : Value := .int .u64 (x.toNat : Int)
/-- turned to the right by n -/
def rot {w : Nat} (x : BitVec w) (n : Nat) : BitVec w := x >>> n ||| x <<< (w - n)
theorem wrap32u (n : Int) : IntKind.u32.wrap n = n % 4294967296 := IntKind.wrap_u32 n
theorem wrap64u (n : Int) : IntKind.u64.wrap n = n % 18446744073709551616 := by simp [IntKind.wrap, IntKind.bits, IntKind.signed]
theorem ofInt_toNat32 (x : BitVec 32) : BitVec.ofInt 32 (x.toNat : Int) = x := by
  apply BitVec.eq_of_toNat_eq; rw [BitVec.toNat_ofInt]; have := x.isLt; omega
theorem ofInt_toNat64 (x : BitVec 64) : BitVec.ofInt 64 (x.toNat : Int) = x := by
  apply BitVec.eq_of_toNat_eq; rw [BitVec.toNat_ofInt]; have := x.isLt; omega
theorem w32 (x : BitVec 32) : IntKind.u32.wrap (x.toNat : Int) = (x.toNat : Int) := by rw [wrap32u]; have := x.isLt; omega
theorem w64 (x : BitVec 64) : IntKind.u64.wrap (x.toNat : Int) = (x.toNat : Int) := by rw [wrap64u]; have := x.isLt; omega
theorem or32 (x y : BitVec 32) : bits .or .u32 (x.toNat : Int) (y.toNat : Int) = ((x ||| y).toNat : Int) := by
  show IntKind.u32.wrap ((BitVec.ofInt 32 _ ||| BitVec.ofInt 32 _).toNat : Nat) = _
  rw [ofInt_toNat32, ofInt_toNat32, w32]
theorem and32 (x y : BitVec 32) : bits .and .u32 (x.toNat : Int) (y.toNat : Int) = ((x &&& y).toNat : Int) := by
  show IntKind.u32.wrap ((BitVec.ofInt 32 _ &&& BitVec.ofInt 32 _).toNat : Nat) = _
  rw [ofInt_toNat32, ofInt_toNat32, w32]
theorem xor32 (x y : BitVec 32) : bits .xor .u32 (x.toNat : Int) (y.toNat : Int) = ((x ^^^ y).toNat : Int) := by
  show IntKind.u32.wrap ((BitVec.ofInt 32 _ ^^^ BitVec.ofInt 32 _).toNat : Nat) = _
  rw [ofInt_toNat32, ofInt_toNat32, w32]
theorem or64 (x y : BitVec 64) : bits .or .u64 (x.toNat : Int) (y.toNat : Int) = ((x ||| y).toNat : Int) := by
  show IntKind.u64.wrap ((BitVec.ofInt 64 _ ||| BitVec.ofInt 64 _).toNat : Nat) = _
  rw [ofInt_toNat64, ofInt_toNat64, w64]
theorem and64 (x y : BitVec 64) : bits .and .u64 (x.toNat : Int) (y.toNat : Int) = ((x &&& y).toNat : Int) := by
  show IntKind.u64.wrap ((BitVec.ofInt 64 _ &&& BitVec.ofInt 64 _).toNat : Nat) = _
  rw [ofInt_toNat64, ofInt_toNat64, w64]
theorem xor64 (x y : BitVec 64) : bits .xor .u64 (x.toNat : Int) (y.toNat : Int) = ((x ^^^ y).toNat : Int) := by
  show IntKind.u64.wrap ((BitVec.ofInt 64 _ ^^^ BitVec.ofInt 64 _).toNat : Nat) = _
  rw [ofInt_toNat64, ofInt_toNat64, w64]
theorem add32 (x y : BitVec 32) : IntKind.u32.wrap ((x.toNat : Int) + (y.toNat : Int)) = ((x + y).toNat : Int) := by
  rw [wrap32u, BitVec.toNat_add]; omega
theorem add64 (x y : BitVec 64) : IntKind.u64.wrap ((x.toNat : Int) + (y.toNat : Int)) = ((x + y).toNat : Int) := by
  rw [wrap64u, BitVec.toNat_add]; omega
theorem shr_nat {w : Nat} (x : BitVec w) (n : Nat) : (x.toNat : Int) / 2 ^ n = ((x >>> n).toNat : Int) := by
  rw [BitVec.toNat_ushiftRight, Nat.shiftRight_eq_div_pow, Int.natCast_ediv, Int.natCast_pow]; rfl
theorem shl32 (x : BitVec 32) (n : Nat) : IntKind.u32.wrap ((x.toNat : Int) * 2 ^ n) = ((x <<< n).toNat : Int) := by
  rw [wrap32u, BitVec.toNat_shiftLeft, Nat.shiftLeft_eq, Int.natCast_emod, Int.natCast_mul, Int.natCast_pow]; rfl
theorem shl64 (x : BitVec 64) (n : Nat) : IntKind.u64.wrap ((x.toNat : Int) * 2 ^ n) = ((x <<< n).toNat : Int) := by
  rw [wrap64u, BitVec.toNat_shiftLeft, Nat.shiftLeft_eq, Int.natCast_emod, Int.natCast_mul, Int.natCast_pow]; rfl
theorem rot32 (x : BitVec 32) (n : Nat) : bits .or .u32 ((x.toNat : Int) / 2 ^ n) (IntKind.u32.wrap ((x.toNat : Int) * 2 ^ (32 - n))) = ((rot x n).toNat : Int) := by
  rw [shr_nat, shl32, or32]; rfl
theorem rot64 (x : BitVec 64) (n : Nat) : bits .or .u64 ((x.toNat : Int) / 2 ^ n) (IntKind.u64.wrap ((x.toNat : Int) * 2 ^ (64 - n))) = ((rot x n).toNat : Int) := by
  rw [shr_nat, shl64, or64]; rfl
theorem turn32_calls (x : BitVec 32) (n : Nat) (hn : n ≤ 32) (w : World) :
    Calls Tryd.prog 74 #[u32 x, .int .i64 n, .int .i64 32] w fun e w' => e = .returned (u32 (rot x n)) ∧ ∃ m, w' = w.drewN m := by
  have H := Kp.mk (rot32 x n)
  unfold u32
  obtain ⟨X, hX⟩ : ∃ X : Int, X = (x.toNat : Int) := ⟨_, rfl⟩
  rw [← hX] at H ⊢
  clear hX
  have hs : ((32 : Int) - (n : Int)).toNat = 32 - n := by omega
  go_enter Tryd.func74, Tryd.ntmps74
  go_wp2
  go_quiet (fail)
  go_wp2
  go_ret
  exact ⟨by rw [← H.out]; first | rfl | (rw [wrap32u]; rfl), _, rfl⟩
theorem turn64_calls (x : BitVec 64) (n : Nat) (hn : n ≤ 64) (w : World) :
    Calls Tryd.prog 75 #[u64 x, .int .i64 n, .int .i64 64] w fun e w' => e = .returned (u64 (rot x n)) ∧ ∃ m, w' = w.drewN m := by
  have H := Kp.mk (rot64 x n)
  unfold u64
  obtain ⟨X, hX⟩ : ∃ X : Int, X = (x.toNat : Int) := ⟨_, rfl⟩
  rw [← hX] at H ⊢
  clear hX
  have hs : ((64 : Int) - (n : Int)).toNat = 64 - n := by omega
  go_enter Tryd.func75, Tryd.ntmps75
  go_wp2
  go_quiet (fail)
  go_wp2
  go_ret
  exact ⟨by rw [← H.out]; first | rfl | (rw [wrap32u]; rfl), _, rfl⟩
end Go.Proofs.YtjcfnflkiialbaaDoor.Sha
