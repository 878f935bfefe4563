/-
  Memory, block by block: what a block holds, which blocks a call may have written, and how both go over each step of a walk. Plain facts on worlds; no program. Words: what the program's operations on uint32 and uint64 reckon, told on bit vectors; the walk of turn. SHA-2 on bit vectors, by the definition, for words of either width: schedule, rounds, blocks, padding. Plain; no program, no memory. SHA-2 over bytes: words of bytes, blocks one behind another, the padding; what a digest holds and what each call makes of it. Plain; no program, no memory.
-/
import Derived.WalkKit
import Derived.Below
import Derived.Deep.Draws
import Derived.OneCell
import Derived.Laws.MakeOwn
import Derived.Laws.OwnMore
import Derived.Test.YtjcmgpiapbeodaaDoorProg
import Derived.KernelRfl
import Derived.Deep.QuietTactic
import Derived.BigQuiet
namespace Go.Proofs.YtjcmgpiapbeodaaDoor.Mem
open Go.RowKit

/-- A fact that the walk's simp does not look into. -/
structure Kp (p : Prop) : Prop where mk :: (out : p)

/-- Block b holds just these cells, of element type e, none of them frozen. -/
def Blk (w : World) (b : Nat) (e : TypeId) (vs : List Value) : Prop := w.heap[b]? = some (.cells vs.toArray e (0, 0))
/-- w' is w but for the blocks of S, and for new ones. -/
structure Fr (S : Nat → Prop) (w w' : World) : Prop where
  os : w'.os = w.os
  tape : w'.tape = w.tape
  output : w'.output = w.output
  size : w.heap.size ≤ w'.heap.size
  block : ∀ k, k < w.heap.size → ¬ S k → w'.heap[k]? = w.heap[k]?

section
variable {w w1 w2 : World} {b c : Nat} {e : TypeId} {vs : List Value} {S S' : Nat → Prop}
theorem Blk.lt (h : Blk w b e vs) : b < w.heap.size := by
  rcases Nat.lt_or_ge b w.heap.size with h' | h'
  · exact h'
  · unfold Blk at h; rw [Array.getElem?_eq_none h'] at h; cases h
theorem Blk.cell? (h : Blk w b e vs) (i : Nat) : w.cell? ⟨b, i, none⟩ = vs[i]? := by
  unfold Blk at h
  simp [World.cell?, h]
theorem Blk.cell (h : Blk w b e vs) (i : Nat) (v : Value) (hv : vs[i]? = some v) : w.cell? ⟨b, i, none⟩ = some v := (h.cell? i).trans hv
theorem Blk.free (h : Blk w b e vs) (i : Nat) : w.frozen? ⟨b, i, none⟩ = false := by
  unfold Blk at h
  simp [World.frozen?, h]
theorem Blk.inj (h : Blk w b e vs) {vs' : List Value} {e' : TypeId} (h' : Blk w b e' vs') : e = e' ∧ vs = vs' := by
  unfold Blk at h h'
  have := h.symm.trans h'
  simp only [Option.some.injEq, Obj.cells.injEq] at this
  obtain ⟨h1, h2, _⟩ := this
  exact ⟨h2, by simpa using h1⟩
theorem Blk.new (w : World) (cs : Array Value) (e : TypeId) : Blk (w.alloc (.cells cs e)) w.heap.size e cs.toList := by
  show (w.heap.push _)[w.heap.size]? = _
  rw [Array.getElem?_push, if_pos rfl]
theorem Blk.new' (w : World) (cs : Array Value) (e : TypeId) {n : Nat} (hn : n = w.heap.size) : Blk (w.alloc (.cells cs e)) n e cs.toList := by subst hn; exact Blk.new w cs e
theorem Blk.alloc (h : Blk w b e vs) (o : Obj) : Blk (w.alloc o) b e vs := by
  show (w.heap.push o)[b]? = _
  rw [Array.getElem?_push, if_neg (by have := h.lt; omega)]
  exact h
theorem Blk.drew (h : Blk w b e vs) : Blk w.drew b e vs := h
theorem Blk.drewN (h : Blk w b e vs) (n : Nat) : Blk (w.drewN n) b e vs := h
theorem Blk.set (h : Blk w b e vs) (i : Nat) (v : Value) : Blk (w.setCell ⟨b, i, none⟩ v) b e (vs.set i v) := by
  unfold Blk at h ⊢
  simp [World.setCell, Array.getElem?_modify, h]
theorem Blk.set_ne (h : Blk w b e vs) {a : Addr} (hc : a.block ≠ b) (v : Value) : Blk (w.setCell a v) b e vs := by
  unfold Blk at h ⊢
  rw [Below.heap_setCell _ _ _ _ (Ne.symm hc)]
  exact h
theorem Blk.fr (h : Blk w b e vs) (hf : Fr S w w1) (hb : ¬ S b) : Blk w1 b e vs := (hf.block b h.lt hb).trans h
theorem Blk.below (h : Blk w b e vs) (hf : Below w.heap.size w w1) : Blk w1 b e vs := (hf.block b h.lt).trans h

theorem Fr.refl (S : Nat → Prop) (w : World) : Fr S w w := ⟨rfl, rfl, rfl, Nat.le_refl _, fun _ _ _ => rfl⟩
theorem Fr.mono (h : Fr S w w1) (hs : ∀ k, k < w.heap.size → S k → S' k) : Fr S' w w1 := ⟨h.os, h.tape, h.output, h.size, fun k hk hn => h.block k hk (fun hS => hn (hs k hk hS))⟩
theorem Fr.trans (h : Fr S w w1) (k : Fr S' w1 w2) (hs : ∀ k, k < w.heap.size → S' k → S k) : Fr S w w2 :=
  ⟨k.os.trans h.os, k.tape.trans h.tape, k.output.trans h.output, Nat.le_trans h.size k.size,
    fun i hi hn => (k.block i (Nat.lt_of_lt_of_le hi h.size) (fun hS => hn (hs i hi hS))).trans (h.block i hi hn)⟩
theorem Fr.alloc (h : Fr S w w1) (o : Obj) : Fr S w (w1.alloc o) :=
  h.trans (S' := fun _ => False) ⟨rfl, rfl, rfl, by simp, fun k hk _ => Below.heap_alloc _ _ _ hk⟩ (fun _ _ hk => hk.elim)
theorem Fr.drew (h : Fr S w w1) : Fr S w w1.drew := ⟨h.os, h.tape, h.output, h.size, h.block⟩
theorem Fr.drewN (h : Fr S w w1) (n : Nat) : Fr S w (w1.drewN n) := ⟨h.os, h.tape, h.output, h.size, h.block⟩
theorem Fr.set (h : Fr S w w1) {a : Addr} (hb : a.block < w.heap.size → S a.block) (v : Value) : Fr S w (w1.setCell a v) :=
  h.trans (S' := fun k => k = a.block) ⟨rfl, rfl, rfl, by simp [World.setCell], fun k _ hn => Below.heap_setCell _ _ _ _ hn⟩ (fun k hk he => by subst he; exact hb hk)
theorem Fr.of_below (h : Below w.heap.size w w1) (S : Nat → Prop) : Fr S w w1 := ⟨h.os, h.tape, h.output, h.size, fun k hk _ => h.block k hk⟩
theorem Fr.below (h : Fr S w w1) (hs : ∀ k, k < w.heap.size → ¬ S k) : Below w.heap.size w w1 := ⟨h.os, h.tape, h.output, h.size, fun k hk => h.block k hk (hs k hk)⟩
theorem Fr.then_below (h : Fr S w w1) (k : Below w1.heap.size w1 w2) : Fr S w w2 := h.trans (Fr.of_below k (fun _ => False)) (fun _ _ hk => hk.elim)
theorem Fr.grown {row : Option Nat} (h : Fr S w w1) (hg : w1.grownBy w2 row) (hs : ∀ k, k < w.heap.size → row = some k → S k) : Fr S w w2 :=
  h.trans (S' := fun k => row = some k) ⟨hg.os, hg.tape, hg.output, hg.size, fun k hk hn => hg.block k hk (fun e => hn e.symm)⟩ hs
theorem Fr.block_cell (h : Fr (fun _ => False) w w1) {a : Addr} (ha : a.block < w.heap.size) : w1.cell? a = w.cell? a := World.cell?_of_block (h.block a.block ha (fun x => x))
/-- a block that was not there when the call began is none of the old ones -/
theorem Fr.lt (h : Fr S w w1) {k : Nat} (hk : k < w.heap.size) : k < w1.heap.size := Nat.lt_of_lt_of_le hk h.size
end
end Go.Proofs.YtjcmgpiapbeodaaDoor.Mem
namespace Go.Proofs.YtjcmgpiapbeodaaDoor.Sha
open Go.RowKit Go.Proofs.YtjcmgpiapbeodaaDoor.Mem
/-- a word of 32 or 64 bits as the model holds it -/
def u32 (x : BitVec 32) : Value := .int .u32 (x.toNat : Int)
def u64 (x : BitVec 64) : Value := .int .u64 (x.toNat : Int)
/-- turned to the right by n -/
def rot {w : Nat} (x : BitVec w) (n : Nat) : BitVec w := x >>> n ||| x <<< (w - n)
theorem wrap32u (n : Int) : IntKind.u32.wrap n = n % 4294967296 := IntKind.wrap_u32 n
theorem wrap64u (n : Int) : IntKind.u64.wrap n = n % 18446744073709551616 := by simp [IntKind.wrap, IntKind.bits, IntKind.signed]
theorem ofInt_toNat32 (x : BitVec 32) : BitVec.ofInt 32 (x.toNat : Int) = x := by
  apply BitVec.eq_of_toNat_eq; rw [BitVec.toNat_ofInt]; have := x.isLt; omega
theorem ofInt_toNat64 (x : BitVec 64) : BitVec.ofInt 64 (x.toNat : Int) = x := by
  apply BitVec.eq_of_toNat_eq; rw [BitVec.toNat_ofInt]; have := x.isLt; omega
theorem w32 (x : BitVec 32) : IntKind.u32.wrap (x.toNat : Int) = (x.toNat : Int) := by rw [wrap32u]; have := x.isLt; omega
theorem w64 (x : BitVec 64) : IntKind.u64.wrap (x.toNat : Int) = (x.toNat : Int) := by rw [wrap64u]; have := x.isLt; omega
theorem or32 (x y : BitVec 32) : bits .or .u32 (x.toNat : Int) (y.toNat : Int) = ((x ||| y).toNat : Int) := by
  show IntKind.u32.wrap ((BitVec.ofInt 32 _ ||| BitVec.ofInt 32 _).toNat : Nat) = _
  rw [ofInt_toNat32, ofInt_toNat32, w32]
theorem and32 (x y : BitVec 32) : bits .and .u32 (x.toNat : Int) (y.toNat : Int) = ((x &&& y).toNat : Int) := by
  show IntKind.u32.wrap ((BitVec.ofInt 32 _ &&& BitVec.ofInt 32 _).toNat : Nat) = _
  rw [ofInt_toNat32, ofInt_toNat32, w32]
theorem xor32 (x y : BitVec 32) : bits .xor .u32 (x.toNat : Int) (y.toNat : Int) = ((x ^^^ y).toNat : Int) := by
  show IntKind.u32.wrap ((BitVec.ofInt 32 _ ^^^ BitVec.ofInt 32 _).toNat : Nat) = _
  rw [ofInt_toNat32, ofInt_toNat32, w32]
theorem or64 (x y : BitVec 64) : bits .or .u64 (x.toNat : Int) (y.toNat : Int) = ((x ||| y).toNat : Int) := by
  show IntKind.u64.wrap ((BitVec.ofInt 64 _ ||| BitVec.ofInt 64 _).toNat : Nat) = _
  rw [ofInt_toNat64, ofInt_toNat64, w64]
theorem and64 (x y : BitVec 64) : bits .and .u64 (x.toNat : Int) (y.toNat : Int) = ((x &&& y).toNat : Int) := by
  show IntKind.u64.wrap ((BitVec.ofInt 64 _ &&& BitVec.ofInt 64 _).toNat : Nat) = _
  rw [ofInt_toNat64, ofInt_toNat64, w64]
theorem xor64 (x y : BitVec 64) : bits .xor .u64 (x.toNat : Int) (y.toNat : Int) = ((x ^^^ y).toNat : Int) := by
  show IntKind.u64.wrap ((BitVec.ofInt 64 _ ^^^ BitVec.ofInt 64 _).toNat : Nat) = _
  rw [ofInt_toNat64, ofInt_toNat64, w64]
theorem add32 (x y : BitVec 32) : IntKind.u32.wrap ((x.toNat : Int) + (y.toNat : Int)) = ((x + y).toNat : Int) := by
  rw [wrap32u, BitVec.toNat_add]; omega
theorem add64 (x y : BitVec 64) : IntKind.u64.wrap ((x.toNat : Int) + (y.toNat : Int)) = ((x + y).toNat : Int) := by
  rw [wrap64u, BitVec.toNat_add]; omega
theorem shr_nat {w : Nat} (x : BitVec w) (n : Nat) : (x.toNat : Int) / 2 ^ n = ((x >>> n).toNat : Int) := by
  rw [BitVec.toNat_ushiftRight, Nat.shiftRight_eq_div_pow, Int.natCast_ediv, Int.natCast_pow]; rfl
theorem shl32 (x : BitVec 32) (n : Nat) : IntKind.u32.wrap ((x.toNat : Int) * 2 ^ n) = ((x <<< n).toNat : Int) := by
  rw [wrap32u, BitVec.toNat_shiftLeft, Nat.shiftLeft_eq, Int.natCast_emod, Int.natCast_mul, Int.natCast_pow]; rfl
theorem shl64 (x : BitVec 64) (n : Nat) : IntKind.u64.wrap ((x.toNat : Int) * 2 ^ n) = ((x <<< n).toNat : Int) := by
  rw [wrap64u, BitVec.toNat_shiftLeft, Nat.shiftLeft_eq, Int.natCast_emod, Int.natCast_mul, Int.natCast_pow]; rfl
theorem rot32 (x : BitVec 32) (n : Nat) : bits .or .u32 ((x.toNat : Int) / 2 ^ n) (IntKind.u32.wrap ((x.toNat : Int) * 2 ^ (32 - n))) = ((rot x n).toNat : Int) := by
  rw [shr_nat, shl32, or32]; rfl
theorem rot64 (x : BitVec 64) (n : Nat) : bits .or .u64 ((x.toNat : Int) / 2 ^ n) (IntKind.u64.wrap ((x.toNat : Int) * 2 ^ (64 - n))) = ((rot x n).toNat : Int) := by
  rw [shr_nat, shl64, or64]; rfl
theorem turn32_calls (x : BitVec 32) (n : Nat) (hn : n ≤ 32) (w : World) :
    Calls Tryd.prog 113 #[u32 x, .int .i64 n, .int .i64 32] w fun e w' => e = .returned (u32 (rot x n)) ∧ ∃ m, w' = w.drewN m := by
  have H := Kp.mk (rot32 x n)
  unfold u32
  obtain ⟨X, hX⟩ : ∃ X : Int, X = (x.toNat : Int) := ⟨_, rfl⟩
  rw [← hX] at H ⊢
  clear hX
  have hs : ((32 : Int) - (n : Int)).toNat = 32 - n := by omega
  go_enter Tryd.func113, Tryd.ntmps113
  go_wp2
  go_quiet (fail)
  go_wp2
  go_ret
  exact ⟨by rw [← H.out]; first | rfl | (rw [wrap32u]; rfl), _, rfl⟩
theorem turn64_calls (x : BitVec 64) (n : Nat) (hn : n ≤ 64) (w : World) :
    Calls Tryd.prog 114 #[u64 x, .int .i64 n, .int .i64 64] w fun e w' => e = .returned (u64 (rot x n)) ∧ ∃ m, w' = w.drewN m := by
  have H := Kp.mk (rot64 x n)
  unfold u64
  obtain ⟨X, hX⟩ : ∃ X : Int, X = (x.toNat : Int) := ⟨_, rfl⟩
  rw [← hX] at H ⊢
  clear hX
  have hs : ((64 : Int) - (n : Int)).toNat = 64 - n := by omega
  go_enter Tryd.func114, Tryd.ntmps114
  go_wp2
  go_quiet (fail)
  go_wp2
  go_ret
  exact ⟨by rw [← H.out]; first | rfl | (rw [wrap32u]; rfl), _, rfl⟩
end Go.Proofs.YtjcmgpiapbeodaaDoor.Sha
namespace Go.Proofs.YtjcmgpiapbeodaaDoor.Sha
/-- how far the words are turned: the two great mixtures, the two small ones (whose last is a shift) -/
structure Turns where
  (a0 a1 a2 e0 e1 e2 s0 s1 s2 t0 t1 t2 : Nat)
def turns32 : Turns := ⟨2, 13, 22, 6, 11, 25, 7, 18, 3, 17, 19, 10⟩
def turns64 : Turns := ⟨28, 34, 39, 14, 18, 41, 1, 8, 7, 19, 61, 6⟩
section
variable {w : Nat} (T : Turns)
def small0 (x : BitVec w) : BitVec w := rot x T.s0 ^^^ rot x T.s1 ^^^ x >>> T.s2
def small1 (x : BitVec w) : BitVec w := rot x T.t0 ^^^ rot x T.t1 ^^^ x >>> T.t2
def great0 (x : BitVec w) : BitVec w := rot x T.a0 ^^^ rot x T.a1 ^^^ rot x T.a2
def great1 (x : BitVec w) : BitVec w := rot x T.e0 ^^^ rot x T.e1 ^^^ rot x T.e2
/-- the next word of the schedule -/
def nextWord (l : List (BitVec w)) : BitVec w :=
  l.getD (l.length - 16) 0 + small0 T (l.getD (l.length - 15) 0) + l.getD (l.length - 7) 0 + small1 T (l.getD (l.length - 2) 0)
def sched (l : List (BitVec w)) : Nat → List (BitVec w)
  | 0 => l
  | n + 1 => let m := sched l n; m ++ [nextWord T m]
/-- the eight words between rounds -/
structure Eight (w : Nat) where
  (a b c d e f g h : BitVec w)
def Eight.list (v : Eight w) : List (BitVec w) := [v.a, v.b, v.c, v.d, v.e, v.f, v.g, v.h]
def round (v : Eight w) (k x : BitVec w) : Eight w :=
  let one := v.h + great1 T v.e + (v.e &&& v.f ^^^ ~~~v.e &&& v.g) + k + x
  let two := great0 T v.a + (v.a &&& v.b ^^^ v.a &&& v.c ^^^ v.b &&& v.c)
  ⟨one + two, v.a, v.b, v.c, v.d + one, v.e, v.f, v.g⟩
def rounds (v : Eight w) (K S : List (BitVec w)) : Nat → Eight w
  | 0 => v
  | n + 1 => round T (rounds v K S n) (K.getD n 0) (S.getD n 0)
def Eight.add (v u : Eight w) : Eight w := ⟨v.a + u.a, v.b + u.b, v.c + u.c, v.d + u.d, v.e + u.e, v.f + u.f, v.g + u.g, v.h + u.h⟩
/-- one block, its words given -/
def block (K : List (BitVec w)) (v : Eight w) (ws : List (BitVec w)) : Eight w := v.add (rounds T v K (sched T ws (K.length - 16)) K.length)
end
theorem sched_length {w : Nat} (T : Turns) (l : List (BitVec w)) : ∀ n, (sched T l n).length = l.length + n
  | 0 => rfl
  | n + 1 => by simp only [sched, List.length_append, List.length_singleton, sched_length T l n]; omega
end Go.Proofs.YtjcmgpiapbeodaaDoor.Sha
namespace Go.Proofs.YtjcmgpiapbeodaaDoor.Sha
/-- the word of bytes, the highest first -/
def wordAt {w : Nat} (l : List Int) : BitVec w := l.foldl (fun x b => x <<< 8 ||| BitVec.ofInt w b) 0
def wordsOf {w : Nat} (sz : Nat) (l : List Int) (n : Nat) : List (BitVec w) := (List.range n).map fun i => wordAt ((l.drop (i * sz)).take sz)
/-- the bytes of a word, the highest first -/
def layWord {w : Nat} (x : BitVec w) (sz : Nat) : List Int := (List.range sz).map fun i => (((x >>> (8 * (sz - 1 - i))).toNat % 256 : Nat) : Int)
def K256 : List (BitVec 32) := [0x428a2f98#32, 0x71374491#32, 0xb5c0fbcf#32, 0xe9b5dba5#32, 0x3956c25b#32, 0x59f111f1#32, 0x923f82a4#32, 0xab1c5ed5#32, 0xd807aa98#32, 0x12835b01#32, 0x243185be#32, 0x550c7dc3#32, 0x72be5d74#32, 0x80deb1fe#32, 0x9bdc06a7#32, 0xc19bf174#32, 0xe49b69c1#32, 0xefbe4786#32, 0x0fc19dc6#32, 0x240ca1cc#32, 0x2de92c6f#32, 0x4a7484aa#32, 0x5cb0a9dc#32, 0x76f988da#32, 0x983e5152#32, 0xa831c66d#32, 0xb00327c8#32, 0xbf597fc7#32, 0xc6e00bf3#32, 0xd5a79147#32, 0x06ca6351#32, 0x14292967#32, 0x27b70a85#32, 0x2e1b2138#32, 0x4d2c6dfc#32, 0x53380d13#32, 0x650a7354#32, 0x766a0abb#32, 0x81c2c92e#32, 0x92722c85#32, 0xa2bfe8a1#32, 0xa81a664b#32, 0xc24b8b70#32, 0xc76c51a3#32, 0xd192e819#32, 0xd6990624#32, 0xf40e3585#32, 0x106aa070#32, 0x19a4c116#32, 0x1e376c08#32, 0x2748774c#32, 0x34b0bcb5#32, 0x391c0cb3#32, 0x4ed8aa4a#32, 0x5b9cca4f#32, 0x682e6ff3#32, 0x748f82ee#32, 0x78a5636f#32, 0x84c87814#32, 0x8cc70208#32, 0x90befffa#32, 0xa4506ceb#32, 0xbef9a3f7#32, 0xc67178f2#32]
def K512 : List (BitVec 64) := [0x428a2f98d728ae22#64, 0x7137449123ef65cd#64, 0xb5c0fbcfec4d3b2f#64, 0xe9b5dba58189dbbc#64, 0x3956c25bf348b538#64, 0x59f111f1b605d019#64, 0x923f82a4af194f9b#64, 0xab1c5ed5da6d8118#64, 0xd807aa98a3030242#64, 0x12835b0145706fbe#64, 0x243185be4ee4b28c#64, 0x550c7dc3d5ffb4e2#64, 0x72be5d74f27b896f#64, 0x80deb1fe3b1696b1#64, 0x9bdc06a725c71235#64, 0xc19bf174cf692694#64, 0xe49b69c19ef14ad2#64, 0xefbe4786384f25e3#64, 0x0fc19dc68b8cd5b5#64, 0x240ca1cc77ac9c65#64, 0x2de92c6f592b0275#64, 0x4a7484aa6ea6e483#64, 0x5cb0a9dcbd41fbd4#64, 0x76f988da831153b5#64, 0x983e5152ee66dfab#64, 0xa831c66d2db43210#64, 0xb00327c898fb213f#64, 0xbf597fc7beef0ee4#64, 0xc6e00bf33da88fc2#64, 0xd5a79147930aa725#64, 0x06ca6351e003826f#64, 0x142929670a0e6e70#64, 0x27b70a8546d22ffc#64, 0x2e1b21385c26c926#64, 0x4d2c6dfc5ac42aed#64, 0x53380d139d95b3df#64, 0x650a73548baf63de#64, 0x766a0abb3c77b2a8#64, 0x81c2c92e47edaee6#64, 0x92722c851482353b#64, 0xa2bfe8a14cf10364#64, 0xa81a664bbc423001#64, 0xc24b8b70d0f89791#64, 0xc76c51a30654be30#64, 0xd192e819d6ef5218#64, 0xd69906245565a910#64, 0xf40e35855771202a#64, 0x106aa07032bbd1b8#64, 0x19a4c116b8d2d0c8#64, 0x1e376c085141ab53#64, 0x2748774cdf8eeb99#64, 0x34b0bcb5e19b48a8#64, 0x391c0cb3c5c95a63#64, 0x4ed8aa4ae3418acb#64, 0x5b9cca4f7763e373#64, 0x682e6ff3d6b2b8a3#64, 0x748f82ee5defb2fc#64, 0x78a5636f43172f60#64, 0x84c87814a1f0ab72#64, 0x8cc702081a6439ec#64, 0x90befffa23631e28#64, 0xa4506cebde82bde9#64, 0xbef9a3f7b2c67915#64, 0xc67178f2e372532b#64, 0xca273eceea26619c#64, 0xd186b8c721c0c207#64, 0xeada7dd6cde0eb1e#64, 0xf57d4f7fee6ed178#64, 0x06f067aa72176fba#64, 0x0a637dc5a2c898a6#64, 0x113f9804bef90dae#64, 0x1b710b35131c471b#64, 0x28db77f523047d84#64, 0x32caab7b40c72493#64, 0x3c9ebe0a15c9bebc#64, 0x431d67c49c100d4c#64, 0x4cc5d4becb3e42b6#64, 0x597f299cfc657e2a#64, 0x5fcb6fab3ad6faec#64, 0x6c44198c4a475817#64]
/-- the chains of both kinds, side by side -/
structure Chain where
  s : Eight 32
  l : Eight 64
def zero32 : Eight 32 := ⟨0, 0, 0, 0, 0, 0, 0, 0⟩
def zero64 : Eight 64 := ⟨0, 0, 0, 0, 0, 0, 0, 0⟩
def start32 : Eight 32 := ⟨0x6a09e667#32, 0xbb67ae85#32, 0x3c6ef372#32, 0xa54ff53a#32, 0x510e527f#32, 0x9b05688c#32, 0x1f83d9ab#32, 0x5be0cd19#32⟩
def start64 : Eight 64 := ⟨0x6a09e667f3bcc908#64, 0xbb67ae8584caa73b#64, 0x3c6ef372fe94f82b#64, 0xa54ff53a5f1d36f1#64, 0x510e527fade682d1#64, 0x9b05688c2b3e6c1f#64, 0x1f83d9abfb41bd6b#64, 0x5be0cd19137e2179#64⟩
/-- big: kind 512 -/
def start : Bool → Chain
  | true => ⟨zero32, start64⟩
  | false => ⟨start32, zero64⟩
/-- bytes of a block, of a sum -/
def blk : Bool → Nat
  | true => 128
  | false => 64
def out : Bool → Nat
  | true => 64
  | false => 32
def kind : Bool → Nat
  | true => 512
  | false => 256
theorem blk_pos (B : Bool) : 0 < blk B := by cases B <;> decide
def mixC (B : Bool) (c : Chain) (b : List Int) : Chain :=
  match B with
  | true => ⟨c.s, block turns64 K512 c.l (wordsOf 8 b 16)⟩
  | false => ⟨block turns32 K256 c.s (wordsOf 4 b 16), c.l⟩
/-- the chain behind the first k blocks of l -/
def runC (B : Bool) (c : Chain) (l : List Int) : Nat → Chain
  | 0 => c
  | k + 1 => mixC B (runC B c l k) ((l.drop (blk B * k)).take (blk B))
/-- the chain's bytes -/
def words (B : Bool) (c : Chain) : List Int :=
  match B with
  | true => c.l.list.flatMap fun x => layWord x 8
  | false => c.s.list.flatMap fun x => layWord x 4
/-- a digest -/
structure St where
  B : Bool
  cnt : Nat
  c : Chain
  rest : List Int
def St.new (B : Bool) : St := ⟨B, 0, start B, []⟩
def maxCount : Nat := 2305843009213693951
/-- what whole blocks there are go into the chain -/
def absorb (s : St) (l : List Int) (cnt : Nat) : St := ⟨s.B, cnt, runC s.B s.c l (l.length / blk s.B), l.drop (blk s.B * (l.length / blk s.B))⟩
def St.write (s : St) (p : List Int) : St := if s.cnt + p.length ≤ maxCount then absorb s (s.rest ++ p) (s.cnt + p.length) else s
/-- eight bytes of a number, the highest first -/
def be8 (n : Nat) : List Int := layWord (BitVec.ofNat 64 n) 8
/-- how many zeros stand between the 128 and the length, of r bytes that fill no block -/
def zerosFor (B : Bool) (r : Nat) : Nat := (blk B + (blk B - blk B / 8) - (r + 1) % blk B) % blk B
def padding (B : Bool) (r cnt : Nat) : List Int := 128 :: List.replicate (zerosFor B r) 0 ++ (if B then List.replicate 8 0 else []) ++ be8 (8 * cnt)
def St.sum (s : St) : List Int :=
  let t := s.rest ++ padding s.B s.rest.length s.cnt
  words s.B (runC s.B s.c t (t.length / blk s.B))
def St.save (s : St) : List Int := ((kind s.B / 256 : Nat) : Int) :: be8 s.cnt ++ words s.B s.c ++ s.rest
/-- the sum of a message, whole -/
def hash (B : Bool) (p : List Int) : List Int := ((St.new B).write p).sum
/-- a digest of the form: its rest fills no block and is as long as the count says -/
structure St.Ok (s : St) : Prop where
  cnt : s.cnt ≤ maxCount
  rest : s.rest.length = s.cnt % blk s.B

theorem runC_append (B : Bool) (c : Chain) (l m : List Int) : ∀ k, blk B * k ≤ l.length → runC B c (l ++ m) k = runC B c l k
  | 0, _ => rfl
  | k + 1, h => by
    have hb : blk B * k + blk B ≤ l.length := by rw [← Nat.mul_succ]; exact h
    rw [runC, runC, runC_append B c l m k (by omega), List.drop_append_of_le_length (by omega), List.take_append_of_le_length (by rw [List.length_drop]; omega)]
theorem runC_add (B : Bool) (c : Chain) (l : List Int) (j : Nat) : ∀ k, runC B c l (j + k) = runC B (runC B c l j) (l.drop (blk B * j)) k
  | 0 => rfl
  | k + 1 => by
    rw [← Nat.add_assoc, runC, runC, runC_add B c l j k, List.drop_drop, Nat.mul_add]
/-- In pieces as at once. -/
theorem write_write (s : St) (p q : List Int) (h : s.cnt + (p.length + q.length) ≤ maxCount) : (s.write p).write q = s.write (p ++ q) := by
  obtain ⟨B, cnt, c, rest⟩ := s
  simp only at h
  have e1 : (St.mk B cnt c rest).write p = absorb ⟨B, cnt, c, rest⟩ (rest ++ p) (cnt + p.length) := by
    unfold St.write; rw [if_pos (by simp only; omega)]
  have e2 : (St.mk B cnt c rest).write (p ++ q) = absorb ⟨B, cnt, c, rest⟩ (rest ++ (p ++ q)) (cnt + (p.length + q.length)) := by
    unfold St.write; rw [if_pos (by simp only [List.length_append]; omega), List.length_append]
  rw [e1, e2]
  unfold St.write absorb
  simp only
  rw [if_pos (by omega)]
  have hb := blk_pos B
  obtain ⟨l, hl⟩ : ∃ l, l = rest ++ p := ⟨_, rfl⟩
  rw [← List.append_assoc, ← hl]
  obtain ⟨k, hk⟩ : ∃ k, k = l.length / blk B := ⟨_, rfl⟩
  rw [← hk]
  have hle : blk B * k ≤ l.length := by rw [hk]; exact Nat.mul_div_le _ _
  have hd : l.drop (blk B * k) ++ q = (l ++ q).drop (blk B * k) := by rw [List.drop_append_of_le_length hle]
  rw [hd]
  have hlen : (l ++ q).length / blk B = k + ((l ++ q).drop (blk B * k)).length / blk B := by
    rw [List.length_drop]
    have hle' : blk B * k ≤ (l ++ q).length := by rw [List.length_append]; omega
    have : (l ++ q).length = blk B * k + ((l ++ q).length - blk B * k) := by omega
    conv => lhs; rw [this]
    rw [Nat.mul_add_div hb]
  rw [← Nat.add_assoc]
  obtain ⟨j, hj⟩ : ∃ j, j = ((l ++ q).drop (blk B * k)).length / blk B := ⟨_, rfl⟩
  rw [← hj] at hlen ⊢
  rw [hlen, runC_add, runC_append B c l q k hle, List.drop_drop, Nat.mul_add]
theorem new_ok (B : Bool) : (St.new B).Ok := ⟨Nat.zero_le _, by simp [St.new]⟩
theorem write_ok (s : St) (h : s.Ok) (p : List Int) : (s.write p).Ok := by
  unfold St.write
  split
  · rename_i hc
    refine ⟨hc, ?_⟩
    have hr := h.rest
    have hb := blk_pos s.B
    simp only [absorb, List.length_drop, List.length_append]
    have := Nat.div_add_mod (s.rest.length + p.length) (blk s.B)
    have e : s.rest.length + p.length - blk s.B * ((s.rest.length + p.length) / blk s.B) = (s.rest.length + p.length) % blk s.B := by omega
    rw [e, hr, Nat.mod_add_mod]
  · exact h
end Go.Proofs.YtjcmgpiapbeodaaDoor.Sha
