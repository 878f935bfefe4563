/-
  SHA-2 on bit vectors, by the definition, for words of either width: schedule, rounds, blocks, padding. Plain; no program, no memory.
-/
import Derived.Test.YtjcfnflkiialbaaDoorTurn
namespace Go.Proofs.YtjcfnflkiialbaaDoor.Sha
/-- how far the words are turned: the two great mixtures, the two small ones (whose last is a shift) -/
structure Turns where
  (a0 a1 a2 e0 e1 e2 s0 s1 s2 t0 t1 t2 : Nat)
def turns32 : Turns := ⟨2, 13, 22, 6, 11, 25, 7, 18, 3, 17, 19, 10⟩
def turns64 : Turns := ⟨28, 34, 39, 14, 18, 41, 1, 8, 7, 19, 61, 6⟩
section
variable {w : Nat} (T : Turns)
def small0 (x : BitVec w) : BitVec w := rot x T.s0 ^^^ rot x T.s1 ^^^ x >>> T.s2
def small1 (x : BitVec w) : BitVec w := rot x T.t0 ^^^ rot x T.t1 ^^^ x >>> T.t2
def great0 (x : BitVec w) : BitVec w := rot x T.a0 ^^^ rot x T.a1 ^^^ rot x T.a2
def great1 (x : BitVec w) : BitVec w := rot x T.e0 ^^^ rot x T.e1 ^^^ rot x T.e2
/-- the next word of the schedule -/
def nextWord (l : List (BitVec w)) : BitVec w :=
  l.getD (l.length - 16) 0 + small0 T (l.getD (l.length - 15) 0) + l.getD (l.length - 7) 0 + small1 T (l.getD (l.length - 2) 0)
def sched (l : List (BitVec w)) : Nat → List (BitVec w)
  | 0 => l
  | n + 1 => let m := sched l n; m ++ [nextWord T m]
/-- the eight words between rounds -/
structure Eight (w : Nat) where
  (a b c d e f g h : BitVec w)
def Eight.list (v : Eight w) : List (BitVec w) := [v.a, v.b, v.c, v.d, v.e, v.f, v.g, v.h]
def round (v : Eight w) (k x : BitVec w) : Eight w :=
  let one := v.h + great1 T v.e + (v.e &&& v.f ^^^ ~~~v.e &&& v.g) + k + x
  let two := great0 T v.a + (v.a &&& v.b ^^^ v.a &&& v.c ^^^ v.b &&& v.c)
  ⟨one + two, v.a, v.b, v.c, v.d + one, v.e, v.f, v.g⟩
def rounds (v : Eight w) (K S : List (BitVec w)) : Nat → Eight w
  | 0 => v
  | n + 1 => round T (rounds v K S n) (K.getD n 0) (S.getD n 0)
def Eight.add (v u : Eight w) : Eight w := ⟨v.a + u.a, v.b + u.b, v.c + u.c, v.d + u.d, v.e + u.e, v.f + u.f, v.g + u.g, v.h + u.h⟩
/-- one block, its words given -/
def block (K : List (BitVec w)) (v : Eight w) (ws : List (BitVec w)) : Eight w := v.add (rounds T v K (sched T ws (K.length - 16)) K.length)
end
theorem sched_length {w : Nat} (T : Turns) (l : List (BitVec w)) : ∀ n, (sched T l n).length = l.length + n
  | 0 => rfl
  | n + 1 => by simp only [sched, List.length_append, List.length_singleton, sched_length T l n]; omega
end Go.Proofs.YtjcfnflkiialbaaDoor.Sha
