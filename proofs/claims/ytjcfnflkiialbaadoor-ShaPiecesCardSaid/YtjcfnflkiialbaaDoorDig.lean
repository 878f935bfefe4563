/-
  A digest in memory, the program's tables, and the walks of block and mix.
-/
import Derived.Test.YtjcfnflkiialbaaDoorComp32
import Derived.Test.YtjcfnflkiialbaaDoorComp64
import Derived.Test.YtjcfnflkiialbaaDoorLoad32
import Derived.Test.YtjcfnflkiialbaaDoorLoad64
import Derived.Deep.RegionWith
import Derived.Deep.AppendLies
namespace Go.Proofs.YtjcfnflkiialbaaDoor.Sha
open Go.RowKit Go.Proofs.YtjcfnflkiialbaaDoor.Mem
def bytes (l : List Int) : List Value := l.map (Value.int .u8)
theorem bytes_get (l : List Int) (i : Nat) (h : i < l.length) : (bytes l)[i]? = some (.int .u8 (l.getD i 0)) := by simp [bytes, h]
/-- blocks below this are the program's own variables -/
def low : Nat := 8
/-- The program's tables lie where its text lays them. -/
structure Laid (w : World) : Prop where
  size : low ≤ w.heap.size
  r256 : C32.Consts w 0 K256
  r512 : C64.Consts w 1 K512
  t256 : ∀ i, i < 12 → w.cell? ⟨4, i, none⟩ = C32.tcells[i]?
  t512 : ∀ i, i < 12 → w.cell? ⟨5, i, none⟩ = C64.tcells[i]?
  starts : ∀ i, i < 8 → w.cell? ⟨3, i, none⟩ = some (.int .u64 ((start64.list.getD i 0).toNat : Int))
theorem Laid.fr {w w1 : World} {S : Nat → Prop} (h : Laid w) (hf : Fr S w w1) (hs : ∀ k, S k → low ≤ k) : Laid w1 := by
  have hb : ∀ k, k < low → w1.heap[k]? = w.heap[k]? := fun k hk => hf.block k (Nat.lt_of_lt_of_le hk h.size) (fun hS => absurd (hs k hS) (Nat.not_le_of_lt hk))
  refine ⟨Nat.le_trans h.size hf.size, h.r256.fr hf ?_, h.r512.fr hf ?_, ?_, ?_, ?_⟩
  · exact fun hS => absurd (hs _ hS) (by decide)
  · exact fun hS => absurd (hs _ hS) (by decide)
  · exact fun i hi => (World.cell?_of_block (hb (4 : Nat) (by decide))).trans (h.t256 i hi)
  · exact fun i hi => (World.cell?_of_block (hb (5 : Nat) (by decide))).trans (h.t512 i hi)
  · exact fun i hi => (World.cell?_of_block (hb (3 : Nat) (by decide))).trans (h.starts i hi)
theorem Laid.below {w w1 : World} (h : Laid w) (hb : Below w.heap.size w w1) : Laid w1 := h.fr (Fr.of_below hb (fun _ => False)) (fun _ h => h.elim)
def dcells (B : Bool) (cnt : Nat) (c : Chain) (rv : Value) : List Value :=
  .int .i64 (kind B : Nat) :: .int .i64 (cnt : Nat) :: (c.s.list.map u32 ++ (c.l.list.map u64 ++ [rv]))
/-- the bytes xs can be read from offset os of block bs on -/
def Reads (w : World) (bs os : Nat) (xs : List Int) : Prop := bs < w.heap.size ∧ ∀ i, i < xs.length → w.cell? ⟨bs, os + i, none⟩ = some (.int .u8 (xs.getD i 0))
theorem Reads.fr {w w1 : World} {S : Nat → Prop} {bs os : Nat} {xs : List Int} (h : Reads w bs os xs) (hf : Fr S w w1) (hs : ¬ S bs) : Reads w1 bs os xs :=
  ⟨Nat.lt_of_lt_of_le h.1 hf.size, fun i hi => (World.cell?_of_block (hf.block bs h.1 hs)).trans (h.2 i hi)⟩
theorem Reads.take {w : World} {bs os : Nat} {xs : List Int} (h : Reads w bs os xs) (n : Nat) : Reads w bs os (xs.take n) := by
  refine ⟨h.1, fun i hi => ?_⟩
  rw [List.length_take] at hi
  rw [h.2 i (by omega)]
  simp [show i < n by omega]
theorem Reads.drop {w : World} {bs os : Nat} {xs : List Int} (h : Reads w bs os xs) (n : Nat) : Reads w bs (os + n) (xs.drop n) := by
  refine ⟨h.1, fun i hi => ?_⟩
  rw [List.length_drop] at hi
  rw [Nat.add_assoc, h.2 (n + i) (by omega)]
  simp
theorem block_calls (b : Nat) (B : Bool) (w : World) (h : w.cell? ⟨b, 0, none⟩ = some (.int .i64 (kind B : Nat))) :
    Calls Tryd.prog 55 #[.pointer (some ⟨b, 0, none⟩)] w fun e w' => e = .returned (.int .i64 (blk B : Nat)) ∧ w' = w := by
  cases B
  all_goals
    simp only [kind, blk] at h ⊢
    go_enter Tryd.func55, Tryd.ntmps55
    go_wp2
    go_ret
    exact ⟨rfl, rfl⟩
end Go.Proofs.YtjcfnflkiialbaaDoor.Sha
