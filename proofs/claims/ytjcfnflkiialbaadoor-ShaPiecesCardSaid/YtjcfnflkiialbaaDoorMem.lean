/-
  Memory, block by block: what a block holds, which blocks a call may have written, and how both go over each step of a walk. Plain facts on worlds; no program.
-/
import Derived.WalkKit
import Derived.Below
import Derived.Deep.Draws
import Derived.OneCell
import Derived.Laws.MakeOwn
import Derived.Laws.OwnMore
namespace Go.Proofs.YtjcfnflkiialbaaDoor.Mem
open Go.RowKit

/-- A fact that the walk's simp does not look into. -/
structure Kp (p : Prop) : Prop where mk :: (out : p)

/-- Block b holds just these cells, of element type e, none of them frozen. -/
def Blk (w : World) (b : Nat) (e : TypeId) (vs : List Value) : Prop := w.heap[b]? = some (.cells vs.toArray e (0, 0))
/-- w' is w but for the blocks of S, and for new ones. -/
structure Fr (S : Nat → Prop) (w w' : World) : Prop where
  os : w'.os = w.os
  tape : w'.tape = w.tape
  output : w'.output = w.output
  size : w.heap.size ≤ w'.heap.size
  block : ∀ k, k < w.heap.size → ¬ S k → w'.heap[k]? = w.heap[k]?

section
variable {w w1 w2 : World} {b c : Nat} {e : TypeId} {vs : List Value} {S S' : Nat → Prop}
theorem Blk.lt (h : Blk w b e vs) : b < w.heap.size := by
  rcases Nat.lt_or_ge b w.heap.size with h' | h'
  · exact h'
  · unfold Blk at h; rw [Array.getElem?_eq_none h'] at h; cases h
theorem Blk.cell? (h : Blk w b e vs) (i : Nat) : w.cell? ⟨b, i, none⟩ = vs[i]? := by
  unfold Blk at h
  simp [World.cell?, h]
theorem Blk.cell (h : Blk w b e vs) (i : Nat) (v : Value) (hv : vs[i]? = some v) : w.cell? ⟨b, i, none⟩ = some v := (h.cell? i).trans hv
theorem Blk.free (h : Blk w b e vs) (i : Nat) : w.frozen? ⟨b, i, none⟩ = false := by
  unfold Blk at h
  simp [World.frozen?, h]
theorem Blk.inj (h : Blk w b e vs) {vs' : List Value} {e' : TypeId} (h' : Blk w b e' vs') : e = e' ∧ vs = vs' := by
  unfold Blk at h h'
  have := h.symm.trans h'
  simp only [Option.some.injEq, Obj.cells.injEq] at this
  obtain ⟨h1, h2, _⟩ := this
  exact ⟨h2, by simpa using h1⟩
theorem Blk.new (w : World) (cs : Array Value) (e : TypeId) : Blk (w.alloc (.cells cs e)) w.heap.size e cs.toList := by
  show (w.heap.push _)[w.heap.size]? = _
  rw [Array.getElem?_push, if_pos rfl]
theorem Blk.new' (w : World) (cs : Array Value) (e : TypeId) {n : Nat} (hn : n = w.heap.size) : Blk (w.alloc (.cells cs e)) n e cs.toList := by subst hn; exact Blk.new w cs e
theorem Blk.alloc (h : Blk w b e vs) (o : Obj) : Blk (w.alloc o) b e vs := by
  show (w.heap.push o)[b]? = _
  rw [Array.getElem?_push, if_neg (by have := h.lt; omega)]
  exact h
theorem Blk.drew (h : Blk w b e vs) : Blk w.drew b e vs := h
theorem Blk.drewN (h : Blk w b e vs) (n : Nat) : Blk (w.drewN n) b e vs := h
theorem Blk.set (h : Blk w b e vs) (i : Nat) (v : Value) : Blk (w.setCell ⟨b, i, none⟩ v) b e (vs.set i v) := by
  unfold Blk at h ⊢
  simp [World.setCell, Array.getElem?_modify, h]
theorem Blk.set_ne (h : Blk w b e vs) {a : Addr} (hc : a.block ≠ b) (v : Value) : Blk (w.setCell a v) b e vs := by
  unfold Blk at h ⊢
  rw [Below.heap_setCell _ _ _ _ (Ne.symm hc)]
  exact h
theorem Blk.fr (h : Blk w b e vs) (hf : Fr S w w1) (hb : ¬ S b) : Blk w1 b e vs := (hf.block b h.lt hb).trans h
theorem Blk.below (h : Blk w b e vs) (hf : Below w.heap.size w w1) : Blk w1 b e vs := (hf.block b h.lt).trans h

theorem Fr.refl (S : Nat → Prop) (w : World) : Fr S w w := ⟨rfl, rfl, rfl, Nat.le_refl _, fun _ _ _ => rfl⟩
theorem Fr.mono (h : Fr S w w1) (hs : ∀ k, k < w.heap.size → S k → S' k) : Fr S' w w1 := ⟨h.os, h.tape, h.output, h.size, fun k hk hn => h.block k hk (fun hS => hn (hs k hk hS))⟩
theorem Fr.trans (h : Fr S w w1) (k : Fr S' w1 w2) (hs : ∀ k, k < w.heap.size → S' k → S k) : Fr S w w2 :=
  ⟨k.os.trans h.os, k.tape.trans h.tape, k.output.trans h.output, Nat.le_trans h.size k.size,
    fun i hi hn => (k.block i (Nat.lt_of_lt_of_le hi h.size) (fun hS => hn (hs i hi hS))).trans (h.block i hi hn)⟩
theorem Fr.alloc (h : Fr S w w1) (o : Obj) : Fr S w (w1.alloc o) :=
  h.trans (S' := fun _ => False) ⟨rfl, rfl, rfl, by simp, fun k hk _ => Below.heap_alloc _ _ _ hk⟩ (fun _ _ hk => hk.elim)
theorem Fr.drew (h : Fr S w w1) : Fr S w w1.drew := ⟨h.os, h.tape, h.output, h.size, h.block⟩
theorem Fr.drewN (h : Fr S w w1) (n : Nat) : Fr S w (w1.drewN n) := ⟨h.os, h.tape, h.output, h.size, h.block⟩
theorem Fr.set (h : Fr S w w1) {a : Addr} (hb : a.block < w.heap.size → S a.block) (v : Value) : Fr S w (w1.setCell a v) :=
  h.trans (S' := fun k => k = a.block) ⟨rfl, rfl, rfl, by simp [World.setCell], fun k _ hn => Below.heap_setCell _ _ _ _ hn⟩ (fun k hk he => by subst he; exact hb hk)
theorem Fr.of_below (h : Below w.heap.size w w1) (S : Nat → Prop) : Fr S w w1 := ⟨h.os, h.tape, h.output, h.size, fun k hk _ => h.block k hk⟩
theorem Fr.below (h : Fr S w w1) (hs : ∀ k, k < w.heap.size → ¬ S k) : Below w.heap.size w w1 := ⟨h.os, h.tape, h.output, h.size, fun k hk => h.block k hk (hs k hk)⟩
theorem Fr.then_below (h : Fr S w w1) (k : Below w1.heap.size w1 w2) : Fr S w w2 := h.trans (Fr.of_below k (fun _ => False)) (fun _ _ hk => hk.elim)
theorem Fr.grown {row : Option Nat} (h : Fr S w w1) (hg : w1.grownBy w2 row) (hs : ∀ k, k < w.heap.size → row = some k → S k) : Fr S w w2 :=
  h.trans (S' := fun k => row = some k) ⟨hg.os, hg.tape, hg.output, hg.size, fun k hk hn => hg.block k hk (fun e => hn e.symm)⟩ hs
theorem Fr.block_cell (h : Fr (fun _ => False) w w1) {a : Addr} (ha : a.block < w.heap.size) : w1.cell? a = w.cell? a := World.cell?_of_block (h.block a.block ha (fun x => x))
/-- a block that was not there when the call began is none of the old ones -/
theorem Fr.lt (h : Fr S w w1) {k : Nat} (hk : k < w.heap.size) : k < w1.heap.size := Nat.lt_of_lt_of_le hk h.size
end
end Go.Proofs.YtjcfnflkiialbaaDoor.Mem
