/-
  Blocks told apart by colours.
-/
import Derived.Test.YtjcfnflkiialbaaDoorKept
namespace Go.Proofs.YtjcfnflkiialbaaDoor.Sha
open Go.RowKit Go.Proofs.YtjcfnflkiialbaaDoor.Mem Go.Proofs.YtjcfnflkiialbaaDoorW.PrintWords
/-- The blocks of foot are there and bear the colour c. -/
def Live (w : World) (col : Nat → Nat) (c : Nat) (foot : Nat → Prop) : Prop := ∀ k, foot k → k < w.heap.size ∧ col k = c
/-- what is new since w bears the colour c -/
def recol (w : World) (col : Nat → Nat) (c : Nat) : Nat → Nat := fun k => if k < w.heap.size then col k else c
theorem recol_old {w : World} {col : Nat → Nat} {c k : Nat} (h : k < w.heap.size) : recol w col c k = col k := if_pos h
theorem recol_new {w : World} {col : Nat → Nat} {c k : Nat} (h : w.heap.size ≤ k) : recol w col c k = c := if_neg (by omega)
theorem Live.keep {w w' : World} {col : Nat → Nat} {d : Nat} {foot : Nat → Prop} (h : Live w col d foot) (hs : w.heap.size ≤ w'.heap.size) (c : Nat) : Live w' (recol w col c) d foot :=
  fun k hk => ⟨Nat.lt_of_lt_of_le (h k hk).1 hs, (recol_old (h k hk).1).trans (h k hk).2⟩
theorem Live.grow {w w' : World} {col : Nat → Nat} {c : Nat} {foot foot' : Nat → Prop} (h : Live w col c foot) (hs : w.heap.size ≤ w'.heap.size) (hf : ∀ k, foot' k → k < w'.heap.size ∧ (foot k ∨ w.heap.size ≤ k)) : Live w' (recol w col c) c foot' := fun k hk => by
  obtain ⟨h1, h2⟩ := hf k hk
  rcases h2 with h2 | h2
  · exact h.keep hs c k h2
  · exact ⟨h1, recol_new h2⟩
theorem Live.apart {w : World} {col : Nat → Nat} {c d : Nat} {foot foot' : Nat → Prop} (h : Live w col c foot) (h' : Live w col d foot') (hcd : c ≠ d) {k : Nat} (hk : foot k) : ¬ foot' k := fun hk' => hcd ((h k hk).2.symm.trans (h' k hk').2)
theorem Live.sub {w : World} {col : Nat → Nat} {c : Nat} {foot foot' : Nat → Prop} (h : Live w col c foot) (hs : ∀ k, foot' k → foot k) : Live w col c foot' := fun k hk => h k (hs k hk)
theorem dg_fr {w w1 : World} {b : Nat} {rv : Value} {s : St} {S : Nat → Prop} (h : Dg w b rv s) (hf : Fr S w w1) (hs : ∀ k, dfoot b rv k → ¬ S k) : Dg w1 b rv s := ⟨h.blk.fr hf (hs b (.inl rfl)), own_keep h.rest hf (fun k hk => hs k (.inr hk)), h.low⟩
theorem dg_foot {w : World} {b : Nat} {rv : Value} {s : St} (h : Dg w b rv s) : ∀ k, dfoot b rv k → k < w.heap.size := fun k hk => by
  rcases hk with rfl | hk
  · exact h.blk.lt
  · exact (own_lt h.rest hk).1
end Go.Proofs.YtjcfnflkiialbaaDoor.Sha
