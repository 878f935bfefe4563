/-
  A list of its own is read.
-/
import Derived.Test.YtjcfnflkiialbaaDoorKept
namespace Go.Proofs.YtjcfnflkiialbaaDoor.Sha
open Go.RowKit Go.Proofs.YtjcfnflkiialbaaDoor.Mem Go.Proofs.YtjcfnflkiialbaaDoorW.PrintWords
section
variable {w0 w w' : World}
theorem OwnL.src {A : Option Addr} {n c : Nat} {xs : List Int} (h : OwnL w 5 1 (.slice A n c) n (bytes xs)) (S : Nat → Prop) (hs : ∀ k, (Value.slice A n c).ownBlock = some k → ¬ S k) : n = xs.length ∧ Src w S A c xs := by
  have hn : xs.length = n := by have := h.1; rw [bytes_length] at this; omega
  refine ⟨hn.symm, ?_⟩
  rcases h.2 with ⟨h1, h2⟩ | ⟨g, cap, cur, h1, h2, h3, h4, h5, h6⟩
  · simp only [Value.slice.injEq] at h1
    obtain ⟨rfl, _, rfl⟩ := h1
    exact ⟨by omega, .inl ⟨rfl, rfl, List.eq_nil_of_length_eq_zero (by omega)⟩⟩
  · simp only [Value.slice.injEq] at h1
    obtain ⟨rfl, _, rfl⟩ := h1
    refine ⟨by omega, .inr (.inr ⟨g, 0, rfl, ⟨?_, fun i hi => ?_⟩, hs g rfl⟩)⟩
    · rcases Nat.lt_or_ge g w.heap.size with hl | hl
      · exact hl
      · rw [Array.getElem?_eq_none hl] at h2; cases h2
    · rw [Nat.zero_add, cell_of_row w g i cur 5 (0, 0) h2]
      have := bytes_get xs i hi
      rw [← h6, List.getElem?_take_of_lt (by omega)] at this
      simpa using this
end
end Go.Proofs.YtjcfnflkiialbaaDoor.Sha
