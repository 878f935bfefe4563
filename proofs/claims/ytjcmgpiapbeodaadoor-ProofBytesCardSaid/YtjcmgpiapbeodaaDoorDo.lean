/-
  Sum, Written and what a sum's bytes look like: for either kind.
-/
import Derived.Test.YtjcmgpiapbeodaaDoorSum64
import Derived.Test.YtjcmgpiapbeodaaDoorSum64
namespace Go.Proofs.YtjcmgpiapbeodaaDoor.Sha
open Go.RowKit Go.Proofs.YtjcmgpiapbeodaaDoor.Mem Go.Proofs.YtjcmgpiapbeodaaDoorW.PrintWords
theorem rest_lt (s : St) (hs : s.Ok) : s.rest.length < blk s.B := by rw [hs.rest]; exact Nat.mod_lt _ (blk_pos s.B)
theorem sum_calls (s : St) (hs : s.Ok) (b : Nat) (rv : Value) (w : World) (hL : Laid w) (hD : Dg w b rv s) :
    Calls Tryd.prog 40 #[.pointer (some ⟨b, 0, none⟩)] w fun e w' => ∃ v, e = .returned v ∧ Own w' w.heap.size v s.sum ∧ Below w.heap.size w w' := by
  have hr := rest_lt s hs
  have hc := hs.cnt
  obtain ⟨B, cnt, c, rs⟩ := s
  cases B
  · exact S32.sum_calls b cnt c rv rs hr hc w hL hD
  · exact S64.sum_calls b cnt c rv rs hr hc w hL hD
theorem words_length (B : Bool) (c : Chain) : (words B c).length = out B := by
  cases B <;> simp [words, Eight.list, layWord, out]
theorem hash_length (B : Bool) (p : List Int) : (hash B p).length = out B := by
  have h : ((St.new B).write p).B = B := by unfold St.write; split <;> rfl
  unfold hash St.sum
  rw [words_length, h]
theorem bytes_length (l : List Int) : (bytes l).length = l.length := by simp [bytes]
theorem bytes_one (l : List Int) : (bytes l).toArray.all (fun x => x.oneCell') = true := by
  simp [bytes, Value.oneCell']
theorem reads_range {w : World} {b o : Nat} {l : List Int} (h : Reads w b o l) : w.rangeAt b o (bytes l) := fun j v hv => by
  have hj : j < l.length := by
    rcases Nat.lt_or_ge j l.length with h | h
    · exact h
    · rw [List.getElem?_eq_none (by simpa [bytes] using h)] at hv; cases hv
  rw [bytes_get l j hj] at hv
  rw [h.2 j hj, ← hv]
/-- what the call was given lies in old memory -/
theorem src_out {w w1 : World} {A : Option Addr} {c : Nat} {p : List Int} {S : Nat → Prop} (h : Src w (fun _ => False) A c p) (hF : Fr (fun _ => False) w w1) (hS : ∀ k, k < w.heap.size → ¬ S k) : Src w1 S A c p := by
  refine ⟨h.1, ?_⟩
  rcases h.2 with h' | h' | ⟨bs, os, h1, h2, _⟩
  · exact .inl h'
  · exact .inr (.inl h')
  · exact .inr (.inr ⟨bs, os, h1, h2.fr hF (fun h => h), hS bs h2.1⟩)
end Go.Proofs.YtjcmgpiapbeodaaDoor.Sha
