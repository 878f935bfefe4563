/-
  One digest that a function makes and uses alone: what was written to it so far; its blocks are all new since a first world.
-/
import Derived.Test.YtjcfnflkiialbaaDoorAux2
import Derived.Test.YtjcfnflkiialbaaDoorReset
namespace Go.Proofs.YtjcfnflkiialbaaDoor.Sha
open Go.RowKit Go.Proofs.YtjcfnflkiialbaaDoor.Mem Go.Proofs.YtjcfnflkiialbaaDoorW.PrintWords
theorem St.write_none (B : Bool) : (St.new B).write [] = St.new B := by
  cases B <;> simp [St.write, St.new, absorb, runC, maxCount, blk]
/-- the digest at b is of kind B, and q was written to it -/
structure Solo (w0 w : World) (b : Nat) (rv : Value) (B : Bool) (q : List Int) : Prop where
  d : Dg w b rv ((St.new B).write q)
  fr : Fr (fun _ => False) w0 w
  foot : ∀ k, dfoot b rv k → w0.heap.size ≤ k
section
variable {w0 w w' : World} {b : Nat} {rv : Value} {B : Bool} {q : List Int}
theorem Solo.below (h : Solo w0 w b rv B q) (hf : Fr (fun _ => False) w w') : Solo w0 w' b rv B q :=
  ⟨⟨h.d.blk.fr hf (fun h => h), own_keep h.d.rest hf (fun _ _ h => h), h.d.low⟩, h.fr.trans hf (fun _ _ h => h), h.foot⟩
theorem Solo.lt (h : Solo w0 w b rv B q) : ∀ k, dfoot b rv k → k < w.heap.size := fun k hk => by
  rcases hk with rfl | hk
  · exact h.d.blk.lt
  · exact (own_lt h.d.rest hk).1
/-- what is older than the digest is not its own -/
theorem Solo.src (h : Solo w0 w b rv B q) {A : Option Addr} {c : Nat} {p : List Int} (hs : Src w0 (fun _ => False) A c p) : Src w (dfoot b rv) A c p :=
  src_out hs h.fr (fun k hk hf => by have := h.foot k hf; omega)
theorem soloNew_calls (B : Bool) (w : World) (hL : Laid w) :
    Calls Tryd.prog 30 #[.int .i64 (kind B : Nat)] w fun e w' => ∃ b, e = .returned (.tuple #[.pointer (some ⟨b, 0, none⟩), .int .i64 0]) ∧ Solo w w' b (.slice none 0 0) B [] := by
  refine (new_calls B w hL).mono ?_
  rintro e w' ⟨b, rfl, hb, hD, hB⟩
  refine ⟨b, rfl, by rw [St.write_none]; exact hD, Fr.of_below hB _, fun k hk => ?_⟩
  rcases hk with rfl | hk
  · exact hb
  · cases hk
theorem soloWrite_calls (h : Solo w0 w b rv B q) (hL : Laid w0) (A : Option Addr) (cp : Nat) (p : List Int) (hX : Src w (dfoot b rv) A cp p) (hmax : q.length + p.length ≤ maxCount) :
    Calls Tryd.prog 34 #[.pointer (some ⟨b, 0, none⟩), .slice A p.length cp] w fun e w' => ∃ r rv', e = .returned r ∧ Solo w0 w' b rv' B (q ++ p) ∧ Heir w rv' rv ∧ Fr (dfoot b rv) w w' := by
  refine (write_calls _ (write_ok _ (new_ok B) q) b rv A cp p (by rw [cnt_of B q (by omega)]; exact hmax) w (hL.fr h.fr (fun _ h => h.elim)) h.d hX).mono ?_
  rintro e w' ⟨r, rv', rfl, hD, hh, hf⟩
  have hw : ((St.new B).write q).write p = (St.new B).write (q ++ p) := write_write _ _ _ (by show 0 + _ ≤ maxCount; omega)
  rw [hw] at hD
  refine ⟨r, rv', rfl, ⟨hD, h.fr.trans hf (fun k hk hs => by have := h.foot k hs; omega), fun k hk => ?_⟩, hh, hf⟩
  rcases hk with rfl | hk
  · exact h.foot _ (.inl rfl)
  · rcases hh with hh | ⟨g, h1, h2⟩
    · exact h.foot _ (.inr (hh.symm.trans hk))
    · obtain rfl := Option.some.inj (h1.symm.trans hk)
      exact Nat.le_trans h.fr.size h2
theorem soloSum_calls (h : Solo w0 w b rv B q) (hL : Laid w0) :
    Calls Tryd.prog 31 #[.pointer (some ⟨b, 0, none⟩)] w fun e w' => ∃ A c, e = .returned (.slice A (out B) c) ∧ w'.ownsRow w.heap.size 5 1 (.slice A (out B) c) (out B) (bytes (hash B q)) ∧ Src w' (fun k => k < w.heap.size ∨ w'.heap.size ≤ k) A c (hash B q) ∧ Solo w0 w' b rv B q ∧ Fr (fun _ => False) w w' := by
  refine (sum_calls _ (write_ok _ (new_ok B) q) b rv w (hL.fr h.fr (fun _ h => h.elim)) h.d).mono ?_
  rintro e w' ⟨v, rfl, hO, hB⟩
  have hl : ((St.new B).write q).sum.length = out B := hash_length B q
  unfold Own at hO
  rw [hl] at hO
  obtain ⟨A, c, rfl, hc⟩ := own_shape hO
  have hO' : w'.ownsRow w.heap.size 5 1 (.slice A (out B) c) (hash B q).length (bytes (hash B q)) := by rw [hash_length]; exact hO
  refine ⟨A, c, rfl, hO, ?_, h.below (Fr.of_below hB _), Fr.of_below hB _⟩
  obtain ⟨A', c', he, hs⟩ := Src.of_own hO' (fun k => k < w.heap.size ∨ w'.heap.size ≤ k) (fun k hk h => by have := own_lt hO hk; omega)
  simp only [Value.slice.injEq] at he
  obtain ⟨rfl, _, rfl⟩ := he
  exact hs
theorem soloReset_calls (h : Solo w0 w b rv B q) (hL : Laid w0) :
    Calls Tryd.prog 43 #[.pointer (some ⟨b, 0, none⟩)] w fun e w' => ∃ r, e = .returned r ∧ Solo w0 w' b (.slice none 0 0) B [] ∧ Fr (fun k => k = b) w w' := by
  have hB : ((St.new B).write q).B = B := by
    unfold St.write
    split
    · rfl
    · rfl
  refine (reset_calls _ b rv w (hL.fr h.fr (fun _ h => h.elim)) h.d).mono ?_
  rintro e w' ⟨r, rfl, hD, hf⟩
  rw [hB] at hD
  have hb := h.foot b (.inl rfl)
  refine ⟨r, rfl, ⟨by rw [St.write_none]; exact hD, h.fr.trans hf (fun k hk hs => by subst hs; omega), fun k hk => ?_⟩, hf⟩
  rcases hk with rfl | hk
  · exact hb
  · cases hk
end
end Go.Proofs.YtjcfnflkiialbaaDoor.Sha
