/-
  Several things in memory side by side, each with blocks of its own: what writes into one of them alone leaves the others.
-/
import Derived.Test.YtjcfnflkiialbaaDoorRowOk
import Derived.Test.YtjcfnflkiialbaaDoorCol
namespace Go.Proofs.YtjcfnflkiialbaaDoor.Sha
open Go.RowKit Go.Proofs.YtjcfnflkiialbaaDoor.Mem Go.Proofs.YtjcfnflkiialbaaDoorW.PrintWords
/-- a thing in memory: its blocks, and what is so of them -/
structure Ob where
  foot : Nat → Prop
  inv : World → Prop
  keep : ∀ {w w' : World} {S : Nat → Prop}, inv w → Fr S w w' → (∀ k, foot k → ¬ S k) → inv w'
  lt : ∀ {w : World}, inv w → ∀ k, foot k → k < w.heap.size
/-- a list of bytes that the function made -/
def Ob.row (v : Value) (xs : List Int) : Ob where
  foot := fun k => v.ownBlock = some k
  inv := fun w => w.ownsRow low 5 1 v xs.length (bytes xs)
  keep := fun h hf hs => own_keep h hf hs
  lt := fun h _ hk => (own_lt h hk).1
/-- a whole block -/
def Ob.blk (b : Nat) (T : TypeId) (vs : List Value) : Ob where
  foot := fun k => k = b
  inv := fun w => Blk w b T vs
  keep := fun h hf hs => h.fr hf (hs _ rfl)
  lt := fun h k hk => by subst hk; exact h.lt
/-- a digest -/
def Ob.dg (b : Nat) (rv : Value) (s : St) : Ob where
  foot := dfoot b rv
  inv := fun w => Dg w b rv s
  keep := fun h hf hs => dg_fr h hf hs
  lt := fun h => dg_foot h
/-- a list of its own that is read alone -/
def Ob.own (A : Option Addr) (n c : Nat) (xs : List Value) : Ob where
  foot := fun k => (Value.slice A n c).ownBlock = some k
  inv := fun w => OwnL w 5 1 (.slice A n c) n xs
  keep := fun h hf hs => h.fr hf hs
  lt := fun h => h.lt
structure Objs (w0 w : World) (os : List Ob) : Prop where
  inv : ∀ (i : Nat) (o : Ob), os[i]? = some o → o.inv w
  col : ∃ col : Nat → Nat, (∀ k, k < w0.heap.size → col k = 0) ∧ ∀ (i : Nat) (o : Ob), os[i]? = some o → ∀ k, o.foot k → col k = i + 1
  fr : Fr (fun _ => False) w0 w
theorem Objs.nil (w : World) : Objs w w [] := ⟨fun i o h => by simp at h, ⟨fun _ => 0, fun _ _ => rfl, fun i o h => by simp at h⟩, Fr.refl _ _⟩
section
variable {w0 w w' : World} {os : List Ob}
theorem Objs.high (h : Objs w0 w os) {i : Nat} {o : Ob} (hi : os[i]? = some o) {k : Nat} (hk : o.foot k) : w0.heap.size ≤ k := by
  obtain ⟨col, h0, h1⟩ := h.col
  rcases Nat.lt_or_ge k w0.heap.size with hl | hl
  · have a := h0 k hl
    have b := h1 i o hi k hk
    omega
  · exact hl
theorem Objs.apart (h : Objs w0 w os) {i j : Nat} {o o' : Ob} (hi : os[i]? = some o) (hj : os[j]? = some o') (hij : i ≠ j) {k : Nat} (hk : o.foot k) : ¬ o'.foot k := fun hk' => by
  obtain ⟨col, _, h1⟩ := h.col
  have a := h1 i o hi k hk
  have b := h1 j o' hj k hk'
  omega
theorem Objs.below (h : Objs w0 w os) (hf : Fr (fun _ => False) w w') : Objs w0 w' os := ⟨fun i o hi => o.keep (h.inv i o hi) hf (fun _ _ h => h), h.col, h.fr.trans hf (fun _ _ h => h)⟩
theorem Objs.set (h : Objs w0 w os) (i : Nat) {o o' : Ob} (hi : os[i]? = some o) {S : Nat → Prop} (hf : Fr S w w') (hS : ∀ k, k < w.heap.size → S k → o.foot k) (hinv : o'.inv w') (hfoot : ∀ k, o'.foot k → o.foot k ∨ w.heap.size ≤ k) : Objs w0 w' (os.set i o') := by
  have hil : i < os.length := (List.getElem?_eq_some_iff.1 hi).1
  have hget : ∀ (j : Nat) (x : Ob), (os.set i o')[j]? = some x → (j = i ∧ x = o') ∨ (j ≠ i ∧ os[j]? = some x) := fun j x hx => by
    by_cases e : i = j
    · subst e
      rw [List.getElem?_set_self hil] at hx
      exact .inl ⟨rfl, (Option.some.inj hx).symm⟩
    · rw [List.getElem?_set_ne e] at hx
      exact .inr ⟨fun h => e h.symm, hx⟩
  have hlt : ∀ (j : Nat) (x : Ob), os[j]? = some x → ∀ k, x.foot k → k < w.heap.size := fun j x hx => x.lt (h.inv j x hx)
  refine ⟨fun j x hx => ?_, ?_, h.fr.trans hf (fun k hk hs => ?_)⟩
  · rcases hget j x hx with ⟨_, rfl⟩ | ⟨hj, hx⟩
    · exact hinv
    · exact x.keep (h.inv j x hx) hf (fun k hk hs => h.apart hx hi hj hk (hS k (hlt j x hx k hk) hs))
  · obtain ⟨col, h0, h1⟩ := h.col
    refine ⟨fun k => if k < w.heap.size then col k else i + 1, fun k hk => ?_, fun j x hx k hk => ?_⟩
    · dsimp only
      rw [if_pos (Nat.lt_of_lt_of_le hk h.fr.size)]
      exact h0 k hk
    · dsimp only
      rcases hget j x hx with ⟨rfl, rfl⟩ | ⟨hj, hx⟩
      · split
        · rename_i hl
          rcases hfoot k hk with hk | hk
          · exact h1 j o hi k hk
          · omega
        · rfl
      · rw [if_pos (hlt j x hx k hk)]
        exact h1 j x hx k hk
  · have := h.high hi (hS k (Nat.lt_of_lt_of_le hk h.fr.size) hs)
    omega
theorem Objs.add (h : Objs w0 w os) {o' : Ob} (hf : Fr (fun _ => False) w w') (hinv : o'.inv w') (hfoot : ∀ k, o'.foot k → w.heap.size ≤ k) : Objs w0 w' (os ++ [o']) := by
  have hget : ∀ (j : Nat) (x : Ob), (os ++ [o'])[j]? = some x → (j = os.length ∧ x = o') ∨ os[j]? = some x := fun j x hx => by
    rcases Nat.lt_or_ge j os.length with hl | hl
    · rw [List.getElem?_append_left hl] at hx
      exact .inr hx
    · rw [List.getElem?_append_right hl] at hx
      have : j - os.length = 0 := by
        have := (List.getElem?_eq_some_iff.1 hx).1
        simp at this
        omega
      rw [this] at hx
      exact .inl ⟨by omega, (Option.some.inj hx).symm⟩
  have hlt : ∀ (j : Nat) (x : Ob), os[j]? = some x → ∀ k, x.foot k → k < w.heap.size := fun j x hx => x.lt (h.inv j x hx)
  refine ⟨fun j x hx => ?_, ?_, h.fr.trans hf (fun _ _ h => h)⟩
  · rcases hget j x hx with ⟨_, rfl⟩ | hx
    · exact hinv
    · exact x.keep (h.inv j x hx) hf (fun _ _ h => h)
  · obtain ⟨col, h0, h1⟩ := h.col
    refine ⟨fun k => if k < w.heap.size then col k else os.length + 1, fun k hk => ?_, fun j x hx k hk => ?_⟩
    · dsimp only
      rw [if_pos (Nat.lt_of_lt_of_le hk h.fr.size)]
      exact h0 k hk
    · dsimp only
      rcases hget j x hx with ⟨rfl, rfl⟩ | hx
      · rw [if_neg (by have := hfoot k hk; omega)]
      · rw [if_pos (hlt j x hx k hk)]
        exact h1 j x hx k hk
/-- what came in is none of them -/
theorem Objs.src (h : Objs w0 w os) {i : Nat} {o : Ob} (hi : os[i]? = some o) {A : Option Addr} {c : Nat} {p : List Int} (hs : Src w0 (fun _ => False) A c p) : Src w o.foot A c p :=
  src_out hs h.fr (fun k hk hf => by have := h.high hi hf; omega)
/-- one of them, read while another is written -/
theorem Objs.src_row (h : Objs w0 w os) {i j : Nat} {o : Ob} {A : Option Addr} {n c : Nat} {xs : List Int} (hi : os[i]? = some (Ob.row (.slice A n c) xs)) (hj : os[j]? = some o) (hij : i ≠ j) : Src w o.foot A c xs := by
  have hO : w.ownsRow low 5 1 (.slice A n c) xs.length (bytes xs) := h.inv i _ hi
  obtain ⟨A', c', he, hs⟩ := Src.of_own hO o.foot (fun k hk => h.apart hi hj hij hk)
  simp only [Value.slice.injEq] at he
  obtain ⟨rfl, _, rfl⟩ := he
  exact hs
theorem Objs.row_src (h : Objs w0 w os) {i : Nat} {A : Option Addr} {n c : Nat} {xs : List Int} (hi : os[i]? = some (Ob.row (.slice A n c) xs)) : Src w (fun _ => False) A c xs := by
  have hO : w.ownsRow low 5 1 (.slice A n c) xs.length (bytes xs) := h.inv i _ hi
  obtain ⟨A', c', he, hs⟩ := Src.of_own hO (fun _ => False) (fun _ _ h => h)
  simp only [Value.slice.injEq] at he
  obtain ⟨rfl, _, rfl⟩ := he
  exact hs
theorem Objs.append (h : Objs w0 w os) (i : Nat) {v v' : Value} {xs ys : List Int} (hi : os[i]? = some (Ob.row v xs)) (ho : w'.ownsRow low 5 1 v' ys.length (bytes ys)) (hg : w.grownBy w' v.ownBlock) (ha : v'.ownBlock = v.ownBlock ∨ v'.ownBlock = some w.heap.size) : Objs w0 w' (os.set i (Ob.row v' ys)) :=
  h.set i hi (S := fun k => v.ownBlock = some k) ((Fr.refl _ w).grown hg (fun _ _ h => h)) (fun _ _ h => h) ho (fun k (hk : v'.ownBlock = some k) => by
    rcases ha with ha | ha
    · exact .inl (ha.symm.trans hk)
    · obtain rfl := Option.some.inj (ha.symm.trans hk)
      exact .inr (Nat.le_refl _))
theorem Objs.write (h : Objs w0 w os) (i : Nat) {b : Nat} {rv rv' : Value} {s s' : St} (hi : os[i]? = some (Ob.dg b rv s)) (hD : Dg w' b rv' s') (hh : Heir w rv' rv) (hf : Fr (dfoot b rv) w w') : Objs w0 w' (os.set i (Ob.dg b rv' s')) :=
  h.set i hi hf (fun _ _ h => h) hD (fun k (hk : dfoot b rv' k) => by
    rcases hk with rfl | hk
    · exact .inl (.inl rfl)
    · rcases Nat.lt_or_ge k w.heap.size with hl | hl
      · exact .inl (.inr (hh.not_old hk hl))
      · exact .inr hl)
end
end Go.Proofs.YtjcfnflkiialbaaDoor.Sha
