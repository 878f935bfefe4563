/-
  What lifting knows of the ranges' hashes: plain facts, no program.
-/
import Derived.Test.YtjcmgpiapbeodaaDoorTreesP
set_option linter.unusedVariables false
namespace Go.Proofs.YtjcmgpiapbeodaaDoor.Pf
def upd (K : Nat → Nat → List Int) (a b : Nat) (h : List Int) : Nat → Nat → List Int := fun x y => if x = a ∧ y = b then h else K x y
theorem upd_same (K : Nat → Nat → List Int) (a b : Nat) (h : List Int) : upd K a b h a b = h := by simp [upd]
theorem upd_ne (K : Nat → Nat → List Int) {a b x y : Nat} (h : List Int) (hn : ¬ (x = a ∧ y = b)) : upd K a b h x y = K x y := by simp only [upd, if_neg hn]
section
variable (f : List Int → List Int → List Int)
/-- the climb of a tree proof with what it tells: the node, its range, the hashes of all ranges that it has passed -/
structure Cl where
  n : Nd
  x : Nat
  y : Nat
  K : Nat → Nat → List Int
def Cl.up (c : Cl) (s : St) (h : List Int) : Cl :=
  if s.r = true then ⟨Pf.up c.n s h, c.x, s.b, upd c.K c.x s.b ((Pf.up c.n s h).sum f)⟩ else ⟨Pf.up c.n s h, s.a, c.y, upd c.K s.a c.y ((Pf.up c.n s h).sum f)⟩
def Cl.run : Cl → List St → List (List Int) → Cl
  | c, s :: w, h :: p => Cl.run (c.up f s h) w p
  | c, _, _ => c
theorem run_snoc (s : St) (h : List Int) : ∀ (w : List St) (p : List (List Int)) (c : Cl), w.length = p.length → c.run f (w ++ [s]) (p ++ [h]) = (c.run f w p).up f s h
  | [], [], _, _ => rfl
  | [], _ :: _, _, hl => by simp at hl
  | _ :: _, [], _, hl => by simp at hl
  | s' :: w, h' :: p, c, hl => run_snoc s h w p (c.up f s' h') (by simpa using hl)
theorem run_node : ∀ (w : List St) (p : List (List Int)) (c : Cl), (c.run f w p).n = top c.n w p
  | [], _, c => by cases ‹List (List Int)› <;> rfl
  | _ :: _, [], c => rfl
  | s :: w, h :: p, c => by
    show ((c.up f s h).run f w p).n = top (Pf.up c.n s h) w p
    rw [run_node w p]
    unfold Cl.up
    split <;> rfl
end
theorem from_in (m : Nat) : ∀ (k a b : Nat), b - a ≤ 2 ^ k → a < m → m ≤ b → ∀ s ∈ fromD m a b, a ≤ s.a ∧ s.a < s.b ∧ s.b ≤ b ∧ (s.r = true → m ≤ s.a ∧ m < s.b) ∧ (¬ s.r = true → s.b < m ∧ s.b ≤ seedA m a b) := by
  intro k
  induction k with
  | zero => intro a b hk _ _ s hs; rw [fromD_end (by omega)] at hs; cases hs
  | succ k ih =>
    intro a b hk h1 h2 s hs
    by_cases hb : m < b ∧ a + 2 ≤ b
    · have hg := cut_gt a b
      have hlt := cut_lt hb.2
      by_cases hi : m ≤ cut a b
      · rw [fromD_left hb hi] at hs
        rw [seedA_left hb hi]
        rcases List.mem_cons.1 hs with rfl | hs
        · exact ⟨by show a ≤ cut a b; omega, hlt, Nat.le_refl _, fun _ => ⟨hi, hb.1⟩, fun h => absurd rfl h⟩
        · obtain ⟨q1, q2, q3, q4, q5⟩ := ih a (cut a b) (cut_left hb.2 hk) h1 hi s hs
          exact ⟨q1, q2, by omega, q4, q5⟩
      · have hi : cut a b < m := by omega
        rw [fromD_right hb hi] at hs
        rw [seedA_right hb hi]
        rcases List.mem_cons.1 hs with rfl | hs
        · exact ⟨Nat.le_refl _, hg, by show cut a b ≤ b; omega, fun h => by simp at h, fun _ => ⟨hi, (seedA_lt m k (cut a b) b (cut_right hb.2 hk) hi h2).1⟩⟩
        · obtain ⟨q1, q2, q3, q4, q5⟩ := ih (cut a b) b (cut_right hb.2 hk) hi h2 s hs
          exact ⟨by omega, q2, by omega, q4, q5⟩
    · rw [fromD_end hb] at hs; cases hs
section
variable (f : List Int → List Int → List Int)
/-- what is known of the ranges: by the tree proof's climb, by the tree proof, by the record proof -/
def zeros2 : Nat → Nat → List Int := fun _ _ => List.replicate 32 0
def begC (m n : Nat) (old : List Int) (tree : List (List Int)) : Cl := ⟨begT m n old tree, seedA m 0 n, m, upd zeros2 (seedA m 0 n) m ((begT m n old tree).sum f)⟩
def climbK (m n : Nat) (old : List Int) (tree : List (List Int)) : Nat → Nat → List Int := ((begC f m n old tree).run f (stepsT m n) (restT m n tree)).K
end
end Go.Proofs.YtjcmgpiapbeodaaDoor.Pf
