/-
  A tree proof climbed again from the old root to which it led; and from another old root: plain facts.
-/
import Derived.Test.YtjcmgpiapbeodaaDoorTreesP
set_option linter.unusedSimpArgs false
set_option linter.unusedVariables false
namespace Go.Proofs.YtjcmgpiapbeodaaDoor.Pf
section
variable (f : List Int → List Int → List Int)
theorem from_right (m : Nat) : ∀ (k a b : Nat), b - a ≤ 2 ^ k → a < m → m ≤ b → seedA m a b = a → ∀ s ∈ fromD m a b, s.r = true
  | 0, a, b, hk, h1, h2, _, s, hs => by rw [fromD_end (by omega)] at hs; cases hs
  | k + 1, a, b, hk, h1, h2, h0, s, hs => by
    by_cases h : m < b ∧ a + 2 ≤ b
    · have hg := cut_gt a b
      by_cases hi : m ≤ cut a b
      · rw [seedA_left h hi] at h0
        rw [fromD_left h hi] at hs
        rcases List.mem_cons.1 hs with rfl | hs
        · rfl
        · exact from_right m k a (cut a b) (cut_left h.2 hk) h1 hi h0 s hs
      · exfalso
        rw [seedA_right h (by omega)] at h0
        have := (seedA_lt m k (cut a b) b (cut_right h.2 hk) (by omega) h2).1
        omega
    · rw [fromD_end h] at hs; cases hs
theorem oldT_right : ∀ (w : List St) (p : List (List Int)) (n : Nd), (∀ s ∈ w, s.r = true) → oldT n w p = n
  | [], _, n, _ => by cases ‹List (List Int)› <;> rfl
  | _ :: _, [], n, _ => rfl
  | s :: w, h :: p, n, hr => by
    rw [oldT, if_pos (hr s (by simp))]
    exact oldT_right w p n (fun t ht => hr t (by simp [ht]))
theorem oldN_zero {m n : Nat} (h0 : 0 < m) (hm : m ≤ n) (hs : ¬ 0 < seedA m 0 n) (a : List Int) (p : List (List Int)) : oldN m n a p = .giv a := by
  unfold oldN begT
  rw [if_neg hs]
  exact oldT_right _ _ _ fun s h => from_right m n 0 n (Nat.le_of_lt Nat.lt_two_pow_self) h0 hm (by omega) s (List.mem_reverse.1 h)
theorem beg_other {m n : Nat} (hs : 0 < seedA m 0 n) (a b : List Int) (p : List (List Int)) : begT m n a p = begT m n b p := by
  unfold begT
  rw [if_pos hs, if_pos hs]
/-- from the old root to which it led -/
theorem again {m n : Nat} (h0 : 0 < m) (hm : m ≤ n) (a : List Int) (p : List (List Int)) : freshN m n ((oldN m n a p).sum f) p = freshN m n a p ∧ oldN m n ((oldN m n a p).sum f) p = oldN m n a p := by
  have h : begT m n ((oldN m n a p).sum f) p = begT m n a p := by
    by_cases hs : 0 < seedA m 0 n
    · exact beg_other hs _ _ p
    · rw [oldN_zero h0 hm hs]
      rfl
  refine ⟨by unfold freshN; rw [h], ?_⟩
  show oldT (begT m n ((oldN m n a p).sum f) p) (stepsT m n) (restT m n p) = _
  rw [h]
  rfl
/-- from another old root, where the seed is not the old tree itself, it leads where it led -/
theorem other_seed {m n : Nat} (hs : 0 < seedA m 0 n) (a b : List Int) (p : List (List Int)) : freshN m n a p = freshN m n b p ∧ oldN m n a p = oldN m n b p := by
  unfold freshN oldN
  rw [beg_other hs a b p]
  exact ⟨rfl, rfl⟩
end
end Go.Proofs.YtjcmgpiapbeodaaDoor.Pf
