/-
  What ClimbTree, CheckTree and CollideTrees answer; plain facts on them.
-/
import Derived.Test.YtjcmgpiapbeodaaDoorHashs
import Derived.Test.YtjcmgpiapbeodaaDoorAgainP
set_option linter.unusedSimpArgs false
set_option linter.unusedVariables false
namespace Go.Proofs.YtjcmgpiapbeodaaDoor.Sha
open Go.Proofs.YtjcmgpiapbeodaaDoor.Pf
def treOk (n m : Int) : Prop := 1 ≤ n ∧ n ≤ 281474976710656 ∧ 1 ≤ m ∧ m ≤ n
instance (n m : Int) : Decidable (treOk n m) := by unfold treOk; exact inferInstance
/-- ClimbTree: both roots and the code -/
def climbT (s : Nat) (n m : Int) (p : List (List Int)) (old : List Int) : List Int × List Int × Int :=
  if treOk n m then if p.length = (from' m.toNat n.toNat).length then ((freshN m.toNat n.toNat old p).sum (nodeL s), (oldN m.toNat n.toNat old p).sum (nodeL s), 0) else (z32, z32, 90) else (z32, z32, 1)
theorem climbT_arg {s : Nat} {n m : Int} {p : List (List Int)} {old : List Int} (h : ¬ treOk n m) : climbT s n m p old = (z32, z32, 1) := by rw [climbT, if_neg h]
theorem climbT_len {s : Nat} {n m : Int} {p : List (List Int)} {old : List Int} (h : treOk n m) (hl : p.length ≠ (from' m.toNat n.toNat).length) : climbT s n m p old = (z32, z32, 90) := by rw [climbT, if_pos h, if_neg hl]
theorem climbT_yes {s : Nat} {n m : Int} {p : List (List Int)} {old : List Int} (h : treOk n m) (hl : p.length = (from' m.toNat n.toNat).length) :
    climbT s n m p old = ((freshN m.toNat n.toNat old p).sum (nodeL s), (oldN m.toNat n.toNat old p).sum (nodeL s), 0) := by rw [climbT, if_pos h, if_pos hl]
theorem climbT_code {s : Nat} {n m : Int} {p : List (List Int)} {old : List Int} : (climbT s n m p old).2.2 = 0 ∨ (climbT s n m p old).2.2 = 1 ∨ (climbT s n m p old).2.2 = 90 := by
  unfold climbT
  split
  · split
    · exact .inl rfl
    · exact .inr (.inr rfl)
  · exact .inr (.inl rfl)
theorem treOk_nat {n m : Int} (h : treOk n m) : 0 < m.toNat ∧ m.toNat ≤ n.toNat ∧ n.toNat ≤ 281474976710656 := by unfold treOk at h; omega
theorem fresh_ok {m n : Nat} {old : List Int} {p : List (List Int)} (ho : old.length = 32) (h : ∀ x ∈ p, x.length = 32) (hl : p.length = (from' m n).length) : (freshN m n old p).ok := top_ok _ _ _ (beg_32 ho h hl) (rest_32 h)
theorem oldN_ok {m n : Nat} {old : List Int} {p : List (List Int)} (ho : old.length = 32) (h : ∀ x ∈ p, x.length = 32) (hl : p.length = (from' m n).length) : (oldN m n old p).ok := oldT_ok _ _ _ (beg_32 ho h hl) (rest_32 h)
theorem climbT_32 {s : Nat} (hs : s ≤ 32) {n m : Int} {p : List (List Int)} {old : List Int} (hp : ∀ x ∈ p, x.length = 32) (hl : old.length = 32) : (climbT s n m p old).1.length = 32 ∧ (climbT s n m p old).2.1.length = 32 := by
  unfold climbT
  split
  · split
    · rename_i h
      exact ⟨Pf.sum_len (nodeL s) (fun l r => ofL_len s _ hs) (fresh_ok hl hp h), Pf.sum_len (nodeL s) (fun l r => ofL_len s _ hs) (oldN_ok hl hp h)⟩
    · exact ⟨rfl, rfl⟩
  · exact ⟨rfl, rfl⟩
/-- CheckTree -/
def checkT (s : Nat) (n m : Int) (p : List (List Int)) (root old : List Int) : Int :=
  if (climbT s n m p old).2.2 = 0 then if (climbT s n m p old).1 = root ∧ (climbT s n m p old).2.1 = old then 0 else 91 else (climbT s n m p old).2.2
theorem checkT_zero {s : Nat} {n m : Int} {p : List (List Int)} {root old : List Int} (h : checkT s n m p root old = 0) :
    treOk n m ∧ p.length = (from' m.toNat n.toNat).length ∧ (freshN m.toNat n.toNat old p).sum (nodeL s) = root ∧ (oldN m.toNat n.toNat old p).sum (nodeL s) = old := by
  unfold checkT at h
  by_cases h1 : treOk n m
  · by_cases h2 : p.length = (from' m.toNat n.toNat).length
    · rw [climbT_yes h1 h2, if_pos rfl] at h
      split at h
      · rename_i h3
        exact ⟨h1, h2, h3.1, h3.2⟩
      · cases h
    · rw [climbT_len h1 h2] at h
      simp at h
  · rw [climbT_arg h1] at h
    simp at h
theorem checkT_of {s : Nat} {n m : Int} {p : List (List Int)} {root old : List Int} (h1 : treOk n m) (h2 : p.length = (from' m.toNat n.toNat).length) (h3 : (freshN m.toNat n.toNat old p).sum (nodeL s) = root) (h4 : (oldN m.toNat n.toNat old p).sum (nodeL s) = old) :
    checkT s n m p root old = 0 := by
  unfold checkT
  rw [climbT_yes h1 h2, if_pos rfl, if_pos ⟨h3, h4⟩]
/-- CollideTrees: its code -/
def colT (s : Nat) (n m : Int) (root a : List Int) (pa : List (List Int)) (b : List Int) (pb : List (List Int)) : Int :=
  if treOk n m then if pa.length = (from' m.toNat n.toNat).length ∧ pb.length = (from' m.toNat n.toNat).length then if checkT s n m pa root a = 0 ∧ checkT s n m pb root b = 0 then if a = b then 92 else 0 else 91 else 90 else 1
theorem colT_zero {s : Nat} {n m : Int} {root a b : List Int} {pa pb : List (List Int)} : colT s n m root a pa b pb = 0 ↔ checkT s n m pa root a = 0 ∧ checkT s n m pb root b = 0 ∧ a ≠ b := by
  unfold colT
  constructor
  · intro h
    split at h
    · split at h
      · split at h
        · split at h
          · cases h
          · rename_i h1 h2 h3 h4
            exact ⟨h3.1, h3.2, h4⟩
        · cases h
      · cases h
    · cases h
  · rintro ⟨h1, h2, h3⟩
    obtain ⟨a1, a2, _, _⟩ := checkT_zero h1
    obtain ⟨_, b2, _, _⟩ := checkT_zero h2
    rw [if_pos a1, if_pos ⟨a2, b2⟩, if_pos ⟨h1, h2⟩, if_neg h3]
/-- the pair that comes out collides -/
theorem trees_coll {s : Nat} (hs : s ≤ 32) {n m : Int} {root a b : List Int} {pa pb : List (List Int)} (ha : a.length = 32) (hb : b.length = 32) (h3 : ∀ x ∈ pa, x.length = 32) (h4 : ∀ x ∈ pb, x.length = 32)
    (h1 : checkT s n m pa root a = 0) (h2 : checkT s n m pb root b = 0) {P1 P2 : List Int}
    (h : pairD (nodeL s) (freshN m.toNat n.toNat a pa) (freshN m.toNat n.toNat b pb) (fromD m.toNat 0 n.toNat) = some (P1, P2)) : collP s P1 P2 := by
  obtain ⟨a1, a2, a3, a4⟩ := checkT_zero h1
  obtain ⟨_, b2, b3, b4⟩ := checkT_zero h2
  obtain ⟨c1, x, y, x', y', c2, c3⟩ := pair_trees_of (nodeL s) (fun l r => ofL_len s _ hs) _ _ a b pa pb a2 b2 ha hb h3 h4 (a3.trans b3.symm) h
  refine ⟨c1, ?_⟩
  obtain ⟨e1, e2⟩ := Prod.mk.inj c2
  rw [e1, e2]
  exact ofL_take hs c3
theorem trees_there {s : Nat} {n m : Int} {root a b : List Int} {pa pb : List (List Int)} (h1 : checkT s n m pa root a = 0) (h2 : checkT s n m pb root b = 0) (hne : a ≠ b) :
    ∃ r, pairD (nodeL s) (freshN m.toNat n.toNat a pa) (freshN m.toNat n.toNat b pb) (fromD m.toNat 0 n.toNat) = some r := by
  obtain ⟨a1, a2, a3, a4⟩ := checkT_zero h1
  obtain ⟨_, b2, b3, b4⟩ := checkT_zero h2
  exact pair_trees (nodeL s) _ _ a b pa pb a2 b2 (a3.trans b3.symm) a4 b4 hne
/-- climbed from a or from the old root to which that led -/
theorem check_again {s : Nat} {n m : Int} {p : List (List Int)} {a : List Int} (h : (climbT s n m p a).2.2 = 0) : checkT s n m p (climbT s n m p a).1 (climbT s n m p a).2.1 = 0 := by
  by_cases h1 : treOk n m
  · by_cases h2 : p.length = (from' m.toNat n.toNat).length
    · obtain ⟨c1, c2, _⟩ := treOk_nat h1
      obtain ⟨e1, e2⟩ := again (nodeL s) c1 c2 a p
      rw [climbT_yes h1 h2]
      exact checkT_of h1 h2 (by rw [e1]) (by rw [e2])
    · rw [climbT_len h1 h2] at h; cases h
  · rw [climbT_arg h1] at h; cases h
/-- the pair's texts are bytes -/
theorem pairD_byt {s : Nat} {P1 P2 : List Int} : ∀ {w : List Pf.St} {x y : Nd}, NdByt x → NdByt y → pairD (nodeL s) x y w = some (P1, P2) → Byt P1 ∧ Byt P2
  | [], x, y, _, _, h => by simp [pairD] at h
  | t :: w, .giv _, y, _, _, h => by simp [pairD] at h
  | t :: w, .join _ _, .giv _, _, _, h => by simp [pairD] at h
  | t :: w, .join xl xr, .join yl yr, hx, hy, h => by
    cases hp : parts (nodeL s) (.join xl xr) (.join yl yr) with
    | some q =>
      rw [pairD_some _ hp] at h
      have h := Option.some.inj h
      subst h
      simp only [parts] at hp
      split at hp
      · cases hp
      · obtain ⟨e1, e2⟩ := Prod.mk.inj (Option.some.inj hp)
        rw [← e1, ← e2]
        exact ⟨byt_cons (by omega) hx.1.sum hx.2.sum, byt_cons (by omega) hy.1.sum hy.2.sum⟩
    | none =>
      rw [pairD_next _ hp] at h
      by_cases hr : t.r = true
      · rw [if_pos hr] at h
        exact pairD_byt hx.1 hy.1 h
      · rw [if_neg hr] at h
        exact pairD_byt hx.2 hy.2 h
theorem top_byt : ∀ (w : List Pf.St) (p : List (List Int)) (n : Nd), NdByt n → (∀ x ∈ p, Byt x) → NdByt (top n w p)
  | [], _, n, hn, _ => by cases ‹List (List Int)› <;> exact hn
  | _ :: _, [], n, hn, _ => hn
  | t :: w, h :: p, n, hn, hp => top_byt w p _ (up_byt hn (hp h (by simp))) (fun x hx => hp x (by simp [hx]))
theorem oldT_byt : ∀ (w : List Pf.St) (p : List (List Int)) (n : Nd), NdByt n → (∀ x ∈ p, Byt x) → NdByt (oldT n w p)
  | [], _, n, hn, _ => by cases ‹List (List Int)› <;> exact hn
  | _ :: _, [], n, hn, _ => hn
  | t :: w, h :: p, n, hn, hp => by
    refine oldT_byt w p _ ?_ (fun x hx => hp x (by simp [hx]))
    by_cases hr : t.r = true
    · rw [if_pos hr]; exact hn
    · rw [if_neg hr]; exact ⟨hp h (by simp), hn⟩
theorem rest_byt {m n : Nat} {p : List (List Int)} (hp : ∀ x ∈ p, Byt x) : ∀ x ∈ restT m n p, Byt x := by
  unfold restT
  split
  · exact fun x hx => hp x (List.mem_of_mem_tail hx)
  · exact hp
theorem beg_byt {m n : Nat} {a : List Int} {p : List (List Int)} (ha : Byt a) (hp : ∀ x ∈ p, Byt x) : NdByt (begT m n a p) := by
  unfold begT NdByt
  split
  · cases p with
    | nil => intro b hb; cases hb
    | cons x r => exact hp x (by simp)
  · exact ha
theorem trees_byt {s m n : Nat} {a b : List Int} {pa pb : List (List Int)} (ha : Byt a) (hb : Byt b) (h3 : ∀ x ∈ pa, Byt x) (h4 : ∀ x ∈ pb, Byt x) {P1 P2 : List Int}
    (h : pairD (nodeL s) (freshN m n a pa) (freshN m n b pb) (fromD m 0 n) = some (P1, P2)) : Byt P1 ∧ Byt P2 :=
  pairD_byt (top_byt _ _ _ (beg_byt ha h3) (rest_byt h3)) (top_byt _ _ _ (beg_byt hb h4) (rest_byt h4)) h
theorem climbT_byt {s : Nat} {n m : Int} {p : List (List Int)} {a : List Int} (ha : Byt a) (hp : ∀ x ∈ p, Byt x) : Byt (climbT s n m p a).1 ∧ Byt (climbT s n m p a).2.1 := by
  have hz : Byt z32 := fun b hb => by
    have := List.eq_of_mem_replicate hb
    omega
  unfold climbT
  split
  · split
    · exact ⟨(top_byt _ _ _ (beg_byt ha hp) (rest_byt hp)).sum, (oldT_byt _ _ _ (beg_byt ha hp) (rest_byt hp)).sum⟩
    · exact ⟨hz, hz⟩
  · exact ⟨hz, hz⟩
end Go.Proofs.YtjcmgpiapbeodaaDoor.Sha
