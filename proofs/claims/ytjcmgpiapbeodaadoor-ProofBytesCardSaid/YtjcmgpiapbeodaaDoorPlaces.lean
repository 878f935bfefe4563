/-
  Plain facts on the tree: the stored hashes of a list of leaves, in the order of their places; the fold of the peaks is the root by its definition. No program, no memory. The tree's plain facts on lists of hashes: the fold of what stands at the peaks, what a list of stored hashes must be. The calls of tlog that hash nothing, as contracts on whole numbers.
-/
import Derived.Test.YtjcmgpiapbeodaaDoorPlain
import Derived.Test.YtjcmgpiapbeodaaDoorRoot
import Derived.Test.YtjcmgpiapbeodaaDoorPeaks
namespace Go.Proofs.YtjcmgpiapbeodaaDoor.Pl
section
variable {α : Type} (f : α → α → α) (d : α)
/-- the whole tree of the first 2^k of l -/
def perf : Nat → List α → α
  | 0, l => l.headD d
  | k + 1, l => f (perf k l) (perf k (l.drop (2 ^ k)))
theorem perf_take : ∀ (k : Nat) (l : List α) (m : Nat), 2 ^ k ≤ m → perf f d k (l.take m) = perf f d k l
  | 0, l, m, h => by
    obtain ⟨m, rfl⟩ : ∃ j, m = j + 1 := ⟨m - 1, by have := pow_pos 0; omega⟩
    cases l <;> simp [perf]
  | k + 1, l, m, h => by
    have h2 : 2 ^ (k + 1) = 2 * 2 ^ k := by rw [Nat.pow_succ]; omega
    simp only [perf]
    rw [perf_take k l m (by omega), List.drop_take, perf_take k (l.drop (2 ^ k)) (m - 2 ^ k) (by omega)]
/-- the n-th node of a level -/
def nodeAt (l : List α) (lv n : Nat) : α := perf f d lv (l.drop (n * 2 ^ lv))
theorem nodeAt_zero (l : List α) (n : Nat) : nodeAt f d l 0 n = l.getD n d := by
  unfold nodeAt perf
  rw [Nat.pow_zero, Nat.mul_one]
  simp [List.getD, List.head?_drop, List.headD_eq_head?_getD]
theorem nodeAt_succ (l : List α) (lv n : Nat) : nodeAt f d l (lv + 1) n = f (nodeAt f d l lv (2 * n)) (nodeAt f d l lv (2 * n + 1)) := by
  have e1 : n * 2 ^ (lv + 1) = 2 * n * 2 ^ lv := by rw [Nat.pow_succ]; ac_rfl
  have e2 : 2 * n * 2 ^ lv + 2 ^ lv = (2 * n + 1) * 2 ^ lv := by rw [Nat.add_mul, Nat.one_mul]
  unfold nodeAt
  simp only [perf]
  rw [e1, List.drop_drop, e2]
theorem nodeAt_take (l : List α) (m lv n : Nat) (h : (n + 1) * 2 ^ lv ≤ m) : nodeAt f d (l.take m) lv n = nodeAt f d l lv n := by
  have e : (n + 1) * 2 ^ lv = n * 2 ^ lv + 2 ^ lv := by rw [Nat.add_mul, Nat.one_mul]
  unfold nodeAt
  rw [List.drop_take]
  exact perf_take f d lv _ _ (by omega)
end
/-! ### the ones at the end of a number -/
def t1 (n : Nat) : Nat := if n % 2 = 1 then t1 (n / 2) + 1 else 0
termination_by n
decreasing_by omega
theorem t1_even (n : Nat) (h : n % 2 = 0) : t1 n = 0 := by rw [t1, if_neg (by omega)]
theorem t1_odd (n : Nat) (h : n % 2 = 1) : t1 n = t1 (n / 2) + 1 := by rw [t1, if_pos h]
theorem cnt_succ (n : Nat) : cnt (n + 1) = cnt n + t1 n + 1 := by
  induction n using Nat.strongRecOn with
  | ind n ih =>
    rcases Nat.mod_two_eq_zero_or_one n with h | h
    · rw [t1_even n h, cnt_half (n + 1), cnt_half n, show (n + 1) / 2 = n / 2 by omega]; omega
    · rw [t1_odd n h, cnt_half (n + 1), cnt_half n, show (n + 1) / 2 = n / 2 + 1 by omega, ih (n / 2) (by omega)]; omega
theorem div_pow_succ (n j : Nat) : n / 2 ^ (j + 1) = n / 2 ^ j / 2 := by rw [Nat.pow_succ, Nat.div_div_eq_div_mul]
theorem t1_step (n : Nat) : ∀ j, j ≤ t1 n → (n / 2 ^ j + 1) * 2 ^ j = n + 1 ∧ t1 (n / 2 ^ j) + j = t1 n
  | 0, _ => by simp
  | j + 1, h => by
    obtain ⟨h1, h2⟩ := t1_step n j (by omega)
    rw [div_pow_succ]
    generalize n / 2 ^ j = m at *
    have ho : m % 2 = 1 := by
      rcases Nat.mod_two_eq_zero_or_one m with h' | h'
      · rw [t1_even m h'] at h2; omega
      · exact h'
    refine ⟨?_, by rw [t1_odd m ho] at h2; omega⟩
    have e : (m / 2 + 1) * 2 ^ (j + 1) = (2 * (m / 2) + 1 + 1) * 2 ^ j := by
      rw [Nat.pow_succ, show 2 * (m / 2) + 1 + 1 = (m / 2 + 1) * 2 by omega]; ac_rfl
    rw [e, show 2 * (m / 2) + 1 = m by omega, h1]
theorem t1_odd_iff (n j : Nat) (h : j ≤ t1 n) : n / 2 ^ j % 2 = 1 ↔ j < t1 n := by
  obtain ⟨_, h2⟩ := t1_step n j h
  rcases Nat.mod_two_eq_zero_or_one (n / 2 ^ j) with h' | h'
  · rw [t1_even _ h'] at h2; omega
  · rw [t1_odd _ h'] at h2; omega
theorem t1_of (n : Nat) : ∀ l q, (q + 1) * 2 ^ l = n + 1 → l ≤ t1 n ∧ n / 2 ^ l = q
  | 0, q, h => by
    refine ⟨Nat.zero_le _, ?_⟩
    rw [Nat.pow_zero, Nat.mul_one] at h
    rw [Nat.pow_zero, Nat.div_one]; omega
  | l + 1, q, h => by
    have e : (q + 1) * 2 ^ (l + 1) = (2 * q + 1 + 1) * 2 ^ l := by
      rw [Nat.pow_succ, show 2 * q + 1 + 1 = (q + 1) * 2 by omega]; ac_rfl
    obtain ⟨h1, h2⟩ := t1_of n l (2 * q + 1) (by rw [← e]; exact h)
    have h3 := (t1_odd_iff n l h1).1 (by omega)
    exact ⟨h3, by rw [div_pow_succ, h2]; omega⟩
theorem t1_le (n : Nat) (h : n < 281474976710656) : t1 n ≤ 48 := by
  obtain ⟨h1, _⟩ := t1_step n (t1 n) (Nat.le_refl _)
  rcases Nat.lt_or_ge 48 (t1 n) with h2 | h2
  · exfalso
    have h3 : 2 ^ 49 ≤ 2 ^ t1 n := Nat.pow_le_pow_right (by decide) h2
    have h4 : 1 * 2 ^ t1 n ≤ (n / 2 ^ t1 n + 1) * 2 ^ t1 n := Nat.mul_le_mul_right _ (Nat.le_add_left 1 _)
    generalize 2 ^ t1 n = P at *
    omega
  · exact h2
section
variable {α : Type} (f : α → α → α) (d : α)
/-- the first j hashes that record n lays down -/
def laidBy (l : List α) (n j : Nat) : List α := (List.range j).map fun i => nodeAt f d l i (n / 2 ^ i)
theorem laidBy_len (l : List α) (n j : Nat) : (laidBy f d l n j).length = j := by simp [laidBy]
theorem laidBy_succ (l : List α) (n j : Nat) : laidBy f d l n (j + 1) = laidBy f d l n j ++ [nodeAt f d l j (n / 2 ^ j)] := by
  simp [laidBy, List.range_succ]
theorem laidBy_one (l : List α) (n : Nat) : laidBy f d l n 1 = [l.getD n d] := by
  rw [laidBy_succ, nodeAt_zero]; simp [laidBy]
theorem node_up (l : List α) (n j : Nat) (h : n / 2 ^ j % 2 = 1) : nodeAt f d l (j + 1) (n / 2 ^ (j + 1)) = f (nodeAt f d l j (n / 2 ^ j - 1)) (nodeAt f d l j (n / 2 ^ j)) := by
  rw [nodeAt_succ, div_pow_succ]
  generalize n / 2 ^ j = m at *
  rw [show 2 * (m / 2) = m - 1 by omega, show m - 1 + 1 = m by omega]
/-- the stored hashes of the first n records -/
def storedN (l : List α) : Nat → List α
  | 0 => []
  | n + 1 => storedN l n ++ laidBy f d l n (t1 n + 1)
theorem storedN_len (l : List α) : ∀ n, (storedN f d l n).length = cnt n
  | 0 => cnt_zero.symm
  | n + 1 => by rw [storedN, List.length_append, storedN_len l n, laidBy_len, cnt_succ]; omega
theorem storedN_get (l : List α) (q lv : Nat) : ∀ n, (q + 1) * 2 ^ lv ≤ n → (storedN f d l n)[cnt ((q + 1) * 2 ^ lv - 1) + lv]? = some (nodeAt f d l lv q)
  | 0, h => by have h1 : 0 < (q + 1) * 2 ^ lv := Nat.mul_pos (by omega) (pow_pos lv); omega
  | n + 1, h => by
    have h1 : 0 < (q + 1) * 2 ^ lv := Nat.mul_pos (by omega) (pow_pos lv)
    rw [storedN]
    rcases Nat.lt_or_ge n ((q + 1) * 2 ^ lv) with hn | hn
    · have he : (q + 1) * 2 ^ lv = n + 1 := by omega
      obtain ⟨h2, h3⟩ := t1_of n lv q he
      rw [he, Nat.add_sub_cancel, List.getElem?_append_right (by rw [storedN_len]; omega), storedN_len, Nat.add_sub_cancel_left, laidBy, List.getElem?_map, List.getElem?_range (by omega), Option.map_some, h3]
    · have h4 : cnt ((q + 1) * 2 ^ lv - 1) + lv < cnt n := Nat.lt_of_lt_of_le (cnt_step_le q lv) (cnt_mono hn)
      rw [List.getElem?_append_left (by rw [storedN_len]; exact h4), storedN_get l q lv n hn]
theorem laidBy_take (l : List α) (m n : Nat) (h : n < m) (j : Nat) (hj : j ≤ t1 n + 1) : laidBy f d (l.take m) n j = laidBy f d l n j := by
  unfold laidBy
  refine List.map_congr_left fun i hi => ?_
  have hi' : i < j := List.mem_range.1 hi
  exact nodeAt_take f d l m i _ (by rw [(t1_step n i (by omega)).1]; exact h)
theorem storedN_take (l : List α) (m : Nat) : ∀ n, n ≤ m → storedN f d (l.take m) n = storedN f d l n
  | 0, _ => rfl
  | n + 1, h => by rw [storedN, storedN, storedN_take l m n (by omega), laidBy_take f d l m n h _ (Nat.le_refl _)]
theorem storedN_append (l x : List α) (n : Nat) (h : n ≤ l.length) : storedN f d (l ++ x) n = storedN f d l n := by
  have e : (l ++ x).take l.length = l := by simp
  rw [← storedN_take f d (l ++ x) l.length n h, e]
theorem storedN_prefix (l : List α) : ∀ (n m : Nat), n ≤ m → (storedN f d l m).take (cnt n) = storedN f d l n
  | n, 0, h => by
    obtain rfl : n = 0 := by omega
    simp [storedN]
  | n, m + 1, h => by
    rcases Nat.lt_or_ge m n with hn | hn
    · obtain rfl : n = m + 1 := by omega
      rw [List.take_of_length_le (by rw [storedN_len]; exact Nat.le_refl _)]
    · rw [storedN, List.take_append_of_le_length (by rw [storedN_len]; exact cnt_mono hn), storedN_prefix l n m hn]
/-- the leaves in a list of stored hashes -/
def leavesOf (st : List α) (n : Nat) : List α := (List.range n).map fun i => st.getD (cnt i) d
theorem leavesOf_len (st : List α) (n : Nat) : (leavesOf d st n).length = n := by simp [leavesOf]
theorem leavesOf_get (st : List α) (n i : Nat) (h : i < n) : (leavesOf d st n).getD i d = st.getD (cnt i) d := by
  simp [leavesOf, List.getD, List.getElem?_map, List.getElem?_range h]
theorem storedN_leaf (l : List α) (n i : Nat) (h : i < n) : (storedN f d l n)[cnt i]? = some (l.getD i d) := by
  have h1 := storedN_get f d l i 0 n (by rw [Nat.pow_zero, Nat.mul_one]; exact h)
  rw [nodeAt_zero] at h1
  simpa using h1
theorem leavesOf_stored (l : List α) : leavesOf d (storedN f d l l.length) l.length = l := by
  apply List.ext_getElem?
  intro i
  by_cases h : i < l.length
  · simp only [leavesOf, List.getElem?_map, List.getElem?_range h, Option.map_some, List.getD, storedN_leaf f d l l.length i h, Option.getD_some, List.getElem?_eq_getElem h]
  · rw [List.getElem?_eq_none (by rw [leavesOf_len]; omega), List.getElem?_eq_none (by omega)]
/-! ### what Add and Check look at -/
theorem look_left (l st : List α) (id : Nat) (hs : st.take (cnt id) = storedN f d l id) (j m : Nat) (hm : 0 < m) (h : m * 2 ^ j ≤ id) :
    cnt (m * 2 ^ j - 1) + j < cnt id ∧ st.getD (cnt (m * 2 ^ j - 1) + j) d = nodeAt f d l j (m - 1) := by
  have e : m - 1 + 1 = m := by omega
  have h1 := cnt_step_le (m - 1) j
  rw [e] at h1
  have h2 : cnt (m * 2 ^ j - 1) + j < cnt id := Nat.lt_of_lt_of_le h1 (cnt_mono h)
  refine ⟨h2, ?_⟩
  have h3 := storedN_get f d l (m - 1) j id (by rw [e]; exact h)
  rw [e, ← hs, List.getElem?_take_of_lt h2] at h3
  rw [List.getD, h3, Option.getD_some]
theorem stored_at (l : List α) (n id i : Nat) (hid : id < n) (hi : i ≤ t1 id) : (storedN f d l n).getD (cnt id + i) d = nodeAt f d l i (id / 2 ^ i) := by
  have h1 := (t1_step id i hi).1
  have h2 := storedN_get f d l (id / 2 ^ i) i n (by omega)
  rw [h1, Nat.add_sub_cancel] at h2
  rw [List.getD, h2, Option.getD_some]
theorem t1_room (n id i : Nat) (hid : id < n) (hi : i ≤ t1 id) : cnt id + i < cnt n := by
  have h := cnt_succ id
  have h2 := cnt_mono (show id + 1 ≤ n from hid)
  omega
theorem take_more (st : List α) (k : Nat) (h : k < st.length) : st.take (k + 1) = st.take k ++ [st.getD k d] := by
  rw [List.take_succ_eq_append_getElem h]
  simp [List.getD, List.getElem?_eq_getElem h]
theorem div_le_of (id j m : Nat) (hm : m = id / 2 ^ j) : m * 2 ^ j ≤ id := by subst hm; exact Nat.div_mul_le_self _ _
/-- a node of the leaves, when one more has joined -/
theorem nodeAt_append (l x : List α) (lv q : Nat) (h : (q + 1) * 2 ^ lv ≤ l.length) : nodeAt f d (l ++ x) lv q = nodeAt f d l lv q := by
  have e : (l ++ x).take l.length = l := by simp
  have h1 := nodeAt_take f d (l ++ x) l.length lv q h
  rw [e] at h1
  exact h1.symm
/-! ### the fold and the root by its definition -/
def foldF (e : α) : List α → α
  | [] => e
  | [x] => x
  | x :: y :: r => f x (foldF e (y :: r))
theorem foldF_cons (e x : α) {r : List α} (h : r ≠ []) : foldF f e (x :: r) = f x (foldF f e r) := by
  cases r with
  | nil => exact absurd rfl h
  | cons y r => rfl
def halfN (n : Nat) : Nat := 2 ^ Nat.log2 (n - 1)
theorem halfN_pos (n : Nat) : 0 < halfN n := pow_pos _
theorem halfN_spec (n : Nat) (h : 2 ≤ n) : halfN n < n ∧ n ≤ 2 * halfN n := by
  unfold halfN
  have h1 : 2 ^ Nat.log2 (n - 1) ≤ n - 1 := Nat.log2_self_le (by omega)
  have h2 : n - 1 < 2 ^ (Nat.log2 (n - 1) + 1) := Nat.lt_log2_self
  rw [Nat.pow_succ] at h2
  omega
theorem halfN_eq (n k : Nat) (h1 : 2 ^ k < n) (h2 : n ≤ 2 * 2 ^ k) : halfN n = 2 ^ k := by
  unfold halfN
  congr 1
  have h0 : n - 1 ≠ 0 := by have := pow_pos k; omega
  exact (Nat.log2_eq_iff h0).2 ⟨by omega, by rw [Nat.pow_succ]; omega⟩
def whole (e : α) (l : List α) : α :=
  if l.length ≤ 1 then l.headD e else f (whole e (l.take (halfN l.length))) (whole e (l.drop (halfN l.length)))
termination_by l.length
decreasing_by
  · rename_i h
    have := halfN_spec l.length (by omega)
    rw [List.length_take]; omega
  · rename_i h
    have := halfN_spec l.length (by omega)
    have := halfN_pos l.length
    rw [List.length_drop]; omega
theorem whole_nil (e : α) : whole f e [] = e := by rw [whole]; simp
theorem whole_one (e x : α) : whole f e [x] = x := by rw [whole]; simp
theorem whole_cut (e : α) (l : List α) (k : Nat) (h1 : 2 ^ k < l.length) (h2 : l.length ≤ 2 * 2 ^ k) : whole f e l = f (whole f e (l.take (2 ^ k))) (whole f e (l.drop (2 ^ k))) := by
  have := pow_pos k
  conv => lhs; rw [whole, if_neg (by omega), halfN_eq l.length k h1 h2]
theorem whole_perf (e : α) : ∀ (k : Nat) (l : List α), 2 ^ k ≤ l.length → whole f e (l.take (2 ^ k)) = perf f d k l
  | 0, l, h => by
    cases l with
    | nil => simp at h
    | cons x r => simp [perf, whole_one]
  | k + 1, l, h => by
    have h2 : 2 ^ (k + 1) = 2 * 2 ^ k := by rw [Nat.pow_succ]; omega
    have hp := pow_pos k
    have hl : (l.take (2 ^ (k + 1))).length = 2 ^ (k + 1) := by rw [List.length_take]; omega
    rw [whole_cut f e _ k (by omega) (by omega), List.take_take, List.drop_take, show min (2 ^ k) (2 ^ (k + 1)) = 2 ^ k by omega, show 2 ^ (k + 1) - 2 ^ k = 2 ^ k by omega, whole_perf e k l (by omega), whole_perf e k (l.drop (2 ^ k)) (by rw [List.length_drop]; omega)]
    rfl
/-- the hashes at the peaks of the levels below L -/
def pkL (n : Nat) : Nat → List α → List α
  | 0, _ => []
  | L + 1, l => if n / 2 ^ L % 2 = 1 then perf f d L l :: pkL n L (l.drop (2 ^ L)) else pkL n L l
theorem pkL_nil (n : Nat) : ∀ (L : Nat) (l : List α), n % 2 ^ L = 0 → pkL f d n L l = []
  | 0, _, _ => rfl
  | L + 1, l, h => by
    have hp := pow_pos L
    have h1 : n % 2 ^ L = 0 := by
      rw [Nat.mod_pow_succ] at h; omega
    have h2 : ¬ n / 2 ^ L % 2 = 1 := by
      intro h2
      rw [Nat.mod_pow_succ, h2] at h; omega
    rw [pkL, if_neg h2, pkL_nil n L l h1]
theorem fold_pkL (e : α) (n : Nat) : ∀ (L : Nat) (l : List α), n % 2 ^ L ≠ 0 → n % 2 ^ L ≤ l.length → pkL f d n L l ≠ [] ∧ foldF f e (pkL f d n L l) = whole f e (l.take (n % 2 ^ L))
  | 0, l, h, _ => by rw [Nat.pow_zero, Nat.mod_one] at h; exact absurd rfl h
  | L + 1, l, h, hl => by
    have hp := pow_pos L
    have hm : n % 2 ^ L < 2 ^ L := Nat.mod_lt _ hp
    rcases Nat.mod_two_eq_zero_or_one (n / 2 ^ L) with h2 | h2
    · have e1 : n % 2 ^ (L + 1) = n % 2 ^ L := by rw [Nat.mod_pow_succ, h2]; omega
      rw [e1] at h hl ⊢
      rw [pkL, if_neg (by omega)]
      exact fold_pkL e n L l h hl
    · have e1 : n % 2 ^ (L + 1) = n % 2 ^ L + 2 ^ L := by rw [Nat.mod_pow_succ, h2]; omega
      rw [e1] at h hl ⊢
      rw [pkL, if_pos h2]
      refine ⟨by simp, ?_⟩
      by_cases h0 : n % 2 ^ L = 0
      · rw [pkL_nil f d n L _ h0, h0, Nat.zero_add]
        exact (whole_perf f d e L l (by omega)).symm
      · obtain ⟨h3, h4⟩ := fold_pkL e n L (l.drop (2 ^ L)) h0 (by rw [List.length_drop]; omega)
        have hlen : (l.take (n % 2 ^ L + 2 ^ L)).length = n % 2 ^ L + 2 ^ L := by rw [List.length_take]; omega
        rw [foldF_cons f e _ h3, h4, whole_cut f e (l.take (n % 2 ^ L + 2 ^ L)) L (by omega) (by omega), List.take_take, List.drop_take, show min (2 ^ L) (n % 2 ^ L + 2 ^ L) = 2 ^ L by omega, Nat.add_sub_cancel, whole_perf f d e L l (by omega)]
end
end Go.Proofs.YtjcmgpiapbeodaaDoor.Pl
namespace Go.Proofs.YtjcmgpiapbeodaaDoor.Sha
open Go.RowKit Go.Proofs.YtjcmgpiapbeodaaDoor.Mem Go.Proofs.YtjcmgpiapbeodaaDoorW.PrintWords Go.Proofs.YtjcmgpiapbeodaaDoor.Pl Go.Proofs.YtjcmgpiapbeodaaDoor.Wk
theorem foldL_F (s : Nat) : ∀ L, foldL s L = foldF (nodeL s) (ofL s []) L
  | [] => rfl
  | [x] => rfl
  | x :: y :: r => by rw [foldL, foldF, foldL_F s (y :: r)]
/-- the places of the peaks are there -/
theorem pks_bound (N n : Nat) : ∀ (L ahead : Nat), 2 ^ L ∣ ahead → ahead + n % 2 ^ L ≤ N → ∀ p ∈ pks n L ahead, 0 ≤ p ∧ p < (cnt N : Nat)
  | 0, _, _, _, p, hp => by cases hp
  | L + 1, ahead, hd, hN, p, hp => by
    have hp2 := pow_pos L
    have hd' : 2 ^ L ∣ ahead := Nat.dvd_trans (Nat.pow_dvd_pow 2 (by omega)) hd
    by_cases hb : n / 2 ^ L % 2 = 1
    · have e1 : n % 2 ^ (L + 1) = n % 2 ^ L + 2 ^ L := by rw [Nat.mod_pow_succ, hb]; omega
      rw [e1] at hN
      rw [pks_yes n ahead L hb] at hp
      rcases List.mem_cons.1 hp with rfl | hp
      · have e2 : (ahead / 2 ^ L + 1) * 2 ^ L = ahead + 2 ^ L := by rw [Nat.add_mul, Nat.one_mul, Nat.div_mul_cancel hd']
        have h3 := cnt_step_le (ahead / 2 ^ L) L
        have h4 := cnt_mono (show (ahead / 2 ^ L + 1) * 2 ^ L ≤ N by rw [e2]; omega)
        exact ⟨Int.natCast_nonneg _, Int.ofNat_lt.2 (by omega)⟩
      · exact pks_bound N n L _ (Nat.dvd_add hd' (Nat.dvd_refl _)) (by omega) p hp
    · have e1 : n % 2 ^ (L + 1) = n % 2 ^ L := by
        rw [Nat.mod_pow_succ, show n / 2 ^ L % 2 = 0 by omega]; omega
      rw [e1] at hN
      rw [pks_no n ahead L hb] at hp
      exact pks_bound N n L ahead hd' hN p hp
theorem pks_map (l : List (List Int)) (s N n : Nat) : ∀ (L ahead : Nat), 2 ^ L ∣ ahead → ahead + n % 2 ^ L ≤ N → (pks n L ahead).map (fun p => (storedN (nodeL s) [] l N).getD p.toNat []) = pkL (nodeL s) [] n L (l.drop ahead)
  | 0, _, _, _ => rfl
  | L + 1, ahead, hd, hN => by
    have hp2 := pow_pos L
    have hd' : 2 ^ L ∣ ahead := Nat.dvd_trans (Nat.pow_dvd_pow 2 (by omega)) hd
    by_cases hb : n / 2 ^ L % 2 = 1
    · have e1 : n % 2 ^ (L + 1) = n % 2 ^ L + 2 ^ L := by rw [Nat.mod_pow_succ, hb]; omega
      rw [e1] at hN
      have e2 : (ahead / 2 ^ L + 1) * 2 ^ L = ahead + 2 ^ L := by rw [Nat.add_mul, Nat.one_mul, Nat.div_mul_cancel hd']
      rw [pks_yes n ahead L hb, pkL, if_pos hb, List.map_cons, pks_map l s N n L _ (Nat.dvd_add hd' (Nat.dvd_refl _)) (by omega), List.drop_drop]
      congr 1
      rw [Int.toNat_natCast, List.getD, storedN_get (nodeL s) [] l (ahead / 2 ^ L) L N (by rw [e2]; omega), Option.getD_some, nodeAt, Nat.div_mul_cancel hd']
    · have e1 : n % 2 ^ (L + 1) = n % 2 ^ L := by
        rw [Nat.mod_pow_succ, show n / 2 ^ L % 2 = 0 by omega]; omega
      rw [e1] at hN
      rw [pks_no n ahead L hb, pkL, if_neg hb]
      exact pks_map l s N n L ahead hd' hN
/-- the root of n records of stored hashes, as the program reckons it -/
def rootL (s : Nat) (st : List (List Int)) (n : Nat) : List Int := foldL s ((pks n 49 0).map fun p => st.getD p.toNat [])
/-- the root by its definition -/
def wholeL (s : Nat) (ls : List (List Int)) : List Int := whole (nodeL s) (ofL s []) ls
/-- the stored hashes of a tree with these leaves -/
def storedL (s : Nat) (ls : List (List Int)) : List (List Int) := storedN (nodeL s) [] ls ls.length
theorem mod49 (n : Nat) (hn : n ≤ 281474976710656) : n % 2 ^ 49 = n := Nat.mod_eq_of_lt (by omega)
theorem peak_in (n N : Nat) (hn : n ≤ N) (hN : N ≤ 281474976710656) : ∀ i, i < (pks n 49 0).length → 0 ≤ (pks n 49 0).getD i 0 ∧ (pks n 49 0).getD i 0 < (cnt N : Nat) := by
  intro i hi
  have h := pks_bound N n 49 0 (Nat.dvd_zero _) (by rw [mod49 n (by omega)]; omega) ((pks n 49 0)[i]) (List.getElem_mem hi)
  simpa only [List.getD, List.getElem?_eq_getElem hi, Option.getD_some] using h
theorem root_whole (s : Nat) (ls : List (List Int)) (n : Nat) (hn : n ≤ ls.length) (hN : ls.length ≤ 281474976710656) : rootL s (storedL s ls) n = wholeL s (ls.take n) := by
  unfold rootL storedL wholeL
  rw [pks_map ls s ls.length n 49 0 (Nat.dvd_zero _) (by rw [mod49 n (by omega)]; omega), List.drop_zero, foldL_F]
  by_cases h0 : n = 0
  · subst h0
    rw [pkL_nil (nodeL s) [] 0 49 ls (by simp), List.take_zero, whole_nil]
    rfl
  · have h := (fold_pkL (nodeL s) [] (ofL s []) n 49 ls (by rw [mod49 n (by omega)]; exact h0) (by rw [mod49 n (by omega)]; exact hn)).2
    rw [mod49 n (by omega)] at h
    exact h
theorem perf_len (s : Nat) (hs : s ≤ 32) : ∀ (k : Nat) (l : List (List Int)), (∀ x ∈ l, x.length = 32) → 2 ^ k ≤ l.length → (perf (nodeL s) [] k l).length = 32
  | 0, l, h, hl => by
    cases l with
    | nil => simp at hl
    | cons x r => exact h x (by simp)
  | k + 1, l, _, _ => ofL_len _ _ hs
theorem stored_len32 (s : Nat) (hs : s ≤ 32) (l : List (List Int)) (hl : ∀ x ∈ l, x.length = 32) : ∀ n, n ≤ l.length → ∀ x ∈ storedN (nodeL s) [] l n, x.length = 32
  | 0, _, x, hx => by cases hx
  | n + 1, hn, x, hx => by
    rw [storedN] at hx
    rcases List.mem_append.1 hx with h | h
    · exact stored_len32 s hs l hl n (by omega) x h
    · obtain ⟨i, hi, rfl⟩ := List.mem_map.1 h
      have hi' : i < t1 n + 1 := List.mem_range.1 hi
      have h1 := (t1_step n i (by omega)).1
      refine perf_len s hs i _ (fun y hy => hl y (List.mem_of_mem_drop hy)) ?_
      rw [List.length_drop]
      rw [Nat.add_mul, Nat.one_mul] at h1
      omega
theorem node_len32 (s : Nat) (hs : s ≤ 32) (l : List (List Int)) (hl : ∀ x ∈ l, x.length = 32) (lv n : Nat) (h : (n + 1) * 2 ^ lv ≤ l.length) : (nodeAt (nodeL s) [] l lv n).length = 32 := by
  refine perf_len s hs lv _ (fun y hy => hl y (List.mem_of_mem_drop hy)) ?_
  rw [List.length_drop]
  rw [Nat.add_mul, Nat.one_mul] at h
  omega
theorem storedL_len (s : Nat) (ls : List (List Int)) : (storedL s ls).length = cnt ls.length := storedN_len _ _ _ _
theorem storedL_32 (s : Nat) (hs : s ≤ 32) (ls : List (List Int)) (hl : ∀ x ∈ ls, x.length = 32) : ∀ x ∈ storedL s ls, x.length = 32 := stored_len32 s hs ls hl _ (Nat.le_refl _)
/-- one more leaf -/
theorem storedL_snoc (s : Nat) (ls : List (List Int)) (x : List Int) : storedL s (ls ++ [x]) = storedL s ls ++ laidBy (nodeL s) [] (ls ++ [x]) ls.length (t1 ls.length + 1) := by
  unfold storedL
  rw [List.length_append, List.length_singleton, storedN, storedN_append (nodeL s) [] ls [x] ls.length (Nat.le_refl _)]
theorem storedL_take (s : Nat) (ls : List (List Int)) (n : Nat) (hn : n ≤ ls.length) : storedL s (ls.take n) = (storedL s ls).take (cnt n) := by
  unfold storedL
  rw [storedN_prefix (nodeL s) [] ls n ls.length hn, List.length_take, Nat.min_eq_left hn, storedN_take (nodeL s) [] ls n n (Nat.le_refl _)]
/-- is this list what a tree of n records has? -/
def goodL (s : Nat) (st : List (List Int)) (n : Nat) : Bool := decide (st = storedN (nodeL s) [] (leavesOf [] st n) n)
theorem goodL_stored (s : Nat) (ls : List (List Int)) : goodL s (storedL s ls) ls.length = true := by
  unfold goodL storedL
  rw [leavesOf_stored]
  exact decide_eq_true rfl
theorem goodL_eq {s : Nat} {st : List (List Int)} {n : Nat} (h : goodL s st n = true) : st = storedL s (leavesOf [] st n) := by
  unfold goodL at h
  have h1 := of_decide_eq_true h
  unfold storedL
  rw [leavesOf_len]
  exact h1
end Go.Proofs.YtjcmgpiapbeodaaDoor.Sha
namespace Go.Proofs.YtjcmgpiapbeodaaDoor.Sha
open Go.RowKit Go.Proofs.YtjcmgpiapbeodaaDoor.Mem Go.Proofs.YtjcmgpiapbeodaaDoorW.PrintWords Go.Proofs.YtjcmgpiapbeodaaDoorW.PrintLast Go.Proofs.YtjcmgpiapbeodaaDoorW.PrintMore Go.Proofs.YtjcmgpiapbeodaaDoor.PProofTakes Go.Proofs.YtjcmgpiapbeodaaDoor.Pl Go.Proofs.YtjcmgpiapbeodaaDoor.Wk
theorem fr_drawn {w w' : World} (h : Drawn0 w w') : Fr (fun _ => False) w w' := by
  obtain ⟨n, rfl⟩ := h
  exact (Fr.refl _ w).drewN n
theorem place_calls (l q : Nat) (hl : l ≤ 48) (h : (q + 1) * 2 ^ l ≤ 281474976710656) (w : World) :
    Calls Tryd.prog 102 #[.int .i64 (l : Int), .int .i64 (q : Int)] w fun e w' => e = .returned (.int .i64 ((cnt ((q + 1) * 2 ^ l - 1) + l : Nat) : Int)) ∧ Fr (fun _ => False) w w' :=
  (tlog_place.calls (l : Int) (q : Int) _ w (place_f l q hl h)).mono fun _ _ h => ⟨h.1, fr_drawn h.2⟩
theorem count_calls (n : Nat) (h : n ≤ 281474976710656) (w : World) :
    Calls Tryd.prog 85 #[.int .i64 (n : Int)] w fun e w' => e = .returned (.int .i64 (cnt n : Nat)) ∧ Fr (fun _ => False) w w' :=
  (tlog_count.calls (n : Int) _ w (count_f n (by omega))).mono fun _ _ h => ⟨h.1, fr_drawn h.2⟩
theorem filled_calls (c r : Nat) (hc : c ≤ 562949953421311) (hr : IsFil c r) (w : World) :
    Calls Tryd.prog 104 #[.int .i64 (c : Int)] w fun e w' => e = .returned (.int .i64 (r : Nat)) ∧ Fr (fun _ => False) w w' :=
  (tlog_filled.calls 281474976710657 (c : Int) _ w (filled_f c r hc hr _ (by omega))).mono fun _ _ h => ⟨h.1, fr_drawn h.2⟩
theorem Records_yes (r : Nat) (hr : r ≤ 281474976710656) (w : World) :
    Calls Tryd.prog 86 #[.int .i64 (cnt r : Nat)] w fun e w' => e = .returned (.tuple #[.int .i64 (r : Nat), .int .i64 0]) ∧ Fr (fun _ => False) w w' := by
  have hc : cnt r ≤ 562949953421311 := by rw [← cnt_top]; exact cnt_mono hr
  have h := records_f (cnt r) r hc (isFil_cnt r hr) 281474976710657 (by omega)
  rw [if_pos rfl] at h
  exact (tlog_Records.calls _ (cnt r : Int) _ _ w h).mono fun _ _ h => ⟨h.1, fr_drawn h.2⟩
theorem Records_not (c : Nat) (hc : ∀ r, r ≤ 281474976710656 → cnt r ≠ c) (w : World) :
    Calls Tryd.prog 86 #[.int .i64 (c : Nat)] w fun e w' => e = .returned (.tuple #[.int .i64 0, .int .i64 80]) ∧ Fr (fun _ => False) w w' := by
  by_cases hb : c ≤ 562949953421311
  · obtain ⟨r, hr⟩ := fil_exists c hb
    have h := records_f c r hb hr 281474976710657 (by omega)
    rw [if_neg (hc r hr.1)] at h
    exact (tlog_Records.calls _ (c : Int) _ _ w h).mono fun _ _ h => ⟨h.1, fr_drawn h.2⟩
  · have h := records_no (c : Int) (.inr (by omega)) 0
    exact (tlog_Records.calls _ (c : Int) _ _ w h).mono fun _ _ h => ⟨h.1, fr_drawn h.2⟩
theorem Count_calls (n : Nat) (h : n ≤ 281474976710656) (w : World) :
    Calls Tryd.prog 58 #[.int .i64 (n : Int)] w fun e w' => e = .returned (.tuple #[.int .i64 (cnt n : Nat), .int .i64 0]) ∧ Fr (fun _ => False) w w' :=
  (tlog_Count.calls (n : Int) _ _ w (Count_f n h)).mono fun _ _ h => ⟨h.1, fr_drawn h.2⟩
/-- every place is a node's -/
theorem place_of (c : Nat) (hc : c < 562949953421311) : ∃ l q, l ≤ 48 ∧ (q + 1) * 2 ^ l ≤ 281474976710656 ∧ c = cnt ((q + 1) * 2 ^ l - 1) + l := by
  obtain ⟨r, hr⟩ := fil_exists c (by omega)
  obtain ⟨q, h1, h2, h3⟩ := fil_split c r hr hc
  refine ⟨c - cnt r, q, h2, by omega, ?_⟩
  rw [← h1, Nat.add_sub_cancel]
  have := hr.2.1
  omega
end Go.Proofs.YtjcmgpiapbeodaaDoor.Sha
