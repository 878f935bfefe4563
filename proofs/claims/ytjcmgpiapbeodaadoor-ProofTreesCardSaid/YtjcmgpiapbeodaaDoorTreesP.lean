/-
  Ranges, ways and climbs: plain facts, no program. What it means if two climbs part: plain facts on nodes, no program. The climb of a tree proof, and two of them to one root: plain facts, no program.
-/
set_option linter.unusedVariables false
namespace Go.Proofs.YtjcmgpiapbeodaaDoor.Pf
/-- where the tree over a..b is cut -/
def cut (a b : Nat) : Nat := a + 2 ^ (b - a - 1).log2
theorem cut_gt (a b : Nat) : a < cut a b := by
  unfold cut
  have := Nat.two_pow_pos (b - a - 1).log2
  omega
theorem cut_lt {a b : Nat} (h : a + 2 ≤ b) : cut a b < b := by
  unfold cut
  have := Nat.log2_self_le (n := b - a - 1) (by omega)
  omega
theorem cut_left {a b k : Nat} (h : a + 2 ≤ b) (hk : b - a ≤ 2 ^ (k + 1)) : cut a b - a ≤ 2 ^ k := by
  unfold cut
  have h1 : (b - a - 1).log2 < k + 1 := (Nat.log2_lt (by omega)).2 (by omega)
  have h2 : 2 ^ (b - a - 1).log2 ≤ 2 ^ k := Nat.pow_le_pow_right (by decide) (by omega)
  omega
theorem cut_right {a b k : Nat} (h : a + 2 ≤ b) (hk : b - a ≤ 2 ^ (k + 1)) : b - cut a b ≤ 2 ^ k := by
  unfold cut
  have h1 : (b - a - 1).log2 < k + 1 := (Nat.log2_lt (by omega)).2 (by omega)
  have h2 : 2 ^ (b - a - 1).log2 ≤ 2 ^ k := Nat.pow_le_pow_right (by decide) (by omega)
  have h3 : b - a - 1 < 2 ^ ((b - a - 1).log2 + 1) := Nat.lt_log2_self
  rw [Nat.pow_succ] at h3
  omega
/-- a sibling on the way: its range, and whether it lies to the right -/
structure St where
  a : Nat
  b : Nat
  r : Bool
/-- the way of record i in a..b, the highest first -/
def wayD (i a b : Nat) : List St :=
  if h : a + 2 ≤ b then
    if i < cut a b then ⟨cut a b, b, true⟩ :: wayD i a (cut a b) else ⟨a, cut a b, false⟩ :: wayD i (cut a b) b
  else []
termination_by b - a
decreasing_by
  · have := cut_lt h; omega
  · have := cut_gt a b; omega
theorem wayD_end {i a b : Nat} (h : ¬ a + 2 ≤ b) : wayD i a b = [] := by rw [wayD, dif_neg h]
theorem wayD_left {i a b : Nat} (h : a + 2 ≤ b) (hi : i < cut a b) : wayD i a b = ⟨cut a b, b, true⟩ :: wayD i a (cut a b) := by rw [wayD, dif_pos h, if_pos hi]
theorem wayD_right {i a b : Nat} (h : a + 2 ≤ b) (hi : cut a b ≤ i) : wayD i a b = ⟨a, cut a b, false⟩ :: wayD i (cut a b) b := by rw [wayD, dif_pos h, if_neg (by omega)]
/-- the way from m in a..b, the highest first, without the seed -/
def fromD (m a b : Nat) : List St :=
  if h : m < b ∧ a + 2 ≤ b then
    if m ≤ cut a b then ⟨cut a b, b, true⟩ :: fromD m a (cut a b) else ⟨a, cut a b, false⟩ :: fromD m (cut a b) b
  else []
termination_by b - a
decreasing_by
  · have := cut_lt h.2; omega
  · have := cut_gt a b; omega
theorem fromD_end {m a b : Nat} (h : ¬ (m < b ∧ a + 2 ≤ b)) : fromD m a b = [] := by rw [fromD, dif_neg h]
theorem fromD_left {m a b : Nat} (h : m < b ∧ a + 2 ≤ b) (hi : m ≤ cut a b) : fromD m a b = ⟨cut a b, b, true⟩ :: fromD m a (cut a b) := by rw [fromD, dif_pos h, if_pos hi]
theorem fromD_right {m a b : Nat} (h : m < b ∧ a + 2 ≤ b) (hi : cut a b < m) : fromD m a b = ⟨a, cut a b, false⟩ :: fromD m (cut a b) b := by rw [fromD, dif_pos h, if_neg (by omega)]
/-- where the seed of m begins -/
def seedA (m a b : Nat) : Nat :=
  if h : m < b ∧ a + 2 ≤ b then
    if m ≤ cut a b then seedA m a (cut a b) else seedA m (cut a b) b
  else a
termination_by b - a
decreasing_by
  · have := cut_lt h.2; omega
  · have := cut_gt a b; omega
theorem seedA_end {m a b : Nat} (h : ¬ (m < b ∧ a + 2 ≤ b)) : seedA m a b = a := by rw [seedA, dif_neg h]
theorem seedA_left {m a b : Nat} (h : m < b ∧ a + 2 ≤ b) (hi : m ≤ cut a b) : seedA m a b = seedA m a (cut a b) := by rw [seedA, dif_pos h, if_pos hi]
theorem seedA_right {m a b : Nat} (h : m < b ∧ a + 2 ≤ b) (hi : cut a b < m) : seedA m a b = seedA m (cut a b) b := by rw [seedA, dif_pos h, if_neg (by omega)]
theorem wayD_len (i : Nat) : ∀ (k a b : Nat), b - a ≤ 2 ^ k → (wayD i a b).length ≤ k
  | 0, a, b, h => by rw [wayD_end (by omega)]; exact Nat.zero_le _
  | k + 1, a, b, h => by
    by_cases h2 : a + 2 ≤ b
    · by_cases hi : i < cut a b
      · rw [wayD_left h2 hi, List.length_cons]
        have := wayD_len i k a (cut a b) (cut_left h2 h)
        omega
      · rw [wayD_right h2 (by omega), List.length_cons]
        have := wayD_len i k (cut a b) b (cut_right h2 h)
        omega
    · rw [wayD_end h2]; exact Nat.zero_le _
theorem fromD_len (m : Nat) : ∀ (k a b : Nat), b - a ≤ 2 ^ k → (fromD m a b).length ≤ k
  | 0, a, b, h => by rw [fromD_end (by omega)]; exact Nat.zero_le _
  | k + 1, a, b, h => by
    by_cases h2 : m < b ∧ a + 2 ≤ b
    · by_cases hi : m ≤ cut a b
      · rw [fromD_left h2 hi, List.length_cons]
        have := fromD_len m k a (cut a b) (cut_left h2.2 h)
        omega
      · rw [fromD_right h2 (by omega), List.length_cons]
        have := fromD_len m k (cut a b) b (cut_right h2.2 h)
        omega
    · rw [fromD_end h2]; exact Nat.zero_le _
theorem seedA_lt (m : Nat) : ∀ (k a b : Nat), b - a ≤ 2 ^ k → a < m → m ≤ b → a ≤ seedA m a b ∧ seedA m a b < m
  | 0, a, b, h, h1, h2 => by rw [seedA_end (by omega)]; omega
  | k + 1, a, b, h, h1, hb => by
    by_cases h2 : m < b ∧ a + 2 ≤ b
    · have hg := cut_gt a b
      by_cases hi : m ≤ cut a b
      · rw [seedA_left h2 hi]
        exact seedA_lt m k a (cut a b) (cut_left h2.2 h) h1 hi
      · rw [seedA_right h2 (by omega)]
        have := seedA_lt m k (cut a b) b (cut_right h2.2 h) (by omega) hb
        omega
    · rw [seedA_end h2]; omega
/-- the way of record i in the tree of n: the lowest first -/
def way (i n : Nat) : List St := (wayD i 0 n).reverse
/-- the way from m in the tree of n: the seed, if it does not begin at 0, and then the lowest first -/
def seedL (m n : Nat) : List St := if 0 < seedA m 0 n then [⟨seedA m 0 n, m, false⟩] else []
def from' (m n : Nat) : List St := seedL m n ++ (fromD m 0 n).reverse
theorem way_len {i n : Nat} (h : n ≤ 281474976710656) : (way i n).length ≤ 48 := by
  unfold way
  rw [List.length_reverse]
  exact wayD_len i 48 0 n (by have : (2 : Nat) ^ 48 = 281474976710656 := by decide
                              omega)
theorem fromD_len48 {m n : Nat} (h : n ≤ 281474976710656) : (fromD m 0 n).length ≤ 48 :=
  fromD_len m 48 0 n (by have : (2 : Nat) ^ 48 = 281474976710656 := by decide
                         omega)
theorem seedL_len (m n : Nat) : (seedL m n).length ≤ 1 := by unfold seedL; split <;> simp
theorem from_len {m n : Nat} (h : n ≤ 281474976710656) : (from' m n).length ≤ 49 := by
  unfold from'
  rw [List.length_append, List.length_reverse]
  have := fromD_len48 (m := m) h
  have := seedL_len m n
  omega
/-- what a climb passes: a hash that was given, or one that was computed of two -/
inductive Nd where
  | giv (h : List Int)
  | join (l r : Nd)
section
variable (f : List Int → List Int → List Int)
def Nd.sum : Nd → List Int
  | .giv h => h
  | .join l r => f l.sum r.sum
def up (n : Nd) (s : St) (h : List Int) : Nd := if s.r = true then .join n (.giv h) else .join (.giv h) n
def nodes : Nd → List St → List (List Int) → List Nd
  | n, s :: w, h :: p => n :: nodes (up n s h) w p
  | n, _, _ => [n]
def top : Nd → List St → List (List Int) → Nd
  | n, s :: w, h :: p => top (up n s h) w p
  | n, _, _ => n
end
theorem top_snoc (s : St) (h : List Int) : ∀ (w : List St) (p : List (List Int)) (n : Nd), w.length = p.length → top n (w ++ [s]) (p ++ [h]) = up (top n w p) s h
  | [], [], n, _ => rfl
  | [], _ :: _, _, hl => by simp at hl
  | _ :: _, [], _, hl => by simp at hl
  | s' :: w, h' :: p, n, hl => top_snoc s h w p (up n s' h') (by simpa using hl)
theorem nodes_snoc (s : St) (h : List Int) : ∀ (w : List St) (p : List (List Int)) (n : Nd), w.length = p.length → nodes n (w ++ [s]) (p ++ [h]) = nodes n w p ++ [up (top n w p) s h]
  | [], [], n, _ => rfl
  | [], _ :: _, _, hl => by simp at hl
  | _ :: _, [], _, hl => by simp at hl
  | s' :: w, h' :: p, n, hl => by
    have := nodes_snoc s h w p (up n s' h') (by simpa using hl)
    show n :: nodes (up n s' h') (w ++ [s]) (p ++ [h]) = _
    rw [this]; rfl
theorem nodes_len : ∀ (w : List St) (p : List (List Int)) (n : Nd), w.length = p.length → (nodes n w p).length = w.length + 1
  | [], [], n, _ => rfl
  | [], _ :: _, _, hl => by simp at hl
  | _ :: _, [], _, hl => by simp at hl
  | s :: w, h :: p, n, hl => by
    show (n :: nodes (up n s h) w p).length = _
    rw [List.length_cons, nodes_len w p _ (by simpa using hl)]; rfl
theorem nodes_last : ∀ (w : List St) (p : List (List Int)) (n : Nd), w.length = p.length → (nodes n w p)[w.length]? = some (top n w p)
  | [], [], n, _ => rfl
  | [], _ :: _, _, hl => by simp at hl
  | _ :: _, [], _, hl => by simp at hl
  | s :: w, h :: p, n, hl => by
    show (n :: nodes (up n s h) w p)[w.length + 1]? = _
    rw [List.getElem?_cons_succ, nodes_last w p _ (by simpa using hl)]; rfl
theorem nodes_zero : ∀ (w : List St) (p : List (List Int)) (n : Nd), (nodes n w p)[0]? = some n
  | [], _, n => rfl
  | _ :: _, [], n => rfl
  | s :: w, h :: p, n => rfl
end Go.Proofs.YtjcmgpiapbeodaaDoor.Pf
set_option linter.unusedVariables false
namespace Go.Proofs.YtjcmgpiapbeodaaDoor.Pf
section
variable (f : List Int → List Int → List Int)
def Nd.kids : Nd → Option (Nd × Nd)
  | .giv _ => none
  | .join l r => some (l, r)
/-- do the children of the two part? Then what the hashes are taken of -/
def parts : Nd → Nd → Option (List Int × List Int)
  | .join al ar, .join bl br => if al.sum f = bl.sum f ∧ ar.sum f = br.sum f then none else some (1 :: (al.sum f ++ ar.sum f), 1 :: (bl.sum f ++ br.sum f))
  | _, _ => none
theorem parts_up (s : St) (x y : Nd) (h g : List Int) (hn : x.sum f ≠ y.sum f) : ∃ A B, parts f (up x s h) (up y s g) = some (A, B) ∧ (up x s h).kids.isSome ∧ (up y s g).kids.isSome := by
  unfold up
  by_cases hr : s.r = true
  · rw [if_pos hr, if_pos hr]
    exact ⟨_, _, by rw [parts, if_neg (fun h => hn h.1)], rfl, rfl⟩
  · rw [if_neg hr, if_neg hr]
    exact ⟨_, _, by rw [parts, if_neg (fun h => hn h.2)], rfl, rfl⟩
/-- what parts answers are two unlike texts, if the hashes are of 32 bytes, and the nodes' hashes are those of these texts -/
theorem parts_ne {x y : Nd} {A B : List Int} (h : parts f x y = some (A, B)) (hl : ∀ z : Nd, ∀ z', (x.kids = some (z, z') ∨ y.kids = some (z, z')) → (z.sum f).length = 32) : A ≠ B := by
  cases x with
  | giv _ => cases y <;> simp [parts] at h
  | join al ar =>
    cases y with
    | giv _ => simp [parts] at h
    | join bl br =>
      rw [parts] at h
      split at h
      · cases h
      · rename_i hne
        simp only [Option.some.injEq, Prod.mk.injEq] at h
        obtain ⟨rfl, rfl⟩ := h
        intro e
        have e2 := List.cons.inj e
        have l1 := hl al ar (.inl rfl)
        have l2 := hl bl br (.inr rfl)
        have := List.append_inj e2.2 (by rw [l1, l2])
        exact hne this
theorem parts_of {x y : Nd} {A B : List Int} (h : parts f x y = some (A, B)) : ∃ al ar bl br, x = .join al ar ∧ y = .join bl br ∧ A = 1 :: (al.sum f ++ ar.sum f) ∧ B = 1 :: (bl.sum f ++ br.sum f) := by
  cases x with
  | giv _ => cases y <;> simp [parts] at h
  | join al ar =>
    cases y with
    | giv _ => simp [parts] at h
    | join bl br =>
      rw [parts] at h
      split at h
      · cases h
      · simp only [Option.some.injEq, Prod.mk.injEq] at h
        exact ⟨al, ar, bl, br, rfl, rfl, h.1.symm, h.2.symm⟩
/-- all hashes that were given have 32 bytes -/
def Nd.ok : Nd → Prop
  | .giv h => h.length = 32
  | .join l r => l.ok ∧ r.ok
theorem sum_len (hf : ∀ l r : List Int, (f l r).length = 32) : ∀ {n : Nd}, n.ok → (n.sum f).length = 32
  | .giv _, h => h
  | .join l r, _ => hf (l.sum f) (r.sum f)
theorem up_ok {n : Nd} {h : List Int} (hn : n.ok) (hh : h.length = 32) (s : St) : (up n s h).ok := by
  unfold up
  by_cases hr : s.r = true
  · rw [if_pos hr]; exact ⟨hn, hh⟩
  · rw [if_neg hr]; exact ⟨hh, hn⟩
theorem top_ok : ∀ (w : List St) (p : List (List Int)) (n : Nd), n.ok → (∀ x ∈ p, x.length = 32) → (top n w p).ok
  | [], _, n, h, _ => by cases ‹List (List Int)› <;> exact h
  | _ :: _, [], n, h, _ => h
  | s :: w, x :: p, n, h, hp => top_ok w p _ (up_ok h (hp x (by simp)) s) (fun y hy => hp y (by simp [hy]))
theorem nodes_ok : ∀ (w : List St) (p : List (List Int)) (n : Nd), n.ok → (∀ x ∈ p, x.length = 32) → ∀ y ∈ nodes n w p, y.ok
  | [], _, n, h, _, y, hy => by
    cases ‹List (List Int)› <;> (obtain rfl : y = n := by simpa [nodes] using hy) <;> exact h
  | _ :: _, [], n, h, _, y, hy => by
    obtain rfl : y = n := by simpa [nodes] using hy
    exact h
  | s :: w, x :: p, n, h, hp, y, hy => by
    rcases List.mem_cons.1 (show y ∈ n :: nodes (up n s x) w p from hy) with rfl | hy
    · exact h
    · exact nodes_ok w p _ (up_ok h (hp x (by simp)) s) (fun y hy => hp y (by simp [hy])) y hy
theorem nodes_succ : ∀ (w : List St) (p : List (List Int)) (n : Nd) (j : Nat) (x : Nd) (s : St) (h : List Int), (nodes n w p)[j]? = some x → w[j]? = some s → p[j]? = some h → (nodes n w p)[j + 1]? = some (up x s h)
  | [], _, _, _, _, _, _, _, h2, _ => by simp at h2
  | _ :: _, [], _, _, _, _, _, _, _, h3 => by simp at h3
  | s' :: w, h' :: p, n, 0, x, s, h, h1, h2, h3 => by
    have h1 : n = x := Option.some.inj h1
    have h2 : s' = s := Option.some.inj h2
    have h3 : h' = h := Option.some.inj h3
    subst h1 h2 h3
    exact nodes_zero w p _
  | s' :: w, h' :: p, n, j + 1, x, s, h, h1, h2, h3 => nodes_succ w p (up n s' h') j x s h h1 h2 h3
/-- what CollideRecords makes of two climbs -/
def IsPair (la lb : List Int) (A B : List Nd) (p : List Int × List Int) : Prop :=
  ∃ j x y, A[j]? = some x ∧ B[j]? = some y ∧ x.sum f = y.sum f ∧ (∀ i x' y', i < j → A[i]? = some x' → B[i]? = some y' → x'.sum f ≠ y'.sum f) ∧ (j = 0 ∧ p = (la, lb) ∨ 0 < j ∧ parts f x y = some p)
/-- it is a collision: unlike, and of one hash -/
theorem pair_records (hf : ∀ l r : List Int, (f l r).length = 32) (w : List St) (pa pb : List (List Int)) (ha hb la lb : List Int) (h1 : ha.length = 32) (h2 : hb.length = 32) (h3 : ∀ x ∈ pa, x.length = 32) (h4 : ∀ x ∈ pb, x.length = 32)
    (hla : w.length = pa.length) (hlb : w.length = pb.length) (hne : la ≠ lb) {p : List Int × List Int} (hp : IsPair f la lb (nodes (.giv ha) w pa) (nodes (.giv hb) w pb) p) :
    p.1 ≠ p.2 ∧ (p = (la, lb) ∧ ha = hb ∨ ∃ l r l' r', p = (1 :: (l ++ r), 1 :: (l' ++ r')) ∧ f l r = f l' r') := by
  obtain ⟨j, x, y, hx, hy, he, _, h⟩ := hp
  rcases h with ⟨rfl, rfl⟩ | ⟨h0, hp⟩
  · refine ⟨hne, .inl ⟨rfl, ?_⟩⟩
    rw [nodes_zero] at hx hy
    have hx := Option.some.inj hx
    have hy := Option.some.inj hy
    subst hx hy
    exact he
  · have ox := nodes_ok w pa (.giv ha) h1 h3 x (List.mem_of_getElem? hx)
    have oy := nodes_ok w pb (.giv hb) h2 h4 y (List.mem_of_getElem? hy)
    obtain ⟨p1, p2⟩ := p
    obtain ⟨al, ar, bl, br, rfl, rfl, e1, e2⟩ := parts_of f hp
    refine ⟨parts_ne f hp (fun z z' hz => ?_), .inr ⟨_, _, _, _, by rw [e1, e2], he⟩⟩
    rcases hz with hz | hz
    · have hz := Option.some.inj hz
      cases hz
      exact sum_len f hf ox.1
    · have hz := Option.some.inj hz
      cases hz
      exact sum_len f hf oy.1
/-- where the tops are the same there is a first place, and the children part there -/
theorem pair_there (w : List St) (pa pb : List (List Int)) (ha hb la lb : List Int) (hla : w.length = pa.length) (hlb : w.length = pb.length)
    (ht : (top (.giv ha) w pa).sum f = (top (.giv hb) w pb).sum f) : ∃ j, j ≤ w.length ∧ ∃ x y, (nodes (.giv ha) w pa)[j]? = some x ∧ (nodes (.giv hb) w pb)[j]? = some y ∧ x.sum f = y.sum f ∧
      (∀ i x' y', i < j → (nodes (.giv ha) w pa)[i]? = some x' → (nodes (.giv hb) w pb)[i]? = some y' → x'.sum f ≠ y'.sum f) ∧ (0 < j → ∃ p, parts f x y = some p) := by
  have key : ∀ k, k ≤ w.length → (∀ i x' y', i < w.length - k → (nodes (.giv ha) w pa)[i]? = some x' → (nodes (.giv hb) w pb)[i]? = some y' → x'.sum f ≠ y'.sum f) ∨ ∃ j, j ≤ w.length ∧ ∃ x y, (nodes (.giv ha) w pa)[j]? = some x ∧ (nodes (.giv hb) w pb)[j]? = some y ∧ x.sum f = y.sum f ∧
      (∀ i x' y', i < j → (nodes (.giv ha) w pa)[i]? = some x' → (nodes (.giv hb) w pb)[i]? = some y' → x'.sum f ≠ y'.sum f) := by
    intro k hk
    have : ∀ m, m ≤ w.length → (∀ i x' y', i < m → (nodes (.giv ha) w pa)[i]? = some x' → (nodes (.giv hb) w pb)[i]? = some y' → x'.sum f ≠ y'.sum f) ∨ ∃ j, j ≤ w.length ∧ ∃ x y, (nodes (.giv ha) w pa)[j]? = some x ∧ (nodes (.giv hb) w pb)[j]? = some y ∧ x.sum f = y.sum f ∧
      (∀ i x' y', i < j → (nodes (.giv ha) w pa)[i]? = some x' → (nodes (.giv hb) w pb)[i]? = some y' → x'.sum f ≠ y'.sum f) := by
      intro m
      induction m with
      | zero => intro _; exact .inl (fun i _ _ hi => absurd hi (Nat.not_lt_zero _))
      | succ m ih =>
        intro hm
        rcases ih (by omega) with h | h
        · have l1 : m < (nodes (.giv ha) w pa).length := by rw [nodes_len w pa _ hla]; omega
          have l2 : m < (nodes (.giv hb) w pb).length := by rw [nodes_len w pb _ hlb]; omega
          by_cases he : ((nodes (.giv ha) w pa)[m]).sum f = ((nodes (.giv hb) w pb)[m]).sum f
          · exact .inr ⟨m, by omega, _, _, List.getElem?_eq_getElem l1, List.getElem?_eq_getElem l2, he, h⟩
          · refine .inl (fun i x' y' hi hx hy => ?_)
            rcases Nat.lt_or_ge i m with h' | h'
            · exact h i x' y' h' hx hy
            · obtain rfl : i = m := by omega
              rw [List.getElem?_eq_getElem l1] at hx
              rw [List.getElem?_eq_getElem l2] at hy
              rw [← Option.some.inj hx, ← Option.some.inj hy]
              exact he
        · exact .inr h
    exact this _ (by omega)
  have hfin : ∃ j, j ≤ w.length ∧ ∃ x y, (nodes (.giv ha) w pa)[j]? = some x ∧ (nodes (.giv hb) w pb)[j]? = some y ∧ x.sum f = y.sum f ∧
      (∀ i x' y', i < j → (nodes (.giv ha) w pa)[i]? = some x' → (nodes (.giv hb) w pb)[i]? = some y' → x'.sum f ≠ y'.sum f) := by
    rcases key 0 (Nat.zero_le _) with h | h
    · exact ⟨w.length, Nat.le_refl _, _, _, nodes_last w pa _ hla, nodes_last w pb _ hlb, ht, h⟩
    · exact h
  obtain ⟨j, hj, x, y, hx, hy, he, hfst⟩ := hfin
  refine ⟨j, hj, x, y, hx, hy, he, hfst, fun h0 => ?_⟩
  obtain ⟨i, rfl⟩ : ∃ i, j = i + 1 := ⟨j - 1, by omega⟩
  have l1 : i < (nodes (.giv ha) w pa).length := by rw [nodes_len w pa _ hla]; omega
  have l2 : i < (nodes (.giv hb) w pb).length := by rw [nodes_len w pb _ hlb]; omega
  have hd := hfst i _ _ (by omega) (List.getElem?_eq_getElem l1) (List.getElem?_eq_getElem l2)
  have e1 := nodes_succ w pa (.giv ha) i _ w[i] (pa[i]'(by omega)) (List.getElem?_eq_getElem l1) (List.getElem?_eq_getElem (by omega)) (List.getElem?_eq_getElem (by omega))
  have e2 := nodes_succ w pb (.giv hb) i _ w[i] (pb[i]'(by omega)) (List.getElem?_eq_getElem l2) (List.getElem?_eq_getElem (by omega)) (List.getElem?_eq_getElem (by omega))
  rw [e1] at hx
  rw [e2] at hy
  obtain ⟨A, B, hp, _⟩ := parts_up f w[i] _ _ (pa[i]'(by omega)) (pb[i]'(by omega)) hd
  rw [← Option.some.inj hx, ← Option.some.inj hy]
  exact ⟨_, hp⟩
end
end Go.Proofs.YtjcmgpiapbeodaaDoor.Pf
set_option linter.unusedVariables false
namespace Go.Proofs.YtjcmgpiapbeodaaDoor.Pf
/-- the old node of a climb -/
def oldT : Nd → List St → List (List Int) → Nd
  | n, s :: w, h :: p => oldT (if s.r = true then n else .join (.giv h) n) w p
  | n, _, _ => n
/-- with which the climb of a tree proof begins; what is left of the proof -/
def begT (m n : Nat) (old : List Int) (p : List (List Int)) : Nd := .giv (if 0 < seedA m 0 n then p.headD [] else old)
def restT (m n : Nat) (p : List (List Int)) : List (List Int) := if 0 < seedA m 0 n then p.tail else p
def stepsT (m n : Nat) : List St := (fromD m 0 n).reverse
def freshN (m n : Nat) (old : List Int) (p : List (List Int)) : Nd := top (begT m n old p) (stepsT m n) (restT m n p)
def oldN (m n : Nat) (old : List Int) (p : List (List Int)) : Nd := oldT (begT m n old p) (stepsT m n) (restT m n p)
theorem from_split (m n : Nat) : from' m n = seedL m n ++ stepsT m n := rfl
theorem rest_len {m n : Nat} {p : List (List Int)} (h : p.length = (from' m n).length) : (stepsT m n).length = (restT m n p).length := by
  rw [from_split, List.length_append] at h
  unfold restT
  unfold seedL at h
  by_cases hs : 0 < seedA m 0 n
  · rw [if_pos hs] at h ⊢
    rw [List.length_tail, h, List.length_singleton]
    omega
  · rw [if_neg hs] at h ⊢
    rw [h]; simp
theorem rest_32 {m n : Nat} {p : List (List Int)} (h : ∀ x ∈ p, x.length = 32) : ∀ x ∈ restT m n p, x.length = 32 := by
  unfold restT
  split
  · exact fun x hx => h x (List.mem_of_mem_tail hx)
  · exact h
theorem beg_32 {m n : Nat} {old : List Int} {p : List (List Int)} (ho : old.length = 32) (h : ∀ x ∈ p, x.length = 32) (hl : p.length = (from' m n).length) : (begT m n old p).ok := by
  unfold begT Nd.ok
  rw [from_split, List.length_append] at hl
  unfold seedL at hl
  by_cases hs : 0 < seedA m 0 n
  · rw [if_pos hs]
    cases p with
    | nil => rw [if_pos hs] at hl; simp at hl; omega
    | cons x p => exact h x (by simp)
  · rw [if_neg hs]; exact ho
theorem oldT_ok : ∀ (w : List St) (p : List (List Int)) (n : Nd), n.ok → (∀ x ∈ p, x.length = 32) → (oldT n w p).ok
  | [], _, n, h, _ => by cases ‹List (List Int)› <;> exact h
  | _ :: _, [], n, h, _ => h
  | s :: w, x :: p, n, h, hp => by
    refine oldT_ok w p _ ?_ (fun y hy => hp y (by simp [hy]))
    by_cases hr : s.r = true
    · rw [if_pos hr]; exact h
    · rw [if_neg hr]; exact ⟨hp x (by simp), h⟩
/-- the climb, from the top -/
def topD : Nd → List St → List (List Int) → Nd
  | n, s :: w, h :: p => up (topD n w p) s h
  | n, _, _ => n
theorem top_rev (n : Nd) : ∀ (w : List St) (p : List (List Int)), w.length = p.length → top n w.reverse p.reverse = topD n w p
  | [], [], _ => rfl
  | [], _ :: _, h => by simp at h
  | _ :: _, [], h => by simp at h
  | s :: w, x :: p, h => by
    rw [List.reverse_cons, List.reverse_cons, top_snoc s x w.reverse p.reverse n (by simpa using h), top_rev n w p (by simpa using h)]
    rfl
theorem fresh_eq {m n : Nat} (old : List Int) {p : List (List Int)} (h : p.length = (from' m n).length) : freshN m n old p = topD (begT m n old p) (fromD m 0 n) (restT m n p).reverse := by
  have hl := rest_len h
  unfold freshN stepsT
  rw [← top_rev _ _ _ (by rw [List.length_reverse, ← hl]; simp [stepsT]), List.reverse_reverse]
section
variable (f : List Int → List Int → List Int)
/-- two climbs gone down side by side, to the first node whose children part -/
def pairD : Nd → Nd → List St → Option (List Int × List Int)
  | .join xl xr, .join yl yr, s :: w =>
    match parts f (.join xl xr) (.join yl yr) with
    | some p => some p
    | none => if s.r = true then pairD xl yl w else pairD xr yr w
  | _, _, _ => none
theorem pairD_some {xl xr yl yr : Nd} {s : St} {w : List St} {p : List Int × List Int} (h : parts f (.join xl xr) (.join yl yr) = some p) : pairD f (.join xl xr) (.join yl yr) (s :: w) = some p := by rw [pairD, h]
theorem pairD_next {xl xr yl yr : Nd} {s : St} {w : List St} (h : parts f (.join xl xr) (.join yl yr) = none) : pairD f (.join xl xr) (.join yl yr) (s :: w) = if s.r = true then pairD f xl yl w else pairD f xr yr w := by rw [pairD, h]
theorem parts_none {xl xr yl yr : Nd} (h : parts f (.join xl xr) (.join yl yr) = none) : xl.sum f = yl.sum f ∧ xr.sum f = yr.sum f := by
  rw [parts] at h
  by_cases hc : xl.sum f = yl.sum f ∧ xr.sum f = yr.sum f
  · exact hc
  · rw [if_neg hc] at h; cases h
theorem pairD_of {p : List Int × List Int} : ∀ {w : List St} {x y : Nd}, x.ok → y.ok → pairD f x y w = some p → ∃ x' y' : Nd, x'.ok ∧ y'.ok ∧ parts f x' y' = some p ∧ (x.sum f = y.sum f → x'.sum f = y'.sum f)
  | [], x, y, _, _, h => by simp [pairD] at h
  | s :: w, .giv _, y, _, _, h => by simp [pairD] at h
  | s :: w, .join _ _, .giv _, _, _, h => by simp [pairD] at h
  | s :: w, .join xl xr, .join yl yr, hx, hy, h => by
    cases hp : parts f (.join xl xr) (.join yl yr) with
    | some q =>
      rw [pairD_some f hp] at h
      have h := Option.some.inj h
      subst h
      exact ⟨_, _, hx, hy, hp, fun h => h⟩
    | none =>
      have he := parts_none f hp
      rw [pairD_next f hp] at h
      by_cases hr : s.r = true
      · rw [if_pos hr] at h
        obtain ⟨x', y', a, b, c, d⟩ := pairD_of hx.1 hy.1 h
        exact ⟨x', y', a, b, c, fun _ => d he.1⟩
      · rw [if_neg hr] at h
        obtain ⟨x', y', a, b, c, d⟩ := pairD_of hx.2 hy.2 h
        exact ⟨x', y', a, b, c, fun _ => d he.2⟩
/-- where nothing parts, all the hashes are the same -/
theorem pairD_none : ∀ (w : List St) (p q : List (List Int)) (n m : Nd), w.length = p.length → w.length = q.length → (topD n w p).sum f = (topD m w q).sum f → pairD f (topD n w p) (topD m w q) w = none → p = q ∧ n.sum f = m.sum f
  | [], [], [], _, _, _, _, h, _ => ⟨rfl, h⟩
  | [], _ :: _, _, _, _, h, _, _, _ => by simp at h
  | [], _, _ :: _, _, _, _, h, _, _ => by simp at h
  | _ :: _, [], _, _, _, h, _, _, _ => by simp at h
  | _ :: _, _, [], _, _, _, h, _, _ => by simp at h
  | s :: w, x :: p, y :: q, n, m, h1, h2, he, h => by
    have hD : ∀ n x p, topD n (s :: w) (x :: p) = up (topD n w p) s x := fun _ _ _ => rfl
    rw [hD, hD] at h
    by_cases hr : s.r = true
    · simp only [up, if_pos hr] at h
      cases hp : parts f (.join (topD n w p) (.giv x)) (.join (topD m w q) (.giv y)) with
      | some r => rw [pairD_some f hp] at h; cases h
      | none =>
        rw [pairD_next f hp, if_pos hr] at h
        have hc := parts_none f hp
        obtain ⟨a, b⟩ := pairD_none w p q n m (by simpa using h1) (by simpa using h2) hc.1 h
        exact ⟨by rw [a, show x = y from hc.2], b⟩
    · simp only [up, if_neg hr] at h
      cases hp : parts f (.join (.giv x) (topD n w p)) (.join (.giv y) (topD m w q)) with
      | some r => rw [pairD_some f hp] at h; cases h
      | none =>
        rw [pairD_next f hp, if_neg hr] at h
        have hc := parts_none f hp
        obtain ⟨a, b⟩ := pairD_none w p q n m (by simpa using h1) (by simpa using h2) hc.2 h
        exact ⟨by rw [a, show x = y from hc.1], b⟩
/-- two unlike old roots under one root: a pair comes out -/
theorem pair_trees (m n : Nat) (a b : List Int) (p q : List (List Int)) (hp : p.length = (from' m n).length) (hq : q.length = (from' m n).length)
    (hr : (freshN m n a p).sum f = (freshN m n b q).sum f) (ha : (oldN m n a p).sum f = a) (hb : (oldN m n b q).sum f = b) (hne : a ≠ b) :
    ∃ r, pairD f (freshN m n a p) (freshN m n b q) (fromD m 0 n) = some r := by
  cases h : pairD f (freshN m n a p) (freshN m n b q) (fromD m 0 n) with
  | some r => exact ⟨r, rfl⟩
  | none =>
    exfalso
    rw [fresh_eq a hp, fresh_eq b hq] at h hr
    have l1 := rest_len hp
    have l2 := rest_len hq
    unfold stepsT at l1 l2
    rw [List.length_reverse] at l1 l2
    obtain ⟨h1, h2⟩ := pairD_none f _ _ _ _ _ (by rw [List.length_reverse]; exact l1) (by rw [List.length_reverse]; exact l2) hr h
    have h1 : restT m n p = restT m n q := by
      have := congrArg List.reverse h1
      rwa [List.reverse_reverse, List.reverse_reverse] at this
    have hbeg : begT m n a p = begT m n b q := by unfold begT at h2 ⊢; exact congrArg Nd.giv h2
    apply hne
    rw [← ha, ← hb]
    unfold oldN
    rw [h1, hbeg]
/-- and it is a collision -/
theorem pair_trees_of (hf : ∀ l r : List Int, (f l r).length = 32) (m n : Nat) (a b : List Int) (p q : List (List Int)) (hp : p.length = (from' m n).length) (hq : q.length = (from' m n).length) (ha : a.length = 32) (hb : b.length = 32) (h3 : ∀ x ∈ p, x.length = 32) (h4 : ∀ x ∈ q, x.length = 32)
    (hr : (freshN m n a p).sum f = (freshN m n b q).sum f) {r : List Int × List Int} (h : pairD f (freshN m n a p) (freshN m n b q) (fromD m 0 n) = some r) :
    r.1 ≠ r.2 ∧ ∃ x y x' y', r = (1 :: (x ++ y), 1 :: (x' ++ y')) ∧ f x y = f x' y' := by
  obtain ⟨x, y, ox, oy, hpt, he⟩ := pairD_of f (top_ok _ _ _ (beg_32 ha h3 hp) (rest_32 h3)) (top_ok _ _ _ (beg_32 hb h4 hq) (rest_32 h4)) h
  obtain ⟨r1, r2⟩ := r
  obtain ⟨al, ar, bl, br, rfl, rfl, e1, e2⟩ := parts_of f hpt
  refine ⟨parts_ne f hpt (fun z z' hz => ?_), _, _, _, _, by rw [e1, e2], he hr⟩
  rcases hz with hz | hz
  · have hz := Option.some.inj hz
    cases hz
    exact sum_len f hf ox.1
  · have hz := Option.some.inj hz
    cases hz
    exact sum_len f hf oy.1
end
end Go.Proofs.YtjcmgpiapbeodaaDoor.Pf
