/-
  A list that is read, nil or not: append of it onto a list of the call's own; Write of it, for either kind.
-/
import Derived.Test.YtjcfnflkiialbaaDoorWrite32
import Derived.Test.YtjcfnflkiialbaaDoorWrite64
import Derived.Test.YtjcfnflkiialbaaDoorWnil64
namespace Go.Proofs.YtjcfnflkiialbaaDoor.Sha
open Go.RowKit Go.Proofs.YtjcfnflkiialbaaDoor.Mem Go.Proofs.YtjcfnflkiialbaaDoorW.PrintWords
/-- The slice value (A, length, c) reads p; what it reads lies outside of S. -/
def Src (w : World) (S : Nat → Prop) (A : Option Addr) (c : Nat) (p : List Int) : Prop :=
  p.length ≤ c ∧ ((A = none ∧ c = 0 ∧ p = []) ∨ (p = [] ∧ ∃ ad, A = some ad) ∨ ∃ bs os, A = some ⟨bs, os, none⟩ ∧ Reads w bs os p ∧ ¬ S bs)
theorem Src.fr {w w1 : World} {S : Nat → Prop} {A : Option Addr} {c : Nat} {p : List Int} (h : Src w S A c p) (hf : Fr S w w1) : Src w1 S A c p := by
  refine ⟨h.1, ?_⟩
  rcases h.2 with h' | h' | ⟨bs, os, h1, h2, h3⟩
  · exact .inl h'
  · exact .inr (.inl h')
  · exact .inr (.inr ⟨bs, os, h1, h2.fr hf h3, h3⟩)
theorem Src.mono {w : World} {S S' : Nat → Prop} {A : Option Addr} {c : Nat} {p : List Int} (h : Src w S A c p) (hs : ∀ k, k < w.heap.size → S' k → S k) : Src w S' A c p := by
  refine ⟨h.1, ?_⟩
  rcases h.2 with h' | h' | ⟨bs, os, h1, h2, h3⟩
  · exact .inl h'
  · exact .inr (.inl h')
  · exact .inr (.inr ⟨bs, os, h1, h2, fun hk => h3 (hs bs h2.1 hk)⟩)
theorem Src.of_own {w : World} {base : Nat} {v : Value} {xs : List Int} (h : w.ownsRow base 5 1 v xs.length (bytes xs)) (S : Nat → Prop) (hs : ∀ k, v.ownBlock = some k → ¬ S k) : ∃ A c, v = .slice A xs.length c ∧ Src w S A c xs := by
  rcases Nat.eq_zero_or_pos xs.length with h0 | h0
  · obtain rfl := List.eq_nil_of_length_eq_zero h0
    rcases h.2 with ⟨rfl, _⟩ | ⟨g, cap, cur, rfl, hb, hg, hnc, _⟩
    · exact ⟨none, 0, rfl, Nat.zero_le _, .inl ⟨rfl, rfl, rfl⟩⟩
    · refine ⟨_, cap, rfl, Nat.zero_le _, .inr (.inr ⟨g, 0, rfl, ⟨?_, fun i hi => absurd hi (Nat.not_lt_zero _)⟩, hs g rfl⟩)⟩
      rcases Nat.lt_or_ge g w.heap.size with h | h
      · exact h
      · rw [Array.getElem?_eq_none h] at hg; cases hg
  · obtain ⟨g, cap, rfl, _, _, h4, h5⟩ := own_form h h0
    exact ⟨_, cap, rfl, h4, .inr (.inr ⟨g, 0, rfl, h5, hs g rfl⟩)⟩
theorem run_appendS (w : World) (base : Nat) (v : Value) (xs : List Int) (hown : w.ownsRow base 5 1 v xs.length (bytes xs)) (A : Option Addr) (m c : Nat) (p : List Int) (hm : m = p.length) {S : Nat → Prop} (hr : Src w S A c p)
    (hb : xs.length + p.length ≤ 140737488355328) (hbase : base ≤ w.heap.size) :
    ∃ v' w', (Builtin.append_ #[23, 23] 23 #[v, .slice A m c]).run Tryd.prog w = .ok v' w' ∧ w'.ownsRow base 5 1 v' (xs ++ p).length (bytes (xs ++ p)) ∧ w.grownBy w' v.ownBlock ∧ (v'.ownBlock = v.ownBlock ∨ v'.ownBlock = some w.heap.size) := by
  subst hm
  rcases hr.2 with ⟨rfl, rfl, rfl⟩ | ⟨rfl, ad, rfl⟩ | ⟨bs, os, rfl, h2, _⟩
  · rw [List.append_nil]
    exact ⟨v, w, run_append_nilB w base v _ _ hown, hown, ⟨rfl, rfl, rfl, Nat.le_refl _, fun _ _ _ => rfl⟩, .inl rfl⟩
  · rw [List.append_nil]
    exact ⟨v, w, N32.run_append_emptyB w base v _ _ ad c hown, hown, ⟨rfl, rfl, rfl, Nat.le_refl _, fun _ _ _ => rfl⟩, .inl rfl⟩
  · exact run_appendB w base v xs hown bs os _ c p rfl h2 hb hbase
theorem wpList_appendS {ops : Array Oper} {rest : List Oper} {o : Oper} {a : Act} {w : World} {Q : Exit → Act → World → Prop} (hgd : o.guard = none) (s x : Operand)
    (ho : o.op = .call { callee := .builtin .append, args := #[s, x], argTypes := #[23, 23] }) (hty : o.type = 23) (base : Nat) (v : Value) (xs : List Int) (hs : a.eval s = v) (hown : w.ownsRow base 5 1 v xs.length (bytes xs))
    (A : Option Addr) (m c : Nat) (p : List Int) (hm : m = p.length) (hx : a.eval x = .slice A m c) {S : Nat → Prop} (hr : Src w S A c p) (hb : xs.length + p.length ≤ 140737488355328) (hbase : base ≤ w.heap.size)
    (h : ∀ v' w', w'.ownsRow base 5 1 v' (xs ++ p).length (bytes (xs ++ p)) → w.grownBy w' v.ownBlock → (v'.ownBlock = v.ownBlock ∨ v'.ownBlock = some w.heap.size) → wpList Tryd.prog ops Q rest (a.put o.dst v') w') :
    wpList Tryd.prog ops Q (o :: rest) a w := by
  obtain ⟨v', w', hr', h2, h3, h4⟩ := run_appendS w base v xs hown A m c p hm hr hb hbase
  refine wpList_plain hgd fun _ hK => ?_
  unfold Oper.wp execOp
  simp only [ho, resolve, invoke, builtin, Sem.run_bind, Sem.run_pure, Result.andThen_ok, List.map_toArray, List.map_cons, List.map_nil, hs, hx, hty, hr']
  exact hK _ _ (h v' w' h2 h3 h4)
theorem step_appendS {ops : Array Oper} {o : Oper} {a : Act} {w : World} {K : Act → World → Prop} {Q : Exit → Act → World → Prop} {E : Prop} (hgd : o.guard = none) (s x : Operand)
    (ho : o.op = .call { callee := .builtin .append, args := #[s, x], argTypes := #[23, 23] }) (hty : o.type = 23) (base : Nat) (v : Value) (xs : List Int) (hs : a.eval s = v) (hown : w.ownsRow base 5 1 v xs.length (bytes xs))
    (A : Option Addr) (m c : Nat) (p : List Int) (hm : m = p.length) (hx : a.eval x = .slice A m c) {S : Nat → Prop} (hr : Src w S A c p) (hb : xs.length + p.length ≤ 140737488355328) (hbase : base ≤ w.heap.size)
    (h : ∀ v' w', w'.ownsRow base 5 1 v' (xs ++ p).length (bytes (xs ++ p)) → w.grownBy w' v.ownBlock → (v'.ownBlock = v.ownBlock ∨ v'.ownBlock = some w.heap.size) → K (a.put o.dst v') w') :
    if Region.wanted o (yielded ops a.tmps) = true then Oper.wp Tryd.prog o a w K Q else E := by
  have hw : Region.wanted o (yielded ops a.tmps) = true := by simp [Region.wanted, hgd]
  rw [if_pos hw]
  obtain ⟨v', w', hr', h2, h3, h4⟩ := run_appendS w base v xs hown A m c p hm hr hb hbase
  unfold Oper.wp execOp
  simp only [ho, resolve, invoke, builtin, Sem.run_bind, Sem.run_pure, Result.andThen_ok, List.map_toArray, List.map_cons, List.map_nil, hs, hx, hty, hr']
  exact h v' w' h2 h3 h4
theorem reads_new (w : World) (p : List Int) (e : TypeId) : Reads (w.alloc (.cells (bytes p).toArray e)) w.heap.size 0 p := by
  have hb : Blk (w.alloc (.cells (bytes p).toArray e)) w.heap.size e (bytes p) := Blk.new w _ e
  exact ⟨hb.lt, fun i hi => by rw [Nat.zero_add]; exact hb.cell i _ (bytes_get p i hi)⟩
theorem src_new (w : World) (p : List Int) (e : TypeId) (c : Nat) (hc : p.length ≤ c) : Src (w.alloc (.cells (bytes p).toArray e)) (fun _ => False) (some ⟨w.heap.size, 0, none⟩) c p := ⟨hc, .inr (.inr ⟨_, _, rfl, reads_new w p e, fun h => h⟩)⟩
/-- Write, of whatever the digest does not own. -/
theorem write_calls (s : St) (hs : s.Ok) (b : Nat) (rv : Value) (A : Option Addr) (cp : Nat) (p : List Int) (hmax : s.cnt + p.length ≤ maxCount) (w : World) (hL : Laid w) (hD : Dg w b rv s) (hX : Src w (dfoot b rv) A cp p) :
    Calls Tryd.prog 34 #[.pointer (some ⟨b, 0, none⟩), .slice A p.length cp] w fun e w' =>
      ∃ r rv', e = .returned r ∧ Dg w' b rv' (s.write p) ∧ Heir w rv' rv ∧ Fr (dfoot b rv) w w' := by
  obtain ⟨B, cnt, c, rs⟩ := s
  have hrb : rs.length < blk B := by have := hs.rest; simp only at this; rw [this]; exact Nat.mod_lt _ (blk_pos B)
  have hw : p = [] → (St.mk B cnt c rs).write p = ⟨B, cnt, c, rs⟩ := by
    rintro rfl
    unfold St.write
    rw [if_pos hmax]
    unfold absorb
    simp only [List.append_nil, List.length_nil, Nat.add_zero, Nat.div_eq_of_lt hrb, runC, Nat.mul_zero, List.drop_zero]
  rcases hX.2 with ⟨rfl, rfl, hp⟩ | ⟨hp, ad, rfl⟩ | ⟨bs, os, rfl, hR, hS⟩
  · rw [hw hp]
    subst hp
    have hm : cnt ≤ maxCount := hmax
    cases B
    · refine (N32.write_nil b cnt c rv rs hrb hm w hD).mono ?_
      rintro e w' ⟨r, rfl, h1, h2⟩
      exact ⟨r, rv, rfl, h1, Heir.refl _ _, h2.mono (fun _ _ h => .inl h)⟩
    · refine (N64.write_nil b cnt c rv rs hrb hm w hD).mono ?_
      rintro e w' ⟨r, rfl, h1, h2⟩
      exact ⟨r, rv, rfl, h1, Heir.refl _ _, h2.mono (fun _ _ h => .inl h)⟩
  · rw [hw hp]
    subst hp
    have hm : cnt ≤ maxCount := hmax
    cases B
    · refine (N32.write_empty b cnt c ad cp rv rs hrb hm w hD).mono ?_
      rintro e w' ⟨r, rfl, h1, h2⟩
      exact ⟨r, rv, rfl, h1, Heir.refl _ _, h2.mono (fun _ _ h => .inl h)⟩
    · refine (N64.write_empty b cnt c ad cp rv rs hrb hm w hD).mono ?_
      rintro e w' ⟨r, rfl, h1, h2⟩
      exact ⟨r, rv, rfl, h1, Heir.refl _ _, h2.mono (fun _ _ h => .inl h)⟩
  · have hne : bs ≠ b := fun h => hS (.inl h)
    have hnr : rv.ownBlock ≠ some bs := fun h => hS (.inr h)
    rcases Nat.eq_zero_or_pos rs.length with h0 | h0
    · obtain rfl := List.eq_nil_of_length_eq_zero h0
      cases B
      · exact W32.write_none b cnt c rv p bs os cp hX.1 hmax w hL hD hR hne
      · exact W64.write_none b cnt c rv p bs os cp hX.1 hmax w hL hD hR hne
    · by_cases hsh : rs.length + p.length < blk B
      · cases B
        · exact W32.write_short b cnt c rv rs p h0 hsh bs os cp hX.1 hmax w hL hD hR hne
        · exact W64.write_short b cnt c rv rs p h0 hsh bs os cp hX.1 hmax w hL hD hR hne
      · cases B
        · simp only [blk] at hrb hsh
          exact W32.write_long b cnt c rv rs p (64 - rs.length) h0 (by omega) (by omega) (by omega) bs os cp hX.1 hmax w hL hD hR hne hnr
        · simp only [blk] at hrb hsh
          exact W64.write_long b cnt c rv rs p (128 - rs.length) h0 (by omega) (by omega) (by omega) bs os cp hX.1 hmax w hL hD hR hne hnr
end Go.Proofs.YtjcfnflkiialbaaDoor.Sha
