/-
  append of bytes onto a list that the call owns: at a plain region's list and at a step of a region that draws.
-/
import Derived.Test.YtjcfnflkiialbaaDoorNew
import Derived.Deep.RegionLaw
namespace Go.Proofs.YtjcfnflkiialbaaDoor.Sha
open Go.RowKit Go.Proofs.YtjcfnflkiialbaaDoor.Mem Go.Proofs.YtjcfnflkiialbaaDoorW.PrintWords
theorem run_appendB (w : World) (base : Nat) (v : Value) (xs : List Int) (hown : w.ownsRow base 5 1 v xs.length (bytes xs)) (bs os m c : Nat) (p : List Int) (hm : m = p.length) (hr : Reads w bs os p)
    (hb : xs.length + p.length ≤ 140737488355328) (hbase : base ≤ w.heap.size) :
    ∃ v' w', (Builtin.append_ #[23, 23] 23 #[v, .slice (some ⟨bs, os, none⟩) m c]).run Tryd.prog w = .ok v' w' ∧ w'.ownsRow base 5 1 v' (xs ++ p).length (bytes (xs ++ p)) ∧ w.grownBy w' v.ownBlock ∧ (v'.ownBlock = v.ownBlock ∨ v'.ownBlock = some w.heap.size) := by
  obtain ⟨i0, hi, hz0, hz1, hz2⟩ := info_parts Wk.info_u8
  subst hm
  obtain ⟨v', w', h1, h2, h3, _, h5⟩ := run_append_own_at (P := Tryd.prog) w base 23 23 5 i0 (.int .u8 0) 1 1 Tryd.underlying23 hi hz0 hz1 hz2 rfl (by omega) v xs.length (bytes xs) hown
    ⟨bs, os, none⟩ p.length c (bytes p) (by simp [bytes]) (fun j u hu => by
      have hj : j < p.length := by
        rcases Nat.lt_or_ge j p.length with h | h
        · exact h
        · rw [List.getElem?_eq_none (by simpa [bytes] using h)] at hu; cases hu
      rw [bytes_get p j hj] at hu
      rw [Addr.add_lit, hr.2 j hj, ← hu]) (fun u hu => by
      obtain ⟨z, _, rfl⟩ := List.mem_map.1 hu
      rfl) (by unfold maxLen; omega) (by omega) hbase
  refine ⟨v', w', h1, ?_, h3, h5⟩
  rw [List.length_append]
  simpa [bytes] using h2
theorem wpList_appendB {ops : Array Oper} {rest : List Oper} {o : Oper} {a : Act} {w : World} {Q : Exit → Act → World → Prop} (hgd : o.guard = none) (s x : Operand)
    (ho : o.op = .call { callee := .builtin .append, args := #[s, x], argTypes := #[23, 23] }) (hty : o.type = 23) (base : Nat) (v : Value) (xs : List Int) (hs : a.eval s = v) (hown : w.ownsRow base 5 1 v xs.length (bytes xs))
    (bs os m c : Nat) (p : List Int) (hm : m = p.length) (hx : a.eval x = .slice (some ⟨bs, os, none⟩) m c) (hr : Reads w bs os p) (hb : xs.length + p.length ≤ 140737488355328) (hbase : base ≤ w.heap.size)
    (h : ∀ v' w', w'.ownsRow base 5 1 v' (xs ++ p).length (bytes (xs ++ p)) → w.grownBy w' v.ownBlock → (v'.ownBlock = v.ownBlock ∨ v'.ownBlock = some w.heap.size) → wpList Tryd.prog ops Q rest (a.put o.dst v') w') :
    wpList Tryd.prog ops Q (o :: rest) a w := by
  obtain ⟨v', w', hr', h2, h3, h4⟩ := run_appendB w base v xs hown bs os m c p hm hr hb hbase
  refine wpList_plain hgd fun _ hK => ?_
  unfold Oper.wp execOp
  simp only [ho, resolve, invoke, builtin, Sem.run_bind, Sem.run_pure, Result.andThen_ok, List.map_toArray, List.map_cons, List.map_nil, hs, hx, hty, hr']
  exact hK _ _ (h v' w' h2 h3 h4)
theorem step_appendB {ops : Array Oper} {o : Oper} {a : Act} {w : World} {K : Act → World → Prop} {Q : Exit → Act → World → Prop} {E : Prop} (hgd : o.guard = none) (s x : Operand)
    (ho : o.op = .call { callee := .builtin .append, args := #[s, x], argTypes := #[23, 23] }) (hty : o.type = 23) (base : Nat) (v : Value) (xs : List Int) (hs : a.eval s = v) (hown : w.ownsRow base 5 1 v xs.length (bytes xs))
    (bs os m c : Nat) (p : List Int) (hm : m = p.length) (hx : a.eval x = .slice (some ⟨bs, os, none⟩) m c) (hr : Reads w bs os p) (hb : xs.length + p.length ≤ 140737488355328) (hbase : base ≤ w.heap.size)
    (h : ∀ v' w', w'.ownsRow base 5 1 v' (xs ++ p).length (bytes (xs ++ p)) → w.grownBy w' v.ownBlock → (v'.ownBlock = v.ownBlock ∨ v'.ownBlock = some w.heap.size) → K (a.put o.dst v') w') :
    if Region.wanted o (yielded ops a.tmps) = true then Oper.wp Tryd.prog o a w K Q else E := by
  have hw : Region.wanted o (yielded ops a.tmps) = true := by simp [Region.wanted, hgd]
  rw [if_pos hw]
  obtain ⟨v', w', hr', h2, h3, h4⟩ := run_appendB w base v xs hown bs os m c p hm hr hb hbase
  unfold Oper.wp execOp
  simp only [ho, resolve, invoke, builtin, Sem.run_bind, Sem.run_pure, Result.andThen_ok, List.map_toArray, List.map_cons, List.map_nil, hs, hx, hty, hr']
  exact h v' w' h2 h3 h4
/-- onto a list that the call owns, nothing out of nil -/
theorem run_append_nilB (w : World) (base : Nat) (v : Value) (n : Nat) (xs : List Value) (hown : w.ownsRow base 5 1 v n xs) : (Builtin.append_ #[23, 23] 23 #[v, .slice none 0 0]).run Tryd.prog w = .ok v w := by
  obtain ⟨i0, hi, hz0, hz1, hz2⟩ := info_parts Wk.info_u8
  exact run_append_owned_none (P := Tryd.prog) w base 23 23 5 i0 1 Tryd.underlying23 hi v n xs hown
theorem own_form {w : World} {base : Nat} {v : Value} {xs : List Int} (h : w.ownsRow base 5 1 v xs.length (bytes xs)) (hn : 0 < xs.length) :
    ∃ g cap, v = .slice (some ⟨g, 0, none⟩) xs.length cap ∧ base ≤ g ∧ g < w.heap.size ∧ xs.length ≤ cap ∧ Reads w g 0 xs := by
  obtain ⟨g, cap, rfl, hb, hl⟩ := h.form hn
  refine ⟨g, cap, rfl, hb, hl, ?_, hl, fun i hi => ?_⟩
  · rcases h.2 with ⟨h', _⟩ | ⟨g', cap', cur, h', _, hg, hnc, _⟩
    · simp at h'
    · simp only [Value.slice.injEq, Option.some.injEq, Addr.mk.injEq, and_true, true_and] at h'
      obtain ⟨rfl, rfl⟩ := h'
      exact hnc
  · rw [Nat.zero_add, h.cellAt i (by omega), bytes_get xs i hi]
theorem own_shape {w : World} {base n : Nat} {v : Value} {xs : List Value} (h : w.ownsRow base 5 1 v n xs) : ∃ A c, v = .slice A n c ∧ n ≤ c := by
  rcases h.2 with ⟨rfl, rfl⟩ | ⟨g, cap, cur, rfl, _, _, hc, _⟩
  · exact ⟨none, 0, rfl, Nat.le_refl _⟩
  · exact ⟨_, _, rfl, hc⟩
theorem dcells_set1 (B : Bool) (cnt n : Nat) (c : Chain) (rv : Value) : (dcells B cnt c rv).set 1 (.int .i64 (n : Nat)) = dcells B n c rv := rfl
theorem dcells_set18 (B : Bool) (cnt : Nat) (c : Chain) (rv v : Value) : (dcells B cnt c rv).set 18 v = dcells B cnt c v := rfl
def dfoot (b : Nat) (rv : Value) (k : Nat) : Prop := k = b ∨ rv.ownBlock = some k
/-- v lies where rv lay, or in memory that is new since w -/
def Heir (w : World) (v rv : Value) : Prop := v.ownBlock = rv.ownBlock ∨ ∃ g, v.ownBlock = some g ∧ w.heap.size ≤ g
theorem Heir.refl (w : World) (v : Value) : Heir w v v := .inl rfl
theorem Heir.trans {w w1 : World} {a b c : Value} (h : Heir w1 a b) (k : Heir w b c) (hw : w.heap.size ≤ w1.heap.size) : Heir w a c := by
  rcases h with h | ⟨g, h1, h2⟩
  · rcases k with k | ⟨g, k1, k2⟩
    · exact .inl (h.trans k)
    · exact .inr ⟨g, h.trans k1, k2⟩
  · exact .inr ⟨g, h1, Nat.le_trans hw h2⟩
theorem Heir.of {w : World} {v rv : Value} (h : v.ownBlock = rv.ownBlock ∨ v.ownBlock = some w.heap.size) : Heir w v rv := h.elim .inl (fun h => .inr ⟨_, h, Nat.le_refl _⟩)
theorem Heir.not_old {w : World} {v rv : Value} (h : Heir w v rv) {k : Nat} (hv : v.ownBlock = some k) (hk : k < w.heap.size) : rv.ownBlock = some k := by
  rcases h with h | ⟨g, h1, h2⟩
  · exact h.symm.trans hv
  · exact absurd (Option.some.inj (h1.symm.trans hv)) (by omega)
def lenOf : Value → Nat
  | .slice _ n _ => n
  | _ => 0
/-- the same block, cut to nothing -/
theorem own_cut {w : World} {base g n cap : Nat} {xs : List Value} (h : w.ownsRow base 5 1 (.slice (some ⟨g, 0, none⟩) n cap) n xs) : w.ownsRow base 5 1 (.slice (some ⟨g, 0, none⟩) 0 cap) 0 [] := by
  rcases h.2 with ⟨h', _⟩ | ⟨g', cap', cur, h', hb, hg, hnc, hm, hs, _⟩
  · simp at h'
  · simp only [Value.slice.injEq, Option.some.injEq, Addr.mk.injEq, and_true, true_and] at h'
    obtain ⟨rfl, rfl⟩ := h'
    exact ⟨rfl, .inr ⟨g, cap, cur, rfl, hb, hg, Nat.zero_le _, hm, hs, rfl⟩⟩
theorem own_keep {w w' : World} {base n : Nat} {v : Value} {xs : List Value} {S : Nat → Prop} (h : w.ownsRow base 5 1 v n xs) (hf : Fr S w w') (hs : ∀ k, v.ownBlock = some k → ¬ S k) : w'.ownsRow base 5 1 v n xs := by
  refine ⟨h.1, ?_⟩
  rcases h.2 with h' | ⟨g, cap, cur, rfl, hb, hg, hr⟩
  · exact .inl h'
  · refine .inr ⟨g, cap, cur, rfl, hb, ?_, hr⟩
    have hlt : g < w.heap.size := by
      rcases Nat.lt_or_ge g w.heap.size with h | h
      · exact h
      · rw [Array.getElem?_eq_none h] at hg; cases hg
    rw [hf.block g hlt (hs g rfl), hg]
theorem own_lt {w : World} {base n g : Nat} {v : Value} {xs : List Value} (h : w.ownsRow base 5 1 v n xs) (hg : v.ownBlock = some g) : g < w.heap.size ∧ base ≤ g := by
  rcases h.2 with ⟨rfl, _⟩ | ⟨g', cap, cur, rfl, hb, hc, _⟩
  · cases hg
  · have : g' = g := by simpa [Value.ownBlock] using hg
    subst this
    refine ⟨?_, hb⟩
    rcases Nat.lt_or_ge g' w.heap.size with h | h
    · exact h
    · rw [Array.getElem?_eq_none h] at hc; cases hc
/-- a digest's block is not its rest's -/
theorem own_ne {w : World} {base n g b : Nat} {v : Value} {xs vs : List Value} {e : TypeId} (h : w.ownsRow base 5 1 v n xs) (hg : v.ownBlock = some g) (hb : Blk w b e vs) (he : e ≠ 5) : g ≠ b := by
  rcases h.2 with ⟨rfl, _⟩ | ⟨g', cap, cur, rfl, _, hc, _⟩
  · cases hg
  · have : g' = g := by simpa [Value.ownBlock] using hg
    subst this
    rintro rfl
    unfold Blk at hb
    rw [hc] at hb
    simp only [Option.some.injEq, Obj.cells.injEq] at hb
    exact he hb.2.1.symm
end Go.Proofs.YtjcfnflkiialbaaDoor.Sha
