/-
  Lists that a call answered and that are held, each written full with a mark of its own: the walks of hold and kept. The walks of hold and kept. The walk of kept; comparing two lists of bytes, whatever they hold.
-/
import Derived.Test.YtjcfnflkiialbaaDoorAux2
import Derived.Deep.RegionLaw
namespace Go.Proofs.YtjcfnflkiialbaaDoor.Sha
open Go.RowKit Go.Proofs.YtjcfnflkiialbaaDoor.Mem Go.Proofs.YtjcfnflkiialbaaDoorW.PrintWords
/-- A list at the head of a block of its own, n long, holding xs; the block may be longer than its spare room. -/
def OwnL (w : World) (e : TypeId) (size : Nat) (v : Value) (n : Nat) (xs : List Value) : Prop :=
  xs.length = n * size ∧ ((v = .slice none 0 0 ∧ n = 0) ∨ ∃ g cap cur, v = .slice (some ⟨g, 0, none⟩) n cap ∧ w.heap[g]? = some (.cells cur e (0, 0)) ∧ n ≤ cap ∧ cap ≤ maxLen ∧ cap * size ≤ cur.size ∧ cur.toList.take (n * size) = xs)
section
variable {w w1 : World} {e : TypeId} {size n : Nat} {v : Value} {xs : List Value}
theorem OwnL.of_own {base : Nat} (h : w.ownsRow base e size v n xs) : OwnL w e size v n xs := by
  refine ⟨h.1, ?_⟩
  rcases h.2 with h' | ⟨g, cap, cur, h1, _, h2, h3, h4, h5, h6⟩
  · exact .inl h'
  · exact .inr ⟨g, cap, cur, h1, h2, h3, h4, Nat.le_of_eq h5.symm, h6⟩
theorem OwnL.lt (h : OwnL w e size v n xs) : ∀ k, v.ownBlock = some k → k < w.heap.size := by
  intro k hk
  rcases h.2 with ⟨rfl, _⟩ | ⟨g, cap, cur, rfl, hg, _⟩
  · cases hk
  · obtain rfl : g = k := Option.some.inj hk
    rcases Nat.lt_or_ge g w.heap.size with h | h
    · exact h
    · rw [Array.getElem?_eq_none h] at hg; cases hg
theorem OwnL.fr {S : Nat → Prop} (h : OwnL w e size v n xs) (hf : Fr S w w1) (hs : ∀ k, v.ownBlock = some k → ¬ S k) : OwnL w1 e size v n xs := by
  have hlt := h.lt
  refine ⟨h.1, ?_⟩
  rcases h.2 with h' | ⟨g, cap, cur, rfl, hg, hr⟩
  · exact .inl h'
  · exact .inr ⟨g, cap, cur, rfl, (hf.block g (hlt g rfl) (hs g rfl)).trans hg, hr⟩
theorem OwnL.grown {row : Option Nat} (h : OwnL w e size v n xs) (hg : w.grownBy w1 row) (hne : ∀ k, v.ownBlock = some k → row ≠ some k) : OwnL w1 e size v n xs := by
  have hlt := h.lt
  refine ⟨h.1, ?_⟩
  rcases h.2 with h' | ⟨g, cap, cur, rfl, hgg, hr⟩
  · exact .inl h'
  · exact .inr ⟨g, cap, cur, rfl, (hg.block g (hlt g rfl) (fun e => hne g rfl e.symm)).trans hgg, hr⟩
/-- blocks of unlike element types are unlike -/
theorem OwnL.ne {e' : TypeId} {size' n' : Nat} {v' : Value} {xs' : List Value} (h : OwnL w e size v n xs) (h' : OwnL w e' size' v' n' xs') (he : e ≠ e') {k : Nat} (hk : v.ownBlock = some k) : v'.ownBlock ≠ some k := by
  intro hk'
  rcases h.2 with ⟨rfl, _⟩ | ⟨g, cap, cur, rfl, hg, _⟩
  · cases hk
  · rcases h'.2 with ⟨rfl, _⟩ | ⟨g', cap', cur', rfl, hg', _⟩
    · cases hk'
    · obtain rfl : g = k := Option.some.inj hk
      obtain rfl : g' = g := Option.some.inj hk'
      rw [hg] at hg'
      simp only [Option.some.injEq, Obj.cells.injEq] at hg'
      exact he hg'.2.1
theorem OwnL.ne_blk {e' : TypeId} {b : Nat} {vs : List Value} (h : OwnL w e size v n xs) (hb : Blk w b e' vs) (he : e ≠ e') : v.ownBlock ≠ some b := by
  intro hk
  rcases h.2 with ⟨rfl, _⟩ | ⟨g, cap, cur, rfl, hg, _⟩
  · cases hk
  · obtain rfl : g = b := Option.some.inj hk
    unfold Blk at hb
    rw [hg] at hb
    simp only [Option.some.injEq, Obj.cells.injEq] at hb
    exact he hb.2.1
theorem run_append_ownl {P : Program} (w : World) (t ty e : TypeId) (z : Value) (size bytes : Nat) (ht : P.underlying t = some (.slice e)) (hI : (P.info? e).map (fun i => (i.zero, i.size, i.bytes)) = some (some z, size, bytes))
    (hzs : z.cells.size = size) (v : Value) (n : Nat) (xs : List Value) (hown : OwnL w e size v n xs)
    (a : Addr) (m c : Nat) (news : List Value) (hl : news.length = m * size) (hnews : ∀ j u, news[j]? = some u → w.cell? (a.add j) = some u) (h1 : ∀ u ∈ news, u.oneCell' = true)
    (hm : 0 < m) (h63 : n + m ≤ maxLen) (hbytes : (n + m) * bytes ≤ 140737488355328) :
    ∃ v' w', (Builtin.append_ #[t, t] ty #[v, .slice (some a) m c]).run P w = .ok v' w' ∧ OwnL w' e size v' (n + m) (xs ++ news) ∧ OwnL w' e size v n xs ∧ w.grownBy w' v.ownBlock ∧
      (v'.ownBlock = v.ownBlock ∨ v'.ownBlock = some w.heap.size) ∧ ∃ A c', v' = .slice A (n + m) c' := by
  obtain ⟨i, hi, hii⟩ := Option.map_eq_some_iff.1 hI
  simp only [Prod.mk.injEq] at hii
  obtain ⟨hz, rfl, rfl⟩ := hii
  have hlen : (xs ++ news).length = (n + m) * i.size := by rw [List.length_append, hown.1, hl, Nat.add_mul]
  have grown : ∀ (old : Nat), old < n + m → ∀ (row : Option Nat),
      OwnL (w.drew.alloc (.cells (xs.toArray ++ news.toArray ++ Builtin.zeroCells z.cells (grownCap w (n + m) old e - (n + m))) e)) e i.size
        (.slice (some ⟨w.heap.size, 0, none⟩) (n + m) (grownCap w (n + m) old e)) (n + m) (xs ++ news) ∧
      w.grownBy (w.drew.alloc (.cells (xs.toArray ++ news.toArray ++ Builtin.zeroCells z.cells (grownCap w (n + m) old e - (n + m))) e)) row := by
    intro old ho row
    have hge := grownCap_ge w (n + m) old e
    have hcm : grownCap w (n + m) old e ≤ maxLen := grownCap_le_maxLen w (n + m) old e h63
    refine ⟨⟨hlen, .inr ⟨w.heap.size, _, _, rfl, heap_alloc_new w.drew _, hge, hcm, ?_, ?_⟩⟩, ⟨rfl, rfl, rfl, by simp, fun k hk _ => Below.heap_alloc w.drew _ k hk⟩⟩
    · simp only [Array.size_append, List.size_toArray, size_zeroCells, hzs, hown.1, hl, ← Nat.add_mul]
      exact Nat.mul_le_mul_right _ (by omega)
    · simp only [Array.toList_append, List.append_assoc]
      rw [← List.append_assoc, ← hlen]
      exact List.take_left
  rcases hown.2 with ⟨rfl, rfl⟩ | ⟨g, cap, cur, rfl, hg, hnc, hcm, hcs, htake⟩
  · have hx : xs = [] := List.eq_nil_of_length_eq_zero (by simpa using hown.1)
    subst hx
    have hr := run_append_nil (P := P) w t ty e i z ht hi hz a m c news hl hnews hm (by simp only [maxLen] at h63; omega) (by have hb := hbytes; simp only [Nat.zero_add] at hb; omega)
    have hgr := grown 0 (by omega) (Value.ownBlock (.slice none 0 0))
    simp only [Nat.zero_add, List.nil_append, Array.empty_append] at hgr ⊢
    exact ⟨_, _, hr, hgr.1, ⟨by simp, .inl ⟨rfl, rfl⟩⟩, hgr.2, .inr rfl, _, _, rfl⟩
  · by_cases hroom : n + m ≤ cap
    · have hfit : n * i.size + news.length ≤ cur.size := by rw [hl, ← Nat.add_mul]; exact Nat.le_trans (Nat.mul_le_mul_right _ hroom) hcs
      have hr := run_append_room (P := P) w t ty e i ht hi g n cap cur hg a m c news hl hnews h1 hroom hfit
      have hsz : (cur.toList.take (n * i.size) ++ news ++ cur.toList.drop (n * i.size + news.length)).length = cur.size := by
        simp only [List.length_append, List.length_take, List.length_drop, Array.length_toList]; omega
      refine ⟨_, _, hr, ⟨hlen, .inr ⟨g, cap, _, rfl, setRow_heap w g cur _ e _ hg, hroom, hcm, ?_, ?_⟩⟩, ⟨hown.1, .inr ⟨g, cap, _, rfl, setRow_heap w g cur _ e _ hg, hnc, hcm, ?_, ?_⟩⟩, ⟨rfl, rfl, rfl, by simp, fun k _ hk => setRow_other w g k _ (fun e => hk (by simp [Value.ownBlock, e]))⟩, .inl rfl, _, _, rfl⟩
      · rw [List.size_toArray, hsz]; exact hcs
      · rw [htake, ← hlen]
        exact List.take_left
      · rw [List.size_toArray, hsz]; exact hcs
      · rw [htake, ← hown.1, List.append_assoc]
        exact List.take_left
    · have hlt : g < w.heap.size := hown.lt g rfl
      have holds : ∀ j u, xs[j]? = some u → w.cell? ((⟨g, 0, none⟩ : Addr).add j) = some u := by
        intro j u hu
        have hadd : (⟨g, 0, none⟩ : Addr).add j = ⟨g, j, none⟩ := by unfold Addr.add; split <;> simp_all
        rw [hadd, cell_of_row w g j cur e (0, 0) hg]
        rw [← htake, List.getElem?_take] at hu
        split at hu
        · simpa using hu
        · cases hu
      have hr := run_append_grow (P := P) w t ty e i z ht hi hz ⟨g, 0, none⟩ n cap xs hown.1 holds a m c news hl hnews (by omega) (by simp only [maxLen] at h63; omega) (growslice_fits (by omega) hbytes)
      have hgr := grown cap (by omega) (Value.ownBlock (.slice (some ⟨g, 0, none⟩) n cap))
      refine ⟨_, _, hr, hgr.1, ?_, hgr.2, .inr rfl, _, _, rfl⟩
      exact ⟨hown.1, .inr ⟨g, cap, cur, rfl, (Below.heap_alloc w.drew _ g hlt).trans hg, hnc, hcm, hcs, htake⟩⟩
end
theorem fr_put (w : World) (b i : Nat) (v : Value) : Fr (fun j => j = b) w (w.setCell ⟨b, i, none⟩ v) := Fr.set (S := fun j => j = b) (a := ⟨b, i, none⟩) (Fr.refl _ _) (fun _ => rfl) _
/-- the mark of the k-th list -/
def mark (k : Nat) : Int := ((k : Int) * 7 + 1) % 256
/-- n lists are held in the rows LV and MV, each full of its mark; all that they take lies in T. -/
structure BookIn (w : World) (T : Nat → Prop) (LV MV : Value) (n : Nat) : Prop where
  rows : ∃ ls ms, OwnL w 23 1 LV n ls ∧ OwnL w 23 1 MV n ms ∧ ∀ k, k < n →
    (∃ v m, ls[k]? = some v ∧ OwnL w 5 1 v m (List.replicate m (.int .u8 (mark k))) ∧ ∀ j, v.ownBlock = some j → T j) ∧
    (∃ v m, ms[k]? = some v ∧ OwnL w 5 1 v m (List.replicate m (.int .u8 (mark k))) ∧ ∀ j, v.ownBlock = some j → T j)
  lv : ∀ k, LV.ownBlock = some k → T k
  mv : ∀ k, MV.ownBlock = some k → T k
  apart : ∀ k, LV.ownBlock = some k → MV.ownBlock ≠ some k
  lt : ∀ k, T k → low ≤ k ∧ k < w.heap.size
theorem BookIn.fr {w w1 : World} {T S : Nat → Prop} {LV MV : Value} {n : Nat} (h : BookIn w T LV MV n) (hf : Fr S w w1) (hs : ∀ k, T k → ¬ S k) : BookIn w1 T LV MV n := by
  obtain ⟨ls, ms, h1, h2, h3⟩ := h.rows
  refine ⟨⟨ls, ms, h1.fr hf (fun k hk => hs k (h.lv k hk)), h2.fr hf (fun k hk => hs k (h.mv k hk)), fun k hk => ?_⟩, h.lv, h.mv, h.apart, fun k hk => ⟨(h.lt k hk).1, Nat.lt_of_lt_of_le (h.lt k hk).2 hf.size⟩⟩
  obtain ⟨⟨v, m, a1, a2, a3⟩, ⟨v', m', b1, b2, b3⟩⟩ := h3 k hk
  exact ⟨⟨v, m, a1, a2.fr hf (fun j hj => hs j (a3 j hj)), a3⟩, ⟨v', m', b1, b2.fr hf (fun j hj => hs j (b3 j hj)), b3⟩⟩
theorem BookIn.nil (w : World) : BookIn w (fun _ => False) (.slice none 0 0) (.slice none 0 0) 0 :=
  ⟨⟨[], [], ⟨rfl, .inl ⟨rfl, rfl⟩⟩, ⟨rfl, .inl ⟨rfl, rfl⟩⟩, fun k hk => absurd hk (Nat.not_lt_zero _)⟩, (fun k hk => by cases hk), (fun k hk => by cases hk), (fun k hk => by cases hk), fun k hk => hk.elim⟩
/-- two rows that have each got one list more -/
theorem BookIn.more {w1 : World} {T' : Nat → Prop} {LV' MV' v v' : Value} {n m m' : Nat} {ls ms : List Value}
    (h1 : OwnL w1 23 1 LV' (n + 1) (ls ++ [v])) (h2 : OwnL w1 23 1 MV' (n + 1) (ms ++ [v'])) (hl : ls.length = n) (hm : ms.length = n)
    (hold : ∀ k, k < n →
    (∃ v m, ls[k]? = some v ∧ OwnL w1 5 1 v m (List.replicate m (.int .u8 (mark k))) ∧ ∀ j, v.ownBlock = some j → T' j) ∧
    (∃ v m, ms[k]? = some v ∧ OwnL w1 5 1 v m (List.replicate m (.int .u8 (mark k))) ∧ ∀ j, v.ownBlock = some j → T' j))
    (hv : OwnL w1 5 1 v m (List.replicate m (.int .u8 (mark n)))) (hv' : OwnL w1 5 1 v' m' (List.replicate m' (.int .u8 (mark n))))
    (hT : ∀ j, v.ownBlock = some j → T' j) (hT' : ∀ j, v'.ownBlock = some j → T' j) (hL : ∀ j, LV'.ownBlock = some j → T' j) (hM : ∀ j, MV'.ownBlock = some j → T' j)
    (hap : ∀ k, LV'.ownBlock = some k → MV'.ownBlock ≠ some k) (hlt : ∀ k, T' k → low ≤ k ∧ k < w1.heap.size) : BookIn w1 T' LV' MV' (n + 1) := by
  refine ⟨⟨_, _, h1, h2, fun k hk => ?_⟩, hL, hM, hap, hlt⟩
  rcases Nat.lt_or_ge k n with h | h
  · obtain ⟨⟨u, q, a1, a2, a3⟩, ⟨u', q', b1, b2, b3⟩⟩ := hold k h
    exact ⟨⟨u, q, by rw [List.getElem?_append_left (by omega)]; exact a1, a2, a3⟩, ⟨u', q', by rw [List.getElem?_append_left (by omega)]; exact b1, b2, b3⟩⟩
  · obtain rfl : k = n := by omega
    exact ⟨⟨v, m, by rw [← hl]; simp, hv, hT⟩, ⟨v', m', by rw [← hm]; simp, hv', hT'⟩⟩
theorem run_append_L (w : World) (v : Value) (n : Nat) (xs : List Value) (hown : OwnL w 23 1 v n xs) (g : Nat) (x : Value) (hx : x.oneCell' = true) (hg : w.cell? ⟨g, 0, none⟩ = some x) (hn : n ≤ 5000000000000) :
    ∃ v' w', (Builtin.append_ #[32, 32] 32 #[v, .slice (some ⟨g, 0, none⟩) 1 1]).run Tryd.prog w = .ok v' w' ∧ OwnL w' 23 1 v' (n + 1) (xs ++ [x]) ∧ OwnL w' 23 1 v n xs ∧ w.grownBy w' v.ownBlock ∧
      (v'.ownBlock = v.ownBlock ∨ v'.ownBlock = some w.heap.size) ∧ ∃ A c', v' = .slice A (n + 1) c' :=
  run_append_ownl w 32 32 23 (.slice none 0 0) 1 24 Tryd.underlying32 (by kernel_rfl) rfl v n xs hown ⟨g, 0, none⟩ 1 1 [x] rfl
    (fun j u hu => by
      match j, hu with
      | 0, hu => obtain rfl : x = u := Option.some.inj hu; rw [Addr.add_zero']; exact hg
      | j + 1, hu => simp at hu)
    (fun u hu => by obtain rfl := List.mem_singleton.1 hu; exact hx) (by omega) (by simp only [maxLen]; omega) (by omega)
theorem run_append_M (w : World) (v : Value) (n : Nat) (xs : List Value) (hown : OwnL w 5 1 v n xs) (g : Nat) (x : Int) (hg : w.cell? ⟨g, 0, none⟩ = some (.int .u8 x)) (hn : n ≤ 140737488355327) :
    ∃ v' w', (Builtin.append_ #[23, 23] 23 #[v, .slice (some ⟨g, 0, none⟩) 1 1]).run Tryd.prog w = .ok v' w' ∧ OwnL w' 5 1 v' (n + 1) (xs ++ [.int .u8 x]) ∧ OwnL w' 5 1 v n xs ∧ w.grownBy w' v.ownBlock ∧
      (v'.ownBlock = v.ownBlock ∨ v'.ownBlock = some w.heap.size) ∧ ∃ A c', v' = .slice A (n + 1) c' :=
  run_append_ownl w 23 23 5 (.int .u8 0) 1 1 Tryd.underlying23 (by kernel_rfl) rfl v n xs hown ⟨g, 0, none⟩ 1 1 [.int .u8 x] rfl
    (fun j u hu => by
      match j, hu with
      | 0, hu => obtain rfl : Value.int .u8 x = u := Option.some.inj hu; rw [Addr.add_zero']; exact hg
      | j + 1, hu => simp at hu)
    (fun u hu => by obtain rfl := List.mem_singleton.1 hu; rfl) (by omega) (by simp only [maxLen]; omega) (by omega)
theorem wpList_append_M {ops : Array Oper} {rest : List Oper} {o : Oper} {a : Act} {w : World} {Q : Exit → Act → World → Prop} (hgd : o.guard = none) (s x : Operand)
    (ho : o.op = .call { callee := .builtin .append, args := #[s, x], argTypes := #[23, 23] }) (hty : o.type = 23) (v : Value) (n : Nat) (xs : List Value) (hs : a.eval s = v) (hown : OwnL w 5 1 v n xs)
    (g : Nat) (y : Int) (hx : a.eval x = .slice (some ⟨g, 0, none⟩) 1 1) (hg : w.cell? ⟨g, 0, none⟩ = some (.int .u8 y)) (hn : n ≤ 140737488355327)
    (h : ∀ v' w', OwnL w' 5 1 v' (n + 1) (xs ++ [.int .u8 y]) → OwnL w' 5 1 v n xs → w.grownBy w' v.ownBlock → (v'.ownBlock = v.ownBlock ∨ v'.ownBlock = some w.heap.size) → (∃ A c', v' = .slice A (n + 1) c') → wpList Tryd.prog ops Q rest (a.put o.dst v') w') :
    wpList Tryd.prog ops Q (o :: rest) a w := by
  obtain ⟨v', w', hr', h2, h3, h4, h5, h6⟩ := run_append_M w v n xs hown g y hg hn
  refine wpList_plain hgd fun _ hK => ?_
  unfold Oper.wp execOp
  simp only [ho, resolve, invoke, builtin, Sem.run_bind, Sem.run_pure, Result.andThen_ok, List.map_toArray, List.map_cons, List.map_nil, hs, hx, hty, hr']
  exact hK _ _ (h v' w' h2 h3 h4 h5 h6)
theorem wpList_append_L {ops : Array Oper} {rest : List Oper} {o : Oper} {a : Act} {w : World} {Q : Exit → Act → World → Prop} (hgd : o.guard = none) (s x : Operand)
    (ho : o.op = .call { callee := .builtin .append, args := #[s, x], argTypes := #[32, 32] }) (hty : o.type = 32) (v : Value) (n : Nat) (xs : List Value) (hs : a.eval s = v) (hown : OwnL w 23 1 v n xs)
    (g : Nat) (y : Value) (hx : a.eval x = .slice (some ⟨g, 0, none⟩) 1 1) (hy : y.oneCell' = true) (hg : w.cell? ⟨g, 0, none⟩ = some y) (hn : n ≤ 5000000000000)
    (h : ∀ v' w', OwnL w' 23 1 v' (n + 1) (xs ++ [y]) → w.grownBy w' v.ownBlock → (v'.ownBlock = v.ownBlock ∨ v'.ownBlock = some w.heap.size) → (∃ A c', v' = .slice A (n + 1) c') → wpList Tryd.prog ops Q rest (a.put o.dst v') w') :
    wpList Tryd.prog ops Q (o :: rest) a w := by
  obtain ⟨v', w', hr', h2, _, h4, h5, h6⟩ := run_append_L w v n xs hown g y hy hg hn
  refine wpList_plain hgd fun _ hK => ?_
  unfold Oper.wp execOp
  simp only [ho, resolve, invoke, builtin, Sem.run_bind, Sem.run_pure, Result.andThen_ok, List.map_toArray, List.map_cons, List.map_nil, hs, hx, hty, hr']
  exact hK _ _ (h v' w' h2 h4 h5 h6)
theorem OwnL.open {w : World} {e : TypeId} {A : Option Addr} {n c : Nat} {xs : List Value} (h : OwnL w e 1 (.slice A n c) n xs) (hn : 0 < n) : ∃ g cur, A = some ⟨g, 0, none⟩ ∧ w.heap[g]? = some (.cells cur e (0, 0)) ∧ n ≤ c ∧ c ≤ maxLen ∧ c ≤ cur.size ∧ cur.toList.take n = xs := by
  rcases h.2 with ⟨_, h0⟩ | ⟨g, cap, cur, h1, h2, h3, h4, h5, h6⟩
  · omega
  · simp only [Value.slice.injEq] at h1
    obtain ⟨rfl, _, rfl⟩ := h1
    exact ⟨g, cur, rfl, h2, h3, h4, by simpa using h5, by simpa using h6⟩
theorem OwnL.cell {w : World} {e : TypeId} {g n c : Nat} {xs : List Value} (h : OwnL w e 1 (.slice (some ⟨g, 0, none⟩) n c) n xs) {k : Nat} {u : Value} (hu : xs[k]? = some u) : w.cell? ⟨g, k, none⟩ = some u := by
  have hk : k < n := by
    have h1 := h.1
    have := (List.getElem?_eq_some_iff.1 hu).1
    omega
  obtain ⟨g', cur, hg', hg, _, _, h5, rfl⟩ := h.open (by omega)
  obtain rfl : g = g' := by simpa using hg'
  rw [cell_of_row w g k cur e (0, 0) hg]
  rw [List.getElem?_take, if_pos hk] at hu
  simpa using hu
theorem OwnL.free {w : World} {e : TypeId} {g n c : Nat} {xs : List Value} (h : OwnL w e 1 (.slice (some ⟨g, 0, none⟩) n c) n xs) (hn : 0 < n) (k : Nat) : w.frozen? ⟨g, k, none⟩ = false := by
  obtain ⟨g', cur, hg', hg, _⟩ := h.open hn
  obtain rfl : g = g' := by simpa using hg'
  simp [World.frozen?, hg]
theorem OwnL.set {w : World} {e : TypeId} {g n c : Nat} {xs : List Value} (h : OwnL w e 1 (.slice (some ⟨g, 0, none⟩) n c) n xs) (k : Nat) (u : Value) : OwnL (w.setCell ⟨g, k, none⟩ u) e 1 (.slice (some ⟨g, 0, none⟩) n c) n (xs.set k u) := by
  refine ⟨by rw [List.length_set]; exact h.1, ?_⟩
  rcases h.2 with ⟨h1, _⟩ | ⟨g', cap, cur, h1, h2, h3, h4, h5, h6⟩
  · simp at h1
  · simp only [Value.slice.injEq, Option.some.injEq, Addr.mk.injEq, and_true, true_and] at h1
    obtain ⟨rfl, rfl⟩ := h1
    refine .inr ⟨g, c, cur.setIfInBounds k u, rfl, ?_, h3, h4, by simpa using h5, ?_⟩
    · simp [World.setCell, Array.getElem?_modify, h2]
    · rw [Array.toList_setIfInBounds, List.take_set, h6]
theorem fill_step {α : Type} (ys : List α) (k : Nat) (u : α) (hk : k < ys.length) (h : ys.take k = List.replicate k u) : (ys.set k u).take (k + 1) = List.replicate (k + 1) u := by
  rw [List.take_set, List.take_succ_eq_append_getElem hk, h, List.replicate_succ', List.set_append_right _ _ (by simp)]
  simp
end Go.Proofs.YtjcfnflkiialbaaDoor.Sha
namespace Go.Proofs.YtjcfnflkiialbaaDoor.Sha
open Go.RowKit Go.Proofs.YtjcfnflkiialbaaDoor.Mem Go.Proofs.YtjcfnflkiialbaaDoorW.PrintWords
set_option maxHeartbeats 4000000 in
set_option maxRecDepth 100000 in
theorem hold_calls (w : World) (bk o n : Nat) (E : TypeId) (vs : List Value) (LV MV : Value) (T : Nat → Prop) (hE : E ≠ 5 ∧ E ≠ 23) (hb : Blk w bk E vs) (hbl : low ≤ bk) (h0 : vs[o]? = some LV) (h1 : vs[o + 1]? = some MV)
    (hB : BookIn w T LV MV n) (hn : n ≤ 4000000000000) (A : Option Addr) (len cap : Nat) (xs : List Value) (hv : OwnL w 5 1 (.slice A len cap) len xs) (hl : len ≤ 140737488355327) (hT : ∀ k, (Value.slice A len cap).ownBlock = some k → ¬ T k ∧ low ≤ k) :
    Calls Tryd.prog 18 #[.pointer (some ⟨bk, o, none⟩), .slice A len cap] w fun e w' => ∃ r LV' MV' T', e = .returned r ∧ Blk w' bk E ((vs.set o LV').set (o + 1) MV') ∧ BookIn w' T' LV' MV' (n + 1) ∧
      (∀ k, T' k → T k ∨ (Value.slice A len cap).ownBlock = some k ∨ w.heap.size ≤ k) ∧ Fr (fun k => k = bk ∨ T k ∨ (Value.slice A len cap).ownBlock = some k) w w' := by
  obtain ⟨ls, ms, hL, hM, hrows⟩ := hB.rows
  obtain ⟨AL, cL, rfl⟩ : ∃ AL cL, LV = .slice AL n cL := by
    rcases hL.2 with ⟨rfl, rfl⟩ | ⟨g, cap, cur, rfl, _⟩
    · exact ⟨_, _, rfl⟩
    · exact ⟨_, _, rfl⟩
  obtain ⟨AM, cM, rfl⟩ : ∃ AM cM, MV = .slice AM n cM := by
    rcases hM.2 with ⟨rfl, rfl⟩ | ⟨g, cap, cur, rfl, _⟩
    · exact ⟨_, _, rfl⟩
    · exact ⟨_, _, rfl⟩
  have hc0 := hb.cell o _ h0
  have hc1 := hb.cell (o + 1) _ h1
  have hf0 := hb.free o
  have hf1 := hb.free (o + 1)
  have HB := Kp.mk hB
  have HBK := Kp.mk hb
  have HV := Kp.mk hv
  have HT := Kp.mk hT
  have HLs := Kp.mk hL
  have HMs := Kp.mk hM
  have HR := Kp.mk hrows
  have HM : Kp (IntKind.u8.wrap ((n : Int) * 7 + 1) = mark n) := ⟨by unfold mark; rw [show IntKind.u8.wrap ((n : Int) * 7 + 1) = ((n : Int) * 7 + 1) % 256 by rfl]⟩
  have H0 := Kp.mk h0
  have H1 := Kp.mk h1
  clear hB hb hv hT hL hM hrows h0 h1
  go_enter Tryd.func18, Tryd.ntmps18
  go_wp2
  go_loopw [5] (fun s5 wr => ∃ k : Nat, s5 = .int .i64 (k : Int) ∧ Kp (k ≤ len) ∧ Kp (∃ ys, OwnL wr 5 1 (.slice A len cap) len ys ∧ ys.take k = List.replicate k (.int .u8 (mark n))) ∧ Kp (Fr (fun j => (Value.slice A len cap).ownBlock = some j) w wr)) (fun s5 _ => len - (intOf s5).toNat)
  case atStart => exact ⟨0, rfl, ⟨Nat.zero_le _⟩, ⟨xs, HV.out, rfl⟩, ⟨Fr.refl _ _⟩⟩
  case round =>
    obtain ⟨k, rfl, hk, HO, HF⟩ := hrel
    have hk' := hk.out
    by_cases hlt : k < len
    · obtain ⟨ys, hO, hys⟩ := HO.out
      obtain ⟨g, cur, rfl, hg, hlc, _⟩ := hO.open (by omega)
      have hyl : k < ys.length := by have := hO.1; omega
      obtain ⟨u, hu⟩ : ∃ u, ys[k]? = some u := ⟨_, List.getElem?_eq_getElem hyl⟩
      have hcu := hO.cell hu
      have hfu := hO.free (by omega) k
      have HS := Kp.mk (hO.set k (.int .u8 (mark n)))
      have HS2 := Kp.mk (fill_step ys k (.int .u8 (mark n)) hyl hys)
      clear hO hys hu hg hyl
      go_wp2
      go_roundw
      case rel =>
        refine ⟨k + 1, by go_num, ⟨hlt⟩, ⟨_, HS.out, HS2.out⟩, ⟨Fr.set (a := ⟨g, k, none⟩) HF.out (fun _ => rfl) _⟩⟩
      case measure => simp [intOf] <;> omega
    · obtain rfl : k = len := by omega
      have HO8 : Kp (OwnL wr 5 1 (.slice A k cap) k (List.replicate k (.int .u8 (mark n)))) := ⟨by
        obtain ⟨ys, hO, hys⟩ := HO.out
        rw [List.take_of_length_le (by have := hO.1; omega)] at hys
        rw [← hys]; exact hO⟩
      clear HO
      have HLn : Kp (low ≤ bk ∧ bk < w.heap.size) := ⟨hbl, HBK.out.lt⟩
      have HLV : Kp ((Value.slice AL n cL).ownBlock ≠ some bk ∧ (Value.slice AM n cM).ownBlock ≠ some bk ∧ (Value.slice A k cap).ownBlock ≠ some bk) := ⟨HLs.out.ne_blk HBK.out (Ne.symm hE.2), HMs.out.ne_blk HBK.out (Ne.symm hE.2), HV.out.ne_blk HBK.out (Ne.symm hE.1)⟩
      clear hc0 hc1 hf0 hf1
      go_wp2_with (first
        | (at_builtin; refine wpList_append_M rfl (.tmp 25) (.tmp 27) rfl rfl (.slice A k cap) k _ rfl (by exact HO8.out.fr ((Fr.refl (fun _ => False) _).alloc _) (fun _ _ h => h)) _ _ rfl (by exact (Blk.new wr _ _).cell 0 _ rfl) (by omega) ?_; intro v6 w6 hO6 hOl hgr hat hsh; obtain ⟨A6, c6, rfl⟩ := hsh; have HO6 := Kp.mk hO6; have HOl := Kp.mk hOl; have HF6 := Kp.mk (Fr.grown (HF.out.alloc (.cells #[.int .u8 (mark n)] 5)) hgr (fun _ _ h => h)); have HA6 := Kp.mk hat; have HB6 := Kp.mk (HBK.out.fr HF6.out HLV.out.2.2); have h60 := HB6.out.cell o _ H0.out; have hf60 := HB6.out.free o; clear hO6 hOl hgr hat)
        | (at_builtin; refine wpList_append_L rfl (.tmp 33) (.tmp 35) rfl rfl (.slice AL n cL) n ls rfl (by exact (HLs.out.fr HF6.out (fun j hj hk => HV.out.ne HLs.out (by decide) hk hj)).fr ((Fr.refl (fun _ => False) _).alloc _) (fun _ _ h => h)) _ _ rfl rfl (by exact (Blk.new w6 _ _).cell 0 _ rfl) (by omega) ?_; intro v7 w7 hO7 hgr hat hsh; obtain ⟨A7, c7, rfl⟩ := hsh; have HO7 := Kp.mk hO7; have HF7 := Kp.mk (Fr.grown ((Fr.refl (fun j => (Value.slice AL n cL).ownBlock = some j) w6).alloc (.cells #[.slice A k cap] 23)) hgr (fun _ _ h => h)); have HA7 := Kp.mk hat; have HB7 := Kp.mk (HB6.out.fr HF7.out HLV.out.1); have h70 := HB7.out.cell o _ H0.out; have h71 := HB7.out.cell (o + 1) _ H1.out; have hf70 := HB7.out.free o; have hf71 := HB7.out.free (o + 1); have HM7 : Kp (OwnL w7 23 1 (.slice AM n cM) n ms) := ⟨((HMs.out.fr HF6.out (fun j hj hk => HV.out.ne HMs.out (by decide) hk hj)).fr HF7.out (fun j hj hk => HB.out.apart j hk hj))⟩; have HM7s : Kp (OwnL (w7.setCell ⟨bk, o, none⟩ (.slice A7 (n + 1) c7)) 23 1 (.slice AM n cM) n ms) := ⟨HM7.out.fr (Fr.set (S := fun j => j = bk) (a := ⟨bk, o, none⟩) (Fr.refl _ _) (fun _ => rfl) _) (fun j hj e => HLV.out.2.1 (by rw [← e]; exact hj))⟩; clear hO7 hgr hat)
        | (at_builtin; refine wpList_append_L rfl (.tmp 43) (.tmp 45) rfl rfl (.slice AM n cM) n ms rfl (by exact HM7s.out.fr ((Fr.refl (fun _ => False) _).alloc _) (fun _ _ h => h)) _ _ rfl rfl (by exact (Blk.new' _ _ _ (by simp [World.setCell])).cell 0 _ rfl) (by omega) ?_; intro v8 w8 hO8 hgr hat hsh; obtain ⟨A8, c8, rfl⟩ := hsh; have HO8b := Kp.mk hO8; have HF8 := Kp.mk (Fr.grown ((Fr.refl (fun j => (Value.slice AM n cM).ownBlock = some j) _).alloc (.cells #[.slice A6 (k + 1) c6] 23)) hgr (fun _ _ h => h)); have HA8 := Kp.mk hat; have HB8 := Kp.mk ((HB7.out.set o (.slice A7 (n + 1) c7)).fr HF8.out HLV.out.2.1); have hc80 : (vs.set o (Value.slice A7 (n + 1) c7))[o + 1]? = some (.slice AM n cM) := (by rw [List.getElem?_set_ne (by omega)]; exact H1.out); have h81 := HB8.out.cell (o + 1) _ hc80; have hf81 := HB8.out.free (o + 1); clear hO8 hgr hat hc80))
      go_end0
      have e8 := HF8.out.size
      have e7 := HF7.out.size
      have e6 := HF6.out.size
      have er := HF.out.size
      have es7 : (w7.setCell ⟨bk, o, none⟩ (.slice A7 (n + 1) c7)).heap.size = w7.heap.size := by simp [World.setCell]
      have es8 : (w8.setCell ⟨bk, o + 1, none⟩ (.slice A8 (n + 1) c8)).heap.size = w8.heap.size := by simp [World.setCell]
      rw [es7] at e8
      have F7s : Fr (fun j => j = bk) w7 (w7.setCell ⟨bk, o, none⟩ (.slice A7 (n + 1) c7)) := fr_put _ _ _ _
      have F8s : Fr (fun j => j = bk) w8 (w8.setCell ⟨bk, o + 1, none⟩ (.slice A8 (n + 1) c8)) := fr_put _ _ _ _
      have F68 : Fr (fun j => j = bk ∨ (Value.slice AL n cL).ownBlock = some j ∨ (Value.slice AM n cM).ownBlock = some j) w6 (w8.setCell ⟨bk, o + 1, none⟩ (.slice A8 (n + 1) c8)) :=
        (((HF7.out.mono (fun _ _ h => .inr (.inl h))).trans F7s (fun _ _ h => .inl h)).trans HF8.out (fun _ _ h => .inr (.inr h))).trans F8s (fun _ _ h => .inl h)
      have F78 : Fr (fun j => j = bk ∨ (Value.slice AM n cM).ownBlock = some j) (w7.setCell ⟨bk, o, none⟩ (.slice A7 (n + 1) c7)) (w8.setCell ⟨bk, o + 1, none⟩ (.slice A8 (n + 1) c8)) := (HF8.out.mono (fun _ _ h => .inr h)).trans F8s (fun _ _ h => .inl h)
      have L6 : OwnL w6 23 1 (.slice AL n cL) n ls := HLs.out.fr HF6.out (fun j hj hk => HV.out.ne HLs.out (by decide) hk hj)
      have M6 : OwnL w6 23 1 (.slice AM n cM) n ms := HMs.out.fr HF6.out (fun j hj hk => HV.out.ne HMs.out (by decide) hk hj)
      have keep : ∀ (v : Value) (m : Nat) (ys : List Value), OwnL w6 5 1 v m ys → OwnL (w8.setCell ⟨bk, o + 1, none⟩ (.slice A8 (n + 1) c8)) 5 1 v m ys := fun v m ys hv => hv.fr F68 (fun j hj h => by
        rcases h with rfl | h | h
        · exact hv.ne_blk HB6.out (Ne.symm hE.1) hj
        · exact hv.ne L6 (by decide) hj h
        · exact hv.ne M6 (by decide) hj h)
      have hA6 : ∀ j, (Value.slice A6 (k + 1) c6).ownBlock = some j → ((Value.slice A k cap).ownBlock = some j ∨ w.heap.size ≤ j) ∧ j < w6.heap.size := fun j hj => by
        refine ⟨?_, HO6.out.lt j hj⟩
        rcases HA6.out with h | h
        · exact .inl (h.symm.trans hj)
        · have := Option.some.inj (h.symm.trans hj)
          simp at this
          exact .inr (by omega)
      have hA7 : ∀ j, (Value.slice A7 (n + 1) c7).ownBlock = some j → ((Value.slice AL n cL).ownBlock = some j ∨ w6.heap.size < j) ∧ j < w7.heap.size := fun j hj => by
        refine ⟨?_, HO7.out.lt j hj⟩
        rcases HA7.out with h | h
        · exact .inl (h.symm.trans hj)
        · have := Option.some.inj (h.symm.trans hj)
          simp at this
          exact .inr (by omega)
      have hA8 : ∀ j, (Value.slice A8 (n + 1) c8).ownBlock = some j → ((Value.slice AM n cM).ownBlock = some j ∨ w7.heap.size < j) ∧ j < w8.heap.size := fun j hj => by
        refine ⟨?_, HO8b.out.lt j hj⟩
        rcases HA8.out with h | h
        · exact .inl (h.symm.trans hj)
        · have := Option.some.inj (h.symm.trans hj)
          simp [World.setCell] at this
          exact .inr (by omega)
      have hln := HLn.out
      have hAM : ∀ j, (Value.slice AM n cM).ownBlock = some j → j < w.heap.size := fun j hj => HMs.out.lt j hj
      refine ⟨_, _, _, fun j => T j ∨ (Value.slice A k cap).ownBlock = some j ∨ (Value.slice A6 (k + 1) c6).ownBlock = some j ∨ (Value.slice A7 (n + 1) c7).ownBlock = some j ∨ (Value.slice A8 (n + 1) c8).ownBlock = some j, rfl, HB8.out.set (o + 1) _, ?_, ?_, ?_⟩
      · refine BookIn.more (ls := ls) (ms := ms) (v := .slice A k cap) (v' := .slice A6 (k + 1) c6) (m := k) (m' := k + 1) ((HO7.out.fr F7s (fun j hj e => HO7.out.ne_blk HB7.out (Ne.symm hE.2) (by rw [← e]; exact hj))).fr F78 (fun j hj e => ?_)) (HO8b.out.fr F8s (fun j hj e => HO8b.out.ne_blk HB8.out (Ne.symm hE.2) (by rw [← e]; exact hj))) (by have := HLs.out.1; omega) (by have := HMs.out.1; omega) (fun i hi => ?_) (keep _ _ _ HOl.out) (keep _ _ _ ?_) (fun j hj => .inr (.inl hj)) (fun j hj => .inr (.inr (.inl hj))) (fun j hj => .inr (.inr (.inr (.inl hj)))) (fun j hj => .inr (.inr (.inr (.inr hj)))) (fun j h7 h8 => ?_) (fun j hj => ?_)
        · rcases e with rfl | e
          · exact HO7.out.ne_blk HB7.out (Ne.symm hE.2) hj
          · rcases (hA7 j hj).1 with h | h
            · exact HB.out.apart j h e
            · have := hAM j e
              omega
        · obtain ⟨⟨v, m, a1, a2, a3⟩, ⟨v', m', b1, b2, b3⟩⟩ := HR.out i hi
          exact ⟨⟨v, m, a1, keep _ _ _ (a2.fr HF6.out (fun j hj h => (HT.out j h).1 (a3 j hj))), fun j hj => .inl (a3 j hj)⟩, ⟨v', m', b1, keep _ _ _ (b2.fr HF6.out (fun j hj h => (HT.out j h).1 (b3 j hj))), fun j hj => .inl (b3 j hj)⟩⟩
        · rw [List.replicate_succ']
          exact HO6.out
        · rcases (hA8 j h8).1 with h | h
          · rcases (hA7 j h7).1 with h' | h'
            · exact HB.out.apart j h' h
            · have := hAM j h
              omega
          · have := (hA7 j h7).2
            omega
        · rw [es8]
          rcases hj with h | h | h | h | h
          · have := HB.out.lt j h
            exact ⟨this.1, by omega⟩
          · have := HV.out.lt j h
            exact ⟨(HT.out j h).2, by omega⟩
          · have h1 := hA6 j h
            refine ⟨?_, by omega⟩
            rcases h1.1 with h' | h'
            · exact (HT.out j h').2
            · omega
          · have h1 := hA7 j h
            refine ⟨?_, by omega⟩
            rcases h1.1 with h' | h'
            · exact (HB.out.lt j (HB.out.lv j h')).1
            · omega
          · have h1 := hA8 j h
            refine ⟨?_, by omega⟩
            rcases h1.1 with h' | h'
            · exact (HB.out.lt j (HB.out.mv j h')).1
            · omega
      · rintro j (h | h | h | h | h)
        · exact .inl h
        · exact .inr (.inl h)
        · exact .inr ((hA6 j h).1)
        · rcases (hA7 j h).1 with h | h
          · exact .inl (HB.out.lv j h)
          · exact .inr (.inr (by omega))
        · rcases (hA8 j h).1 with h | h
          · exact .inl (HB.out.mv j h)
          · exact .inr (.inr (by omega))
      · refine (HF6.out.mono (fun _ _ h => .inr (.inr h))).trans F68 (fun j _ h => ?_)
        rcases h with h | h | h
        · exact .inl h
        · exact .inr (.inl (HB.out.lv j h))
        · exact .inr (.inl (HB.out.mv j h))
end Go.Proofs.YtjcfnflkiialbaaDoor.Sha
namespace Go.Proofs.YtjcfnflkiialbaaDoor.Sha
open Go.RowKit Go.Proofs.YtjcfnflkiialbaaDoor.Mem Go.Proofs.YtjcfnflkiialbaaDoorW.PrintWords Go.Proofs.YtjcfnflkiialbaaDoor.PShaConstants
theorem C_of_src {w : World} {S : Nat → Prop} {A : Option Addr} {c : Nat} {p : List Int} (h : Src w S A c p) (hl : p.length ≤ 1000000000000000) : Kd.C (Kd.int .u8) w A p.length p := by
  refine Kd.C_of_reads (d := (0 : Int)) ⟨rfl, by omega, fun hn => ?_⟩
  rcases h.2 with ⟨_, _, rfl⟩ | ⟨rfl, _⟩ | ⟨bs, os, rfl, hr, _⟩
  · simp at hn
  · simp at hn
  · exact ⟨_, rfl, fun j hj => by rw [Addr.add_lit]; exact hr.2 j hj⟩
theorem C_of_ownL {w : World} {A : Option Addr} {n c : Nat} {x : Int} (h : OwnL w 5 1 (.slice A n c) n (List.replicate n (.int .u8 x))) (hl : n ≤ 9223372036854775807) : Kd.C (Kd.int .u8) w A (List.replicate n x).length (List.replicate n x) := by
  refine Kd.C_of_reads (d := (0 : Int)) ⟨rfl, by simp; omega, fun hn => ?_⟩
  rw [List.length_replicate] at hn ⊢
  obtain ⟨g, cur, rfl, _⟩ := h.open hn
  refine ⟨_, rfl, fun j hj => ?_⟩
  rw [Addr.add_lit, Nat.zero_add]
  have := h.cell (k := j) (u := .int .u8 x) (by simp [hj])
  simpa [hj] using this
theorem same_all_l0 (l m : List Int) (hlm : l.length = m.length) (hl : l.length ≤ 1000000000000000) : ∀ n i : Nat, i + n = l.length → ledgerlaw01_same.l0 (n + 1) l m (i : Int) = some (decide (l.drop i = m.drop i))
  | 0, i, h => by
    rw [ledgerlaw01_same.l0, if_neg (by omega), List.drop_eq_nil_of_le (by omega), List.drop_eq_nil_of_le (by omega)]
    rfl
  | n + 1, i, h => by
    have h1 : i < l.length := by omega
    have h2 : i < m.length := by omega
    rw [ledgerlaw01_same.l0, if_pos (by omega), if_pos (by omega), if_pos (by omega)]
    have e1 : rd l (i : Int) = l[i] := by simp [rd, h1]
    have e2 : rd m (i : Int) = m[i] := by simp [rd, h2]
    rw [e1, e2, List.drop_eq_getElem_cons h1, List.drop_eq_getElem_cons h2]
    by_cases he : l[i] = m[i]
    · rw [if_pos he, show wrap64 ((i : Int) + 1) = ((i + 1 : Nat) : Int) from by unfold wrap64; omega, same_all_l0 l m hlm hl n (i + 1) (by omega)]
      have e : (l[i] :: l.drop (i + 1) = m[i] :: m.drop (i + 1)) ↔ l.drop (i + 1) = m.drop (i + 1) := by rw [List.cons.injEq]; exact ⟨fun h => h.2, fun h => ⟨he, h⟩⟩
      rw [decide_eq_decide.2 e]
    · rw [if_neg he]
      have e : ¬ (l[i] :: l.drop (i + 1) = m[i] :: m.drop (i + 1)) := by rw [List.cons.injEq]; exact fun h => he h.1
      rw [decide_eq_false e]
theorem same_all_f (l m : List Int) (hl : l.length ≤ 1000000000000000) : ledgerlaw01_same.f (l.length + 1) l m = some (decide (l = m)) := by
  unfold ledgerlaw01_same.f
  by_cases h : l.length = m.length
  · rw [if_pos (by omega)]
    have := same_all_l0 l m h hl l.length 0 (by omega)
    simpa using this
  · rw [if_neg (by omega)]
    have : l ≠ m := fun e => h (by rw [e])
    simp [this]
/-- same, of two lists that are read: are they alike? -/
theorem same_src (w : World) {S1 S2 : Nat → Prop} {A1 A2 : Option Addr} {c1 c2 : Nat} {xs ys : List Int} (h1 : Src w S1 A1 c1 xs) (h2 : Src w S2 A2 c2 ys) (hl1 : xs.length ≤ 1000000000000000) (hl2 : ys.length ≤ 1000000000000000) :
    Calls Tryd.prog 17 #[.slice A1 xs.length c1, .slice A2 ys.length c2] w fun e w' => e = .returned (.bool (decide (xs = ys))) ∧ Below w.heap.size w w' := by
  refine (ledgerlaw01_same.calls (xs.length + 1) A1 c1 xs A2 c2 ys _ w (C_of_src h1 hl1) h1.1 (C_of_src h2 hl2) h2.1 (same_all_f xs ys hl1)).mono ?_
  rintro e w' ⟨rfl, h⟩
  exact ⟨rfl, h.below⟩
theorem bears_l0 (x : Int) (m : Nat) (hm : m ≤ 9223372036854775807) : ∀ n i : Nat, i + n = m → ledgerlaw01_bears.l0 (n + 1) (List.replicate m x) x (i : Int) = some true
  | 0, i, h => by rw [ledgerlaw01_bears.l0, if_neg (by simp; omega)]
  | n + 1, i, h => by
    rw [ledgerlaw01_bears.l0, if_pos (by simp; omega), if_pos (by omega), if_pos (by simp [rd, show i < m by omega]), show wrap64 ((i : Int) + 1) = ((i + 1 : Nat) : Int) from by unfold wrap64; omega]
    exact bears_l0 x m hm n (i + 1) (by omega)
theorem bears_calls (w : World) (x : Int) (v : Value) (n : Nat) (h : OwnL w 5 1 v n (List.replicate n (.int .u8 x))) :
    Calls Tryd.prog 49 #[v, .int .u8 x] w fun e w' => e = .returned (.bool true) ∧ ∃ m, w' = w.drewN m := by
  obtain ⟨A, c, rfl, hc⟩ : ∃ A c, v = .slice A n c ∧ n ≤ c := by
    rcases h.2 with ⟨rfl, rfl⟩ | ⟨g, cap, cur, rfl, _, h, _⟩
    · exact ⟨_, _, rfl, Nat.le_refl _⟩
    · exact ⟨_, _, rfl, h⟩
  have hn : n ≤ 9223372036854775807 := by
    rcases h.2 with ⟨_, rfl⟩ | ⟨g, cap, cur, _, _, h1, h2, _⟩
    · omega
    · unfold maxLen at h2; omega
  have := ledgerlaw01_bears.calls (n + 1) A c (List.replicate n x) x true w (C_of_ownL h hn) (by simpa using hc) (bears_l0 x n hn n 0 (by omega))
  rw [List.length_replicate] at this
  refine this.mono ?_
  rintro e w' ⟨rfl, h⟩
  exact ⟨rfl, h.out⟩
set_option maxHeartbeats 4000000 in
set_option maxRecDepth 100000 in
theorem kept_calls (w : World) (bk o n : Nat) (E : TypeId) (vs : List Value) (LV MV : Value) (T : Nat → Prop) (hb : Blk w bk E vs) (h0 : vs[o]? = some LV) (h1 : vs[o + 1]? = some MV)
    (hB : BookIn w T LV MV n) (hn : n ≤ 4000000000000) :
    Calls Tryd.prog 19 #[.pointer (some ⟨bk, o, none⟩)] w fun e w' => e = .returned (.bool true) ∧ Fr (fun _ => False) w w' := by
  obtain ⟨ls, ms, hL, hM, hrows⟩ := hB.rows
  obtain ⟨AL, cL, rfl⟩ : ∃ AL cL, LV = .slice AL n cL := by
    rcases hL.2 with ⟨rfl, rfl⟩ | ⟨g, cap, cur, rfl, _⟩
    · exact ⟨_, _, rfl⟩
    · exact ⟨_, _, rfl⟩
  obtain ⟨AM, cM, rfl⟩ : ∃ AM cM, MV = .slice AM n cM := by
    rcases hM.2 with ⟨rfl, rfl⟩ | ⟨g, cap, cur, rfl, _⟩
    · exact ⟨_, _, rfl⟩
    · exact ⟨_, _, rfl⟩
  have HBK := Kp.mk hb
  have HLs := Kp.mk hL
  have HMs := Kp.mk hM
  have HR := Kp.mk hrows
  have H0 := Kp.mk h0
  have H1 := Kp.mk h1
  clear hB hb hL hM hrows h0 h1
  go_enter Tryd.func19, Tryd.ntmps19
  go_wp2
  go_loopw [3] (fun s3 wr => ∃ k : Nat, s3 = .int .i64 (k : Int) ∧ Kp (k ≤ n) ∧ Kp (Fr (fun _ => False) w wr)) (fun s3 _ => n - (intOf s3).toNat)
  case atStart => exact ⟨0, rfl, ⟨Nat.zero_le _⟩, ⟨Fr.refl _ _⟩⟩
  case round =>
    obtain ⟨k, rfl, hk, HF⟩ := hrel
    have hk' := hk.out
    have HB' := Kp.mk (HBK.out.fr HF.out (fun h => h))
    have hc0 := HB'.out.cell o _ H0.out
    have hc1 : ∀ m, (wr.drewN m).cell? ⟨bk, o + 1, none⟩ = some (.slice AM n cM) := fun m => (HB'.out.drewN m).cell (o + 1) _ H1.out
    by_cases hlt : k < n
    · obtain ⟨⟨v1, m1, a1, a2, _⟩, ⟨v2, m2, b1, b2, _⟩⟩ := HR.out k hlt
      have hL' := HLs.out.fr HF.out (fun _ _ h => h)
      have hM' := HMs.out.fr HF.out (fun _ _ h => h)
      obtain ⟨gL, curL, rfl, _⟩ := hL'.open (by omega)
      obtain ⟨gM, curM, rfl, _⟩ := hM'.open (by omega)
      have hcL := hL'.cell a1
      have hcM : ∀ m, (wr.drewN m).cell? ⟨gM, k, none⟩ = some v2 := fun m => hM'.cell b1
      have HB1 : Kp (Calls Tryd.prog 49 #[v1, .int .u8 (((k : Int) * 7 + 1) % 256)] wr fun e w' => e = .returned (.bool true) ∧ ∃ m, w' = wr.drewN m) := ⟨bears_calls wr _ v1 m1 (a2.fr HF.out (fun _ _ h => h))⟩
      have HB2 : Kp (∀ m, Calls Tryd.prog 49 #[v2, .int .u8 (((k : Int) * 7 + 1) % 256)] (wr.drewN m) fun e w' => e = .returned (.bool true) ∧ ∃ j, w' = (wr.drewN m).drewN j) := ⟨fun m => bears_calls (wr.drewN m) _ v2 m2 (b2.fr (HF.out.drewN m) (fun _ _ h => h))⟩
      clear a1 a2 b1 b2 hL' hM'
      go_wp2_with fail
      refine HB1.out.mono ?_
      rintro e w1 ⟨rfl, q1, rfl⟩
      go_wp2_with fail
      refine (HB2.out q1).mono ?_
      rintro e w2 ⟨rfl, q2, rfl⟩
      have HFn := Kp.mk ((HF.out.drewN q1).drewN q2)
      go_wp2
      go_roundw
      case rel => exact ⟨k + 1, by go_num, ⟨hlt⟩, by first | exact HFn | exact ⟨(World.drewN_drewN wr q1 q2) ▸ HFn.out⟩⟩
      case measure => simp [intOf] <;> omega
    · obtain rfl : k = n := by omega
      go_wp2
      go_ret
      exact ⟨rfl, HF.out⟩
end Go.Proofs.YtjcfnflkiialbaaDoor.Sha
