/-
  Lists of hashes: rows of 32 bytes, one behind the other. hashes (the law's list as the program's), and the fold. The root of a hasher, Fold.
-/
import Derived.Test.YtjcmgpiapbeodaaDoorNode
import Derived.Deep.DeepCutAuto
import Derived.Deep.CutBlock
import Derived.Great.Walk
namespace Go.Proofs.YtjcmgpiapbeodaaDoor.Sha
open Go.RowKit Go.Proofs.YtjcmgpiapbeodaaDoor.Mem Go.Proofs.YtjcmgpiapbeodaaDoorW.PrintWords
/-- n cells from a pointer on -/
noncomputable def midAt (W : World) (n : Nat) : Value → Array Value
  | .pointer (some ⟨b, o, none⟩) => match W.heap[b]? with
    | some (.cells cs _ _) => cs.extract o (o + n)
    | _ => #[]
  | _ => #[]
noncomputable def midOk (W : World) (n : Nat) : Value → Bool
  | .pointer (some ⟨b, o, none⟩) => match W.heap[b]? with
    | some (.cells cs _ _) => decide (o + n ≤ cs.size)
    | _ => false
  | _ => false
theorem midAt_blk {W : World} {b o n : Nat} {T : TypeId} {vs : List Value} (h : Blk W b T vs) : midAt W n (.pointer (some ⟨b, o, none⟩)) = ((vs.drop o).take n).toArray := by
  unfold Blk at h
  simp only [midAt, h]
  apply Array.ext_getElem?
  intro i
  simp only [Array.getElem?_extract, List.getElem?_toArray, List.getElem?_take, List.getElem?_drop, List.size_toArray]
  by_cases hi : i < n
  · by_cases h2 : o + i < vs.length
    · rw [if_pos (by omega), if_pos hi]
    · rw [if_neg (by omega), if_pos hi, List.getElem?_eq_none (by omega)]
  · rw [if_neg (by omega), if_neg hi]
theorem midOk_blk {W : World} {b o n : Nat} {T : TypeId} {vs : List Value} (h : Blk W b T vs) (hn : o + n ≤ vs.length) : midOk W n (.pointer (some ⟨b, o, none⟩)) = true := by
  unfold Blk at h
  simp only [midOk, h]
  simpa using hn
theorem wp_load_mid23 (W : World) (a : Act) (K : Act → World → Prop) (Q : Exit → Act → World → Prop) (x : Operand) (d : Tmp) (ty : TypeId) (pos : String) (af) (gd)
    (hx : midOk W 32 (a.eval x) = true) :
    Oper.wp Tryd.prog { dst := some d, op := .load 23 x, type := ty, pos := pos, after := af, guard := gd } a W K Q = K (a.put (some d) (.agg (midAt W 32 (a.eval x)))) W := by
  obtain ⟨b, o, cs, t, fr, hv, hb, hz⟩ : ∃ b o cs t fr, a.eval x = .pointer (some ⟨b, o, none⟩) ∧ W.heap[b]? = some (.cells cs t fr) ∧ o + 32 ≤ cs.size := by
    unfold midOk at hx
    split at hx
    · rename_i b o hv
      split at hx
      · rename_i cs t fr hb
        exact ⟨b, o, cs, t, fr, hv, hb, of_decide_eq_true hx⟩
      · cases hx
    · cases hx
  have hi : (Tryd.prog.info? 23).map (·.size) = some 32 := by kernel_rfl
  have h := run_loadAt_mid (P := Tryd.prog) W b o 23 (cs.extract o (o + 32)).toList _ (World.rangeAt_of_block hb o 32) Tryd.underlying23 rfl (by rw [hi, Array.length_toList, Array.size_extract, show min (o + 32) cs.size - o = 32 by omega])
  have e : (execOp a.eval { dst := some d, op := .load 23 x, type := ty, pos := pos, after := af, guard := gd }).run Tryd.prog W = .ok (.value (.agg (cs.extract o (o + 32)))) W := by
    unfold execOp
    simp only [hv, Sem.run_bind, h, Result.andThen_ok, Sem.run_pure, Array.toArray_toList]
  have hra : midAt W 32 (a.eval x) = cs.extract o (o + 32) := by rw [hv]; simp only [midAt, hb]
  unfold Oper.wp
  rw [e, hra]
  rfl
theorem wp_load_mid25 (W : World) (a : Act) (K : Act → World → Prop) (Q : Exit → Act → World → Prop) (x : Operand) (d : Tmp) (ty : TypeId) (pos : String) (af) (gd)
    (hx : midOk W 32 (a.eval x) = true) :
    Oper.wp Tryd.prog { dst := some d, op := .load 29 x, type := ty, pos := pos, after := af, guard := gd } a W K Q = K (a.put (some d) (.agg (midAt W 32 (a.eval x)))) W := by
  obtain ⟨b, o, cs, t, fr, hv, hb, hz⟩ : ∃ b o cs t fr, a.eval x = .pointer (some ⟨b, o, none⟩) ∧ W.heap[b]? = some (.cells cs t fr) ∧ o + 32 ≤ cs.size := by
    unfold midOk at hx
    split at hx
    · rename_i b o hv
      split at hx
      · rename_i cs t fr hb
        exact ⟨b, o, cs, t, fr, hv, hb, of_decide_eq_true hx⟩
      · cases hx
    · cases hx
  have hi : (Tryd.prog.info? 29).map (·.size) = some 32 := by kernel_rfl
  have h := run_loadAt_mid (P := Tryd.prog) W b o 29 (cs.extract o (o + 32)).toList _ (World.rangeAt_of_block hb o 32) Tryd.underlying29 rfl (by rw [hi, Array.length_toList, Array.size_extract, show min (o + 32) cs.size - o = 32 by omega])
  have e : (execOp a.eval { dst := some d, op := .load 29 x, type := ty, pos := pos, after := af, guard := gd }).run Tryd.prog W = .ok (.value (.agg (cs.extract o (o + 32)))) W := by
    unfold execOp
    simp only [hv, Sem.run_bind, h, Result.andThen_ok, Sem.run_pure, Array.toArray_toList]
  have hra : midAt W 32 (a.eval x) = cs.extract o (o + 32) := by rw [hv]; simp only [midAt, hb]
  unfold Oper.wp
  rw [e, hra]
  rfl
theorem midOk_drew (W : World) (n : Nat) (v : Value) : midOk W.drew n v = midOk W n v := rfl
theorem midAt_drew (W : World) (n : Nat) (v : Value) : midAt W.drew n v = midAt W n v := rfl
theorem eq32 (M N : List Int) (h : M.length = 32) (hn : N.length = 32) (W : World) : (Op.equalIn 10000 29 (.agg (bytes M).toArray) (.agg (bytes N).toArray)).run Tryd.prog W = .ok (decide (M = N)) W :=
  run_equalIn_ints W 9998 29 5 32 .u8 Tryd.underlying29 Tryd.underlying5 size_u8 M N h hn

theorem flat_len : ∀ {L : List (List Int)}, (∀ x ∈ L, x.length = 32) → L.flatten.length = 32 * L.length
  | [], _ => rfl
  | x :: L, h => by
    rw [List.flatten_cons, List.length_append, h x (by simp), flat_len (fun y hy => h y (by simp [hy])), List.length_cons]; omega
theorem flat_drop : ∀ (i : Nat) {L : List (List Int)}, (∀ x ∈ L, x.length = 32) → L.flatten.drop (32 * i) = (L.drop i).flatten
  | 0, L, _ => by simp
  | i + 1, [], _ => by simp
  | i + 1, x :: L, h => by
    rw [List.flatten_cons, List.drop_append, h x (by simp), List.drop_of_length_le (by rw [h x (by simp)]; omega), List.nil_append, show 32 * (i + 1) - 32 = 32 * i by omega, flat_drop i (fun y hy => h y (by simp [hy])), List.drop_succ_cons]
theorem flat_take : ∀ (i : Nat) {L : List (List Int)}, (∀ x ∈ L, x.length = 32) → L.flatten.take (32 * i) = (L.take i).flatten
  | 0, L, _ => by simp
  | i + 1, [], _ => by simp
  | i + 1, x :: L, h => by
    rw [List.flatten_cons, List.take_append, h x (by simp), List.take_of_length_le (by rw [h x (by simp)]; omega), show 32 * (i + 1) - 32 = 32 * i by omega, flat_take i (fun y hy => h y (by simp [hy])), List.take_succ_cons, List.flatten_cons]
theorem flat_row {L : List (List Int)} (h : ∀ x ∈ L, x.length = 32) (i : Nat) (hi : i < L.length) : (L.flatten.drop (32 * i)).take 32 = L[i] := by
  have e : L.drop i = L[i] :: L.drop (i + 1) := List.drop_eq_getElem_cons hi
  rw [flat_drop i h, e, List.flatten_cons, List.take_append_of_le_length (by rw [h _ (List.getElem_mem hi)]; exact Nat.le_refl _), List.take_of_length_le (by rw [h _ (List.getElem_mem hi)]; exact Nat.le_refl _)]
/-- The slice value (A, length, c) reads the rows L; what it reads lies outside of S. -/
def HRow (w : World) (S : Nat → Prop) (A : Option Addr) (c : Nat) (L : List (List Int)) : Prop :=
  (∀ x ∈ L, x.length = 32) ∧ L.length ≤ c ∧ ((A = none ∧ c = 0 ∧ L = []) ∨ (L = [] ∧ ∃ ad, A = some ad) ∨ ∃ b o, A = some ⟨b, o, none⟩ ∧ Reads w b o L.flatten ∧ ¬ S b)
section
variable {w w1 : World} {S S' : Nat → Prop} {A : Option Addr} {c : Nat} {L : List (List Int)}
theorem HRow.fr (h : HRow w S A c L) (hf : Fr S w w1) : HRow w1 S A c L := by
  refine ⟨h.1, h.2.1, ?_⟩
  rcases h.2.2 with h' | h' | ⟨b, o, h1, h2, h3⟩
  · exact .inl h'
  · exact .inr (.inl h')
  · exact .inr (.inr ⟨b, o, h1, h2.fr hf h3, h3⟩)
theorem HRow.mono (h : HRow w S A c L) (hs : ∀ k, k < w.heap.size → S' k → S k) : HRow w S' A c L := by
  refine ⟨h.1, h.2.1, ?_⟩
  rcases h.2.2 with h' | h' | ⟨b, o, h1, h2, h3⟩
  · exact .inl h'
  · exact .inr (.inl h')
  · exact .inr (.inr ⟨b, o, h1, h2, fun hk => h3 (hs b h2.1 hk)⟩)
theorem HRow.take (h : HRow w S A c L) (n : Nat) : HRow w S A c (L.take n) := by
  refine ⟨fun x hx => h.1 x (List.mem_of_mem_take hx), Nat.le_trans (by rw [List.length_take]; exact Nat.min_le_right _ _) h.2.1, ?_⟩
  rcases h.2.2 with ⟨h1, h2, h3⟩ | ⟨h1, h2⟩ | ⟨b, o, h1, h2, h3⟩
  · exact .inl ⟨h1, h2, by rw [h3, List.take_nil]⟩
  · exact .inr (.inl ⟨by rw [h1, List.take_nil], h2⟩)
  · exact .inr (.inr ⟨b, o, h1, by rw [← flat_take n h.1]; exact h2.take _, h3⟩)
/-- of the rows from the n-th on, with a capacity of its own -/
theorem HRow.drop {b o : Nat} (h : HRow w S (some ⟨b, o, none⟩) c L) (n c' : Nat) (hc : L.length - n ≤ c') (hn : L ≠ []) : HRow w S (some ⟨b, o + n * 32, none⟩) c' (L.drop n) := by
  rw [Nat.mul_comm n 32]
  refine ⟨fun x hx => h.1 x (List.mem_of_mem_drop hx), by rw [List.length_drop]; exact hc, ?_⟩
  rcases h.2.2 with ⟨h1, _⟩ | ⟨h1, _⟩ | ⟨b', o', h1, h2, h3⟩
  · cases h1
  · exact absurd h1 hn
  · simp only [Option.some.injEq, Addr.mk.injEq, and_true] at h1
    obtain ⟨rfl, rfl⟩ := h1
    refine .inr (.inr ⟨b, o + 32 * n, rfl, ⟨h2.1, fun i hi => ?_⟩, h3⟩)
    rw [← flat_drop n h.1] at hi ⊢
    rw [List.length_drop] at hi
    have h4 := h2.2 (32 * n + i) (by omega)
    rw [show o + 32 * n + i = o + (32 * n + i) by omega, h4]
    simp [List.getD]
theorem HRow.at (h : HRow w S A c L) (i : Nat) (hi : i < L.length) : ∃ b o, A = some ⟨b, o, none⟩ ∧ b < w.heap.size ∧ ¬ S b ∧ Reads w b o L.flatten := by
  rcases h.2.2 with ⟨_, _, h3⟩ | ⟨h3, _⟩ | ⟨b, o, h1, h2, h3⟩
  · rw [h3] at hi; cases hi
  · rw [h3] at hi; cases hi
  · exact ⟨b, o, h1, h2.1, h3, h2⟩
theorem cells_of {w : World} {b n : Nat} {v : Value} (h : w.cell? ⟨b, n, none⟩ = some v) : ∃ cs t fr, w.heap[b]? = some (.cells cs t fr) ∧ cs[n]? = some v := by
  unfold World.cell? at h
  simp only [Option.isSome_none, Bool.false_eq_true, if_false] at h
  split at h
  · rename_i cs t fr hb
    exact ⟨cs, t, fr, hb, h⟩
  · cases h
theorem mid_reads {b o : Nat} {p : List Int} (h : Reads w b o p) (n k : Nat) (hk : 0 < k) (hn : n + k ≤ p.length) :
    midOk w k (.pointer (some ⟨b, o + n, none⟩)) = true ∧ midAt w k (.pointer (some ⟨b, o + n, none⟩)) = (bytes ((p.drop n).take k)).toArray := by
  obtain ⟨cs, t, fr, hb, hc⟩ := cells_of (h.2 (n + k - 1) (by omega))
  have hs : o + (n + k - 1) < cs.size := by
    rcases Nat.lt_or_ge (o + (n + k - 1)) cs.size with h | h
    · exact h
    · rw [Array.getElem?_eq_none h] at hc; cases hc
  refine ⟨by simp only [midOk, hb]; exact decide_eq_true (by omega), ?_⟩
  simp only [midAt, hb]
  apply Array.ext_getElem?
  intro i
  have hr : (bytes ((p.drop n).take k)).toArray[i]? = (bytes ((p.drop n).take k))[i]? := List.getElem?_toArray
  rw [Array.getElem?_extract, hr]
  by_cases hi : i < k
  · rw [if_pos (by omega)]
    obtain ⟨cs', t', fr', hb', hc'⟩ := cells_of (h.2 (n + i) (by omega))
    rw [hb] at hb'
    cases hb'
    rw [show o + n + i = o + (n + i) by omega, hc', bytes_get _ i (by rw [List.length_take, List.length_drop]; omega)]
    congr 2
    simp only [List.getD, List.getElem?_take_of_lt hi, List.getElem?_drop]
  · rw [if_neg (by omega), List.getElem?_eq_none (by simp [bytes]; omega)]
theorem HRow.mid {b o : Nat} (h : HRow w S (some ⟨b, o, none⟩) c L) (i : Nat) (hi : i < L.length) :
    midOk w 32 (.pointer (some ⟨b, o + i * 32, none⟩)) = true ∧ midAt w 32 (.pointer (some ⟨b, o + i * 32, none⟩)) = (bytes L[i]).toArray := by
  obtain ⟨b', o', h1, _, _, h2⟩ := h.at i hi
  simp only [Option.some.injEq, Addr.mk.injEq, and_true] at h1
  obtain ⟨rfl, rfl⟩ := h1
  have h3 := mid_reads h2 (32 * i) 32 (by omega) (by rw [flat_len h.1]; omega)
  rw [flat_row h.1 i hi] at h3
  rw [Nat.mul_comm i 32]
  exact h3
end
/-- a list of hashes that the call owns -/
def HOwn (w : World) (base : Nat) (v : Value) (L : List (List Int)) : Prop := (∀ x ∈ L, x.length = 32) ∧ w.ownsRow base 29 32 v L.length (bytes L.flatten)
theorem info_hash : (Tryd.prog.info? 29).map (fun i => (i.size, i.bytes)) = some (32, 32) := by kernel_rfl
theorem zero_hash : ((Tryd.prog.info? 29).bind (·.zero)).map (·.cells.size) = some 32 := by kernel_rfl
theorem hash_info : ∃ i z, Tryd.prog.info? 29 = some i ∧ i.zero = some z ∧ i.size = 32 ∧ i.bytes = 32 ∧ z.cells.size = 32 := by
  have h1 := info_hash
  have h2 := zero_hash
  cases hi : Tryd.prog.info? 29 with
  | none => rw [hi] at h1; cases h1
  | some i =>
    rw [hi] at h1 h2
    simp only [Option.map_some, Option.some.injEq, Prod.mk.injEq] at h1
    simp only [Option.bind_some] at h2
    obtain ⟨z, hz, hz2⟩ := Option.map_eq_some_iff.1 h2
    exact ⟨i, z, rfl, hz, h1.1, h1.2, hz2⟩
theorem run_appendH (w : World) (base : Nat) (v : Value) (L : List (List Int)) (hown : HOwn w base v L) (A : Option Addr) (m c : Nat) (M : List (List Int)) (hm : m = M.length) {S : Nat → Prop} (hr : HRow w S A c M)
    (hb : (L.length + M.length) * 32 ≤ 140737488355328) (hbase : base ≤ w.heap.size) :
    ∃ v' w', (Builtin.append_ #[41, 41] 41 #[v, .slice A m c]).run Tryd.prog w = .ok v' w' ∧ HOwn w' base v' (L ++ M) ∧ w.grownBy w' v.ownBlock ∧ (v'.ownBlock = v.ownBlock ∨ v'.ownBlock = some w.heap.size) := by
  subst hm
  obtain ⟨i0, z0, hi, hz, hz0, hz1, hz2⟩ := hash_info
  rcases hr.2.2 with ⟨rfl, rfl, rfl⟩ | ⟨rfl, ad, rfl⟩ | ⟨b, o, rfl, h2, _⟩
  · rw [List.append_nil]
    exact ⟨v, w, run_append_owned_none (P := Tryd.prog) w base 41 41 29 i0 32 Tryd.underlying41 hi v _ _ hown.2, hown, ⟨rfl, rfl, rfl, Nat.le_refl _, fun _ _ _ => rfl⟩, .inl rfl⟩
  · rw [List.append_nil]
    refine ⟨v, w, ?_, hown, ⟨rfl, rfl, rfl, Nat.le_refl _, fun _ _ _ => rfl⟩, .inl rfl⟩
    rcases hown.2.2 with ⟨rfl, h0⟩ | ⟨g, cap, cur, rfl, _, _, hnc, _⟩
    · simp [Builtin.append_, run_underlying Tryd.underlying41, sizeOf, typeInfo, hi, Builtin.lenOf, Builtin.firstCells, loadCells, loadCellsFrom]
    · simp [Builtin.append_, run_underlying Tryd.underlying41, sizeOf, typeInfo, hi, Builtin.lenOf, Builtin.firstCells, hnc, storeCells, loadCells, loadCellsFrom]
  · have hf := flat_len hr.1
    obtain ⟨v', w', h1, h2', h3, _, h5⟩ := run_append_own_at (P := Tryd.prog) w base 41 41 29 i0 z0 32 32 Tryd.underlying41 hi hz hz0 hz1 hz2 (by omega) v L.length (bytes L.flatten) hown.2
      ⟨b, o, none⟩ M.length c (bytes M.flatten) (by rw [bytes_length, hf]; omega) (fun j u hu => by
        have hj : j < M.flatten.length := by
          rcases Nat.lt_or_ge j M.flatten.length with h | h
          · exact h
          · rw [List.getElem?_eq_none (by rw [bytes_length]; exact h)] at hu; cases hu
        rw [bytes_get _ j hj] at hu
        rw [Addr.add_lit, h2.2 j hj, ← hu]) (fun u hu => by
        obtain ⟨z, _, rfl⟩ := List.mem_map.1 hu
        rfl) (by unfold maxLen; omega) (by omega) hbase
    refine ⟨v', w', h1, ⟨fun x hx => ?_, ?_⟩, h3, h5⟩
    · rcases List.mem_append.1 hx with h | h
      · exact hown.1 x h
      · exact hr.1 x h
    · rw [List.length_append, List.flatten_append]
      simpa [bytes] using h2'
theorem wpList_appendH {ops : Array Oper} {rest : List Oper} {o : Oper} {a : Act} {w : World} {Q : Exit → Act → World → Prop} (hgd : o.guard = none) (s x : Operand)
    (ho : o.op = .call { callee := .builtin .append, args := #[s, x], argTypes := #[41, 41] }) (hty : o.type = 41) (base : Nat) (v : Value) (L : List (List Int)) (hs : a.eval s = v) (hown : HOwn w base v L)
    (A : Option Addr) (m c : Nat) (M : List (List Int)) (hm : m = M.length) (hx : a.eval x = .slice A m c) {S : Nat → Prop} (hr : HRow w S A c M) (hb : (L.length + M.length) * 32 ≤ 140737488355328) (hbase : base ≤ w.heap.size)
    (h : ∀ v' w', HOwn w' base v' (L ++ M) → w.grownBy w' v.ownBlock → (v'.ownBlock = v.ownBlock ∨ v'.ownBlock = some w.heap.size) → wpList Tryd.prog ops Q rest (a.put o.dst v') w') :
    wpList Tryd.prog ops Q (o :: rest) a w := by
  obtain ⟨v', w', hr', h2, h3, h4⟩ := run_appendH w base v L hown A m c M hm hr hb hbase
  refine wpList_plain hgd fun _ hK => ?_
  unfold Oper.wp execOp
  simp only [ho, resolve, invoke, builtin, Sem.run_bind, Sem.run_pure, Result.andThen_ok, List.map_toArray, List.map_cons, List.map_nil, hs, hx, hty, hr']
  exact hK _ _ (h v' w' h2 h3 h4)
theorem HOwn.row {w : World} {base : Nat} {v : Value} {L : List (List Int)} (h : HOwn w base v L) (S : Nat → Prop) (hs : ∀ k, v.ownBlock = some k → ¬ S k) : ∃ A c, v = .slice A L.length c ∧ HRow w S A c L := by
  rcases h.2.2 with ⟨rfl, h0⟩ | ⟨g, cap, cur, rfl, hb, hg, hnc, _, hsz, htk⟩
  · obtain rfl := List.eq_nil_of_length_eq_zero h0
    exact ⟨none, 0, rfl, by simp, Nat.le_refl _, .inl ⟨rfl, rfl, rfl⟩⟩
  · refine ⟨_, cap, rfl, h.1, hnc, .inr (.inr ⟨g, 0, rfl, ⟨?_, fun i hi => ?_⟩, hs g rfl⟩)⟩
    · rcases Nat.lt_or_ge g w.heap.size with h | h
      · exact h
      · rw [Array.getElem?_eq_none h] at hg; cases hg
    · rw [Nat.zero_add]
      have h1 := bytes_get L.flatten i hi
      rw [← htk] at h1
      have h2 : i < L.length * 32 := by have := flat_len h.1; omega
      rw [List.getElem?_take_of_lt h2] at h1
      unfold World.cell?
      simp only [hg, Option.isSome_none, Bool.false_eq_true, if_false]
      rw [← h1, Array.getElem?_toList]
theorem own_keepH {w w' : World} {base n size : Nat} {e : TypeId} {v : Value} {xs : List Value} {S : Nat → Prop} (h : w.ownsRow base e size v n xs) (hf : Fr S w w') (hs : ∀ k, v.ownBlock = some k → ¬ S k) : w'.ownsRow base e size v n xs := by
  refine ⟨h.1, ?_⟩
  rcases h.2 with h' | ⟨g, cap, cur, rfl, hb, hg, hr⟩
  · exact .inl h'
  · refine .inr ⟨g, cap, cur, rfl, hb, ?_, hr⟩
    have hlt : g < w.heap.size := by
      rcases Nat.lt_or_ge g w.heap.size with h | h
      · exact h
      · rw [Array.getElem?_eq_none h] at hg; cases hg
    rw [hf.block g hlt (hs g rfl), hg]
theorem HOwn.lt {w : World} {base : Nat} {v : Value} {L : List (List Int)} (h : HOwn w base v L) : ∀ k, v.ownBlock = some k → k < w.heap.size ∧ base ≤ k := by
  intro k hk
  rcases h.2.2 with ⟨rfl, _⟩ | ⟨g, cap, cur, rfl, hb, hg, _⟩
  · cases hk
  · have : g = k := by simpa [Value.ownBlock] using hk
    subst this
    refine ⟨?_, hb⟩
    rcases Nat.lt_or_ge g w.heap.size with h | h
    · exact h
    · rw [Array.getElem?_eq_none h] at hg; cases hg
theorem HOwn.keep {w w1 : World} {base : Nat} {v : Value} {L : List (List Int)} {S : Nat → Prop} (h : HOwn w base v L) (hf : Fr S w w1) (hs : ∀ k, v.ownBlock = some k → ¬ S k) : HOwn w1 base v L :=
  ⟨h.1, own_keepH h.2 hf hs⟩
theorem HOwn.nil (w : World) (base : Nat) : HOwn w base (.slice none 0 0) [] := ⟨by simp, ⟨rfl, .inl ⟨rfl, rfl⟩⟩⟩
theorem built_row : ∀ (l : List Value), l.length = 32 → Tryd.prog.builtSlice 29 1 [(0, .agg l.toArray)] = some l.toArray
  | [c0, c1, c2, c3, c4, c5, c6, c7, c8, c9, c10, c11, c12, c13, c14, c15, c16, c17, c18, c19, c20, c21, c22, c23, c24, c25, c26, c27, c28, c29, c30, c31], _ => by kernel_rfl
theorem wp_build_hash (W : World) (a : Act) (K : Act → World → Prop) (Q : Exit → Act → World → Prop) (x : Operand) (d : Tmp) (ty : TypeId) (pos : String) (af) (gd)
    (hx : hashOk (a.eval x) = true) :
    Oper.wp Tryd.prog { dst := some d, op := .buildSlice 41 1 #[(0, x)], type := ty, pos := pos, after := af, guard := gd } a W K Q = K (a.put (some d) (.slice (some ⟨W.heap.size, 0, none⟩) 1 1)) (W.alloc (.cells (rowCells (a.eval x)) 29)) := by
  obtain ⟨cs, hv, hs⟩ : ∃ cs, a.eval x = .agg cs ∧ cs.size = 32 := by
    unfold hashOk at hx
    split at hx
    · rename_i cs hv
      simp only [Bool.and_eq_true, beq_iff_eq] at hx
      exact ⟨cs, hv, hx.1⟩
    · cases hx
  have hb := built_row cs.toList (by simpa using hs)
  have e : (execOp a.eval { dst := some d, op := .buildSlice 41 1 #[(0, x)], type := ty, pos := pos, after := af, guard := gd }).run Tryd.prog W = .ok (.value (.slice (some ⟨W.heap.size, 0, none⟩) 1 1)) (W.alloc (.cells cs 29)) := by
    unfold Program.builtSlice at hb
    cases hie : Tryd.prog.info? 29 with
    | none => simp [hie] at hb
    | some ie =>
      simp only [hie] at hb
      cases hz : ie.zero with
      | none => simp [hz] at hb
      | some z =>
        simp only [hz] at hb
        by_cases hc : 1 * ie.size > 2 ^ 24 ∨ 1 * ie.size = 0
        · rw [if_pos hc] at hb; cases hb
        · rw [if_neg hc] at hb
          have h := run_buildSlice (P := Tryd.prog) W 41 29 1 #[(0, .agg cs)] _ ie z Tryd.underlying41 hie hz (fun h' => hc (Or.inl h')) (fun h' => hc (Or.inr h')) hb
          unfold execOp
          simp only [List.map_toArray, List.map_cons, List.map_nil, hv, Sem.run_bind, h, Result.andThen_ok, Sem.run_pure]
  have hr : rowCells (a.eval x) = cs := by rw [hv]; rfl
  unfold Oper.wp
  rw [e, hr]
  rfl
theorem hrow_new (w : World) (x : List Int) (hx : x.length = 32) : HRow (w.alloc (.cells (bytes x).toArray 29)) (fun _ => False) (some ⟨w.heap.size, 0, none⟩) 1 [x] :=
  ⟨fun y hy => by rw [List.mem_singleton.1 hy]; exact hx, Nat.le_refl _, .inr (.inr ⟨_, 0, rfl, by simpa using reads_new w x _, fun h => h⟩)⟩
/-- may n cells be written from a pointer on? -/
noncomputable def midFree (W : World) (n : Nat) : Value → Bool
  | .pointer (some ⟨b, o, none⟩) => @decide (W.there b o n) (Classical.propDecidable _)
  | _ => false
def rowOff : Value → Nat
  | .pointer (some ⟨_, o, _⟩) => o
  | _ => 0
theorem midFree_blk {W : World} {b o n : Nat} {T : TypeId} {vs : List Value} (h : Blk W b T vs) (hn : o + n ≤ vs.length) : midFree W n (.pointer (some ⟨b, o, none⟩)) = true := by
  simp only [midFree]
  exact @decide_eq_true _ (Classical.propDecidable _) (blk_there h o n hn)
theorem midFree_drew (W : World) (n : Nat) (v : Value) : midFree W.drew n v = midFree W n v := rfl
theorem wp_store_mid25 (W : World) (a : Act) (K : Act → World → Prop) (Q : Exit → Act → World → Prop) (x y : Operand) (ty : TypeId) (pos : String) (af) (gd)
    (hx : midFree W 32 (a.eval x) = true) (hy : hashOk (a.eval y) = true) :
    Oper.wp Tryd.prog { dst := none, op := .store 29 x y, type := ty, pos := pos, after := af, guard := gd } a W K Q = K (a.put none undef) (W.setCells (rowBlock (a.eval x)) (rowOff (a.eval x)) (rowCells (a.eval y)).toList) := by
  obtain ⟨b, o, hv, ht⟩ : ∃ b o, a.eval x = .pointer (some ⟨b, o, none⟩) ∧ W.there b o 32 := by
    unfold midFree at hx
    split at hx
    · rename_i b o hv
      exact ⟨b, o, hv, @of_decide_eq_true _ (Classical.propDecidable _) hx⟩
    · cases hx
  obtain ⟨ds, hd, h32, h1⟩ : ∃ ds, a.eval y = .agg ds ∧ ds.size = 32 ∧ ds.all (fun v => v.oneCell') = true := by
    unfold hashOk at hy
    split at hy
    · rename_i ds hd
      simp only [Bool.and_eq_true, beq_iff_eq] at hy
      exact ⟨ds, hd, hy.1, hy.2⟩
    · cases hy
  have hi : (Tryd.prog.info? 29).map (·.size) = some 32 := by kernel_rfl
  have hr := run_storeVar_mid (P := Tryd.prog) W b o 29 ds (by rw [h32]; exact ht) (by rw [h32]; exact hi) h1
  unfold Oper.wp execOp
  simp only [hv, hd, Instr.storeAt, Instr.sureAddr, Sem.run_bind, Sem.run_pure, Result.andThen_ok, hr, rowBlock, rowOff, rowCells]
  rfl
/-- The slice value (A, length, c) reads the numbers p; what it reads lies outside of S. -/
def IRow (w : World) (S : Nat → Prop) (A : Option Addr) (c : Nat) (p : List Int) : Prop :=
  p.length ≤ c ∧ ((A = none ∧ c = 0 ∧ p = []) ∨ (p = [] ∧ ∃ ad, A = some ad) ∨ ∃ b o, A = some ⟨b, o, none⟩ ∧ b < w.heap.size ∧ (∀ i, i < p.length → w.cell? ⟨b, o + i, none⟩ = some (.int .i64 (p.getD i 0))) ∧ ¬ S b)
section
variable {w w1 : World} {S S' : Nat → Prop} {A : Option Addr} {c : Nat} {p : List Int}
theorem IRow.fr (h : IRow w S A c p) (hf : Fr S w w1) : IRow w1 S A c p := by
  refine ⟨h.1, ?_⟩
  rcases h.2 with h' | h' | ⟨b, o, h1, h2, h3, h4⟩
  · exact .inl h'
  · exact .inr (.inl h')
  · exact .inr (.inr ⟨b, o, h1, Nat.lt_of_lt_of_le h2 hf.size, fun i hi => (World.cell?_of_block (hf.block b h2 h4)).trans (h3 i hi), h4⟩)
theorem IRow.mono (h : IRow w S A c p) (hs : ∀ k, k < w.heap.size → S' k → S k) : IRow w S' A c p := by
  refine ⟨h.1, ?_⟩
  rcases h.2 with h' | h' | ⟨b, o, h1, h2, h3, h4⟩
  · exact .inl h'
  · exact .inr (.inl h')
  · exact .inr (.inr ⟨b, o, h1, h2, h3, fun hk => h4 (hs b h2 hk)⟩)
theorem IRow.take (h : IRow w S A c p) (n : Nat) : IRow w S A c (p.take n) := by
  refine ⟨Nat.le_trans (by rw [List.length_take]; exact Nat.min_le_right _ _) h.1, ?_⟩
  rcases h.2 with ⟨h1, h2, h3⟩ | ⟨h1, h2⟩ | ⟨b, o, h1, h2, h3, h4⟩
  · exact .inl ⟨h1, h2, by rw [h3, List.take_nil]⟩
  · exact .inr (.inl ⟨by rw [h1, List.take_nil], h2⟩)
  · refine .inr (.inr ⟨b, o, h1, h2, fun i hi => ?_, h4⟩)
    rw [List.length_take] at hi
    rw [h3 i (by omega)]
    simp only [List.getD, List.getElem?_take_of_lt (show i < n by omega)]
theorem IRow.at (h : IRow w S A c p) (i : Nat) (hi : i < p.length) : ∃ b o, A = some ⟨b, o, none⟩ ∧ b < w.heap.size ∧ w.cell? ⟨b, o + i, none⟩ = some (.int .i64 (p.getD i 0)) := by
  rcases h.2 with ⟨_, _, h3⟩ | ⟨h3, _⟩ | ⟨b, o, h1, h2, h3, h4⟩
  · rw [h3] at hi; cases hi
  · rw [h3] at hi; cases hi
  · exact ⟨b, o, h1, h2, h3 i hi⟩
theorem IRow.of_own {base : Nat} {v : Value} {e : TypeId} (h : w.ownsRow base e 1 v p.length (p.map (Value.int .i64))) (S : Nat → Prop) (hs : ∀ k, v.ownBlock = some k → ¬ S k) : ∃ A c, v = .slice A p.length c ∧ IRow w S A c p := by
  rcases h.2 with ⟨rfl, h0⟩ | ⟨g, cap, cur, rfl, hb, hg, hnc, _, hsz, htk⟩
  · obtain rfl := List.eq_nil_of_length_eq_zero h0
    exact ⟨none, 0, rfl, Nat.le_refl _, .inl ⟨rfl, rfl, rfl⟩⟩
  · refine ⟨_, cap, rfl, hnc, .inr (.inr ⟨g, 0, rfl, ?_, fun i hi => ?_, hs g rfl⟩)⟩
    · rcases Nat.lt_or_ge g w.heap.size with h | h
      · exact h
      · rw [Array.getElem?_eq_none h] at hg; cases hg
    · rw [Nat.zero_add]
      have h1 : (p.map (Value.int .i64))[i]? = some (.int .i64 (p.getD i 0)) := by simp [hi]
      rw [← htk, List.getElem?_take_of_lt (by omega)] at h1
      unfold World.cell?
      simp only [hg, Option.isSome_none, Bool.false_eq_true, if_false]
      rw [← h1, Array.getElem?_toList]
end
end Go.Proofs.YtjcmgpiapbeodaaDoor.Sha
namespace Go.Proofs.YtjcmgpiapbeodaaDoor.Sha
open Go.RowKit Go.Proofs.YtjcmgpiapbeodaaDoor.Mem Go.Proofs.YtjcmgpiapbeodaaDoorW.PrintWords
attribute [local go_sem ↓] Go.wp_at_zero Go.wp_at_succ wp_load_hash wp_store_hash wp_load_mid23 wp_load_mid25 wp_build_hash
attribute [local go_sem] rowAt_drew rowOk_drew midOk_drew midAt_drew rowBlock rowCells
/-- the fold of hashes, from the right -/
def foldL (s : Nat) : List (List Int) → List Int
  | [] => ofL s []
  | [x] => x
  | x :: y :: r => nodeL s x (foldL s (y :: r))
theorem foldL_len (s : Nat) (hs : s ≤ 32) : ∀ (L : List (List Int)), (∀ x ∈ L, x.length = 32) → (foldL s L).length = 32
  | [], _ => ofL_len _ _ hs
  | [x], h => h x (by simp)
  | x :: y :: r, _ => ofL_len _ _ hs
theorem foldL_cons (s : Nat) (x : List Int) {r : List (List Int)} (h : r ≠ []) : foldL s (x :: r) = nodeL s x (foldL s r) := by
  cases r with
  | nil => exact absurd rfl h
  | cons y r => rfl
set_option maxHeartbeats 2000000 in
set_option maxRecDepth 100000 in
/-- join: the node hash, as a method -/
theorem join_calls (l r : List Int) (hl : l.length = 32) (hr : r.length = 32) (gk go s : Nat) (w : World) (hL : Laid w) (hH : Hs w gk go s) :
    Calls Tryd.prog 110 #[hasherV gk go s, .agg (bytes l).toArray, .agg (bytes r).toArray] w fun e w' => e = .returned (.agg (bytes (nodeL s l r)).toArray) ∧ Fr (fun _ => False) w w' := by
  have hll : (nodeL s l r).length = 32 := ofL_len _ _ hH.le
  have C0 : Kp (∀ W, Fr (fun _ => False) w W → Calls Tryd.prog 71 #[.agg (bytes l).toArray, .agg (bytes r).toArray, .pointer (some ⟨go, 0, none⟩)] W fun e w' => e = .returned (.agg (bytes (nodeL s l r)).toArray) ∧ Fr (fun _ => False) W w') :=
    ⟨fun W hf => node_calls l r hl hr gk go s W (hL.fr hf (fun _ h => h.elim)) (hH.fr hf (fun h => h) (fun h => h))⟩
  generalize nodeL s l r = M at C0 hll ⊢
  have HL := Kp.mk hll
  have hbl1 : (bytes l).length = 32 := by rw [bytes_length, hl]
  have hbl2 : (bytes r).length = 32 := by rw [bytes_length, hr]
  generalize bytes l = lv at C0 hbl1 ⊢
  generalize bytes r = rv at C0 hbl2 ⊢
  clear hll hL hl hr l r hH
  unfold hasherV
  go_enter Tryd.func110, Tryd.ntmps110
  go_upto_region 1 with (fail)
  obtain ⟨g3, hg3⟩ : ∃ g3, g3 = w.heap.size := ⟨_, rfl⟩
  obtain ⟨g4, hg4⟩ : ∃ g4, g4 = w.heap.size + 1 := ⟨_, rfl⟩
  obtain ⟨g5, hg5⟩ : ∃ g5, g5 = w.heap.size + 1 + 1 := ⟨_, rfl⟩
  obtain ⟨g6, hg6⟩ : ∃ g6, g6 = w.heap.size + 1 + 1 + 1 := ⟨_, rfl⟩
  rw [← hg6, ← hg5, ← hg4, ← hg3]
  obtain ⟨W1, hW1⟩ : ∃ W1, W1 = (((w.alloc (.cells #[.int .i64 (s : Int), .func (.func 69) #[] #[.pointer (some ⟨gk, 0, none⟩)], .func (.func 70) #[] #[.pointer (some ⟨go, 0, none⟩)], .func (.func 71) #[] #[.pointer (some ⟨go, 0, none⟩)]] 86)).alloc (.cells lv.toArray 29)).alloc (.cells rv.toArray 29)).alloc (.cells #[.int .u8 0, .int .u8 0, .int .u8 0, .int .u8 0, .int .u8 0, .int .u8 0, .int .u8 0, .int .u8 0, .int .u8 0, .int .u8 0, .int .u8 0, .int .u8 0, .int .u8 0, .int .u8 0, .int .u8 0, .int .u8 0, .int .u8 0, .int .u8 0, .int .u8 0, .int .u8 0, .int .u8 0, .int .u8 0, .int .u8 0, .int .u8 0, .int .u8 0, .int .u8 0, .int .u8 0, .int .u8 0, .int .u8 0, .int .u8 0, .int .u8 0, .int .u8 0] 29) := ⟨_, rfl⟩
  have H3 : Kp (Blk W1 g3 86 (#[.int .i64 (s : Int), .func (.func 69) #[] #[.pointer (some ⟨gk, 0, none⟩)], .func (.func 70) #[] #[.pointer (some ⟨go, 0, none⟩)], .func (.func 71) #[] #[.pointer (some ⟨go, 0, none⟩)]] : Array Value).toList) := ⟨by rw [hW1, hg3]; exact (((Blk.new w _ _).alloc _).alloc _).alloc _⟩
  have H4 : Kp (Blk W1 g4 29 lv) := ⟨by rw [hW1, hg4]; exact ((Blk.new' (w.alloc (.cells #[.int .i64 (s : Int), .func (.func 69) #[] #[.pointer (some ⟨gk, 0, none⟩)], .func (.func 70) #[] #[.pointer (some ⟨go, 0, none⟩)], .func (.func 71) #[] #[.pointer (some ⟨go, 0, none⟩)]] 86)) lv.toArray _ (by simp)).alloc _).alloc _⟩
  have H5 : Kp (Blk W1 g5 29 rv) := ⟨by rw [hW1, hg5]; exact (Blk.new' ((w.alloc (.cells #[.int .i64 (s : Int), .func (.func 69) #[] #[.pointer (some ⟨gk, 0, none⟩)], .func (.func 70) #[] #[.pointer (some ⟨go, 0, none⟩)], .func (.func 71) #[] #[.pointer (some ⟨go, 0, none⟩)]] 86)).alloc (.cells lv.toArray 29)) rv.toArray _ (by simp)).alloc _⟩
  have H6 : Kp (Blk W1 g6 29 [.int .u8 0, .int .u8 0, .int .u8 0, .int .u8 0, .int .u8 0, .int .u8 0, .int .u8 0, .int .u8 0, .int .u8 0, .int .u8 0, .int .u8 0, .int .u8 0, .int .u8 0, .int .u8 0, .int .u8 0, .int .u8 0, .int .u8 0, .int .u8 0, .int .u8 0, .int .u8 0, .int .u8 0, .int .u8 0, .int .u8 0, .int .u8 0, .int .u8 0, .int .u8 0, .int .u8 0, .int .u8 0, .int .u8 0, .int .u8 0, .int .u8 0, .int .u8 0]) := ⟨by rw [hW1, hg6]; exact Blk.new' _ _ _ (by simp)⟩
  have HF1 : Kp (Fr (fun _ => False) w W1) := ⟨by rw [hW1]; exact ((((Fr.refl _ w).alloc _).alloc _).alloc _).alloc _⟩
  have HG : Kp (w.heap.size ≤ g6) := ⟨by omega⟩
  rw [← hW1]
  clear hW1 hg4 hg5 hg6 hg3
  have hi32 : (Tryd.prog.info? 29).map (·.size) = some 32 := by kernel_rfl
  have Z4 : Kp ((Tryd.prog.info? 29).map (·.size) = some lv.length) := ⟨by rw [hbl1]; exact hi32⟩
  have Z5 : Kp ((Tryd.prog.info? 29).map (·.size) = some rv.length) := ⟨by rw [hbl2]; exact hi32⟩
  have Z6 : Kp ((Tryd.prog.info? 29).map (·.size) = some ([.int .u8 0, .int .u8 0, .int .u8 0, .int .u8 0, .int .u8 0, .int .u8 0, .int .u8 0, .int .u8 0, .int .u8 0, .int .u8 0, .int .u8 0, .int .u8 0, .int .u8 0, .int .u8 0, .int .u8 0, .int .u8 0, .int .u8 0, .int .u8 0, .int .u8 0, .int .u8 0, .int .u8 0, .int .u8 0, .int .u8 0, .int .u8 0, .int .u8 0, .int .u8 0, .int .u8 0, .int .u8 0, .int .u8 0, .int .u8 0, .int .u8 0, .int .u8 0] : List Value).length) := ⟨hi32⟩
  have hMok := hashOk_bytes M HL.out
  have ok4 := rowOk_blk H4.out Z4.out
  have ok5 := rowOk_blk H5.out Z5.out
  have at4 := rowAt_blk H4.out
  have at5 := rowAt_blk H5.out
  have c3 : W1.cell? ⟨g3, 3, none⟩ = _ := H3.out.cell 3 _ rfl
  clear hi32
  go_wp2_with fail
  refine (C0.out _ HF1.out).mono ?_
  rintro e' W3 ⟨rfl, hf⟩
  have HF3 := Kp.mk (HF1.out.trans hf (fun _ _ h => h))
  have H63 := Kp.mk (H6.out.fr hf (fun h => h))
  have hrow := rowOk_blk H63.out Z6.out
  clear hf
  go_wp2
  refine bodyPost_ret (results_cell_row rfl _ _ g6 29 _ (0, 0) _ rfl (setRow_heap _ g6 _ _ _ _ (show W3.heap[g6]? = _ from H63.out)) Tryd.underlying29 rfl (by rw [show (bytes M).toArray.size = 32 by simp [bytes, HL.out]]; kernel_rfl)) rfl ?_
  refine ⟨rfl, ?_⟩
  exact HF3.out.trans (S' := fun q => q = g6) ⟨rfl, rfl, rfl, by simp [World.setRow], fun q _ hq => setRow_other _ _ q _ hq⟩ (fun q hq he => by have := HG.out; omega)

set_option maxHeartbeats 4000000 in
set_option maxRecDepth 100000 in
/-- fold: one or more hashes, from the right -/
theorem fold_calls (A : Option Addr) (c : Nat) (L : List (List Int)) (h0 : L ≠ []) (gk go s : Nat) (w : World) (hL : Laid w) (hH : Hs w gk go s) (hX : HRow w (fun _ => False) A c L) (hb : L.length * 32 ≤ 140737488355328) :
    Calls Tryd.prog 109 #[.slice A L.length c, .func (.func 110) #[hasherV gk go s] #[]] w fun e w' => e = .returned (.agg (bytes (foldL s L)).toArray) ∧ Fr (fun _ => False) w w' := by
  have CJ : Kp (∀ W x y, Fr (fun _ => False) w W → x.length = 32 → y.length = 32 → Calls Tryd.prog 110 #[hasherV gk go s, .agg (bytes x).toArray, .agg (bytes y).toArray] W fun e w' => e = .returned (.agg (bytes (nodeL s x y)).toArray) ∧ Fr (fun _ => False) W w') :=
    ⟨fun W x y hf hx hy => join_calls x y hx hy gk go s W (hL.fr hf (fun _ h => h.elim)) (hH.fr hf (fun h => h) (fun h => h))⟩
  have HS : Kp (s ≤ 32) := ⟨hH.le⟩
  have HX := Kp.mk hX
  have hpos : 0 < L.length := by cases L with | nil => exact absurd rfl h0 | cons x r => simp
  obtain ⟨n, hn⟩ : ∃ n, n = L.length := ⟨_, rfl⟩
  have HN := Kp.mk hn
  rw [← hn] at hb hpos ⊢
  obtain ⟨b, o, hA, _, _, _⟩ := hX.at 0 (by rw [← hn]; exact hpos)
  subst hA
  generalize hasherV gk go s = HV at CJ ⊢
  obtain ⟨R0, hR0⟩ : ∃ R0, R0 = foldL s L := ⟨_, rfl⟩
  rw [← hR0]
  have HR0 := Kp.mk hR0
  clear hR0
  obtain ⟨m, rfl⟩ : ∃ m, n = m + 1 := ⟨n - 1, by omega⟩
  clear hn hL hH hX hpos h0
  go_enter Tryd.func109, Tryd.ntmps109
  go_upto_region 1 with (fail)
  obtain ⟨g4, hg4⟩ : ∃ g4, g4 = w.heap.size := ⟨_, rfl⟩
  obtain ⟨W1, hW1⟩ : ∃ W1, W1 = w.alloc (.cells #[.int .u8 0, .int .u8 0, .int .u8 0, .int .u8 0, .int .u8 0, .int .u8 0, .int .u8 0, .int .u8 0, .int .u8 0, .int .u8 0, .int .u8 0, .int .u8 0, .int .u8 0, .int .u8 0, .int .u8 0, .int .u8 0, .int .u8 0, .int .u8 0, .int .u8 0, .int .u8 0, .int .u8 0, .int .u8 0, .int .u8 0, .int .u8 0, .int .u8 0, .int .u8 0, .int .u8 0, .int .u8 0, .int .u8 0, .int .u8 0, .int .u8 0, .int .u8 0] 29) := ⟨_, rfl⟩
  have H4 : Kp (Blk W1 g4 29 [.int .u8 0, .int .u8 0, .int .u8 0, .int .u8 0, .int .u8 0, .int .u8 0, .int .u8 0, .int .u8 0, .int .u8 0, .int .u8 0, .int .u8 0, .int .u8 0, .int .u8 0, .int .u8 0, .int .u8 0, .int .u8 0, .int .u8 0, .int .u8 0, .int .u8 0, .int .u8 0, .int .u8 0, .int .u8 0, .int .u8 0, .int .u8 0, .int .u8 0, .int .u8 0, .int .u8 0, .int .u8 0, .int .u8 0, .int .u8 0, .int .u8 0, .int .u8 0]) := ⟨by rw [hW1, hg4]; exact Blk.new w _ _⟩
  have HF1 : Kp (Fr (fun _ => False) w W1) := ⟨by rw [hW1]; exact (Fr.refl _ w).alloc _⟩
  have HG4 : Kp (w.heap.size ≤ g4) := ⟨by omega⟩
  rw [← hg4, ← hW1]
  clear hg4 hW1
  go_upto_region 2 with (fail)
  obtain ⟨m1, m2⟩ := (HX.out.fr HF1.out).mid m (by rw [← HN.out]; omega)
  have hx32 : (L[m]'(by rw [← HN.out]; omega)).length = 32 := HX.out.1 _ (List.getElem_mem _)
  have hfm : foldL s (L.drop m) = L[m]'(by rw [← HN.out]; omega) := by
    have e : L.drop m = [L[m]'(by rw [← HN.out]; omega)] := by
      rw [List.drop_eq_getElem_cons (by rw [← HN.out]; omega), List.drop_of_length_le (by rw [← HN.out]; exact Nat.le_refl _)]
    rw [e]; rfl
  have HFM := Kp.mk hfm
  generalize L[m]'(by rw [← HN.out]; omega) = x at m2 hx32 HFM
  have hk := hashOk_bytes x hx32
  have HX32 := Kp.mk hx32
  have hi32 : (Tryd.prog.info? 29).map (·.size) = some 32 := by kernel_rfl
  have Z6 : Kp ((Tryd.prog.info? 29).map (·.size) = some ([.int .u8 0, .int .u8 0, .int .u8 0, .int .u8 0, .int .u8 0, .int .u8 0, .int .u8 0, .int .u8 0, .int .u8 0, .int .u8 0, .int .u8 0, .int .u8 0, .int .u8 0, .int .u8 0, .int .u8 0, .int .u8 0, .int .u8 0, .int .u8 0, .int .u8 0, .int .u8 0, .int .u8 0, .int .u8 0, .int .u8 0, .int .u8 0, .int .u8 0, .int .u8 0, .int .u8 0, .int .u8 0, .int .u8 0, .int .u8 0, .int .u8 0, .int .u8 0] : List Value).length) := ⟨hi32⟩
  have hnew : Blk (W1.alloc (.cells #[.int .u8 0, .int .u8 0, .int .u8 0, .int .u8 0, .int .u8 0, .int .u8 0, .int .u8 0, .int .u8 0, .int .u8 0, .int .u8 0, .int .u8 0, .int .u8 0, .int .u8 0, .int .u8 0, .int .u8 0, .int .u8 0, .int .u8 0, .int .u8 0, .int .u8 0, .int .u8 0, .int .u8 0, .int .u8 0, .int .u8 0, .int .u8 0, .int .u8 0, .int .u8 0, .int .u8 0, .int .u8 0, .int .u8 0, .int .u8 0, .int .u8 0, .int .u8 0] 29)) W1.heap.size 29 [.int .u8 0, .int .u8 0, .int .u8 0, .int .u8 0, .int .u8 0, .int .u8 0, .int .u8 0, .int .u8 0, .int .u8 0, .int .u8 0, .int .u8 0, .int .u8 0, .int .u8 0, .int .u8 0, .int .u8 0, .int .u8 0, .int .u8 0, .int .u8 0, .int .u8 0, .int .u8 0, .int .u8 0, .int .u8 0, .int .u8 0, .int .u8 0, .int .u8 0, .int .u8 0, .int .u8 0, .int .u8 0, .int .u8 0, .int .u8 0, .int .u8 0, .int .u8 0] := Blk.new W1 _ _
  have ok6 := rowOk_blk hnew Z6.out
  clear hx32 hfm hnew hi32
  go_upto_region 3 with (fail)
  obtain ⟨g6, hg6⟩ : ∃ g6, g6 = W1.heap.size := ⟨_, rfl⟩
  obtain ⟨W2, hW2⟩ : ∃ W2, W2 = (W1.alloc (.cells #[.int .u8 0, .int .u8 0, .int .u8 0, .int .u8 0, .int .u8 0, .int .u8 0, .int .u8 0, .int .u8 0, .int .u8 0, .int .u8 0, .int .u8 0, .int .u8 0, .int .u8 0, .int .u8 0, .int .u8 0, .int .u8 0, .int .u8 0, .int .u8 0, .int .u8 0, .int .u8 0, .int .u8 0, .int .u8 0, .int .u8 0, .int .u8 0, .int .u8 0, .int .u8 0, .int .u8 0, .int .u8 0, .int .u8 0, .int .u8 0, .int .u8 0, .int .u8 0] 29)).setRow W1.heap.size (bytes x).toArray := ⟨_, rfl⟩
  have hfr := fr_row (Fr.refl (fun _ => False) W1) (.cells #[.int .u8 0, .int .u8 0, .int .u8 0, .int .u8 0, .int .u8 0, .int .u8 0, .int .u8 0, .int .u8 0, .int .u8 0, .int .u8 0, .int .u8 0, .int .u8 0, .int .u8 0, .int .u8 0, .int .u8 0, .int .u8 0, .int .u8 0, .int .u8 0, .int .u8 0, .int .u8 0, .int .u8 0, .int .u8 0, .int .u8 0, .int .u8 0, .int .u8 0, .int .u8 0, .int .u8 0, .int .u8 0, .int .u8 0, .int .u8 0, .int .u8 0, .int .u8 0] 29) (bytes x).toArray
  rw [← hW2] at hfr
  have HF2 := Kp.mk (HF1.out.trans hfr (fun _ _ h => h))
  have H42 := Kp.mk (H4.out.fr hfr (fun h => h))
  have H62 : Kp (Blk W2 g6 29 (bytes (foldL s (L.drop m)))) := ⟨by rw [HFM.out, hW2, hg6]; exact blk_row W1 _ _ _⟩
  have HG6 : Kp (w.heap.size ≤ g6 ∧ g4 < g6) := ⟨by have h1 := HF1.out.size; have h2 := H4.out.lt; omega⟩
  rw [← hW2, ← hg6]
  clear hg6 hW2 hfr HF1 H4 ok6 hk m1 m2 HFM HX32
  go_upto_region 4 with (fail)
  go_loopw [7] (fun a wr => ∃ j : Nat, a = .int .i64 ((j : Int) - 1) ∧ j ≤ m ∧ Kp (Blk wr g6 29 (bytes (foldL s (L.drop j)))) ∧ Kp (Blk wr g4 29 [.int .u8 0, .int .u8 0, .int .u8 0, .int .u8 0, .int .u8 0, .int .u8 0, .int .u8 0, .int .u8 0, .int .u8 0, .int .u8 0, .int .u8 0, .int .u8 0, .int .u8 0, .int .u8 0, .int .u8 0, .int .u8 0, .int .u8 0, .int .u8 0, .int .u8 0, .int .u8 0, .int .u8 0, .int .u8 0, .int .u8 0, .int .u8 0, .int .u8 0, .int .u8 0, .int .u8 0, .int .u8 0, .int .u8 0, .int .u8 0, .int .u8 0, .int .u8 0]) ∧ Kp (Fr (fun _ => False) w wr)) (fun a _ => (intOf a + 1).toNat)
  case atStart => exact ⟨m, rfl, Nat.le_refl _, H62, H42, HF2⟩
  case round =>
    clear H62 H42 HF2
    obtain ⟨j, rfl, hj, H6, H4, HF⟩ := hrel
    have hfl : (foldL s (L.drop j)).length = 32 := foldL_len s HS.out _ (fun x hx => HX.out.1 x (List.mem_of_mem_drop hx))
    have HFL := Kp.mk hfl
    have hi32 : (Tryd.prog.info? 29).map (·.size) = some 32 := by kernel_rfl
    have ZF : Kp ((Tryd.prog.info? 29).map (·.size) = some (bytes (foldL s (L.drop j))).length) := ⟨by rw [bytes_length, hfl]; exact hi32⟩
    have ok6 := rowOk_blk H6.out ZF.out
    have at6 := rowAt_blk H6.out
    clear hfl hi32
    cases j with
    | zero =>
      have ok4 := rowOk_blk H4.out Z6.out
      rw [List.drop_zero, ← HR0.out] at at6 HFL
      have hk := hashOk_bytes R0 HFL.out
      go_wp2_with fail
      refine bodyPost_ret (results_cell_row rfl _ _ g4 29 _ (0, 0) _ rfl (setRow_heap _ g4 _ _ _ _ (show wr.heap[g4]? = _ from H4.out)) Tryd.underlying29 rfl (by rw [show (bytes R0).toArray.size = 32 by simp [bytes, HFL.out]]; kernel_rfl)) rfl ?_
      refine ⟨rfl, ?_⟩
      exact HF.out.trans (S' := fun q => q = g4) ⟨rfl, rfl, rfl, by simp [World.setRow], fun q _ hq => setRow_other _ _ q _ hq⟩ (fun q hq he => by have := HG4.out; omega)
    | succ i =>
      rw [show ((i + 1 : Nat) : Int) - 1 = (i : Int) by omega]
      have HI : Kp (i < L.length) := ⟨by rw [← HN.out]; omega⟩
      obtain ⟨m1, m2⟩ := (HX.out.fr HF.out).mid i HI.out
      have hx32 : (L[i]'HI.out).length = 32 := HX.out.1 _ (List.getElem_mem _)
      have hfm : foldL s (L.drop i) = nodeL s (L[i]'HI.out) (foldL s (L.drop (i + 1))) := by
        rw [List.drop_eq_getElem_cons HI.out]
        exact foldL_cons s _ (by rw [← List.length_pos_iff, List.length_drop, ← HN.out]; omega)
      have hmd := (HX.out.fr HF.out.drew).mid i HI.out
      have HFM := Kp.mk hfm
      generalize L[i]'HI.out = y at m2 hx32 HFM
      have HY := Kp.mk hx32
      have hMl : (foldL s (L.drop i)).length = 32 := foldL_len s HS.out _ (fun x hx => HX.out.1 x (List.mem_of_mem_drop hx))
      rw [HFM.out] at hMl
      generalize foldL s (L.drop (i + 1)) = R at *
      obtain ⟨M, hM⟩ : ∃ M, M = nodeL s y R := ⟨_, rfl⟩
      rw [← hM] at hMl
      have hMok := hashOk_bytes M hMl
      have HML := Kp.mk hMl
      have CJ1 : Kp (∀ W, Fr (fun _ => False) w W → Calls Tryd.prog 110 #[HV, .agg (bytes y).toArray, .agg (bytes R).toArray] W fun e w' => e = .returned (.agg (bytes M).toArray) ∧ Fr (fun _ => False) W w') := ⟨fun W hf => by rw [hM]; exact CJ.out W y R hf HY.out HFL.out⟩
      have HMM := Kp.mk hM
      clear hx32 hfm hmd hMl hM
      go_upto_region 6 with (fail)
      go_region_with (first
        | (go_at_call 110; (refine (CJ1.out _ (by exact HF.out.drew)).mono ?_); rintro e' W3 ⟨rfl, hq⟩; have hfa : Fr (fun _ => False) wr W3 := ((Fr.refl (fun _ => False) wr).drew).trans hq (fun _ _ h => h); have HF3 := Kp.mk (HF.out.trans hfa (fun _ _ h => h)); have H63 := Kp.mk (H6.out.fr hfa (fun h => h)); have H43 := Kp.mk (H4.out.fr hfa (fun h => h)); have ok63 := rowOk_blk H63.out ZF.out; clear hq hfa))
      all_goals (
        have hset : Fr (fun q => q = g6) W3 (W3.setRow g6 (bytes M).toArray) := ⟨rfl, rfl, rfl, by simp [World.setRow], fun q _ hq => setRow_other _ _ q _ hq⟩
        have H64 : Kp (Blk (W3.setRow g6 (bytes M).toArray) g6 29 (bytes (foldL s (L.drop i)))) := ⟨by rw [HFM.out, ← HMM.out]; exact setRow_heap _ g6 _ _ _ _ (show W3.heap[g6]? = _ from H63.out)⟩
        have H44 := Kp.mk (H43.out.fr hset (by have := HG6.out; omega))
        have HF4 := Kp.mk (HF3.out.trans hset (fun q hq he => by have := HG6.out; omega))
        clear hset
        generalize W3.setRow g6 (bytes M).toArray = W4 at H64 H44 HF4 ⊢
        go_wp2_with fail
        refine ⟨⟨i, rfl, by omega, H64, H44, HF4⟩, ?_⟩
        simp only [intOf]
        omega)
end Go.Proofs.YtjcmgpiapbeodaaDoor.Sha
namespace Go.Proofs.YtjcmgpiapbeodaaDoor.Sha
open Go.RowKit Go.Proofs.YtjcmgpiapbeodaaDoor.Mem Go.Proofs.YtjcmgpiapbeodaaDoorW.PrintWords
attribute [local go_sem ↓] Go.wp_at_zero Go.wp_at_succ wp_load_hash wp_store_hash wp_load_mid23 wp_load_mid25 wp_store_mid25 wp_build_hash
attribute [local go_sem] rowAt_drew rowOk_drew midOk_drew midAt_drew rowBlock rowCells rowOff midFree_drew
set_option maxHeartbeats 4000000 in
set_option maxRecDepth 100000 in
theorem root_calls (A : Option Addr) (c : Nat) (L : List (List Int)) (gk go s : Nat) (w : World) (hL : Laid w) (hH : Hs w gk go s) (hX : HRow w (fun _ => False) A c L) (hb : L.length * 32 ≤ 140737488355328) :
    Calls Tryd.prog 90 #[hasherV gk go s, .slice A L.length c] w fun e w' => e = .returned (.agg (bytes (foldL s L)).toArray) ∧ Fr (fun _ => False) w w' := by
  have CE : Kp (∀ W, Fr (fun _ => False) w W → L = [] → Calls Tryd.prog 69 #[.slice none 0 0, .pointer (some ⟨gk, 0, none⟩)] W fun e w' => e = .returned (.agg (bytes (foldL s L)).toArray) ∧ Fr (fun _ => False) W w') :=
    ⟨fun W hf h0 => by subst h0; exact of_calls none 0 [] gk go s W (hL.fr hf (fun _ h => h.elim)) (hH.fr hf (fun h => h) (fun h => h)) ⟨Nat.le_refl _, .inl ⟨rfl, rfl, rfl⟩⟩ (by decide)⟩
  have CF : Kp (∀ W, Fr (fun _ => False) w W → L ≠ [] → Calls Tryd.prog 109 #[.slice A L.length c, .func (.func 110) #[hasherV gk go s] #[]] W fun e w' => e = .returned (.agg (bytes (foldL s L)).toArray) ∧ Fr (fun _ => False) W w') :=
    ⟨fun W hf h0 => fold_calls A c L h0 gk go s W (hL.fr hf (fun _ h => h.elim)) (hH.fr hf (fun h => h) (fun h => h)) (hX.fr hf) hb⟩
  have hfl : (foldL s L).length = 32 := foldL_len s hH.le L hX.1
  have HN : Kp (L.length = 0 → L = []) := ⟨List.eq_nil_of_length_eq_zero⟩
  have HM : Kp (L.length ≠ 0 → L ≠ []) := ⟨fun h h2 => h (by rw [h2]; rfl)⟩
  obtain ⟨n, hn⟩ : ∃ n, n = L.length := ⟨_, rfl⟩
  rw [← hn] at CF HN HM hb ⊢
  generalize foldL s L = R at CE CF hfl ⊢
  have HL := Kp.mk hfl
  clear hn hL hH hX hfl
  unfold hasherV at CF ⊢
  go_enter Tryd.func90, Tryd.ntmps90
  go_upto_region 1 with (fail)
  obtain ⟨g2, hg2⟩ : ∃ g2, g2 = w.heap.size := ⟨_, rfl⟩
  obtain ⟨g4, hg4⟩ : ∃ g4, g4 = w.heap.size + 1 := ⟨_, rfl⟩
  rw [← hg4, ← hg2]
  obtain ⟨W1, hW1⟩ : ∃ W1, W1 = (w.alloc (.cells #[.int .i64 (s : Int), .func (.func 69) #[] #[.pointer (some ⟨gk, 0, none⟩)], .func (.func 70) #[] #[.pointer (some ⟨go, 0, none⟩)], .func (.func 71) #[] #[.pointer (some ⟨go, 0, none⟩)]] 86)).alloc (.cells #[.int .u8 0, .int .u8 0, .int .u8 0, .int .u8 0, .int .u8 0, .int .u8 0, .int .u8 0, .int .u8 0, .int .u8 0, .int .u8 0, .int .u8 0, .int .u8 0, .int .u8 0, .int .u8 0, .int .u8 0, .int .u8 0, .int .u8 0, .int .u8 0, .int .u8 0, .int .u8 0, .int .u8 0, .int .u8 0, .int .u8 0, .int .u8 0, .int .u8 0, .int .u8 0, .int .u8 0, .int .u8 0, .int .u8 0, .int .u8 0, .int .u8 0, .int .u8 0] 29) := ⟨_, rfl⟩
  have H2 : Kp (Blk W1 g2 86 (#[.int .i64 (s : Int), .func (.func 69) #[] #[.pointer (some ⟨gk, 0, none⟩)], .func (.func 70) #[] #[.pointer (some ⟨go, 0, none⟩)], .func (.func 71) #[] #[.pointer (some ⟨go, 0, none⟩)]] : Array Value).toList) := ⟨by rw [hW1, hg2]; exact (Blk.new w _ _).alloc _⟩
  have H4 : Kp (Blk W1 g4 29 [.int .u8 0, .int .u8 0, .int .u8 0, .int .u8 0, .int .u8 0, .int .u8 0, .int .u8 0, .int .u8 0, .int .u8 0, .int .u8 0, .int .u8 0, .int .u8 0, .int .u8 0, .int .u8 0, .int .u8 0, .int .u8 0, .int .u8 0, .int .u8 0, .int .u8 0, .int .u8 0, .int .u8 0, .int .u8 0, .int .u8 0, .int .u8 0, .int .u8 0, .int .u8 0, .int .u8 0, .int .u8 0, .int .u8 0, .int .u8 0, .int .u8 0, .int .u8 0]) := ⟨by rw [hW1, hg4]; exact Blk.new' _ _ _ (by simp)⟩
  have HF1 : Kp (Fr (fun _ => False) w W1) := ⟨by rw [hW1]; exact ((Fr.refl _ w).alloc _).alloc _⟩
  have HG : Kp (w.heap.size ≤ g4) := ⟨by omega⟩
  rw [← hW1]
  clear hW1 hg4 hg2
  have hi32 : (Tryd.prog.info? 29).map (·.size) = some 32 := by kernel_rfl
  have Z6 : Kp ((Tryd.prog.info? 29).map (·.size) = some ([.int .u8 0, .int .u8 0, .int .u8 0, .int .u8 0, .int .u8 0, .int .u8 0, .int .u8 0, .int .u8 0, .int .u8 0, .int .u8 0, .int .u8 0, .int .u8 0, .int .u8 0, .int .u8 0, .int .u8 0, .int .u8 0, .int .u8 0, .int .u8 0, .int .u8 0, .int .u8 0, .int .u8 0, .int .u8 0, .int .u8 0, .int .u8 0, .int .u8 0, .int .u8 0, .int .u8 0, .int .u8 0, .int .u8 0, .int .u8 0, .int .u8 0, .int .u8 0] : List Value).length) := ⟨hi32⟩
  have hMok := hashOk_bytes R HL.out
  clear hi32
  have c0 : W1.cell? ⟨g2, 0, none⟩ = _ := H2.out.cell 0 _ rfl
  have c1 : W1.cell? ⟨g2, 1, none⟩ = _ := H2.out.cell 1 _ rfl
  have c2 : W1.cell? ⟨g2, 2, none⟩ = _ := H2.out.cell 2 _ rfl
  have c3 : W1.cell? ⟨g2, 3, none⟩ = _ := H2.out.cell 3 _ rfl
  by_cases h0 : n = 0
  · have h1 := HN.out h0
    have CE1 := Kp.mk (fun W hf => CE.out W hf h1)
    clear CE CF HN HM h1
    subst h0
    go_wp2_with fail
    refine (CE1.out _ HF1.out).mono ?_
    rintro e' W3 ⟨rfl, hf⟩
    have HF3 := Kp.mk (HF1.out.trans hf (fun _ _ h => h))
    have H43 := Kp.mk (H4.out.fr hf (fun h => h))
    have hrow := rowOk_blk H43.out Z6.out
    clear hf
    go_wp2
    refine bodyPost_ret (results_cell_row rfl _ _ g4 29 _ (0, 0) _ rfl (setRow_heap _ g4 _ _ _ _ (show W3.heap[g4]? = _ from H43.out)) Tryd.underlying29 rfl (by rw [show (bytes R).toArray.size = 32 by simp [bytes, HL.out]]; kernel_rfl)) rfl ?_
    refine ⟨rfl, ?_⟩
    exact HF3.out.trans (S' := fun q => q = g4) ⟨rfl, rfl, rfl, by simp [World.setRow], fun q _ hq => setRow_other _ _ q _ hq⟩ (fun q hq he => by have := HG.out; omega)
  · have h1 := HM.out h0
    have CF1 := Kp.mk (fun W hf => CF.out W hf h1)
    clear CE CF HN HM h1
    go_wp2_with fail
    refine (CF1.out _ HF1.out).mono ?_
    rintro e' W3 ⟨rfl, hf⟩
    have HF3 := Kp.mk (HF1.out.trans hf (fun _ _ h => h))
    have H43 := Kp.mk (H4.out.fr hf (fun h => h))
    have hrow := rowOk_blk H43.out Z6.out
    clear hf
    go_wp2
    refine bodyPost_ret (results_cell_row rfl _ _ g4 29 _ (0, 0) _ rfl (setRow_heap _ g4 _ _ _ _ (show W3.heap[g4]? = _ from H43.out)) Tryd.underlying29 rfl (by rw [show (bytes R).toArray.size = 32 by simp [bytes, HL.out]]; kernel_rfl)) rfl ?_
    refine ⟨rfl, ?_⟩
    exact HF3.out.trans (S' := fun q => q = g4) ⟨rfl, rfl, rfl, by simp [World.setRow], fun q _ hq => setRow_other _ _ q _ hq⟩ (fun q hq he => by have := HG.out; omega)

set_option maxHeartbeats 4000000 in
set_option maxRecDepth 100000 in
theorem Fold_calls (k : Int) (A : Option Addr) (c : Nat) (L : List (List Int)) (w : World) (hL : Laid w) (hX : HRow w (fun _ => False) A c L) (hb : L.length * 32 ≤ 140737488355328) :
    Calls Tryd.prog 89 #[.int .i64 k, .slice A L.length c] w fun e w' => e = .returned (.agg (bytes (foldL (strength k) L)).toArray) ∧ Fr (fun _ => False) w w' := by
  have hll : (foldL (strength k) L).length = 32 := foldL_len _ (strength_le k) L hX.1
  have C0 : Kp (∀ gk go W, Fr (fun _ => False) w W → Hs W gk go (strength k) → Calls Tryd.prog 90 #[hasherV gk go (strength k), .slice A L.length c] W fun e w' => e = .returned (.agg (bytes (foldL (strength k) L)).toArray) ∧ Fr (fun _ => False) W w') :=
    ⟨fun gk go W hf hH => root_calls A c L gk go (strength k) W (hL.fr hf (fun _ h => h.elim)) hH (hX.fr hf) hb⟩
  have CH := Kp.mk (fun W => hasherOf_calls k W)
  obtain ⟨s, hs⟩ : ∃ s, s = strength k := ⟨_, rfl⟩
  rw [← hs] at C0 CH hll ⊢
  generalize foldL s L = R at C0 hll ⊢
  have HL := Kp.mk hll
  obtain ⟨n, hn⟩ : ∃ n, n = L.length := ⟨_, rfl⟩
  rw [← hn] at C0 ⊢
  clear hs hll hL hX hb hn
  go_enter Tryd.func89, Tryd.ntmps89
  go_upto_region 1 with (fail)
  obtain ⟨g4, hg4⟩ : ∃ g4, g4 = w.heap.size := ⟨_, rfl⟩
  obtain ⟨W1, hW1⟩ : ∃ W1, W1 = w.alloc (.cells #[.int .u8 0, .int .u8 0, .int .u8 0, .int .u8 0, .int .u8 0, .int .u8 0, .int .u8 0, .int .u8 0, .int .u8 0, .int .u8 0, .int .u8 0, .int .u8 0, .int .u8 0, .int .u8 0, .int .u8 0, .int .u8 0, .int .u8 0, .int .u8 0, .int .u8 0, .int .u8 0, .int .u8 0, .int .u8 0, .int .u8 0, .int .u8 0, .int .u8 0, .int .u8 0, .int .u8 0, .int .u8 0, .int .u8 0, .int .u8 0, .int .u8 0, .int .u8 0] 29) := ⟨_, rfl⟩
  have H4 : Kp (Blk W1 g4 29 [.int .u8 0, .int .u8 0, .int .u8 0, .int .u8 0, .int .u8 0, .int .u8 0, .int .u8 0, .int .u8 0, .int .u8 0, .int .u8 0, .int .u8 0, .int .u8 0, .int .u8 0, .int .u8 0, .int .u8 0, .int .u8 0, .int .u8 0, .int .u8 0, .int .u8 0, .int .u8 0, .int .u8 0, .int .u8 0, .int .u8 0, .int .u8 0, .int .u8 0, .int .u8 0, .int .u8 0, .int .u8 0, .int .u8 0, .int .u8 0, .int .u8 0, .int .u8 0]) := ⟨by rw [hW1, hg4]; exact Blk.new w _ _⟩
  have HF1 : Kp (Fr (fun _ => False) w W1) := ⟨by rw [hW1]; exact (Fr.refl _ w).alloc _⟩
  have HG : Kp (w.heap.size ≤ g4) := ⟨by omega⟩
  rw [← hg4, ← hW1]
  clear hg4 hW1
  have hi32 : (Tryd.prog.info? 29).map (·.size) = some 32 := by kernel_rfl
  have Z6 : Kp ((Tryd.prog.info? 29).map (·.size) = some ([.int .u8 0, .int .u8 0, .int .u8 0, .int .u8 0, .int .u8 0, .int .u8 0, .int .u8 0, .int .u8 0, .int .u8 0, .int .u8 0, .int .u8 0, .int .u8 0, .int .u8 0, .int .u8 0, .int .u8 0, .int .u8 0, .int .u8 0, .int .u8 0, .int .u8 0, .int .u8 0, .int .u8 0, .int .u8 0, .int .u8 0, .int .u8 0, .int .u8 0, .int .u8 0, .int .u8 0, .int .u8 0, .int .u8 0, .int .u8 0, .int .u8 0, .int .u8 0] : List Value).length) := ⟨hi32⟩
  have hMok := hashOk_bytes R HL.out
  clear hi32
  go_wp2_with fail
  refine (CH.out W1).mono ?_
  rintro e W2 ⟨gk, go, rfl, hH, hk, ho, hf⟩
  have HH := Kp.mk hH
  have HF2 := Kp.mk (HF1.out.trans hf (fun _ _ h => h))
  have H42 := Kp.mk (H4.out.fr hf (fun h => h))
  clear hH hk ho hf
  have C1 := Kp.mk (C0.out gk go W2 HF2.out HH.out)
  clear C0 CH HH
  generalize hasherV gk go s = HV at C1 ⊢
  go_wp2_with fail
  refine C1.out.mono ?_
  rintro e' W3 ⟨rfl, hf⟩
  have HF3 := Kp.mk (HF2.out.trans hf (fun _ _ h => h))
  have H43 := Kp.mk (H42.out.fr hf (fun h => h))
  have hrow := rowOk_blk H43.out Z6.out
  clear hf
  go_wp2
  refine bodyPost_ret (results_cell_row rfl _ _ g4 29 _ (0, 0) _ rfl (setRow_heap _ g4 _ _ _ _ (show W3.heap[g4]? = _ from H43.out)) Tryd.underlying29 rfl (by rw [show (bytes R).toArray.size = 32 by simp [bytes, HL.out]]; kernel_rfl)) rfl ?_
  refine ⟨rfl, ?_⟩
  exact HF3.out.trans (S' := fun q => q = g4) ⟨rfl, rfl, rfl, by simp [World.setRow], fun q _ hq => setRow_other _ _ q _ hq⟩ (fun q hq he => by have := HG.out; omega)
theorem own_blk {w : World} {base g n size : Nat} {e : TypeId} {xs : List Value} (h : w.ownsRow base e size (.slice (some ⟨g, 0, none⟩) n n) n xs) : Blk w g e xs ∧ base ≤ g ∧ n ≤ maxLen := by
  rcases h.2 with ⟨h1, _⟩ | ⟨g', cap, cur, h1, hb, hg, hnc, hcl, hsz, htk⟩
  · simp at h1
  · simp only [Value.slice.injEq, Option.some.injEq, Addr.mk.injEq, and_true, true_and] at h1
    obtain ⟨rfl, rfl⟩ := h1
    rw [List.take_of_length_le (by rw [Array.length_toList, hsz]; exact Nat.le_refl _)] at htk
    refine ⟨?_, hb, hcl⟩
    unfold Blk
    rw [hg, ← htk]
theorem hown_of_blk {w : World} {base g n : Nat} {L : List (List Int)} (hL : ∀ x ∈ L, x.length = 32) (hn : n = L.length) (hb : base ≤ g) (hm : n ≤ maxLen) (h : Blk w g 29 (bytes L.flatten)) : HOwn w base (.slice (some ⟨g, 0, none⟩) n n) L := by
  subst hn
  have hf := flat_len hL
  refine ⟨hL, by rw [bytes_length, hf]; omega, .inr ⟨g, L.length, (bytes L.flatten).toArray, rfl, hb, h, Nat.le_refl _, hm, by rw [List.size_toArray, bytes_length, hf]; omega, ?_⟩⟩
  rw [List.take_of_length_le (by rw [bytes_length, hf]; omega)]
set_option maxHeartbeats 4000000 in
set_option maxRecDepth 100000 in
/-- pick: the hashes at these places -/
theorem pick_calls (A : Option Addr) (c : Nat) (L : List (List Int)) (A2 : Option Addr) (c2 : Nat) (P : List Int) (hP : ∀ i, i < P.length → 0 ≤ P.getD i 0 ∧ P.getD i 0 < L.length) (w : World) (hX : HRow w (fun _ => False) A c L) (hI : IRow w (fun _ => False) A2 c2 P) (hb : P.length * 32 ≤ 140737488355328) :
    Calls Tryd.prog 91 #[.slice A L.length c, .slice A2 P.length c2] w fun e w' => ∃ g, w.heap.size ≤ g ∧ e = .returned (.slice (some ⟨g, 0, none⟩) P.length P.length) ∧ HOwn w' w.heap.size (.slice (some ⟨g, 0, none⟩) P.length P.length) (P.map fun p => L.getD p.toNat []) ∧ Fr (fun _ => False) w w' := by
  obtain ⟨i0, z0, hi, hz, hz0, hz1, hz2⟩ := hash_info
  have HX := Kp.mk hX
  have HI := Kp.mk hI
  have HP := Kp.mk hP
  obtain ⟨n, hn⟩ : ∃ n, n = P.length := ⟨_, rfl⟩
  obtain ⟨m, hm⟩ : ∃ m, m = L.length := ⟨_, rfl⟩
  have HN := Kp.mk hn
  have HM := Kp.mk hm
  rw [← hn] at hb ⊢
  rw [← hm]
  obtain ⟨PK, hPK⟩ : ∃ PK, PK = P.map fun p => L.getD p.toNat [] := ⟨_, rfl⟩
  have HPL : Kp (PK.length = n) := ⟨by rw [hPK, List.length_map, HN.out]⟩
  have HP32 : Kp (∀ x ∈ PK, x.length = 32) := ⟨fun x hx => by
    rw [hPK] at hx
    obtain ⟨p, hp, rfl⟩ := List.mem_map.1 hx
    obtain ⟨i, hi, rfl⟩ := List.getElem_of_mem hp
    have h1 := HP.out i hi
    simp only [List.getD, List.getElem?_eq_getElem hi, Option.getD_some] at h1
    have h2 : P[i].toNat < L.length := by omega
    simp only [List.getD, List.getElem?_eq_getElem h2, Option.getD_some]
    exact HX.out.1 _ (List.getElem_mem _)⟩
  have HPI : Kp (∀ i (h : i < n), 0 ≤ P.getD i 0 ∧ P.getD i 0 < L.length ∧ PK.getD i [] = L.getD (P.getD i 0).toNat []) := ⟨fun i h => by
    have hi : i < P.length := by rw [← HN.out]; exact h
    have h1 := HP.out i hi
    refine ⟨h1.1, h1.2, ?_⟩
    rw [hPK]
    simp only [List.getD, List.getElem?_map, List.getElem?_eq_getElem hi, Option.map_some, Option.getD_some]⟩
  rw [← hPK]
  clear hX hI hn hP hm hPK HP
  go_enter Tryd.func91, Tryd.ntmps91
  go_wp2_with (at_make; refine wpList_make_full _ rfl _ _ 41 rfl w.heap.size 29 i0 z0 32 Tryd.underlying41 hi hz hz0 _ _ (n : Int) (n : Int) n rfl rfl rfl rfl (by rw [hz1]; omega) (by unfold maxLen; omega) (by simp) ?_; intro w1 hown hgr; have HO := Kp.mk hown; have HG := Kp.mk hgr; clear hown hgr)
  obtain ⟨HB0, _, hmx⟩ := own_blk HO.out
  have HL1 : Kp ((madeCells z0.cells (n * 32)).toList.length = 32 * n) := ⟨by have h := HO.out.1; rw [h]; omega⟩
  obtain ⟨g, hg⟩ : ∃ g, g = w.heap.size := ⟨_, rfl⟩
  rw [← hg] at HB0 ⊢
  obtain ⟨vs, hvs⟩ : ∃ vs, vs = (madeCells z0.cells (n * 32)).toList := ⟨_, rfl⟩
  rw [← hvs] at HB0 HL1
  have HBV := Kp.mk HB0
  have HMX := Kp.mk hmx
  have HFR := Kp.mk ((Fr.refl (fun _ => False) w).grown HG.out (fun q hq h => by cases h))
  have HGG := Kp.mk hg
  clear HB0 hvs hg hmx HG HO hi hz hz0 hz1 hz2
  go_loopw [13] (fun a wr => ∃ (i : Nat) (rest : List Value), a = .int .i64 i ∧ i ≤ n ∧ Kp (rest.length = 32 * (n - i)) ∧ Kp (Blk wr g 29 (bytes (PK.take i).flatten ++ rest)) ∧ Kp (Fr (fun _ => False) w wr)) (fun a _ => n - (intOf a).toNat)
  case atStart => exact ⟨0, vs, rfl, Nat.zero_le _, ⟨by rw [HL1.out, Nat.sub_zero]⟩, ⟨HBV.out⟩, HFR⟩
  case round =>
    clear HL1 HBV HFR
    obtain ⟨i, rest, rfl, hi, HR, HB, HF⟩ := hrel
    by_cases h : i < n
    · obtain ⟨p0, p1, pe⟩ := HPI.out i h
      obtain ⟨b2, o2, hA2, _, hc⟩ := (HI.out.fr HF.out).at i (by rw [← HN.out]; exact h)
      subst hA2
      obtain ⟨q, hq⟩ : ∃ q : Nat, P.getD i 0 = (q : Int) := ⟨(P.getD i 0).toNat, by omega⟩
      rw [hq] at hc pe p0 p1
      have hqm : q < m := by rw [HM.out]; omega
      have hql : q < L.length := by omega
      obtain ⟨b1, o1, hA1, _, _, _⟩ := HX.out.at q hql
      subst hA1
      obtain ⟨m1, m2⟩ := (HX.out.fr HF.out).mid q hql
      have hx32 : (L[q]'hql).length = 32 := HX.out.1 _ (List.getElem_mem _)
      have hpk : PK.take (i + 1) = PK.take i ++ [L[q]'hql] := by
        rw [List.take_succ_eq_append_getElem (by rw [HPL.out]; exact h)]
        congr 2
        rw [Int.toNat_natCast] at pe
        simp only [List.getD, List.getElem?_eq_getElem hql, Option.getD_some, List.getElem?_eq_getElem (show i < PK.length by rw [HPL.out]; exact h)] at pe
        exact pe
      have HPK := Kp.mk hpk
      generalize L[q]'hql = x at m2 hx32 HPK
      have hk := hashOk_bytes x hx32
      have hlen : (bytes (PK.take i).flatten).length = i * 32 := by
        rw [bytes_length, flat_len (fun y hy => HP32.out y (List.mem_of_mem_take hy)), List.length_take, HPL.out]; omega
      have hmf := midFree_blk (o := i * 32) (n := 32) HB.out (by rw [List.length_append, hlen, HR.out]; omega)
      have HLN := Kp.mk hlen
      have HX32 := Kp.mk hx32
      clear hq p0 p1 pe hql hpk hlen hx32
      go_wp2_with fail
      have hb := HB.out
      rw [show rest = rest.take 32 ++ rest.drop 32 from (List.take_append_drop 32 rest).symm] at hb
      have hb2 := Blk.setCells g _ (rest.drop 32) (bytes x) (bytes (PK.take i).flatten) (rest.take 32) wr (by rw [List.length_take, HR.out, bytes_length, HX32.out]; omega) hb
      rw [HLN.out] at hb2
      refine ⟨⟨i + 1, rest.drop 32, rfl, by omega, ⟨by rw [List.length_drop, HR.out]; omega⟩, ⟨?_⟩, ⟨HF.out.trans (fr_setCells g _ _ wr) (fun q hq he => by have := HGG.out; omega)⟩⟩, ?_⟩
      · rw [HPK.out, List.flatten_append]
        simpa [bytes] using hb2
      · simp only [intOf]
        omega
    · obtain rfl : i = n := by omega
      clear h
      go_wp2_with fail
      go_ret
      refine ⟨g, by rw [HGG.out]; exact Nat.le_refl _, rfl, ?_, HF.out⟩
      have hr : rest = [] := List.eq_nil_of_length_eq_zero (by rw [HR.out]; omega)
      have hb := HB.out
      rw [hr, List.append_nil, List.take_of_length_le (by rw [HPL.out]; exact Nat.le_refl _)] at hb
      exact hown_of_blk HP32.out HPL.out.symm (by rw [HGG.out]; exact Nat.le_refl _) HMX.out hb
end Go.Proofs.YtjcmgpiapbeodaaDoor.Sha
