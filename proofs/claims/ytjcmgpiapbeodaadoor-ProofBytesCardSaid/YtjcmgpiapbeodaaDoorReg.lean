/-
  A list of hashes that somebody holds: one with room of its own, or one that was cut (its capacity is its length); and a tree in memory. What the walks of regions that draw their order stand on: what an operation does, each said once.
-/
import Derived.Test.YtjcmgpiapbeodaaDoorPlaces
import Derived.ArgAppend
import Derived.Test.YtjcmgpiapbeodaaDoorWLast
namespace Go.Proofs.YtjcmgpiapbeodaaDoor.Sha
open Go.RowKit Go.Proofs.YtjcmgpiapbeodaaDoor.Mem Go.Proofs.YtjcmgpiapbeodaaDoorW.PrintWords Go.Proofs.YtjcmgpiapbeodaaDoor.Pl Go.Proofs.YtjcmgpiapbeodaaDoor.Wk
/-- cut: its capacity is its length -/
def HCut (w : World) (base : Nat) (v : Value) (L : List (List Int)) : Prop :=
  (∀ x ∈ L, x.length = 32) ∧ ∃ g cur, v = .slice (some ⟨g, 0, none⟩) L.length L.length ∧ base ≤ g ∧ w.heap[g]? = some (.cells cur 29 (0, 0)) ∧ cur.toList.take (L.length * 32) = bytes L.flatten
theorem reads_of_take {w : World} {g : Nat} {L : List (List Int)} {cur : Array Value} (h1 : ∀ x ∈ L, x.length = 32) (hg : w.heap[g]? = some (.cells cur 29 (0, 0))) (htk : cur.toList.take (L.length * 32) = bytes L.flatten) : Reads w g 0 L.flatten := by
  refine ⟨?_, fun i hi => ?_⟩
  · rcases Nat.lt_or_ge g w.heap.size with h | h
    · exact h
    · rw [Array.getElem?_eq_none h] at hg; cases hg
  · rw [Nat.zero_add]
    have h4 := bytes_get L.flatten i hi
    rw [← htk, List.getElem?_take_of_lt (by rw [flat_len h1] at hi; omega)] at h4
    unfold World.cell?
    simp only [hg, Option.isSome_none, Bool.false_eq_true, if_false]
    rw [← Array.getElem?_toList, h4]
def HLst (w : World) (base : Nat) (v : Value) (L : List (List Int)) : Prop := HOwn w base v L ∨ HCut w base v L
section
variable {w w1 : World} {base : Nat} {v : Value} {L : List (List Int)} {S : Nat → Prop}
theorem HLst.rows (h : HLst w base v L) : ∀ x ∈ L, x.length = 32 := by rcases h with h | h <;> exact h.1
theorem HLst.lt (h : HLst w base v L) : ∀ k, v.ownBlock = some k → k < w.heap.size ∧ base ≤ k := by
  rcases h with h | ⟨h1, g, cur, rfl, hb, hg, htk⟩
  · exact h.lt
  · intro k hk
    obtain rfl : g = k := Option.some.inj hk
    exact ⟨(reads_of_take h1 hg htk).1, hb⟩
theorem HLst.type (h : HLst w base v L) : ∀ k, v.ownBlock = some k → ∃ cur, w.heap[k]? = some (.cells cur 29 (0, 0)) := by
  rcases h with h | ⟨h1, g, cur, rfl, hb, hg, htk⟩
  · intro k hk
    rcases h.2.2 with ⟨rfl, _⟩ | ⟨g, cap, cur, rfl, hb, hg, _⟩
    · cases hk
    · obtain rfl : g = k := Option.some.inj hk
      exact ⟨cur, hg⟩
  · intro k hk
    obtain rfl : g = k := Option.some.inj hk
    exact ⟨cur, hg⟩
theorem HLst.keep (h : HLst w base v L) (hf : Fr S w w1) (hs : ∀ k, v.ownBlock = some k → ¬ S k) : HLst w1 base v L := by
  rcases h with h | ⟨h1, g, cur, rfl, hb, hg, htk⟩
  · exact .inl (h.keep hf hs)
  · exact .inr ⟨h1, g, cur, rfl, hb, (hf.block g (reads_of_take h1 hg htk).1 (hs g rfl)).trans hg, htk⟩
theorem HLst.row (h : HLst w base v L) (S : Nat → Prop) (hs : ∀ k, v.ownBlock = some k → ¬ S k) : ∃ A c, v = .slice A L.length c ∧ HRow w S A c L := by
  rcases h with h | ⟨h1, g, cur, rfl, hb, hg, htk⟩
  · exact h.row S hs
  · exact ⟨_, _, rfl, h1, Nat.le_refl _, .inr (.inr ⟨g, 0, rfl, reads_of_take h1 hg htk, hs g rfl⟩)⟩
theorem HLst.nil (w : World) (base : Nat) : HLst w base (.slice none 0 0) [] := .inl (HOwn.nil w base)
theorem HOwn.low {base' : Nat} (h : HOwn w base v L) (hb : base' ≤ base) : HOwn w base' v L := by
  refine ⟨h.1, h.2.1, ?_⟩
  rcases h.2.2 with h' | ⟨g, cap, cur, hv, hg, hr⟩
  · exact .inl h'
  · exact .inr ⟨g, cap, cur, hv, Nat.le_trans hb hg, hr⟩
theorem HLst.low {base' : Nat} (h : HLst w base v L) (hb : base' ≤ base) : HLst w base' v L := by
  rcases h with h | ⟨h1, g, cur, hv, hg, hr⟩
  · exact .inl (h.low hb)
  · exact .inr ⟨h1, g, cur, hv, Nat.le_trans hb hg, hr⟩
/-- the first n of a list that is held, with no room behind them -/
theorem HLst.cut {A : Option Addr} {c m : Nat} (h : HLst w base (.slice A m c) L) (n : Nat) (hn : n ≤ L.length) : HLst w base (.slice A n n) (L.take n) := by
  have hl : (L.take n).length = n := by rw [List.length_take]; omega
  have cutb : ∀ cur : Array Value, (∀ x ∈ L, x.length = 32) → cur.toList.take (L.length * 32) = bytes L.flatten → cur.toList.take (n * 32) = bytes (L.take n).flatten := fun cur h1 htk => by
    have e := congrArg (List.take (n * 32)) htk
    rw [List.take_take, show min (n * 32) (L.length * 32) = n * 32 by omega] at e
    rw [e, bytes, ← List.map_take, Nat.mul_comm n 32, flat_take n h1]
    rfl
  rcases h with ⟨h1, h2, h3⟩ | ⟨h1, g, cur, hv, hb, hg, htk⟩
  · rcases h3 with ⟨hv, h0⟩ | ⟨g, cap, cur, hv, hb, hg, hnc, hcm, hsz, htk⟩
    · simp only [Value.slice.injEq] at hv
      obtain ⟨rfl, rfl, rfl⟩ := hv
      obtain rfl := List.eq_nil_of_length_eq_zero h0
      obtain rfl : n = 0 := by simpa using hn
      exact .inl (HOwn.nil w base)
    · simp only [Value.slice.injEq] at hv
      obtain ⟨rfl, rfl, rfl⟩ := hv
      exact .inr ⟨fun x hx => h1 x (List.mem_of_mem_take hx), g, cur, by rw [hl], hb, hg, by rw [hl]; exact cutb cur h1 htk⟩
  · simp only [Value.slice.injEq] at hv
    obtain ⟨rfl, _, _⟩ := hv
    exact .inr ⟨fun x hx => h1 x (List.mem_of_mem_take hx), g, cur, by rw [hl], hb, hg, by rw [hl]; exact cutb cur h1 htk⟩
end
theorem run_appendK (w : World) (base : Nat) (v : Value) (L : List (List Int)) (hown : HLst w base v L) (A : Option Addr) (m c : Nat) (M : List (List Int)) (hm : m = M.length) (hM : M ≠ []) {S : Nat → Prop} (hr : HRow w S A c M)
    (hb : (L.length + M.length) * 32 ≤ 140737488355328) (hbase : base ≤ w.heap.size) :
    ∃ v' w', (Builtin.append_ #[41, 41] 41 #[v, .slice A m c]).run Tryd.prog w = .ok v' w' ∧ HOwn w' base v' (L ++ M) ∧ w.grownBy w' v.ownBlock ∧ (v'.ownBlock = v.ownBlock ∨ ∃ k, v'.ownBlock = some k ∧ w.heap.size ≤ k) := by
  rcases hown with hown | ⟨h1, g, cur, rfl, hg, hgc, htk⟩
  · obtain ⟨v', w', a1, a2, a3, a4⟩ := run_appendH w base v L hown A m c M hm hr hb hbase
    exact ⟨v', w', a1, a2, a3, a4.imp id fun h => ⟨_, h, Nat.le_refl _⟩⟩
  · subst hm
    obtain ⟨i0, z0, hi, hz, hz0, hz1, hz2⟩ := hash_info
    have hpos : 0 < M.length := by cases M with | nil => exact absurd rfl hM | cons x r => simp
    rcases hr.2.2 with ⟨_, _, h'⟩ | ⟨h', _⟩ | ⟨b, o, rfl, h2, _⟩
    · exact absurd h' hM
    · exact absurd h' hM
    · have hrd := reads_of_take h1 hgc htk
      have hf := flat_len hr.1
      have hfL := flat_len h1
      have get : ∀ (p : List Int) (B O : Nat), Reads w B O p → ∀ j u, (bytes p)[j]? = some u → w.cell? ((⟨B, O, none⟩ : Addr).add j) = some u := fun p B O hp j u hu => by
        have hj : j < p.length := by
          rcases Nat.lt_or_ge j p.length with h | h
          · exact h
          · rw [List.getElem?_eq_none (by rw [bytes_length]; exact h)] at hu; cases hu
        rw [bytes_get _ j hj] at hu
        rw [Addr.add_lit, hp.2 j hj, ← hu]
      obtain ⟨v', w', e1, e2, e3⟩ := run_append_arg_grows (P := Tryd.prog) w 41 41 29 i0 z0 32 32 Tryd.underlying41 hi hz hz0 hz1 hz2 (by omega)
        ⟨g, 0, none⟩ L.length L.length (bytes L.flatten) (by rw [bytes_length, hfL]; omega) (get _ _ _ hrd) ⟨b, o, none⟩ M.length c (bytes M.flatten) (by rw [bytes_length, hf]; omega) (get _ _ _ h2) (by omega) (by unfold maxLen; omega) (by omega)
      have hH : HOwn w' w.heap.size v' (L ++ M) := by
        refine ⟨fun x hx => ?_, ?_⟩
        · rcases List.mem_append.1 hx with h | h
          · exact h1 x h
          · exact hr.1 x h
        · rw [List.length_append, List.flatten_append]
          simpa [bytes] using e2
      refine ⟨v', w', e1, hH.low hbase, ⟨e3.os, e3.tape, e3.output, e3.size, fun k hk _ => e3.block k hk (by simp)⟩, .inr ?_⟩
      rcases hH.2.2 with ⟨_, h0⟩ | ⟨g', cap, cur, rfl, hb', _⟩
      · rw [List.length_append] at h0; omega
      · exact ⟨g', rfl, hb'⟩
theorem wpList_appendK {ops : Array Oper} {rest : List Oper} {o : Oper} {a : Act} {w : World} {Q : Exit → Act → World → Prop} (hgd : o.guard = none) (s x : Operand)
    (ho : o.op = .call { callee := .builtin .append, args := #[s, x], argTypes := #[41, 41] }) (hty : o.type = 41) (base : Nat) (v : Value) (L : List (List Int)) (hs : a.eval s = v) (hown : HLst w base v L)
    (A : Option Addr) (m c : Nat) (M : List (List Int)) (hm : m = M.length) (hM : M ≠ []) (hx : a.eval x = .slice A m c) {S : Nat → Prop} (hr : HRow w S A c M) (hb : (L.length + M.length) * 32 ≤ 140737488355328) (hbase : base ≤ w.heap.size)
    (h : ∀ v' w', HOwn w' base v' (L ++ M) → w.grownBy w' v.ownBlock → (v'.ownBlock = v.ownBlock ∨ ∃ k, v'.ownBlock = some k ∧ w.heap.size ≤ k) → wpList Tryd.prog ops Q rest (a.put o.dst v') w') :
    wpList Tryd.prog ops Q (o :: rest) a w := by
  obtain ⟨v', w', hr', h2, h3, h4⟩ := run_appendK w base v L hown A m c M hm hM hr hb hbase
  refine wpList_plain hgd fun _ hK => ?_
  unfold Oper.wp execOp
  simp only [ho, resolve, invoke, builtin, Sem.run_bind, Sem.run_pure, Result.andThen_ok, List.map_toArray, List.map_cons, List.map_nil, hs, hx, hty, hr']
  exact hK _ _ (h v' w' h2 h3 h4)
/-- the cells of a tree -/
def treeCells (gk go s : Nat) (v : Value) (n : Nat) : List Value :=
  [.int .i64 (s : Int), .func (.func 69) #[] #[.pointer (some ⟨gk, 0, none⟩)], .func (.func 70) #[] #[.pointer (some ⟨go, 0, none⟩)], .func (.func 71) #[] #[.pointer (some ⟨go, 0, none⟩)], v, .int .i64 (n : Int)]
/-- a tree of strength s with these leaves at block g; F: the blocks that it writes; B: they lie from B on -/
def Tr (w : World) (B g s : Nat) (ls : List (List Int)) (F : Nat → Prop) : Prop :=
  ∃ gk go v, Blk w g 153 (treeCells gk go s v ls.length) ∧ Hs w gk go s ∧ HLst w B v (storedL s ls) ∧ (∀ x ∈ ls, x.length = 32) ∧ ls.length ≤ 65536 ∧
    F g ∧ (∀ k, v.ownBlock = some k → F k ∧ k ≠ g) ∧ (∀ q, F q → B ≤ q) ∧ ¬ F gk ∧ ¬ F go
section
variable {w w1 : World} {B g s : Nat} {ls : List (List Int)} {F S : Nat → Prop}
theorem Tr.keep (h : Tr w B g s ls F) (hf : Fr S w w1) (hs : ∀ q, F q → ¬ S q) (hh : ∀ gk go, Hs w gk go s → ¬ F gk → ¬ F go → ¬ S gk ∧ ¬ S go) : Tr w1 B g s ls F := by
  obtain ⟨gk, go, v, h1, h2, h3, h4, h5, h6, h7, h8, h9, h10⟩ := h
  obtain ⟨k1, k2⟩ := hh gk go h2 h9 h10
  exact ⟨gk, go, v, h1.fr hf (hs g h6), h2.fr hf k1 k2, h3.keep hf (fun k hk => hs k (h7 k hk).1), h4, h5, h6, h7, h8, h9, h10⟩
theorem Tr.low (h : Tr w B g s ls F) {B' : Nat} (hb : B' ≤ B) : Tr w B' g s ls F := by
  obtain ⟨gk, go, v, h1, h2, h3, h4, h5, h6, h7, h8, h9, h10⟩ := h
  exact ⟨gk, go, v, h1, h2, h3.low hb, h4, h5, h6, h7, fun q hq => Nat.le_trans hb (h8 q hq), h9, h10⟩
theorem blk_ne_type {b : Nat} {T T' : TypeId} {vs : List Value} {cur : Array Value} {k : Nat} (h : Blk w b T vs) (hk : w.heap[k]? = some (.cells cur T' (0, 0))) (ht : T ≠ T') : b ≠ k := by
  intro e
  subst e
  unfold Blk at h
  rw [hk] at h
  simp only [Option.some.injEq, Obj.cells.injEq] at h
  exact ht h.2.1.symm
/-- a list that is no part of the tree is written -/
theorem Tr.push {v : Value} {L : List (List Int)} {B2 : Nat} (h : Tr w B g s ls F) (hv : HLst w B2 v L) (hn : ∀ k, v.ownBlock = some k → ¬ F k) (hf : Fr (fun q => v.ownBlock = some q) w w1) : Tr w1 B g s ls F := by
  refine h.keep hf (fun q hq e => hn q e hq) (fun gk go hh _ _ => ⟨fun e => ?_, fun e => ?_⟩)
  · obtain ⟨cur, hc⟩ := hv.type gk e
    exact blk_ne_type hh.k hc (by decide) rfl
  · obtain ⟨cur, hc⟩ := hv.type go e
    exact blk_ne_type hh.o hc (by decide) rfl
end
end Go.Proofs.YtjcmgpiapbeodaaDoor.Sha
namespace Go.Proofs.YtjcmgpiapbeodaaDoor.Sha
open Go.RowKit Go.Proofs.YtjcmgpiapbeodaaDoor.Mem Go.Proofs.YtjcmgpiapbeodaaDoorW.PrintWords Go.Proofs.YtjcmgpiapbeodaaDoorW.PrintLast Go.Proofs.YtjcmgpiapbeodaaDoor.Pl Go.Proofs.YtjcmgpiapbeodaaDoor.Wk
/-- In world w a load of type T through p gives v. -/
def Lds (w : World) (T : TypeId) (p v : Value) : Prop := ∀ (ev : Operand → Value) (o : Oper) (x : Operand), o.op = .load T x → ev x = p → (execOp ev o).run Tryd.prog w = .ok (.value v) w
theorem Lds.run {w : World} {T : TypeId} {p v : Value} (h : Lds w T p v) {ev : Operand → Value} {o : Oper} {x : Operand} (ho : o.op = .load T x) (hx : ev x = p) : (execOp ev o).run Tryd.prog w = .ok (.value v) w := h ev o x ho hx
theorem lds_int {w : World} {a : Addr} {v : Value} (h : w.cell? a = some v) : Lds w 2 (.pointer (some a)) v := by
  intro ev o x ho hx
  unfold execOp
  simp only [ho, hx]
  go_simp
theorem lds_list {w : World} {a : Addr} {v : Value} (h : w.cell? a = some v) : Lds w 41 (.pointer (some a)) v := by
  intro ev o x ho hx
  unfold execOp
  simp only [ho, hx]
  go_simp
theorem lds_node {w : World} {a : Addr} {v : Value} (h : w.cell? a = some v) : Lds w 84 (.pointer (some a)) v := by
  intro ev o x ho hx
  unfold execOp
  simp only [ho, hx]
  go_simp
theorem lds_mid {w : World} {b o : Nat} (hx0 : midOk w 32 (.pointer (some ⟨b, o, none⟩)) = true) : Lds w 29 (.pointer (some ⟨b, o, none⟩)) (.agg (midAt w 32 (.pointer (some ⟨b, o, none⟩)))) := by
  intro ev op x ho hx
  obtain ⟨cs, t, fr, hb, hz⟩ : ∃ cs t fr, w.heap[b]? = some (.cells cs t fr) ∧ o + 32 ≤ cs.size := by
    unfold midOk at hx0
    simp only at hx0
    split at hx0
    · rename_i cs t fr hb
      exact ⟨cs, t, fr, hb, of_decide_eq_true hx0⟩
    · cases hx0
  have hi : (Tryd.prog.info? 29).map (·.size) = some 32 := by kernel_rfl
  have h := run_loadAt_mid (P := Tryd.prog) w b o 29 (cs.extract o (o + 32)).toList _ (World.rangeAt_of_block hb o 32) Tryd.underlying29 rfl (by rw [hi, Array.length_toList, Array.size_extract, show min (o + 32) cs.size - o = 32 by omega])
  have hra : midAt w 32 (.pointer (some ⟨b, o, none⟩)) = cs.extract o (o + 32) := by simp only [midAt, hb]
  unfold execOp
  simp only [ho, hx, Sem.run_bind, h, Result.andThen_ok, Sem.run_pure, Array.toArray_toList, hra]
theorem lds_blk {w : World} {b : Nat} {T : TypeId} {l : List Int} (h : Blk w b T (bytes l)) (hl : l.length = 32) : Lds w 29 (.pointer (some ⟨b, 0, none⟩)) (.agg (bytes l).toArray) := by
  have h1 := midOk_blk (o := 0) (n := 32) h (by rw [bytes_length, hl]; decide)
  have h2 := midAt_blk (o := 0) (n := 32) h
  rw [List.drop_zero, List.take_of_length_le (by rw [bytes_length, hl]; exact Nat.le_refl _)] at h2
  rw [← h2]
  exact lds_mid h1
theorem lds_row {w : World} {S : Nat → Prop} {b o c : Nat} {L : List (List Int)} (h : HRow w S (some ⟨b, o, none⟩) c L) (i : Nat) (hi : i < L.length) : Lds w 29 (.pointer (some ⟨b, o + i * 32, none⟩)) (.agg (bytes L[i]).toArray) := by
  obtain ⟨m1, m2⟩ := h.mid i hi
  rw [← m2]
  exact lds_mid m1
theorem Lds.drew {w : World} {T : TypeId} {p v : Value} (h : Lds w T p v) (hd : Lds w T p v → Lds w.drew T p v) : Lds w.drew T p v := hd h
/-- A store of a hash into a block of its own. -/
theorem st_hash (ev : Operand → Value) (o : Oper) (x y : Operand) (w : World) (b : Nat) (T : TypeId) (vs : List Value) (l : List Int) (ho : o.op = .store 29 x y) (hx : ev x = .pointer (some ⟨b, 0, none⟩)) (hy : ev y = .agg (bytes l).toArray) (hb : Blk w b T vs) (hv : vs.length = 32) (hl : l.length = 32) :
    (execOp ev o).run Tryd.prog w = .ok .skip (w.setRow b (bytes l).toArray) := by
  have hi : (Tryd.prog.info? 29).map (·.size) = some 32 := by kernel_rfl
  have h1 : (bytes l).toArray.all (·.oneCell') = true := by
    rw [Array.all_eq_true_iff_forall_mem]
    intro u hu
    have hu' : u ∈ bytes l := by simpa using hu
    obtain ⟨z, _, rfl⟩ := List.mem_map.1 hu'
    rfl
  have hr := run_storeVar_row (P := Tryd.prog) w b T 29 vs.toArray (bytes l).toArray hb (by rw [hi]; simp [bytes, hl]) (by simp [bytes, hl, hv]) h1
  unfold execOp
  simp only [ho, hx, hy, Instr.storeAt, Instr.sureAddr, Sem.run_bind, Sem.run_pure, Result.andThen_ok, hr]
theorem wpList_storeH {ops : Array Oper} {rest : List Oper} {o : Oper} {a : Act} {w : World} {Q : Exit → Act → World → Prop} (hg : o.guard = none) (hd : o.dst = none) (x y : Operand) (ho : o.op = .store 29 x y) (b : Nat) (T : TypeId) (vs : List Value) (l : List Int)
    (hx : a.eval x = .pointer (some ⟨b, 0, none⟩)) (hy : a.eval y = .agg (bytes l).toArray) (hb : Blk w b T vs) (hv : vs.length = 32) (hl : l.length = 32) (h : wpList Tryd.prog ops Q rest (a.put none undef) (w.setRow b (bytes l).toArray)) : wpList Tryd.prog ops Q (o :: rest) a w := by
  refine wpList_plain hg fun _ hK => ?_
  unfold Oper.wp
  rw [st_hash a.eval o x y w b T vs l ho hx hy hb hv hl]
  show _
  have h1 := hK _ _ h
  rw [← hd] at h1
  exact h1
/-- A store of one cell. -/
theorem st_list (ev : Operand → Value) (o : Oper) (x y : Operand) (w : World) (b i : Nat) (T : TypeId) (vs : List Value) (A : Option Addr) (n c : Nat) (ho : o.op = .store 41 x y) (hx : ev x = .pointer (some ⟨b, i, none⟩)) (hy : ev y = .slice A n c) (hb : Blk w b T vs) (hi : i < vs.length) :
    (execOp ev o).run Tryd.prog w = .ok .skip (w.setCell ⟨b, i, none⟩ (.slice A n c)) := by
  have c1 : w.cell? ⟨b, i, none⟩ = some vs[i] := hb.cell i _ (List.getElem?_eq_getElem hi)
  have f1 : w.frozen? ⟨b, i, none⟩ = false := hb.free i
  unfold execOp
  simp only [ho, hx, hy]
  go_simp
/-- The making of a list of one hash. -/
theorem bs_hash (ev : Operand → Value) (o : Oper) (x : Operand) (w : World) (l : List Int) (ho : o.op = .buildSlice 41 1 #[(0, x)]) (hx : ev x = .agg (bytes l).toArray) (hl : l.length = 32) :
    (execOp ev o).run Tryd.prog w = .ok (.value (.slice (some ⟨w.heap.size, 0, none⟩) 1 1)) (w.alloc (.cells (bytes l).toArray 29)) := by
  have hb := built_row (bytes l) (by rw [bytes_length, hl])
  unfold Program.builtSlice at hb
  cases hie : Tryd.prog.info? 29 with
  | none => simp [hie] at hb
  | some ie =>
    simp only [hie] at hb
    cases hz : ie.zero with
    | none => simp [hz] at hb
    | some z =>
      simp only [hz] at hb
      by_cases hc : 1 * ie.size > 2 ^ 24 ∨ 1 * ie.size = 0
      · rw [if_pos hc] at hb; cases hb
      · rw [if_neg hc] at hb
        have h := run_buildSlice (P := Tryd.prog) w 41 29 1 #[(0, .agg (bytes l).toArray)] _ ie z Tryd.underlying41 hie hz (fun h' => hc (Or.inl h')) (fun h' => hc (Or.inr h')) hb
        unfold execOp
        simp only [ho, List.map_toArray, List.map_cons, List.map_nil, hx, Sem.run_bind, h, Result.andThen_ok, Sem.run_pure]
/-- An append whose run is known. -/
theorem ap_exec {ev : Operand → Value} {o : Oper} {w w' : World} {v v' : Value} {A : Option Addr} {m c : Nat} (hr : (Builtin.append_ #[41, 41] 41 #[v, .slice A m c]).run Tryd.prog w = .ok v' w') (s x : Operand)
    (ho : o.op = .call { callee := .builtin .append, args := #[s, x], argTypes := #[41, 41] }) (hty : o.type = 41) (hs : ev s = v) (hx : ev x = .slice A m c) :
    (execOp ev o).run Tryd.prog w = .ok (.value v') w' := by
  unfold execOp
  simp only [ho, resolve, invoke, builtin, Sem.run_bind, Sem.run_pure, Result.andThen_ok, List.map_toArray, List.map_cons, List.map_nil, hs, hx, hty, hr]
/-- A call through a function value that holds what it has captured. -/
theorem goesC_ {P : Program} {ops : Array Oper} {Q : Exit → Act → World → Prop} {oi : Oper} {N : Option Tmp} {a : Act} {w : World} {K : Act → World → Prop} {f : FuncId} {fn : Func} (c : Operand) {xs : Array Operand} {ts : Array TypeId} (hf : P.funcs[f]? = some fn) (hname : (fn.name == "runtime.NumGoroutine") = false) (hb : fn.body.isSome = true) (cap args : Array Value)
    (hw : Region.wanted oi (yielded ops a.tmps) = true) (hN : oi.dst = N) (hop : oi.op = .call { callee := .value c, args := xs, argTypes := ts }) (hc : a.eval c = .func (.func f) #[] cap) (hargs : xs.map a.eval ++ cap = args)
    (h : Calls P f args w fun e w' => ∃ v, e = .returned v ∧ K (a.put N v) w') : if Region.wanted oi (yielded ops a.tmps) = true then Oper.wp P oi a w K Q else K (a.put N undef) w := by
  refine call_ f args hw hN ?_ h
  have he := enters_ hf hname hb args w
  unfold execOp
  simp [hop, resolve, Deferred.ofValue, invoke, hc, hargs, he]
end Go.Proofs.YtjcmgpiapbeodaaDoor.Sha
