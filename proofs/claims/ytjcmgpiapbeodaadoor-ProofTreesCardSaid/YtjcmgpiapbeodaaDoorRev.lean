/-
  Lists whose elements take any number of cells: what a call owns of them; append, load and store of an element. sized, cut, whole, and the closures with which a way is gone down. Elements of lists, loaded and stored; Reverse at the three kinds of element that a way is told in.
-/
import Derived.Test.YtjcmgpiapbeodaaDoorReg
import Derived.Maps.AppendAt
import Derived.Great.BuildSlice
import Derived.Deep.MidRow
import Derived.Test.YtjcmgpiapbeodaaDoorLen
import Derived.Test.YtjcmgpiapbeodaaDoorTreesP
import Derived.Test.YtjcmgpiapbeodaaDoorPlain
import Derived.Test.YtjcmgpiapbeodaaDoorSzP
set_option linter.unusedSimpArgs false
set_option linter.unusedVariables false
namespace Go.Proofs.YtjcmgpiapbeodaaDoor.Sha
open Go.RowKit Go.Proofs.YtjcmgpiapbeodaaDoor.Mem
/-- T: lists of E; K cells and B bytes each -/
structure El (T E : TypeId) (K B : Nat) : Prop where
  und : Tryd.prog.underlying T = some (.slice E)
  info : ∃ i z, Tryd.prog.info? E = some i ∧ i.zero = some z ∧ i.size = K ∧ i.bytes = B ∧ z.cells.size = K
  pos : 0 < K
def RowsOk (K : Nat) (L : List (List Value)) : Prop := ∀ r ∈ L, r.length = K ∧ ∀ u ∈ r, u.oneCell' = true
theorem rows_len {K : Nat} : ∀ {L : List (List Value)}, RowsOk K L → L.flatten.length = L.length * K
  | [], _ => by simp
  | x :: L, h => by
    rw [List.flatten_cons, List.length_append, (h x (by simp)).1, rows_len (fun y hy => h y (by simp [hy])), List.length_cons, Nat.succ_mul]
    omega
theorem rows_get {K : Nat} : ∀ {L : List (List Value)}, RowsOk K L → ∀ (i j : Nat) (u : Value) (hi : i < L.length), L[i][j]? = some u → L.flatten[i * K + j]? = some u
  | [], _, i, _, _, hi, _ => absurd hi (Nat.not_lt_zero _)
  | x :: L, h, 0, j, u, _, hu => by
    rw [List.flatten_cons, Nat.zero_mul, Nat.zero_add]
    have hu : x[j]? = some u := hu
    have hj : j < x.length := by
      rcases Nat.lt_or_ge j x.length with h' | h'
      · exact h'
      · rw [List.getElem?_eq_none h'] at hu; cases hu
    rw [List.getElem?_append_left hj]
    exact hu
  | x :: L, h, i + 1, j, u, hi, hu => by
    rw [List.flatten_cons, List.getElem?_append_right (by rw [(h x (by simp)).1, Nat.succ_mul]; omega), (h x (by simp)).1, show (i + 1) * K + j - K = i * K + j by rw [Nat.succ_mul]; omega]
    exact rows_get (fun y hy => h y (by simp [hy])) i j u (by simpa using hi) hu
/-- a list that the call owns -/
def ROwn (E : TypeId) (K : Nat) (w : World) (base : Nat) (v : Value) (L : List (List Value)) : Prop := RowsOk K L ∧ w.ownsRow base E K v L.length L.flatten
section
variable {E : TypeId} {K : Nat} {w w1 : World} {base : Nat} {v : Value} {L : List (List Value)} {S : Nat → Prop}
theorem ROwn.nil (E : TypeId) (K : Nat) (w : World) (base : Nat) : ROwn E K w base (.slice none 0 0) [] := And.intro (fun r hr => by cases hr) (World.ownsRow_nil w base E K)
theorem ROwn.lt (h : ROwn E K w base v L) : ∀ k, v.ownBlock = some k → k < w.heap.size ∧ base ≤ k := fun k hk => ⟨(h.2.lt k hk).2, (h.2.lt k hk).1⟩
theorem ROwn.keep (h : ROwn E K w base v L) (hf : Fr S w w1) (hs : ∀ k, v.ownBlock = some k → ¬ S k) : ROwn E K w1 base v L := by
  refine ⟨h.1, h.2.1, ?_⟩
  rcases h.2.2 with h' | ⟨g, cap, cur, rfl, hb, hg, hr⟩
  · exact .inl h'
  · refine .inr ⟨g, cap, cur, rfl, hb, ?_, hr⟩
    have hlt : g < w.heap.size := by
      rcases Nat.lt_or_ge g w.heap.size with h | h
      · exact h
      · rw [Array.getElem?_eq_none h] at hg; cases hg
    exact (hf.block g hlt (hs g rfl)).trans hg
theorem ROwn.low {base' : Nat} (h : ROwn E K w base v L) (hb : base' ≤ base) : ROwn E K w base' v L := by
  refine ⟨h.1, h.2.1, ?_⟩
  rcases h.2.2 with h' | ⟨g, cap, cur, rfl, hg, hr⟩
  · exact .inl h'
  · exact .inr ⟨g, cap, cur, rfl, Nat.le_trans hb hg, hr⟩
theorem ROwn.form (h : ROwn E K w base v L) (hL : 0 < L.length) : ∃ g cap, v = .slice (some ⟨g, 0, none⟩) L.length cap ∧ base ≤ g ∧ L.length ≤ cap := by
  rcases h.2.2 with ⟨_, h0⟩ | ⟨g, cap, cur, rfl, hb, _, hc, _⟩
  · omega
  · exact ⟨g, cap, rfl, hb, hc⟩
theorem ROwn.slice (h : ROwn E K w base v L) : ∃ A cap, v = .slice A L.length cap := by
  rcases h.2.2 with ⟨rfl, h0⟩ | ⟨g, cap, cur, rfl, hb, _, hc, _⟩
  · exact ⟨none, 0, by rw [h0]⟩
  · exact ⟨_, _, rfl⟩
theorem ROwn.type (h : ROwn E K w base v L) : ∀ k, v.ownBlock = some k → ∃ cur, w.heap[k]? = some (.cells cur E (0, 0)) := by
  rcases h.2.2 with ⟨rfl, _⟩ | ⟨g, cap, cur, rfl, hb, hg, _⟩
  · intro k hk; cases hk
  · intro k hk
    obtain rfl : g = k := Option.some.inj hk
    exact ⟨cur, hg⟩
theorem ROwn.cell {g n cap : Nat} (h : ROwn E K w base (.slice (some ⟨g, 0, none⟩) n cap) L) (i j : Nat) (u : Value) (hi : i < L.length) (hu : L[i][j]? = some u) : w.cell? ⟨g, i * K + j, none⟩ = some u := by
  have hn : n = L.length := by
    rcases h.2.2 with ⟨h', _⟩ | ⟨_, _, _, h', _⟩ <;> simp only [Value.slice.injEq, reduceCtorEq, false_and] at h'
    exact h'.2.1
  subst hn
  have hj : j < K := by
    rw [← (h.1 _ (List.getElem_mem hi)).1]
    rcases Nat.lt_or_ge j L[i].length with h' | h'
    · exact h'
    · rw [List.getElem?_eq_none h'] at hu; cases hu
  have hlt : i * K + j < L.length * K := by
    have : (i + 1) * K ≤ L.length * K := Nat.mul_le_mul_right _ hi
    rw [Nat.succ_mul] at this
    omega
  rw [h.2.cellAt (i * K + j) hlt]
  exact rows_get h.1 i j u hi hu
theorem ROwn.there {g n cap : Nat} (h : ROwn E K w base (.slice (some ⟨g, 0, none⟩) n cap) L) (i : Nat) (hi : i < L.length) : w.there g (i * K) K := by
  have hr := (h.1 _ (List.getElem_mem hi)).1
  intro j hj
  have hu : L[i][j]? = some (L[i][j]'(by omega)) := List.getElem?_eq_getElem (by omega)
  refine ⟨by rw [h.cell i j _ hi hu]; rfl, ?_⟩
  rcases h.2.2 with ⟨h', _⟩ | ⟨g', cap', cur, h', _, hg, _⟩
  · simp at h'
  · simp only [Value.slice.injEq, Option.some.injEq, Addr.mk.injEq, and_true] at h'
    obtain ⟨rfl, _, _⟩ := h'
    simp [World.frozen?, hg]
theorem flatten_set {K : Nat} : ∀ {L : List (List Value)}, RowsOk K L → ∀ (i : Nat) (r : List Value), i < L.length → r.length = K → (L.set i r).flatten = L.flatten.take (i * K) ++ (r ++ L.flatten.drop ((i + 1) * K))
  | [], _, i, _, hi, _ => absurd hi (Nat.not_lt_zero _)
  | x :: L, h, 0, r, _, hr => by
    have hx := (h x (by simp)).1
    rw [List.set_cons_zero, List.flatten_cons, List.flatten_cons, Nat.zero_mul, List.take_zero, List.nil_append, Nat.zero_add, Nat.one_mul, List.drop_append, List.drop_of_length_le (by omega), List.nil_append, hx, Nat.sub_self, List.drop_zero]
  | x :: L, h, i + 1, r, hi, hr => by
    have hx := (h x (by simp)).1
    have e1 : (i + 1) * K = K + i * K := by rw [Nat.succ_mul]; omega
    have e2 : (i + 1 + 1) * K = K + (i + 1) * K := by rw [Nat.succ_mul]; omega
    rw [List.set_cons_succ, List.flatten_cons, List.flatten_cons, flatten_set (fun y hy => h y (by simp [hy])) i r (by simpa using hi) hr, e1, e2, List.take_append, List.drop_append, List.take_of_length_le (l := x) (by omega), List.drop_of_length_le (l := x) (by omega), hx, show K + i * K - K = i * K by omega, show K + (i + 1) * K - K = (i + 1) * K by omega, List.nil_append, List.append_assoc, e1]
theorem ROwn.set {g n cap : Nat} (h : ROwn E K w base (.slice (some ⟨g, 0, none⟩) n cap) L) (i : Nat) (hi : i < L.length) (r : List Value) (hr : r.length = K ∧ ∀ u ∈ r, u.oneCell' = true) : ROwn E K (w.setCells g (i * K) r) base (.slice (some ⟨g, 0, none⟩) n cap) (L.set i r) := by
  rcases h.2.2 with ⟨h', _⟩ | ⟨g', cap', cur, h', hb, hg, hnc, hcm, hsz, htk⟩
  · simp at h'
  · simp only [Value.slice.injEq, Option.some.injEq, Addr.mk.injEq, and_true] at h'
    obtain ⟨rfl, hn, rfl⟩ := h'
    have hl := rows_len h.1
    have hiK : (i + 1) * K ≤ L.length * K := Nat.mul_le_mul_right _ hi
    rw [Nat.succ_mul] at hiK
    have hcl : L.length * K ≤ cap * K := Nat.mul_le_mul_right _ hnc
    have hcur : cur.toList = cur.toList.take (i * K) ++ ((cur.toList.drop (i * K)).take K ++ cur.toList.drop ((i + 1) * K)) := by
      rw [show (i + 1) * K = i * K + K by rw [Nat.succ_mul], ← List.drop_drop, List.take_append_drop, List.take_append_drop]
    have hb0 : Blk w g E (cur.toList.take (i * K) ++ ((cur.toList.drop (i * K)).take K ++ cur.toList.drop ((i + 1) * K))) := by
      unfold Blk
      rw [← hcur]
      exact hg
    have hlen : (cur.toList.take (i * K)).length = i * K := by rw [List.length_take, Array.length_toList]; omega
    have h2 := Blk.setCells g E (cur.toList.drop ((i + 1) * K)) r (cur.toList.take (i * K)) ((cur.toList.drop (i * K)).take K) w (by rw [hr.1, List.length_take, List.length_drop, Array.length_toList]; omega) hb0
    rw [hlen] at h2
    refine ⟨fun x hx => ?_, ?_, .inr ⟨g, cap, _, by rw [List.length_set, hn], hb, h2, by rw [List.length_set]; exact hnc, hcm, ?_, ?_⟩⟩
    · rcases List.mem_or_eq_of_mem_set hx with hx | rfl
      · exact h.1 x hx
      · exact hr
    · rw [rows_len (K := K) (fun x hx => ?_)]
      rcases List.mem_or_eq_of_mem_set hx with hx | rfl
      · exact h.1 x hx
      · exact hr
    · simp only [List.size_toArray, List.length_append, hlen, hr.1, List.length_drop, Array.length_toList]
      rw [Nat.succ_mul]
      omega
    · rw [flatten_set h.1 i r hi hr.1, ← htk, List.length_set]
      simp only [List.take_take, List.take_append, hlen, hr.1, List.take_drop]
      rw [show min (i * K) (L.length * K) = i * K by omega, show min (L.length * K) (i * K) = i * K by omega, List.take_of_length_le (l := r) (by omega)]
      congr 2
      rw [Nat.succ_mul]
      congr 2
      omega
end
/-- append of rows that are read -/
theorem run_appendR {T E : TypeId} {K B : Nat} (ok : El T E K B) (w : World) (base : Nat) (v : Value) (L : List (List Value)) (hown : ROwn E K w base v L) (b o c : Nat) (M : List (List Value)) (hM : RowsOk K M)
    (hrd : ∀ j u, M.flatten[j]? = some u → w.cell? ⟨b, o + j, none⟩ = some u) (hb : (L.length + M.length) * B ≤ 140737488355328) (hm : L.length + M.length ≤ 140737488355328) (hbase : base ≤ w.heap.size) :
    ∃ v' w', (Builtin.append_ #[T, T] T #[v, .slice (some ⟨b, o, none⟩) M.length c]).run Tryd.prog w = .ok v' w' ∧ ROwn E K w' base v' (L ++ M) ∧ w.grownBy w' v.ownBlock ∧ (v'.ownBlock = v.ownBlock ∨ v'.ownBlock = some w.heap.size) := by
  obtain ⟨i0, z0, hi, hz, hz0, hz1, hz2⟩ := ok.info
  obtain ⟨v', w', h1, h2, h3, _, h5⟩ := run_append_own_at (P := Tryd.prog) w base T T E i0 z0 K B ok.und hi hz hz0 hz1 hz2 ok.pos v L.length L.flatten hown.2
    ⟨b, o, none⟩ M.length c M.flatten (rows_len hM) (fun j u hu => by rw [Addr.add_lit]; exact hrd j u hu) (fun u hu => by
      obtain ⟨r, hr, hu⟩ := List.mem_flatten.1 hu
      exact (hM r hr).2 u hu) (by unfold maxLen; omega) hb hbase
  refine ⟨v', w', h1, ⟨fun x hx => ?_, ?_⟩, h3, h5⟩
  · rcases List.mem_append.1 hx with h | h
    · exact hown.1 x h
    · exact hM x h
  · rw [List.length_append, List.flatten_append]
    exact h2
/-- append of one row that has just been laid into a block of its own -/
theorem run_appendR1 {T E : TypeId} {K B : Nat} (ok : El T E K B) (w : World) (base : Nat) (v : Value) (L : List (List Value)) (hown : ROwn E K w base v L) (r : List Value) (hr : r.length = K ∧ ∀ u ∈ r, u.oneCell' = true)
    (hb : (L.length + 1) * B ≤ 140737488355328) (hm : L.length + 1 ≤ 140737488355328) (hbase : base ≤ w.heap.size) :
    ∃ v' w', (Builtin.append_ #[T, T] T #[v, .slice (some ⟨w.heap.size, 0, none⟩) 1 1]).run Tryd.prog (w.alloc (.cells r.toArray E)) = .ok v' w' ∧ ROwn E K w' base v' (L ++ [r]) ∧ Fr (fun q => v.ownBlock = some q) w w' ∧ (v'.ownBlock = v.ownBlock ∨ ∃ k, v'.ownBlock = some k ∧ w.heap.size ≤ k) := by
  have hfa : Fr (fun _ => False) w (w.alloc (.cells r.toArray E)) := (Fr.refl _ w).alloc _
  have hnew : Blk (w.alloc (.cells r.toArray E)) w.heap.size E r := Blk.new w r.toArray E
  obtain ⟨v', w', h1, h2, h3, h4⟩ := run_appendR ok (w.alloc (.cells r.toArray E)) base v L (hown.keep hfa (fun _ _ h => h)) w.heap.size 0 1 [r] (fun x hx => by rw [List.mem_singleton.1 hx]; exact hr)
    (fun j u hu => by
      rw [List.flatten_cons, List.flatten_nil, List.append_nil] at hu
      rw [Nat.zero_add]
      exact hnew.cell j u hu) hb hm (by simp; omega)
  refine ⟨v', w', h1, h2, ?_, ?_⟩
  · exact ((Fr.refl (fun q => v.ownBlock = some q) w).alloc _).grown h3 (fun q _ h => h)
  · rcases h4 with h4 | h4
    · exact .inl h4
    · exact .inr ⟨_, h4, by simp⟩
theorem wpList_appendR1 {ops : Array Oper} {rest : List Oper} {o : Oper} {a : Act} {w : World} {Q : Exit → Act → World → Prop} {T E : TypeId} {K B : Nat} (ok : El T E K B) (hgd : o.guard = none) (s x : Operand)
    (ho : o.op = .call { callee := .builtin .append, args := #[s, x], argTypes := #[T, T] }) (hty : o.type = T) (base : Nat) (v : Value) (L : List (List Value)) (hs : a.eval s = v) (hown : ROwn E K w base v L) (r : List Value) (hr : r.length = K ∧ ∀ u ∈ r, u.oneCell' = true)
    (hx : a.eval x = .slice (some ⟨w.heap.size, 0, none⟩) 1 1) (hb : (L.length + 1) * B ≤ 140737488355328) (hm : L.length + 1 ≤ 140737488355328) (hbase : base ≤ w.heap.size)
    (h : ∀ v' w', ROwn E K w' base v' (L ++ [r]) → Fr (fun q => v.ownBlock = some q) w w' → (v'.ownBlock = v.ownBlock ∨ ∃ k, v'.ownBlock = some k ∧ w.heap.size ≤ k) → wpList Tryd.prog ops Q rest (a.put o.dst v') w') :
    wpList Tryd.prog ops Q (o :: rest) a (w.alloc (.cells r.toArray E)) := by
  obtain ⟨v', w', hr', h2, h3, h4⟩ := run_appendR1 ok w base v L hown r hr hb hm hbase
  refine wpList_plain hgd fun _ hK => ?_
  unfold Oper.wp execOp
  simp only [ho, resolve, invoke, builtin, Sem.run_bind, Sem.run_pure, Result.andThen_ok, List.map_toArray, List.map_cons, List.map_nil, hs, hx, hty, hr']
  exact hK _ _ (h v' w' h2 h3 h4)
end Go.Proofs.YtjcmgpiapbeodaaDoor.Sha
namespace Go.Proofs.YtjcmgpiapbeodaaDoor.Sha
open Go.Proofs.YtjcmgpiapbeodaaDoor.Pf Go.Proofs.YtjcmgpiapbeodaaDoor.Len Go.Proofs.YtjcmgpiapbeodaaDoor.PProofTakes
open Go.RowKit Go.Proofs.YtjcmgpiapbeodaaDoor.Mem Go.Proofs.YtjcmgpiapbeodaaDoorW.PrintWords Go.Proofs.YtjcmgpiapbeodaaDoorW.PrintLast Go.Proofs.YtjcmgpiapbeodaaDoor.Pl Go.Proofs.YtjcmgpiapbeodaaDoor.Wk
attribute [local go_sem ↓] Go.wp_at_zero Go.wp_at_succ wp_load_hash wp_store_hash wp_load_mid23 wp_load_mid25 wp_store_mid25 wp_build_hash
attribute [local go_sem] rowAt_drew rowOk_drew midOk_drew midAt_drew rowBlock rowCells rowOff midFree_drew
theorem sized_yes (n : Nat) (h1 : 1 ≤ n) (h2 : n ≤ 281474976710656) (w : World) : Calls Tryd.prog 43 #[.int .i64 (n : Int)] w fun e w' => e = .returned (.bool true) ∧ Fr (fun _ => False) w w' :=
  (proof_sized.calls (n : Int) true w (by unfold proof_sized.f; rw [if_pos (by omega), decide_eq_true (by omega)])).mono fun _ _ h => ⟨h.1, fr_drawn h.2⟩
theorem sized_no (n : Int) (h : n < 1 ∨ 281474976710656 < n) (w : World) : Calls Tryd.prog 43 #[.int .i64 n] w fun e w' => e = .returned (.bool false) ∧ Fr (fun _ => False) w w' :=
  (proof_sized.calls n false w (by
    unfold proof_sized.f
    by_cases h1 : n ≥ 1
    · rw [if_pos h1, decide_eq_false (by omega)]
    · rw [if_neg h1])).mono fun _ _ h => ⟨h.1, fr_drawn h.2⟩
set_option maxHeartbeats 4000000 in
set_option maxRecDepth 100000 in
/-- cut -/
theorem cut_calls (a b : Nat) (h : a + 2 ≤ b) (hb : b ≤ 281474976710656) (w : World) : Calls Tryd.prog 49 #[.agg #[.int .i64 (a : Int), .int .i64 (b : Int)]] w fun e w' => e = .returned (.int .i64 ((cut a b : Nat) : Int)) ∧ Fr (fun _ => False) w w' := by
  have e6 : IntKind.i64.wrap ((b : Int) - (a : Int)) = ((b - a : Nat) : Int) := by rw [IntWalk.i64_in _ (by omega)]; omega
  have e7 : IntKind.i64.wrap (((b - a : Nat) : Int) - 1) = ((b - a - 1 : Nat) : Int) := by rw [IntWalk.i64_in _ (by omega)]; omega
  have e8 : IntKind.u64.wrap ((b - a - 1 : Nat) : Int) = ((b - a - 1 : Nat) : Int) := wrapu_nat _ (by omega)
  have hL : (b - a - 1).log2 < 48 := (Nat.log2_lt (by omega)).2 (by omega)
  have hp : 2 ^ (b - a - 1).log2 ≤ b - a - 1 := Nat.log2_self_le (by omega)
  have e10 : IntKind.i64.wrap ((b - a - 1).log2 : Int) = ((b - a - 1).log2 : Int) := IntWalk.i64_in _ (by omega)
  have e12 : IntKind.i64.wrap ((a : Int) + ((2 ^ (b - a - 1).log2 : Nat) : Int)) = ((cut a b : Nat) : Int) := by 
    unfold cut
    generalize 2 ^ (b - a - 1).log2 = p at hp ⊢
    rw [IntWalk.i64_in _ (by omega)]
    omega
  have C1 := Kp.mk (fun W => len64_calls (b - a - 1) (by omega) (by omega) W)
  generalize hgL : (b - a - 1).log2 = L at *
  generalize hgd : b - a - 1 = d at *
  generalize hgs : b - a = s at *
  generalize hgc : cut a b = c at *
  generalize hgp : 2 ^ L = p at *
  have e11 : IntKind.i64.wrap (1 * 2 ^ L) = (p : Int) := by
    have : (1 : Int) * 2 ^ L = ((2 ^ L : Nat) : Int) := by rw [Int.one_mul, Int.natCast_pow]; rfl
    rw [this, hgp, IntWalk.i64_in _ (by omega)]
  have e11b : IntKind.i64.wrap (2 ^ L) = (p : Int) := by rw [Int.one_mul] at e11; exact e11
  clear hgL hgd hgs hgc hgp hp h
  go_enter Tryd.func49, Tryd.ntmps49
  go_upto_region 1 with (fail)
  obtain ⟨g1, hg1⟩ : ∃ g1, g1 = w.heap.size := ⟨_, rfl⟩
  obtain ⟨W1, hW1⟩ : ∃ W1, W1 = w.alloc (.cells #[.int .i64 (a : Int), .int .i64 (b : Int)] 91) := ⟨_, rfl⟩
  have H1 : Kp (Blk W1 g1 91 [.int .i64 (a : Int), .int .i64 (b : Int)]) := ⟨by rw [hW1, hg1]; exact Blk.new w _ _⟩
  have HF1 : Kp (Fr (fun _ => False) w W1) := ⟨by rw [hW1]; exact (Fr.refl _ w).alloc _⟩
  rw [← hg1, ← hW1]
  clear hg1 hW1
  refine start_ (n := 14) (S := fun w' => Lds w' 2 (.pointer (some ⟨g1, 0, none⟩)) (.int .i64 (a : Int)) ∧ Lds w' 2 (.pointer (some ⟨g1, 1, none⟩)) (.int .i64 (b : Int))) (ds := []) #[false, false, false, false, false, false, false, false, false, false, false, false, false, false] (by kernel_rfl) rfl rfl ⟨lds_int (H1.out.cell 0 _ rfl), lds_int (H1.out.cell 1 _ rfl)⟩ (fun hHeld => ?_)
  refine pure_ (i := 0) (N := some 3) (v := ?_) (a' := ?_) #[true, false, false, false, false, false, false, false, false, false, false, false, false, false] rfl rfl (by kernel_rfl) (fun _ _ _ h => h) (Or.inl ⟨by rfl, ?_⟩) ?_ ?_
  rotate_left
  · intro w'
    go_simp
    with_reducible rfl
  rotate_left
  · simp only [Act.put, List.setIfInBounds_toArray, List.set_cons_zero, List.set_cons_succ]
    rfl
  refine pure_ (i := 2) (N := some 5) (v := ?_) (a' := ?_) #[true, false, true, false, false, false, false, false, false, false, false, false, false, false] rfl rfl (by kernel_rfl) (fun _ _ _ h => h) (Or.inl ⟨by rfl, ?_⟩) ?_ ?_
  rotate_left
  · intro w'
    go_simp
    with_reducible rfl
  rotate_left
  · simp only [Act.put, List.setIfInBounds_toArray, List.set_cons_zero, List.set_cons_succ]
    rfl
  refine pure_ (i := 4) (N := some 7) (v := ?_) (a' := ?_) #[true, false, true, false, true, false, false, false, false, false, false, false, false, false] rfl rfl (by kernel_rfl) (fun _ _ _ h => h) (Or.inl ⟨by rfl, ?_⟩) ?_ ?_
  rotate_left
  · intro w'
    go_simp
    with_reducible rfl
  rotate_left
  · simp only [Act.put, List.setIfInBounds_toArray, List.set_cons_zero, List.set_cons_succ]
    rfl
  refine take_ (i := 1) (N := some 4) (v := ?_) (a' := ?_) #[true, true, true, false, true, false, false, false, false, false, false, false, false, false] rfl rfl (by kernel_rfl) (fun _ _ _ h => h) (Or.inl ⟨by rfl, ?_⟩) hHeld ?_ ?_
  rotate_left
  · rintro w' ⟨s0, s1⟩
    refine Lds.run s0 (x := ?_) ?_ ?_
    · exact (Operand.tmp 3)
    · rfl
    · rfl
  rotate_left
  · simp only [Act.put, List.setIfInBounds_toArray, List.set_cons_zero, List.set_cons_succ]
    rfl
  refine take_ (i := 3) (N := some 6) (v := ?_) (a' := ?_) #[true, true, true, true, true, false, false, false, false, false, false, false, false, false] rfl rfl (by kernel_rfl) (fun _ _ _ h => h) (Or.inl ⟨by rfl, ?_⟩) hHeld ?_ ?_
  rotate_left
  · rintro w' ⟨s0, s1⟩
    refine Lds.run s1 (x := ?_) ?_ ?_
    · exact (Operand.tmp 5)
    · rfl
    · rfl
  rotate_left
  · simp only [Act.put, List.setIfInBounds_toArray, List.set_cons_zero, List.set_cons_succ]
    rfl
  refine take_ (i := 5) (N := some 8) (v := ?_) (a' := ?_) #[true, true, true, true, true, true, false, false, false, false, false, false, false, false] rfl rfl (by kernel_rfl) (fun _ _ _ h => h) (Or.inl ⟨by rfl, ?_⟩) hHeld ?_ ?_
  rotate_left
  · rintro w' ⟨s0, s1⟩
    refine Lds.run s0 (x := ?_) ?_ ?_
    · exact (Operand.tmp 7)
    · rfl
    · rfl
  rotate_left
  · simp only [Act.put, List.setIfInBounds_toArray, List.set_cons_zero, List.set_cons_succ]
    rfl
  refine pure_ (i := 6) (N := some 9) (v := ?_) (a' := ?_) #[true, true, true, true, true, true, true, false, false, false, false, false, false, false] rfl rfl (by kernel_rfl) (fun _ _ _ h => h) (Or.inl ⟨by rfl, ?_⟩) ?_ ?_
  rotate_left
  · intro w'
    go_simp
    with_reducible rfl
  rotate_left
  · simp only [Act.put, List.setIfInBounds_toArray, List.set_cons_zero, List.set_cons_succ]
    rfl
  refine pure_ (i := 7) (N := some 10) (v := ?_) (a' := ?_) #[true, true, true, true, true, true, true, true, false, false, false, false, false, false] rfl rfl (by kernel_rfl) (fun _ _ _ h => h) (Or.inl ⟨by rfl, ?_⟩) ?_ ?_
  rotate_left
  · intro w'
    go_simp
    with_reducible rfl
  rotate_left
  · simp only [Act.put, List.setIfInBounds_toArray, List.set_cons_zero, List.set_cons_succ]
    rfl
  refine pure_ (i := 8) (N := some 11) (v := ?_) (a' := ?_) #[true, true, true, true, true, true, true, true, true, false, false, false, false, false] rfl rfl (by kernel_rfl) (fun _ _ _ h => h) (Or.inl ⟨by rfl, ?_⟩) ?_ ?_
  rotate_left
  · intro w'
    go_simp
    with_reducible rfl
  rotate_left
  · simp only [Act.put, List.setIfInBounds_toArray, List.set_cons_zero, List.set_cons_succ]
    rfl
  refine one_ (i := 9) (N := some 12) #[true, true, true, true, true, true, true, true, true, true, false, false, false, false] rfl rfl (by kernel_rfl) (by decide) (fun K hK => ?_)
  refine goes_ Tryd.func76 (by kernel_rfl) rfl #[.int .u64 (d : Int)] (by rfl) rfl rfl (by simp only [List.map_toArray, List.map_cons, List.map_nil]; rfl) ?_
  with_reducible refine (C1.out _).mono ?_
  rintro e a1 ⟨rfl, rfl⟩
  refine ⟨_, rfl, ?_⟩
  refine hK.out _ _ ⟨lds_int (H1.out.cell 0 _ rfl), lds_int (H1.out.cell 1 _ rfl)⟩ (fun hHeld => ?_)
  clear hK K
  refine norm_ (a' := ?_) ?_ ?_
  rotate_left
  · show Act.put _ (some 12) _ = _
    simp only [Act.put, List.setIfInBounds_toArray, List.set_cons_zero, List.set_cons_succ]
    rfl
  refine pure_ (i := 10) (N := some 13) (v := ?_) (a' := ?_) #[true, true, true, true, true, true, true, true, true, true, true, false, false, false] rfl rfl (by kernel_rfl) (fun _ _ _ h => h) (Or.inl ⟨by rfl, ?_⟩) ?_ ?_
  rotate_left
  · intro w'
    go_simp
    with_reducible rfl
  rotate_left
  · simp only [Act.put, List.setIfInBounds_toArray, List.set_cons_zero, List.set_cons_succ, e10]
    rfl
  refine pure_ (i := 11) (N := some 14) (v := ?_) (a' := ?_) #[true, true, true, true, true, true, true, true, true, true, true, true, false, false] rfl rfl (by kernel_rfl) (fun _ _ _ h => h) (Or.inl ⟨by rfl, ?_⟩) ?_ ?_
  rotate_left
  · intro w'
    go_simp
    with_reducible rfl
  rotate_left
  · simp only [Act.put, List.setIfInBounds_toArray, List.set_cons_zero, List.set_cons_succ]
    rfl
  refine pure_ (i := 12) (N := some 15) (v := ?_) (a' := ?_) #[true, true, true, true, true, true, true, true, true, true, true, true, true, false] rfl rfl (by kernel_rfl) (fun _ _ _ h => h) (Or.inl ⟨by rfl, ?_⟩) ?_ ?_
  rotate_left
  · intro w'
    go_simp
    with_reducible rfl
  rotate_left
  · simp only [Act.put, List.setIfInBounds_toArray, List.set_cons_zero, List.set_cons_succ]
    rfl
  refine pure_ (i := 13) (N := some 2) (v := ?_) (a' := ?_) #[true, true, true, true, true, true, true, true, true, true, true, true, true, true] rfl rfl (by kernel_rfl) (fun _ _ _ h => h) (Or.inl ⟨by rfl, ?_⟩) ?_ ?_
  rotate_left
  · intro w'
    go_simp
    with_reducible rfl
  rotate_left
  · simp only [Act.put, List.setIfInBounds_toArray, List.set_cons_zero, List.set_cons_succ]
    rfl
  refine done_ (by kernel_rfl) ?_
  go_wp2_with (fail)
  go_ret
  exact ⟨rfl, HF1.out.drew⟩
set_option maxHeartbeats 4000000 in
set_option maxRecDepth 100000 in
theorem wend_step_yes (a b : Nat) (h : b = a + 1) (hb : b ≤ 281474976710656) (w : World) : Calls Tryd.prog 77 #[.agg #[.int .i64 (a : Int), .int .i64 (b : Int)]] w fun e w' => e = .returned (.bool true) ∧ Fr (fun _ => False) w w' := by
  subst h
  go_enter Tryd.func77, Tryd.ntmps77
  go_upto_region 1 with (fail)
  have HF := Kp.mk ((Fr.refl (fun _ => False) w).alloc (.cells #[.int .i64 (a : Int), .int .i64 ((a + 1 : Nat) : Int)] 91))
  go_wp2_with (fail)
  go_ret
  exact ⟨by rw [show ((a : Int) + 1 - (a : Int) == 1) = true from by rw [beq_iff_eq]; omega]; rfl, HF.out⟩
set_option maxHeartbeats 4000000 in
set_option maxRecDepth 100000 in
theorem wend_step_no (a b : Nat) (h : a + 2 ≤ b) (hb : b ≤ 281474976710656) (w : World) : Calls Tryd.prog 77 #[.agg #[.int .i64 (a : Int), .int .i64 (b : Int)]] w fun e w' => e = .returned (.bool false) ∧ Fr (fun _ => False) w w' := by
  go_enter Tryd.func77, Tryd.ntmps77
  go_upto_region 1 with (fail)
  have HF := Kp.mk ((Fr.refl (fun _ => False) w).alloc (.cells #[.int .i64 (a : Int), .int .i64 (b : Int)] 91))
  go_wp2_with (fail)
  go_ret
  exact ⟨by rw [show ((b : Int) - (a : Int) == 1) = false from by rw [beq_eq_false_iff_ne]; omega]; rfl, HF.out⟩
set_option maxHeartbeats 4000000 in
set_option maxRecDepth 100000 in
theorem wleft_step_yes (i c gi : Nat) (h : i < c) (w : World) (hI : Blk w gi 2 [.int .i64 (i : Int)]) : Calls Tryd.prog 78 #[.int .i64 (c : Int), .pointer (some ⟨gi, 0, none⟩)] w fun e w' => e = .returned (.bool true) ∧ Fr (fun _ => False) w w' := by
  have hd : decide (i < c) = true := by simp; omega
  have hc := hI.cell 0 _ rfl
  clear hI h
  go_enter Tryd.func78, Tryd.ntmps78
  go_wp2_with (fail)
  go_ret
  exact ⟨rfl, Fr.refl _ _⟩
set_option maxHeartbeats 4000000 in
set_option maxRecDepth 100000 in
theorem wleft_step_no (i c gi : Nat) (h : c ≤ i) (w : World) (hI : Blk w gi 2 [.int .i64 (i : Int)]) : Calls Tryd.prog 78 #[.int .i64 (c : Int), .pointer (some ⟨gi, 0, none⟩)] w fun e w' => e = .returned (.bool false) ∧ Fr (fun _ => False) w w' := by
  have hd : decide (i < c) = false := by simp; omega
  have hc := hI.cell 0 _ rfl
  clear hI h
  go_enter Tryd.func78, Tryd.ntmps78
  go_wp2_with (fail)
  go_ret
  exact ⟨rfl, Fr.refl _ _⟩
set_option maxHeartbeats 4000000 in
set_option maxRecDepth 100000 in
theorem fend_step_yes (a b m gm : Nat) (h : b = m) (w : World) (hI : Blk w gm 2 [.int .i64 (m : Int)]) : Calls Tryd.prog 73 #[.agg #[.int .i64 (a : Int), .int .i64 (b : Int)], .pointer (some ⟨gm, 0, none⟩)] w fun e w' => e = .returned (.bool true) ∧ Fr (fun _ => False) w w' := by
  go_enter Tryd.func73, Tryd.ntmps73
  go_upto_region 1 with (fail)
  have HF := Kp.mk ((Fr.refl (fun _ => False) w).alloc (.cells #[.int .i64 (a : Int), .int .i64 (b : Int)] 91))
  have hc := (hI.fr HF.out (fun h => h)).cell 0 _ rfl
  subst h
  clear hI
  go_wp2_with (fail)
  go_ret
  exact ⟨by first | rfl | (simp; rfl), HF.out⟩
set_option maxHeartbeats 4000000 in
set_option maxRecDepth 100000 in
theorem fend_step_no (a b m gm : Nat) (h : b ≠ m) (w : World) (hI : Blk w gm 2 [.int .i64 (m : Int)]) : Calls Tryd.prog 73 #[.agg #[.int .i64 (a : Int), .int .i64 (b : Int)], .pointer (some ⟨gm, 0, none⟩)] w fun e w' => e = .returned (.bool false) ∧ Fr (fun _ => False) w w' := by
  go_enter Tryd.func73, Tryd.ntmps73
  go_upto_region 1 with (fail)
  have HF := Kp.mk ((Fr.refl (fun _ => False) w).alloc (.cells #[.int .i64 (a : Int), .int .i64 (b : Int)] 91))
  have hc := (hI.fr HF.out (fun h => h)).cell 0 _ rfl
  have hd : ((b : Int) == (m : Int)) = false := by rw [beq_eq_false_iff_ne]; omega
  clear hI h
  go_wp2_with (fail)
  go_ret
  exact ⟨by first | rfl | (simp; rfl), HF.out⟩
set_option maxHeartbeats 4000000 in
set_option maxRecDepth 100000 in
theorem fleft_step_yes (m c gm : Nat) (h : m ≤ c) (w : World) (hI : Blk w gm 2 [.int .i64 (m : Int)]) : Calls Tryd.prog 74 #[.int .i64 (c : Int), .pointer (some ⟨gm, 0, none⟩)] w fun e w' => e = .returned (.bool true) ∧ Fr (fun _ => False) w w' := by
  have hd : decide (m ≤ c) = true := by simp; omega
  have hc := hI.cell 0 _ rfl
  clear hI h
  go_enter Tryd.func74, Tryd.ntmps74
  go_wp2_with (fail)
  go_ret
  exact ⟨rfl, Fr.refl _ _⟩
set_option maxHeartbeats 4000000 in
set_option maxRecDepth 100000 in
theorem fleft_step_no (m c gm : Nat) (h : c < m) (w : World) (hI : Blk w gm 2 [.int .i64 (m : Int)]) : Calls Tryd.prog 74 #[.int .i64 (c : Int), .pointer (some ⟨gm, 0, none⟩)] w fun e w' => e = .returned (.bool false) ∧ Fr (fun _ => False) w w' := by
  have hd : decide (m ≤ c) = false := by simp; omega
  have hc := hI.cell 0 _ rfl
  clear hI h
  go_enter Tryd.func74, Tryd.ntmps74
  go_wp2_with (fail)
  go_ret
  exact ⟨rfl, Fr.refl _ _⟩
set_option maxHeartbeats 4000000 in
set_option maxRecDepth 100000 in
theorem wend_ints_yes (a b : Nat) (h : b = a + 1) (hb : b ≤ 281474976710656) (w : World) : Calls Tryd.prog 106 #[.agg #[.int .i64 (a : Int), .int .i64 (b : Int)]] w fun e w' => e = .returned (.bool true) ∧ Fr (fun _ => False) w w' := by
  subst h
  go_enter Tryd.func106, Tryd.ntmps106
  go_upto_region 1 with (fail)
  have HF := Kp.mk ((Fr.refl (fun _ => False) w).alloc (.cells #[.int .i64 (a : Int), .int .i64 ((a + 1 : Nat) : Int)] 91))
  go_wp2_with (fail)
  go_ret
  exact ⟨by rw [show ((a : Int) + 1 - (a : Int) == 1) = true from by rw [beq_iff_eq]; omega]; rfl, HF.out⟩
set_option maxHeartbeats 4000000 in
set_option maxRecDepth 100000 in
theorem wend_ints_no (a b : Nat) (h : a + 2 ≤ b) (hb : b ≤ 281474976710656) (w : World) : Calls Tryd.prog 106 #[.agg #[.int .i64 (a : Int), .int .i64 (b : Int)]] w fun e w' => e = .returned (.bool false) ∧ Fr (fun _ => False) w w' := by
  go_enter Tryd.func106, Tryd.ntmps106
  go_upto_region 1 with (fail)
  have HF := Kp.mk ((Fr.refl (fun _ => False) w).alloc (.cells #[.int .i64 (a : Int), .int .i64 (b : Int)] 91))
  go_wp2_with (fail)
  go_ret
  exact ⟨by rw [show ((b : Int) - (a : Int) == 1) = false from by rw [beq_eq_false_iff_ne]; omega]; rfl, HF.out⟩
set_option maxHeartbeats 4000000 in
set_option maxRecDepth 100000 in
theorem wleft_ints_yes (i c gi : Nat) (h : i < c) (w : World) (hI : Blk w gi 2 [.int .i64 (i : Int)]) : Calls Tryd.prog 107 #[.int .i64 (c : Int), .pointer (some ⟨gi, 0, none⟩)] w fun e w' => e = .returned (.bool true) ∧ Fr (fun _ => False) w w' := by
  have hd : decide (i < c) = true := by simp; omega
  have hc := hI.cell 0 _ rfl
  clear hI h
  go_enter Tryd.func107, Tryd.ntmps107
  go_wp2_with (fail)
  go_ret
  exact ⟨rfl, Fr.refl _ _⟩
set_option maxHeartbeats 4000000 in
set_option maxRecDepth 100000 in
theorem wleft_ints_no (i c gi : Nat) (h : c ≤ i) (w : World) (hI : Blk w gi 2 [.int .i64 (i : Int)]) : Calls Tryd.prog 107 #[.int .i64 (c : Int), .pointer (some ⟨gi, 0, none⟩)] w fun e w' => e = .returned (.bool false) ∧ Fr (fun _ => False) w w' := by
  have hd : decide (i < c) = false := by simp; omega
  have hc := hI.cell 0 _ rfl
  clear hI h
  go_enter Tryd.func107, Tryd.ntmps107
  go_wp2_with (fail)
  go_ret
  exact ⟨rfl, Fr.refl _ _⟩
set_option maxHeartbeats 4000000 in
set_option maxRecDepth 100000 in
theorem fend_ints_yes (a b m gm : Nat) (h : b = m) (w : World) (hI : Blk w gm 2 [.int .i64 (m : Int)]) : Calls Tryd.prog 111 #[.agg #[.int .i64 (a : Int), .int .i64 (b : Int)], .pointer (some ⟨gm, 0, none⟩)] w fun e w' => e = .returned (.bool true) ∧ Fr (fun _ => False) w w' := by
  go_enter Tryd.func111, Tryd.ntmps111
  go_upto_region 1 with (fail)
  have HF := Kp.mk ((Fr.refl (fun _ => False) w).alloc (.cells #[.int .i64 (a : Int), .int .i64 (b : Int)] 91))
  have hc := (hI.fr HF.out (fun h => h)).cell 0 _ rfl
  subst h
  clear hI
  go_wp2_with (fail)
  go_ret
  exact ⟨by first | rfl | (simp; rfl), HF.out⟩
set_option maxHeartbeats 4000000 in
set_option maxRecDepth 100000 in
theorem fend_ints_no (a b m gm : Nat) (h : b ≠ m) (w : World) (hI : Blk w gm 2 [.int .i64 (m : Int)]) : Calls Tryd.prog 111 #[.agg #[.int .i64 (a : Int), .int .i64 (b : Int)], .pointer (some ⟨gm, 0, none⟩)] w fun e w' => e = .returned (.bool false) ∧ Fr (fun _ => False) w w' := by
  go_enter Tryd.func111, Tryd.ntmps111
  go_upto_region 1 with (fail)
  have HF := Kp.mk ((Fr.refl (fun _ => False) w).alloc (.cells #[.int .i64 (a : Int), .int .i64 (b : Int)] 91))
  have hc := (hI.fr HF.out (fun h => h)).cell 0 _ rfl
  have hd : ((b : Int) == (m : Int)) = false := by rw [beq_eq_false_iff_ne]; omega
  clear hI h
  go_wp2_with (fail)
  go_ret
  exact ⟨by first | rfl | (simp; rfl), HF.out⟩
set_option maxHeartbeats 4000000 in
set_option maxRecDepth 100000 in
theorem fleft_ints_yes (m c gm : Nat) (h : m ≤ c) (w : World) (hI : Blk w gm 2 [.int .i64 (m : Int)]) : Calls Tryd.prog 112 #[.int .i64 (c : Int), .pointer (some ⟨gm, 0, none⟩)] w fun e w' => e = .returned (.bool true) ∧ Fr (fun _ => False) w w' := by
  have hd : decide (m ≤ c) = true := by simp; omega
  have hc := hI.cell 0 _ rfl
  clear hI h
  go_enter Tryd.func112, Tryd.ntmps112
  go_wp2_with (fail)
  go_ret
  exact ⟨rfl, Fr.refl _ _⟩
set_option maxHeartbeats 4000000 in
set_option maxRecDepth 100000 in
theorem fleft_ints_no (m c gm : Nat) (h : c < m) (w : World) (hI : Blk w gm 2 [.int .i64 (m : Int)]) : Calls Tryd.prog 112 #[.int .i64 (c : Int), .pointer (some ⟨gm, 0, none⟩)] w fun e w' => e = .returned (.bool false) ∧ Fr (fun _ => False) w w' := by
  have hd : decide (m ≤ c) = false := by simp; omega
  have hc := hI.cell 0 _ rfl
  clear hI h
  go_enter Tryd.func112, Tryd.ntmps112
  go_wp2_with (fail)
  go_ret
  exact ⟨rfl, Fr.refl _ _⟩
set_option maxHeartbeats 4000000 in
set_option maxRecDepth 100000 in
theorem wend_hash_yes (a b : Nat) (h : b = a + 1) (hb : b ≤ 281474976710656) (w : World) : Calls Tryd.prog 80 #[.agg #[.int .i64 (a : Int), .int .i64 (b : Int)]] w fun e w' => e = .returned (.bool true) ∧ Fr (fun _ => False) w w' := by
  subst h
  go_enter Tryd.func80, Tryd.ntmps80
  go_upto_region 1 with (fail)
  have HF := Kp.mk ((Fr.refl (fun _ => False) w).alloc (.cells #[.int .i64 (a : Int), .int .i64 ((a + 1 : Nat) : Int)] 91))
  go_wp2_with (fail)
  go_ret
  exact ⟨by rw [show ((a : Int) + 1 - (a : Int) == 1) = true from by rw [beq_iff_eq]; omega]; rfl, HF.out⟩
set_option maxHeartbeats 4000000 in
set_option maxRecDepth 100000 in
theorem wend_hash_no (a b : Nat) (h : a + 2 ≤ b) (hb : b ≤ 281474976710656) (w : World) : Calls Tryd.prog 80 #[.agg #[.int .i64 (a : Int), .int .i64 (b : Int)]] w fun e w' => e = .returned (.bool false) ∧ Fr (fun _ => False) w w' := by
  go_enter Tryd.func80, Tryd.ntmps80
  go_upto_region 1 with (fail)
  have HF := Kp.mk ((Fr.refl (fun _ => False) w).alloc (.cells #[.int .i64 (a : Int), .int .i64 (b : Int)] 91))
  go_wp2_with (fail)
  go_ret
  exact ⟨by rw [show ((b : Int) - (a : Int) == 1) = false from by rw [beq_eq_false_iff_ne]; omega]; rfl, HF.out⟩
set_option maxHeartbeats 4000000 in
set_option maxRecDepth 100000 in
theorem wleft_hash_yes (i c gi : Nat) (h : i < c) (w : World) (hI : Blk w gi 2 [.int .i64 (i : Int)]) : Calls Tryd.prog 81 #[.int .i64 (c : Int), .pointer (some ⟨gi, 0, none⟩)] w fun e w' => e = .returned (.bool true) ∧ Fr (fun _ => False) w w' := by
  have hd : decide (i < c) = true := by simp; omega
  have hc := hI.cell 0 _ rfl
  clear hI h
  go_enter Tryd.func81, Tryd.ntmps81
  go_wp2_with (fail)
  go_ret
  exact ⟨rfl, Fr.refl _ _⟩
set_option maxHeartbeats 4000000 in
set_option maxRecDepth 100000 in
theorem wleft_hash_no (i c gi : Nat) (h : c ≤ i) (w : World) (hI : Blk w gi 2 [.int .i64 (i : Int)]) : Calls Tryd.prog 81 #[.int .i64 (c : Int), .pointer (some ⟨gi, 0, none⟩)] w fun e w' => e = .returned (.bool false) ∧ Fr (fun _ => False) w w' := by
  have hd : decide (i < c) = false := by simp; omega
  have hc := hI.cell 0 _ rfl
  clear hI h
  go_enter Tryd.func81, Tryd.ntmps81
  go_wp2_with (fail)
  go_ret
  exact ⟨rfl, Fr.refl _ _⟩
set_option maxHeartbeats 4000000 in
set_option maxRecDepth 100000 in
theorem itself_calls (a b : Int) (r : Bool) (w : World) : Calls Tryd.prog 45 #[.agg #[.int .i64 a, .int .i64 b, .bool r]] w fun e w' => e = .returned (.agg #[.int .i64 a, .int .i64 b, .bool r]) ∧ Fr (fun _ => False) w w' := by
  go_enter Tryd.func45, Tryd.ntmps45
  go_upto_region 1 with (fail)
  obtain ⟨g1, hg1⟩ : ∃ g1, g1 = w.heap.size := ⟨_, rfl⟩
  obtain ⟨g2, hg2⟩ : ∃ g2, g2 = w.heap.size + 1 := ⟨_, rfl⟩
  rw [← hg2, ← hg1]
  obtain ⟨W1, hW1⟩ : ∃ W1, W1 = (w.alloc (.cells #[.int .i64 a, .int .i64 b, .bool r] 95)).alloc (.cells #[.int .i64 0, .int .i64 0, .bool false] 95) := ⟨_, rfl⟩
  have H1 : Kp (Blk W1 g1 95 [.int .i64 a, .int .i64 b, .bool r]) := ⟨by rw [hW1, hg1]; exact (Blk.new w _ _).alloc _⟩
  have H2 : Kp (Blk W1 g2 95 [.int .i64 0, .int .i64 0, .bool false]) := ⟨by rw [hW1, hg2]; exact Blk.new' _ _ _ (by simp)⟩
  have HF : Kp (Fr (fun _ => False) w W1) := ⟨by rw [hW1]; exact ((Fr.refl _ w).alloc _).alloc _⟩
  have HG : Kp (w.heap.size ≤ g2) := ⟨by omega⟩
  rw [← hW1]
  clear hW1 hg1 hg2
  have hi3 : (Tryd.prog.info? 95).map (·.size) = some 3 := by kernel_rfl
  have H2h := Kp.mk (show W1.heap[g2]? = some (.cells #[.int .i64 0, .int .i64 0, .bool false] 95 (0, 0)) from H2.out)
  have H1r := Kp.mk (blk_range H1.out)
  have hone : (#[.int .i64 a, .int .i64 b, .bool r] : Array Value).all (fun v => v.oneCell') = true := by
    show ([.int .i64 a, .int .i64 b, .bool r] : List Value).toArray.all (fun v => v.oneCell') = true
    rw [List.all_toArray]; rfl
  go_wp2_with (first
    | refine wpList_load_mid rfl 95 _ rfl g1 0 rfl [.int .i64 a, .int .i64 b, .bool r] _ H1r.out Tryd.underlying95 rfl hi3 ?_
    | refine wpList_store_row rfl 95 _ _ rfl g2 #[.int .i64 a, .int .i64 b, .bool r] rfl rfl 95 #[.int .i64 0, .int .i64 0, .bool false] (by exact H2h.out) hi3 rfl hone ?_)
  refine bodyPost_ret (results_cell_row rfl _ _ g2 95 #[.int .i64 a, .int .i64 b, .bool r] (0, 0) _ rfl (setRow_heap _ g2 _ _ _ _ H2h.out) Tryd.underlying95 rfl hi3) rfl ?_
  have hfz : Fr (fun q => q = g2) W1 (W1.setRow g2 #[.int .i64 a, .int .i64 b, .bool r]) := ⟨rfl, rfl, rfl, by simp [World.setRow], fun q _ hq => setRow_other _ _ q _ hq⟩
  exact ⟨rfl, HF.out.trans hfz (fun q hq he => by have := HG.out; omega)⟩
end Go.Proofs.YtjcmgpiapbeodaaDoor.Sha
namespace Go.Proofs.YtjcmgpiapbeodaaDoor.Sha
open Go.Proofs.YtjcmgpiapbeodaaDoor.Pf Go.Proofs.YtjcmgpiapbeodaaDoor.Len Go.Proofs.YtjcmgpiapbeodaaDoor.PProofTakes
open Go.RowKit Go.Proofs.YtjcmgpiapbeodaaDoor.Mem Go.Proofs.YtjcmgpiapbeodaaDoorW.PrintWords Go.Proofs.YtjcmgpiapbeodaaDoorW.PrintLast Go.Proofs.YtjcmgpiapbeodaaDoor.Pl Go.Proofs.YtjcmgpiapbeodaaDoor.Wk
attribute [local go_sem ↓] Go.wp_at_zero Go.wp_at_succ wp_load_hash wp_store_hash wp_load_mid23 wp_load_mid25 wp_store_mid25 wp_build_hash
attribute [local go_sem] rowAt_drew rowOk_drew midOk_drew midAt_drew rowBlock rowCells rowOff midFree_drew
theorem lds_agg {w : World} {T : TypeId} {d : TypeDesc} {b o : Nat} {r : List Value} (hu : Tryd.prog.underlying T = some d) (hd : d.isRow = true) (hi : (Tryd.prog.info? T).map (·.size) = some r.length) (hc : w.rangeAt b o r) : Lds w T (.pointer (some ⟨b, o, none⟩)) (.agg r.toArray) := by
  intro ev op x ho hx
  have h := run_loadAt_mid (P := Tryd.prog) w b o T r d hc hu hd hi
  unfold execOp
  simp only [ho, hx, Sem.run_bind, h, Result.andThen_ok, Sem.run_pure]
theorem st_agg (ev : Operand → Value) (o : Oper) (x y : Operand) (w : World) (T : TypeId) (b k : Nat) (r : List Value) (ho : o.op = .store T x y) (hx : ev x = .pointer (some ⟨b, k, none⟩)) (hy : ev y = .agg r.toArray) (ht : w.there b k r.length) (hi : (Tryd.prog.info? T).map (·.size) = some r.length) (h1 : ∀ u ∈ r, u.oneCell' = true) :
    (execOp ev o).run Tryd.prog w = .ok .skip (w.setCells b k r) := by
  have hr := run_storeVar_mid (P := Tryd.prog) w b k T r.toArray (by simpa using ht) (by simpa using hi) (by
    rw [Array.all_eq_true_iff_forall_mem]
    intro u hu
    exact h1 u (by simpa using hu))
  unfold execOp
  simp only [ho, hx, hy, Instr.storeAt, Instr.sureAddr, Sem.run_bind, Sem.run_pure, Result.andThen_ok, hr]
theorem lds_lst {w : World} {a : Addr} {v : Value} (h : w.cell? a = some v) : Lds w 55 (.pointer (some a)) v := by
  intro ev o x ho hx
  unfold execOp
  simp only [ho, hx]
  go_simp
theorem st_lst (ev : Operand → Value) (o : Oper) (x y : Operand) (w : World) (b k : Nat) (A : Option Addr) (n c : Nat) (u : Value) (ho : o.op = .store 55 x y) (hx : ev x = .pointer (some ⟨b, k, none⟩)) (hy : ev y = .slice A n c) (c1 : w.cell? ⟨b, k, none⟩ = some u) (f1 : w.frozen? ⟨b, k, none⟩ = false) :
    (execOp ev o).run Tryd.prog w = .ok .skip (w.setCells b k [.slice A n c]) := by
  show _ = Result.ok Next.skip (w.setCell ⟨b, k, none⟩ (.slice A n c))
  unfold execOp
  simp only [ho, hx, hy]
  go_simp
/-- the first k pairs changed over -/
def revN {α : Type} : List α → Nat → List α
  | L, 0 => L
  | L, k + 1 => match (revN L k)[k]?, (revN L k)[L.length - 1 - k]? with
    | some x, some y => ((revN L k).set k y).set (L.length - 1 - k) x
    | _, _ => revN L k
theorem revN_len {α : Type} (L : List α) : ∀ k, (revN L k).length = L.length
  | 0 => rfl
  | k + 1 => by
    rw [revN]
    split
    · rw [List.length_set, List.length_set, revN_len L k]
    · exact revN_len L k
theorem revN_get {α : Type} (L : List α) : ∀ k, 2 * k ≤ L.length → ∀ p, p < L.length → (revN L k)[p]? = if p < k ∨ L.length - 1 - p < k then L[L.length - 1 - p]? else L[p]?
  | 0, _, p, _ => by rw [if_neg (by omega)]; rfl
  | k + 1, hk, p, hp => by
    have h1 := revN_get L k (by omega) k (by omega)
    have h2 := revN_get L k (by omega) (L.length - 1 - k) (by omega)
    have h3 := revN_get L k (by omega) p hp
    rw [if_neg (by omega)] at h1 h2
    have l := revN_len L k
    rw [revN, h1, h2, List.getElem?_eq_getElem (l := L) (i := k) (by omega), List.getElem?_eq_getElem (l := L) (i := L.length - 1 - k) (by omega)]
    simp only
    rw [List.getElem?_set, List.getElem?_set, h3]
    by_cases e1 : L.length - 1 - k = p
    · rw [if_pos e1, if_pos (by rw [List.length_set, l]; omega), if_pos (by omega)]
      rw [show L.length - 1 - p = k by omega, List.getElem?_eq_getElem (by omega)]
    · rw [if_neg e1]
      by_cases e2 : k = p
      · rw [if_pos e2, if_pos (by rw [l]; omega), if_pos (by omega)]
        subst e2
        rw [List.getElem?_eq_getElem (by omega)]
      · rw [if_neg e2]
        by_cases e3 : p < k ∨ L.length - 1 - p < k
        · rw [if_pos e3, if_pos (by omega)]
        · rw [if_neg e3, if_neg (by omega)]
theorem revN_all {α : Type} (L : List α) (k : Nat) (h : 2 * k ≤ L.length) (h2 : L.length ≤ 2 * k + 1) : revN L k = L.reverse := by
  apply List.ext_getElem?
  intro p
  rcases Nat.lt_or_ge p L.length with hp | hp
  · rw [revN_get L k h p hp, List.getElem?_reverse hp]
    by_cases e : p < k ∨ L.length - 1 - p < k
    · rw [if_pos e]
    · rw [if_neg e, show L.length - 1 - p = p by omega]
  · rw [List.getElem?_eq_none (by rw [revN_len]; exact hp), List.getElem?_eq_none (by rw [List.length_reverse]; exact hp)]
theorem revN_succ {α : Type} (L : List α) (k : Nat) (x y : α) (hx : (revN L k)[k]? = some x) (hy : (revN L k)[L.length - 1 - k]? = some y) : revN L (k + 1) = ((revN L k).set k y).set (L.length - 1 - k) x := by
  rw [revN, hx, hy]
theorem inf_step : (Tryd.prog.info? 95).map (fun i => (i.size, i.bytes)) = some (3, 24) := by kernel_rfl
theorem zer_step : ((Tryd.prog.info? 95).bind (·.zero)).map (·.cells.size) = some 3 := by kernel_rfl
theorem el_step : El 89 95 3 24 := by
  refine ⟨Tryd.underlying89, ?_, by decide⟩
  have h1 := inf_step
  have h2 := zer_step
  cases hi : Tryd.prog.info? 95 with
  | none => rw [hi] at h1; cases h1
  | some i =>
    rw [hi] at h1 h2
    simp only [Option.map_some, Option.some.injEq, Prod.mk.injEq] at h1
    cases hz : i.zero with
    | none => simp [hz] at h2
    | some z =>
      simp only [Option.bind_some, hz, Option.map_some, Option.some.injEq] at h2
      exact ⟨i, z, rfl, hz, h1.1, h1.2, h2⟩
theorem siz_step : (Tryd.prog.info? 95).map (·.size) = some 3 := by kernel_rfl
set_option maxHeartbeats 4000000 in
set_option maxRecDepth 100000 in
theorem rev_step (base : Nat) (v : Value) (L : List (List Value)) (hb : L.length ≤ 100000) (w : World) (hO : ROwn 95 3 w base v L) :
    Calls Tryd.prog 100 #[v] w fun e w' => e = .returned (.tuple #[]) ∧ ROwn 95 3 w' base v L.reverse ∧ Fr (fun q => v.ownBlock = some q) w w' := by
  obtain ⟨A, cap, hv⟩ := hO.slice
  subst hv
  have HO := Kp.mk hO
  obtain ⟨n, hn⟩ : ∃ n, n = L.length := ⟨_, rfl⟩
  rw [← hn] at HO hb ⊢
  have HN := Kp.mk hn
  clear hO hn
  go_enter Tryd.func100, Tryd.ntmps100
  go_wp2
  go_loopw [2, 3] (fun a2 a3 wr => ∃ k : Nat, a2 = .int .i64 (k : Int) ∧ a3 = .int .i64 ((n : Int) - 1 - (k : Int)) ∧ Kp (2 * k ≤ n) ∧ Kp (ROwn 95 3 wr base (.slice A n cap) (revN L k)) ∧ Kp (Fr (fun q => (Value.slice A n cap).ownBlock = some q) w wr)) (fun a2 _ _ => n - (intOf a2).toNat)
  case atStart => exact ⟨0, rfl, by rw [Int.natCast_zero, Int.sub_zero], ⟨by omega⟩, HO, ⟨Fr.refl _ _⟩⟩
  case round =>
    clear HO
    obtain ⟨k, rfl, rfl, HK, HO, HF⟩ := hrel
    have hk := HK.out
    by_cases hlt : 2 * k + 1 < n
    · obtain ⟨jj, hjj⟩ : ∃ jj : Nat, jj = n - 1 - k := ⟨_, rfl⟩
      have hje : (n : Int) - 1 - (k : Int) = (jj : Int) := by omega
      have hjk : k < jj ∧ jj < n := by omega
      have hrl : (revN L k).length = n := by rw [revN_len, HN.out]
      have hkl : k < (revN L k).length := by omega
      have hjl : jj < (revN L k).length := by omega
      obtain ⟨g, cap', hA, _, _⟩ := HO.out.form (by omega)
      rw [hrl] at hA
      simp only [Value.slice.injEq] at hA
      obtain ⟨rfl, _, rfl⟩ := hA
      have hX := List.getElem?_eq_getElem hkl
      have hY := List.getElem?_eq_getElem hjl
      have HS := Kp.mk (revN_succ L k _ _ hX (by rw [← HN.out, ← hjj]; exact hY))
      rw [← HN.out, ← hjj] at HS
      have RX := Kp.mk (HO.out.1 _ (List.getElem_mem hkl))
      have RY := Kp.mk (HO.out.1 _ (List.getElem_mem hjl))
      have HOd : Kp (ROwn 95 3 wr.drew base (.slice (some ⟨g, 0, none⟩) n cap) (revN L k)) := ⟨HO.out.keep (S := fun _ => False) ((Fr.refl _ wr).drew) (fun _ _ h => h)⟩
      have QX : Kp (wr.drew.rangeAt g (k * 3) ((revN L k)[k])) := ⟨fun j u hu => HOd.out.cell k j u hkl hu⟩
      have QY : Kp (wr.drew.rangeAt g (jj * 3) ((revN L k)[jj])) := ⟨fun j u hu => HOd.out.cell jj j u hjl hu⟩
      have TX : Kp (wr.drew.there g (k * 3) 3) := ⟨HOd.out.there k hkl⟩
      have HO1 := Kp.mk (HOd.out.set k hkl _ RY.out)
      have hj1 : jj < ((revN L k).set k ((revN L k)[jj])).length := by rw [List.length_set]; exact hjl
      have TY := Kp.mk (HO1.out.there jj hj1)
      have HO2 := Kp.mk (HO1.out.set jj hj1 _ RX.out)
      rw [← HS.out] at HO2
      clear HS HO1 HOd HO hX hY
      generalize (revN L k)[k] = rx at RX TY QX HO2
      generalize (revN L k)[jj] = ry at RY TY QY HO2
      clear hj1 hkl hjl hrl
      have hk1 : (k : Int) < (n : Int) := by omega
      have hj2 : (jj : Int) < (n : Int) := by omega
      have hkj : (k : Int) < (jj : Int) := by omega
      clear hjj
      have HJ := Kp.mk hje
      rw [hje]
      clear hje
      go_wp2
      refine start_ (n := 16) (S := fun w' => Lds w' 95 (.pointer (some ⟨g, k * 3, none⟩)) (.agg rx.toArray) ∧ Lds w' 95 (.pointer (some ⟨g, jj * 3, none⟩)) (.agg ry.toArray)) (ds := [13, 15]) #[false, false, false, false, false, false, false, false, false, false, false, false, false, false, false, false] (by kernel_rfl) rfl rfl ⟨lds_agg Tryd.underlying95 rfl (by rw [RX.out.1]; exact siz_step) QX.out, lds_agg Tryd.underlying95 rfl (by rw [RY.out.1]; exact siz_step) QY.out⟩ (fun hHeld => ?_)
      refine pure_ (i := 0) (N := some 14) (v := ?_) (a' := ?_) #[true, false, false, false, false, false, false, false, false, false, false, false, false, false, false, false] rfl rfl (by kernel_rfl) (fun _ _ _ h => h) (Or.inl ⟨by rfl, ?_⟩) ?_ ?_
      rotate_left
      · intro w'
        go_simp
        with_reducible rfl
      rotate_left
      · simp only [Act.put, List.setIfInBounds_toArray, List.set_cons_zero, List.set_cons_succ]
        rfl
      refine pure_ (i := 1) (N := some 15) (v := ?_) (a' := ?_) #[true, true, false, false, false, false, false, false, false, false, false, false, false, false, false, false] rfl rfl (by kernel_rfl) (fun _ _ _ h => h) (Or.inl ⟨by rfl, ?_⟩) ?_ ?_
      rotate_left
      · intro w'
        go_simp
        with_reducible rfl
      rotate_left
      · simp only [Act.put, List.setIfInBounds_toArray, List.set_cons_zero, List.set_cons_succ]
        rfl
      refine pure_ (i := 2) (N := some 16) (v := ?_) (a' := ?_) #[true, true, true, false, false, false, false, false, false, false, false, false, false, false, false, false] rfl rfl (by kernel_rfl) (fun _ _ _ h => h) (Or.inl ⟨by rfl, ?_⟩) ?_ ?_
      rotate_left
      · intro w'
        go_simp
        with_reducible rfl
      rotate_left
      · simp only [Act.put, List.setIfInBounds_toArray, List.set_cons_zero, List.set_cons_succ]
        rfl
      refine pure_ (i := 3) (N := some 17) (v := ?_) (a' := ?_) #[true, true, true, true, false, false, false, false, false, false, false, false, false, false, false, false] rfl rfl (by kernel_rfl) (fun _ _ _ h => h) (Or.inl ⟨by rfl, ?_⟩) ?_ ?_
      rotate_left
      · intro w'
        go_simp
        with_reducible rfl
      rotate_left
      · simp only [Act.put, List.setIfInBounds_toArray, List.set_cons_zero, List.set_cons_succ]
        rfl
      refine pure_ (i := 4) (N := some 18) (v := ?_) (a' := ?_) #[true, true, true, true, true, false, false, false, false, false, false, false, false, false, false, false] rfl rfl (by kernel_rfl) (fun _ _ _ h => h) (Or.inl ⟨by rfl, ?_⟩) ?_ ?_
      rotate_left
      · intro w'
        go_simp
        with_reducible rfl
      rotate_left
      · simp only [Act.put, List.setIfInBounds_toArray, List.set_cons_zero, List.set_cons_succ]
        rfl
      refine pure_ (i := 5) (N := some 19) (v := ?_) (a' := ?_) #[true, true, true, true, true, true, false, false, false, false, false, false, false, false, false, false] rfl rfl (by kernel_rfl) (fun _ _ _ h => h) (Or.inl ⟨by rfl, ?_⟩) ?_ ?_
      rotate_left
      · intro w'
        go_simp
        with_reducible rfl
      rotate_left
      · simp only [Act.put, List.setIfInBounds_toArray, List.set_cons_zero, List.set_cons_succ]
        rfl
      refine pure_ (i := 6) (N := some 20) (v := ?_) (a' := ?_) #[true, true, true, true, true, true, true, false, false, false, false, false, false, false, false, false] rfl rfl (by kernel_rfl) (fun _ _ _ h => h) (Or.inl ⟨by rfl, ?_⟩) ?_ ?_
      rotate_left
      · intro w'
        go_simp
        with_reducible rfl
      rotate_left
      · simp only [Act.put, List.setIfInBounds_toArray, List.set_cons_zero, List.set_cons_succ]
        rfl
      refine pure_ (i := 8) (N := some 22) (v := ?_) (a' := ?_) #[true, true, true, true, true, true, true, false, true, false, false, false, false, false, false, false] rfl rfl (by kernel_rfl) (fun _ _ _ h => h) (Or.inl ⟨by rfl, ?_⟩) ?_ ?_
      rotate_left
      · intro w'
        go_simp
        with_reducible rfl
      rotate_left
      · simp only [Act.put, List.setIfInBounds_toArray, List.set_cons_zero, List.set_cons_succ]
        rfl
      refine pure_ (i := 9) (N := some 23) (v := ?_) (a' := ?_) #[true, true, true, true, true, true, true, false, true, true, false, false, false, false, false, false] rfl rfl (by kernel_rfl) (fun _ _ _ h => h) (Or.inl ⟨by rfl, ?_⟩) ?_ ?_
      rotate_left
      · intro w'
        go_simp
        with_reducible rfl
      rotate_left
      · simp only [Act.put, List.setIfInBounds_toArray, List.set_cons_zero, List.set_cons_succ]
        rfl
      refine pure_ (i := 10) (N := some 24) (v := ?_) (a' := ?_) #[true, true, true, true, true, true, true, false, true, true, true, false, false, false, false, false] rfl rfl (by kernel_rfl) (fun _ _ _ h => h) (Or.inl ⟨by rfl, ?_⟩) ?_ ?_
      rotate_left
      · intro w'
        go_simp
        with_reducible rfl
      rotate_left
      · simp only [Act.put, List.setIfInBounds_toArray, List.set_cons_zero, List.set_cons_succ]
        rfl
      refine take_ (i := 7) (N := some 21) (v := ?_) (a' := ?_) #[true, true, true, true, true, true, true, true, true, true, true, false, false, false, false, false] rfl rfl (by kernel_rfl) (fun _ _ _ h => h) (Or.inl ⟨by rfl, ?_⟩) hHeld ?_ ?_
      rotate_left
      · rintro w' ⟨s0, s1⟩
        refine Lds.run s1 (x := ?_) ?_ ?_
        · exact (Operand.tmp 20)
        · rfl
        · rfl
      rotate_left
      · simp only [Act.put, List.setIfInBounds_toArray, List.set_cons_zero, List.set_cons_succ]
        rfl
      refine take_ (i := 11) (N := some 25) (v := ?_) (a' := ?_) #[true, true, true, true, true, true, true, true, true, true, true, true, false, false, false, false] rfl rfl (by kernel_rfl) (fun _ _ _ h => h) (Or.inl ⟨by rfl, ?_⟩) hHeld ?_ ?_
      rotate_left
      · rintro w' ⟨s0, s1⟩
        refine Lds.run s0 (x := ?_) ?_ ?_
        · exact (Operand.tmp 24)
        · rfl
        · rfl
      rotate_left
      · simp only [Act.put, List.setIfInBounds_toArray, List.set_cons_zero, List.set_cons_succ]
        rfl
      refine pure_ (i := 12) (N := some 26) (v := ?_) (a' := ?_) #[true, true, true, true, true, true, true, true, true, true, true, true, true, false, false, false] rfl rfl (by kernel_rfl) (fun _ _ _ h => h) (Or.inl ⟨by rfl, ?_⟩) ?_ ?_
      rotate_left
      · intro w'
        go_simp
        with_reducible rfl
      rotate_left
      · simp only [Act.put, List.setIfInBounds_toArray, List.set_cons_zero, List.set_cons_succ]
        rfl
      refine last_ (i := 13) (N := none) #[true, true, true, true, true, true, true, true, true, true, true, true, true, true, false, false] rfl rfl (by kernel_rfl) (by decide) (fun K hK => ?_)
      refine skip_ (by rfl) rfl (st_agg _ _ (Operand.tmp 26) (Operand.tmp 21) _ 95 g (k * 3) ry rfl rfl rfl (by rw [RY.out.1]; exact TX.out) (by rw [RY.out.1]; exact siz_step) RY.out.2) ?_
      refine hK.out _ _ ?_
      clear hK K
      refine pure_ (i := 14) (N := some 27) (v := ?_) (a' := ?_) #[true, true, true, true, true, true, true, true, true, true, true, true, true, true, true, false] rfl rfl (by kernel_rfl) (fun _ _ _ h => h) (Or.inl ⟨by rfl, ?_⟩) ?_ ?_
      rotate_left
      · intro w'
        go_simp
        with_reducible rfl
      rotate_left
      · simp only [Act.put, List.setIfInBounds_toArray, List.set_cons_zero, List.set_cons_succ]
        rfl
      refine last_ (i := 15) (N := none) #[true, true, true, true, true, true, true, true, true, true, true, true, true, true, true, true] rfl rfl (by kernel_rfl) (by decide) (fun K hK => ?_)
      refine skip_ (by rfl) rfl (st_agg _ _ (Operand.tmp 27) (Operand.tmp 25) _ 95 g (jj * 3) rx rfl rfl rfl (by rw [RX.out.1]; exact TY.out) (by rw [RX.out.1]; exact siz_step) RX.out.2) ?_
      refine hK.out _ _ ?_
      clear hK K
      refine done_ (by kernel_rfl) ?_
      go_wp2
      have HF2 : Kp (Fr (fun q => (Value.slice (some ⟨g, 0, none⟩) n cap).ownBlock = some q) w ((wr.drew.setCells g (k * 3) ry).setCells g (jj * 3) rx)) := ⟨(HF.out.drew.trans (fr_setCells g _ _ _) (fun q _ h => by rw [h]; rfl)).trans (fr_setCells g _ _ _) (fun q _ h => by rw [h]; rfl)⟩
      generalize World.setCells _ g (jj * 3) _ = Wn at HO2 HF2 ⊢
      refine ⟨⟨k + 1, by go_num, ?_, ⟨by omega⟩, HO2, HF2⟩, ?_⟩
      · rw [Int.natCast_succ]
        congr 1
        have := HJ.out
        omega
      · simp only [intOf]
        omega
    · have hd : decide ((k : Int) < (n : Int) - 1 - (k : Int)) = false := by rw [decide_eq_false_iff_not]; omega
      have hd2 : ¬ ((k : Int) < (n : Int) - 1 - (k : Int)) := by omega
      have hr := HO.out
      rw [revN_all L k (by rw [← HN.out]; omega) (by rw [← HN.out]; omega)] at hr
      have HR := Kp.mk hr
      clear hr HO
      go_wp2
      go_end0
      exact ⟨rfl, HR.out, HF.out⟩
end Go.Proofs.YtjcmgpiapbeodaaDoor.Sha
