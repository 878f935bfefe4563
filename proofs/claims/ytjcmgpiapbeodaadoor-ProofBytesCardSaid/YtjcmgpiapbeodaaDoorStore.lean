/-
  A list that is read, nil or not: append of it onto a list of the call's own; Write of it, for either kind. A whole digest stored into a new variable, at once.
-/
import Derived.Test.YtjcmgpiapbeodaaDoorWrite64
import Derived.Test.YtjcmgpiapbeodaaDoorWnil64
import Derived.Deep.MidRow
namespace Go.Proofs.YtjcmgpiapbeodaaDoor.Sha
open Go.RowKit Go.Proofs.YtjcmgpiapbeodaaDoor.Mem Go.Proofs.YtjcmgpiapbeodaaDoorW.PrintWords
/-- The slice value (A, length, c) reads p; what it reads lies outside of S. -/
def Src (w : World) (S : Nat → Prop) (A : Option Addr) (c : Nat) (p : List Int) : Prop :=
  p.length ≤ c ∧ ((A = none ∧ c = 0 ∧ p = []) ∨ (p = [] ∧ ∃ ad, A = some ad) ∨ ∃ bs os, A = some ⟨bs, os, none⟩ ∧ Reads w bs os p ∧ ¬ S bs)
theorem Src.fr {w w1 : World} {S : Nat → Prop} {A : Option Addr} {c : Nat} {p : List Int} (h : Src w S A c p) (hf : Fr S w w1) : Src w1 S A c p := by
  refine ⟨h.1, ?_⟩
  rcases h.2 with h' | h' | ⟨bs, os, h1, h2, h3⟩
  · exact .inl h'
  · exact .inr (.inl h')
  · exact .inr (.inr ⟨bs, os, h1, h2.fr hf h3, h3⟩)
theorem Src.mono {w : World} {S S' : Nat → Prop} {A : Option Addr} {c : Nat} {p : List Int} (h : Src w S A c p) (hs : ∀ k, k < w.heap.size → S' k → S k) : Src w S' A c p := by
  refine ⟨h.1, ?_⟩
  rcases h.2 with h' | h' | ⟨bs, os, h1, h2, h3⟩
  · exact .inl h'
  · exact .inr (.inl h')
  · exact .inr (.inr ⟨bs, os, h1, h2, fun hk => h3 (hs bs h2.1 hk)⟩)
theorem Src.of_own {w : World} {base : Nat} {v : Value} {xs : List Int} (h : w.ownsRow base 5 1 v xs.length (bytes xs)) (S : Nat → Prop) (hs : ∀ k, v.ownBlock = some k → ¬ S k) : ∃ A c, v = .slice A xs.length c ∧ Src w S A c xs := by
  rcases Nat.eq_zero_or_pos xs.length with h0 | h0
  · obtain rfl := List.eq_nil_of_length_eq_zero h0
    rcases h.2 with ⟨rfl, _⟩ | ⟨g, cap, cur, rfl, hb, hg, hnc, _⟩
    · exact ⟨none, 0, rfl, Nat.zero_le _, .inl ⟨rfl, rfl, rfl⟩⟩
    · refine ⟨_, cap, rfl, Nat.zero_le _, .inr (.inr ⟨g, 0, rfl, ⟨?_, fun i hi => absurd hi (Nat.not_lt_zero _)⟩, hs g rfl⟩)⟩
      rcases Nat.lt_or_ge g w.heap.size with h | h
      · exact h
      · rw [Array.getElem?_eq_none h] at hg; cases hg
  · obtain ⟨g, cap, rfl, _, _, h4, h5⟩ := own_form h h0
    exact ⟨_, cap, rfl, h4, .inr (.inr ⟨g, 0, rfl, h5, hs g rfl⟩)⟩
theorem run_appendS (w : World) (base : Nat) (v : Value) (xs : List Int) (hown : w.ownsRow base 5 1 v xs.length (bytes xs)) (A : Option Addr) (m c : Nat) (p : List Int) (hm : m = p.length) {S : Nat → Prop} (hr : Src w S A c p)
    (hb : xs.length + p.length ≤ 140737488355328) (hbase : base ≤ w.heap.size) :
    ∃ v' w', (Builtin.append_ #[22, 22] 22 #[v, .slice A m c]).run Tryd.prog w = .ok v' w' ∧ w'.ownsRow base 5 1 v' (xs ++ p).length (bytes (xs ++ p)) ∧ w.grownBy w' v.ownBlock ∧ (v'.ownBlock = v.ownBlock ∨ v'.ownBlock = some w.heap.size) := by
  subst hm
  rcases hr.2 with ⟨rfl, rfl, rfl⟩ | ⟨rfl, ad, rfl⟩ | ⟨bs, os, rfl, h2, _⟩
  · rw [List.append_nil]
    exact ⟨v, w, run_append_nilB w base v _ _ hown, hown, ⟨rfl, rfl, rfl, Nat.le_refl _, fun _ _ _ => rfl⟩, .inl rfl⟩
  · rw [List.append_nil]
    exact ⟨v, w, N32.run_append_emptyB w base v _ _ ad c hown, hown, ⟨rfl, rfl, rfl, Nat.le_refl _, fun _ _ _ => rfl⟩, .inl rfl⟩
  · exact run_appendB w base v xs hown bs os _ c p rfl h2 hb hbase
theorem wpList_appendS {ops : Array Oper} {rest : List Oper} {o : Oper} {a : Act} {w : World} {Q : Exit → Act → World → Prop} (hgd : o.guard = none) (s x : Operand)
    (ho : o.op = .call { callee := .builtin .append, args := #[s, x], argTypes := #[22, 22] }) (hty : o.type = 22) (base : Nat) (v : Value) (xs : List Int) (hs : a.eval s = v) (hown : w.ownsRow base 5 1 v xs.length (bytes xs))
    (A : Option Addr) (m c : Nat) (p : List Int) (hm : m = p.length) (hx : a.eval x = .slice A m c) {S : Nat → Prop} (hr : Src w S A c p) (hb : xs.length + p.length ≤ 140737488355328) (hbase : base ≤ w.heap.size)
    (h : ∀ v' w', w'.ownsRow base 5 1 v' (xs ++ p).length (bytes (xs ++ p)) → w.grownBy w' v.ownBlock → (v'.ownBlock = v.ownBlock ∨ v'.ownBlock = some w.heap.size) → wpList Tryd.prog ops Q rest (a.put o.dst v') w') :
    wpList Tryd.prog ops Q (o :: rest) a w := by
  obtain ⟨v', w', hr', h2, h3, h4⟩ := run_appendS w base v xs hown A m c p hm hr hb hbase
  refine wpList_plain hgd fun _ hK => ?_
  unfold Oper.wp execOp
  simp only [ho, resolve, invoke, builtin, Sem.run_bind, Sem.run_pure, Result.andThen_ok, List.map_toArray, List.map_cons, List.map_nil, hs, hx, hty, hr']
  exact hK _ _ (h v' w' h2 h3 h4)
theorem step_appendS {ops : Array Oper} {o : Oper} {a : Act} {w : World} {K : Act → World → Prop} {Q : Exit → Act → World → Prop} {E : Prop} (hgd : o.guard = none) (s x : Operand)
    (ho : o.op = .call { callee := .builtin .append, args := #[s, x], argTypes := #[22, 22] }) (hty : o.type = 22) (base : Nat) (v : Value) (xs : List Int) (hs : a.eval s = v) (hown : w.ownsRow base 5 1 v xs.length (bytes xs))
    (A : Option Addr) (m c : Nat) (p : List Int) (hm : m = p.length) (hx : a.eval x = .slice A m c) {S : Nat → Prop} (hr : Src w S A c p) (hb : xs.length + p.length ≤ 140737488355328) (hbase : base ≤ w.heap.size)
    (h : ∀ v' w', w'.ownsRow base 5 1 v' (xs ++ p).length (bytes (xs ++ p)) → w.grownBy w' v.ownBlock → (v'.ownBlock = v.ownBlock ∨ v'.ownBlock = some w.heap.size) → K (a.put o.dst v') w') :
    if Region.wanted o (yielded ops a.tmps) = true then Oper.wp Tryd.prog o a w K Q else E := by
  have hw : Region.wanted o (yielded ops a.tmps) = true := by simp [Region.wanted, hgd]
  rw [if_pos hw]
  obtain ⟨v', w', hr', h2, h3, h4⟩ := run_appendS w base v xs hown A m c p hm hr hb hbase
  unfold Oper.wp execOp
  simp only [ho, resolve, invoke, builtin, Sem.run_bind, Sem.run_pure, Result.andThen_ok, List.map_toArray, List.map_cons, List.map_nil, hs, hx, hty, hr']
  exact h v' w' h2 h3 h4
theorem reads_new (w : World) (p : List Int) (e : TypeId) : Reads (w.alloc (.cells (bytes p).toArray e)) w.heap.size 0 p := by
  have hb : Blk (w.alloc (.cells (bytes p).toArray e)) w.heap.size e (bytes p) := Blk.new w _ e
  exact ⟨hb.lt, fun i hi => by rw [Nat.zero_add]; exact hb.cell i _ (bytes_get p i hi)⟩
theorem src_new (w : World) (p : List Int) (e : TypeId) (c : Nat) (hc : p.length ≤ c) : Src (w.alloc (.cells (bytes p).toArray e)) (fun _ => False) (some ⟨w.heap.size, 0, none⟩) c p := ⟨hc, .inr (.inr ⟨_, _, rfl, reads_new w p e, fun h => h⟩)⟩
/-- Write, of whatever the digest does not own. -/
theorem write_calls (s : St) (hs : s.Ok) (b : Nat) (rv : Value) (A : Option Addr) (cp : Nat) (p : List Int) (hmax : s.cnt + p.length ≤ maxCount) (w : World) (hL : Laid w) (hD : Dg w b rv s) (hX : Src w (dfoot b rv) A cp p) :
    Calls Tryd.prog 39 #[.pointer (some ⟨b, 0, none⟩), .slice A p.length cp] w fun e w' =>
      ∃ r rv', e = .returned r ∧ Dg w' b rv' (s.write p) ∧ Heir w rv' rv ∧ Fr (dfoot b rv) w w' := by
  obtain ⟨B, cnt, c, rs⟩ := s
  have hrb : rs.length < blk B := by have := hs.rest; simp only at this; rw [this]; exact Nat.mod_lt _ (blk_pos B)
  have hw : p = [] → (St.mk B cnt c rs).write p = ⟨B, cnt, c, rs⟩ := by
    rintro rfl
    unfold St.write
    rw [if_pos hmax]
    unfold absorb
    simp only [List.append_nil, List.length_nil, Nat.add_zero, Nat.div_eq_of_lt hrb, runC, Nat.mul_zero, List.drop_zero]
  rcases hX.2 with ⟨rfl, rfl, hp⟩ | ⟨hp, ad, rfl⟩ | ⟨bs, os, rfl, hR, hS⟩
  · rw [hw hp]
    subst hp
    have hm : cnt ≤ maxCount := hmax
    cases B
    · refine (N32.write_nil b cnt c rv rs hrb hm w hD).mono ?_
      rintro e w' ⟨r, rfl, h1, h2⟩
      exact ⟨r, rv, rfl, h1, Heir.refl _ _, h2.mono (fun _ _ h => .inl h)⟩
    · refine (N64.write_nil b cnt c rv rs hrb hm w hD).mono ?_
      rintro e w' ⟨r, rfl, h1, h2⟩
      exact ⟨r, rv, rfl, h1, Heir.refl _ _, h2.mono (fun _ _ h => .inl h)⟩
  · rw [hw hp]
    subst hp
    have hm : cnt ≤ maxCount := hmax
    cases B
    · refine (N32.write_empty b cnt c ad cp rv rs hrb hm w hD).mono ?_
      rintro e w' ⟨r, rfl, h1, h2⟩
      exact ⟨r, rv, rfl, h1, Heir.refl _ _, h2.mono (fun _ _ h => .inl h)⟩
    · refine (N64.write_empty b cnt c ad cp rv rs hrb hm w hD).mono ?_
      rintro e w' ⟨r, rfl, h1, h2⟩
      exact ⟨r, rv, rfl, h1, Heir.refl _ _, h2.mono (fun _ _ h => .inl h)⟩
  · have hne : bs ≠ b := fun h => hS (.inl h)
    have hnr : rv.ownBlock ≠ some bs := fun h => hS (.inr h)
    rcases Nat.eq_zero_or_pos rs.length with h0 | h0
    · obtain rfl := List.eq_nil_of_length_eq_zero h0
      cases B
      · exact W32.write_none b cnt c rv p bs os cp hX.1 hmax w hL hD hR hne
      · exact W64.write_none b cnt c rv p bs os cp hX.1 hmax w hL hD hR hne
    · by_cases hsh : rs.length + p.length < blk B
      · cases B
        · exact W32.write_short b cnt c rv rs p h0 hsh bs os cp hX.1 hmax w hL hD hR hne
        · exact W64.write_short b cnt c rv rs p h0 hsh bs os cp hX.1 hmax w hL hD hR hne
      · cases B
        · simp only [blk] at hrb hsh
          exact W32.write_long b cnt c rv rs p (64 - rs.length) h0 (by omega) (by omega) (by omega) bs os cp hX.1 hmax w hL hD hR hne hnr
        · simp only [blk] at hrb hsh
          exact W64.write_long b cnt c rv rs p (128 - rs.length) h0 (by omega) (by omega) (by omega) bs os cp hX.1 hmax w hL hD hR hne hnr
end Go.Proofs.YtjcmgpiapbeodaaDoor.Sha
namespace Go.Proofs.YtjcmgpiapbeodaaDoor.Sha
open Go.RowKit Go.Proofs.YtjcmgpiapbeodaaDoor.Mem
theorem setCell_alloc (W : World) (t : TypeId) (pre rest : List Value) (z v : Value) : (W.alloc (.cells (pre ++ z :: rest).toArray t)).setCell ⟨W.heap.size, pre.length, none⟩ v = W.alloc (.cells (pre ++ v :: rest).toArray t) := by
  unfold World.setCell World.alloc
  congr 1
  apply Array.ext_getElem?
  intro i
  rw [Array.getElem?_modify]
  by_cases h : W.heap.size = i
  · subst h
    simp
  · rw [if_neg h]
    rcases Nat.lt_or_ge i W.heap.size with h1 | h1
    · simp [Array.getElem?_push, Nat.ne_of_lt h1]
    · rw [Array.getElem?_eq_none (by simp; omega), Array.getElem?_eq_none (by simp; omega)]
theorem setCells_alloc (W : World) (t : TypeId) : ∀ (vs pre rest : List Value), rest.length = vs.length → (W.alloc (.cells (pre ++ rest).toArray t)).setCells W.heap.size pre.length vs = W.alloc (.cells (pre ++ vs).toArray t)
  | [], pre, rest, h => by
    obtain rfl := List.eq_nil_of_length_eq_zero h
    rfl
  | v :: vs, pre, [], h => by simp at h
  | v :: vs, pre, z :: rest, h => by
    rw [World.setCells, setCell_alloc, show pre ++ v :: rest = (pre ++ [v]) ++ rest by simp, show pre.length + 1 = (pre ++ [v]).length by simp, setCells_alloc W t vs (pre ++ [v]) rest (by simpa using h)]
    simp
theorem setCells_drew (b : Nat) : ∀ (vs : List Value) (o : Nat) (W : World), W.drew.setCells b o vs = (W.setCells b o vs).drew
  | [], _, _ => rfl
  | v :: vs, o, W => by rw [World.setCells, World.setCells, ← setCells_drew b vs (o + 1)]; rfl
theorem store_list (W : World) (zs vs : List Value) (hz : zs.length = 19) (hv : vs.length = 19) (h1 : vs.toArray.all (fun x => x.oneCell') = true) :
    (Instr.storeAt 135 (.pointer (some ⟨W.heap.size, 0, none⟩)) (.agg vs.toArray)).run Tryd.prog (W.alloc (.cells zs.toArray 135)).drew = .ok () (W.alloc (.cells vs.toArray 135)).drew := by
  have hi : (Tryd.prog.info? 135).map (·.size) = some 19 := by kernel_rfl
  rw [run_storeAt_mid (P := Tryd.prog) _ W.heap.size 0 135 vs.toArray (fun j hj => ?_) (by rw [hi, List.size_toArray, hv]) h1]
  · rw [setCells_drew]
    have e := setCells_alloc W 135 vs [] zs (hz.trans hv.symm)
    rw [List.nil_append, List.nil_append, List.length_nil] at e
    rw [e]
  · have hb : Blk (W.alloc (.cells zs.toArray 135)).drew W.heap.size 135 zs := Blk.new W _ _
    rw [Nat.zero_add]
    refine ⟨?_, hb.free j⟩
    rw [hb.cell? j]
    rw [List.size_toArray, hv, ← hz] at hj
    simp [hj]
def aggCells : Value → Array Value
  | .agg cs => cs
  | _ => #[]
def good19 : Value → Bool
  | .agg cs => cs.size == 19 && cs.all (fun x => x.oneCell')
  | _ => false
theorem good19_agg (cs : Array Value) : good19 (.agg cs) = (cs.size == 19 && cs.all (fun x => x.oneCell')) := rfl
theorem aggCells_agg (cs : Array Value) : aggCells (.agg cs) = cs := rfl
/-- at the operation: for the walk's simp -/
theorem wp_store_new (W : World) (zs : Array Value) (a : Act) (K : Act → World → Prop) (Q : Exit → Act → World → Prop) (x y : Operand) (ty : TypeId) (pos : String) (af)
    (hx : a.eval x = .pointer (some ⟨W.heap.size, 0, none⟩)) (hy : good19 (a.eval y) = true) (hz : zs.size = 19) :
    Oper.wp Tryd.prog { dst := none, op := .store 135 x y, type := ty, pos := pos, after := af, guard := none } a (W.alloc (.cells zs 135)).drew K Q = K a (W.alloc (.cells (aggCells (a.eval y)) 135)).drew := by
  cases hv : a.eval y <;> rw [hv] at hy <;> simp only [good19, Bool.false_eq_true] at hy
  rename_i cs
  simp only [Bool.and_eq_true, beq_iff_eq] at hy
  have h := store_list W zs.toList cs.toList (by simpa using hz) (by simpa using hy.1) (by simpa using hy.2)
  simp only [Array.toArray_toList] at h
  have e : (execOp a.eval { dst := none, op := .store 135 x y, type := ty, pos := pos, after := af, guard := none }).run Tryd.prog (W.alloc (.cells zs 135)).drew = .ok .skip (W.alloc (.cells cs 135)).drew := by
    unfold execOp
    simp only [hx, hv, Sem.run_bind, h, Result.andThen_ok, Sem.run_pure]
  unfold Oper.wp
  rw [e]
  rfl
theorem be8_list (n : Nat) (h : n < 18446744073709551616) : be8 n = [(n : Int) / 72057594037927936 % 256, (n : Int) / 281474976710656 % 256, (n : Int) / 1099511627776 % 256, (n : Int) / 4294967296 % 256, (n : Int) / 16777216 % 256, (n : Int) / 65536 % 256, (n : Int) / 256 % 256, (n : Int) % 256] := by
  simp [be8, layWord, List.range_succ, List.range_zero, BitVec.toNat_ushiftRight, Nat.shiftRight_eq_div_pow, Nat.mod_eq_of_lt h]
theorem own_reads {w : World} {base g n cap : Nat} {xs : List Int} (h : w.ownsRow base 5 1 (.slice (some ⟨g, 0, none⟩) n cap) n (bytes xs)) (hn : n = xs.length) : n ≤ cap ∧ Reads w g 0 xs := by
  subst hn
  obtain ⟨g', cap', h1, h2, h3⟩ : ∃ g' cap', (Value.slice (some ⟨g, 0, none⟩) xs.length cap) = .slice (some ⟨g', 0, none⟩) xs.length cap' ∧ g' < w.heap.size ∧ xs.length ≤ cap' := by
    rcases h.2 with ⟨h', _⟩ | ⟨g', cap', cur, h', _, hg, hnc, _⟩
    · simp at h'
    · refine ⟨g', cap', h', ?_, hnc⟩
      rcases Nat.lt_or_ge g' w.heap.size with h | h
      · exact h
      · rw [Array.getElem?_eq_none h] at hg; cases hg
  simp only [Value.slice.injEq, Option.some.injEq, Addr.mk.injEq, and_true, true_and] at h1
  obtain ⟨rfl, rfl⟩ := h1
  exact ⟨h3, h2, fun i hi => by rw [Nat.zero_add, h.cellAt i (by omega), bytes_get xs i hi]⟩
theorem be8_length (n : Nat) : (be8 n).length = 8 := by simp [be8, layWord]
theorem own_base {w : World} {base base' n : Nat} {v : Value} {xs : List Value} (h : w.ownsRow base 5 1 v n xs) (hb : base' ≤ base) : w.ownsRow base' 5 1 v n xs := by
  refine ⟨h.1, ?_⟩
  rcases h.2 with h' | ⟨g, cap, cur, h1, h2, h3⟩
  · exact .inl h'
  · exact .inr ⟨g, cap, cur, h1, Nat.le_trans hb h2, h3⟩
/-- an append onto memory of the call's own: old memory stays, and a variable of the call's too -/
theorem app_step {w W W' : World} {v : Value} {n be : Nat} {xs vs : List Value} {T : TypeId} (hF : Fr (fun _ => False) w W) (hO : W.ownsRow w.heap.size 5 1 v n xs) (hE : Blk W be T vs) (hT : T ≠ 5) (hg : W.grownBy W' v.ownBlock) :
    Fr (fun _ => False) w W' ∧ Blk W' be T vs :=
  ⟨Fr.grown hF hg (fun _ hk hr => absurd (own_lt hO hr).2 (Nat.not_le_of_lt hk)), (hg.block be hE.lt (fun h => own_ne hO h.symm hE hT rfl)).trans hE⟩
def chainAt (W : World) : Value → List Value
  | .pointer (some ⟨b, o, none⟩) => [(W.cell? ⟨b, o + 0, none⟩).getD undef, (W.cell? ⟨b, o + 1, none⟩).getD undef, (W.cell? ⟨b, o + 2, none⟩).getD undef, (W.cell? ⟨b, o + 3, none⟩).getD undef, (W.cell? ⟨b, o + 4, none⟩).getD undef, (W.cell? ⟨b, o + 5, none⟩).getD undef, (W.cell? ⟨b, o + 6, none⟩).getD undef, (W.cell? ⟨b, o + 7, none⟩).getD undef, (W.cell? ⟨b, o + 8, none⟩).getD undef, (W.cell? ⟨b, o + 9, none⟩).getD undef, (W.cell? ⟨b, o + 10, none⟩).getD undef, (W.cell? ⟨b, o + 11, none⟩).getD undef, (W.cell? ⟨b, o + 12, none⟩).getD undef, (W.cell? ⟨b, o + 13, none⟩).getD undef, (W.cell? ⟨b, o + 14, none⟩).getD undef, (W.cell? ⟨b, o + 15, none⟩).getD undef]
  | _ => []
def chainOk (W : World) : Value → Bool
  | .pointer (some ⟨b, o, none⟩) => (W.cell? ⟨b, o + 0, none⟩).isSome && (W.cell? ⟨b, o + 1, none⟩).isSome && (W.cell? ⟨b, o + 2, none⟩).isSome && (W.cell? ⟨b, o + 3, none⟩).isSome && (W.cell? ⟨b, o + 4, none⟩).isSome && (W.cell? ⟨b, o + 5, none⟩).isSome && (W.cell? ⟨b, o + 6, none⟩).isSome && (W.cell? ⟨b, o + 7, none⟩).isSome && (W.cell? ⟨b, o + 8, none⟩).isSome && (W.cell? ⟨b, o + 9, none⟩).isSome && (W.cell? ⟨b, o + 10, none⟩).isSome && (W.cell? ⟨b, o + 11, none⟩).isSome && (W.cell? ⟨b, o + 12, none⟩).isSome && (W.cell? ⟨b, o + 13, none⟩).isSome && (W.cell? ⟨b, o + 14, none⟩).isSome && (W.cell? ⟨b, o + 15, none⟩).isSome
  | _ => false
theorem chainAt_ptr (W : World) (b o : Nat) : chainAt W (.pointer (some ⟨b, o, none⟩)) = [(W.cell? ⟨b, o + 0, none⟩).getD undef, (W.cell? ⟨b, o + 1, none⟩).getD undef, (W.cell? ⟨b, o + 2, none⟩).getD undef, (W.cell? ⟨b, o + 3, none⟩).getD undef, (W.cell? ⟨b, o + 4, none⟩).getD undef, (W.cell? ⟨b, o + 5, none⟩).getD undef, (W.cell? ⟨b, o + 6, none⟩).getD undef, (W.cell? ⟨b, o + 7, none⟩).getD undef, (W.cell? ⟨b, o + 8, none⟩).getD undef, (W.cell? ⟨b, o + 9, none⟩).getD undef, (W.cell? ⟨b, o + 10, none⟩).getD undef, (W.cell? ⟨b, o + 11, none⟩).getD undef, (W.cell? ⟨b, o + 12, none⟩).getD undef, (W.cell? ⟨b, o + 13, none⟩).getD undef, (W.cell? ⟨b, o + 14, none⟩).getD undef, (W.cell? ⟨b, o + 15, none⟩).getD undef] := rfl
theorem chainOk_ptr (W : World) (b o : Nat) : chainOk W (.pointer (some ⟨b, o, none⟩)) = ((W.cell? ⟨b, o + 0, none⟩).isSome && (W.cell? ⟨b, o + 1, none⟩).isSome && (W.cell? ⟨b, o + 2, none⟩).isSome && (W.cell? ⟨b, o + 3, none⟩).isSome && (W.cell? ⟨b, o + 4, none⟩).isSome && (W.cell? ⟨b, o + 5, none⟩).isSome && (W.cell? ⟨b, o + 6, none⟩).isSome && (W.cell? ⟨b, o + 7, none⟩).isSome && (W.cell? ⟨b, o + 8, none⟩).isSome && (W.cell? ⟨b, o + 9, none⟩).isSome && (W.cell? ⟨b, o + 10, none⟩).isSome && (W.cell? ⟨b, o + 11, none⟩).isSome && (W.cell? ⟨b, o + 12, none⟩).isSome && (W.cell? ⟨b, o + 13, none⟩).isSome && (W.cell? ⟨b, o + 14, none⟩).isSome && (W.cell? ⟨b, o + 15, none⟩).isSome) := rfl
theorem chain_range (W : World) (b o : Nat) (h : chainOk W (.pointer (some ⟨b, o, none⟩)) = true) : W.rangeAt b o (chainAt W (.pointer (some ⟨b, o, none⟩))) := by
  rw [chainOk_ptr] at h
  simp only [Bool.and_eq_true, Option.isSome_iff_exists] at h
  obtain ⟨⟨⟨⟨⟨⟨⟨⟨⟨⟨⟨⟨⟨⟨⟨⟨v0, h0⟩, ⟨v1, h1⟩⟩, ⟨v2, h2⟩⟩, ⟨v3, h3⟩⟩, ⟨v4, h4⟩⟩, ⟨v5, h5⟩⟩, ⟨v6, h6⟩⟩, ⟨v7, h7⟩⟩, ⟨v8, h8⟩⟩, ⟨v9, h9⟩⟩, ⟨v10, h10⟩⟩, ⟨v11, h11⟩⟩, ⟨v12, h12⟩⟩, ⟨v13, h13⟩⟩, ⟨v14, h14⟩⟩, ⟨v15, h15⟩⟩ := h
  rw [chainAt_ptr, h0, h1, h2, h3, h4, h5, h6, h7, h8, h9, h10, h11, h12, h13, h14, h15]
  intro j v hv
  have hj : j = 0 ∨ j = 1 ∨ j = 2 ∨ j = 3 ∨ j = 4 ∨ j = 5 ∨ j = 6 ∨ j = 7 ∨ j = 8 ∨ j = 9 ∨ j = 10 ∨ j = 11 ∨ j = 12 ∨ j = 13 ∨ j = 14 ∨ j = 15 := by
    rcases Nat.lt_or_ge j 16 with h | h
    · omega
    · rw [List.getElem?_eq_none (by simpa using h)] at hv; cases hv
  rcases hj with rfl | rfl | rfl | rfl | rfl | rfl | rfl | rfl | rfl | rfl | rfl | rfl | rfl | rfl | rfl | rfl <;> (cases hv; assumption)
/-- at the operation: for the walk's simp -/
theorem wp_load_chain (W : World) (a : Act) (K : Act → World → Prop) (Q : Exit → Act → World → Prop) (x : Operand) (d : Tmp) (ty : TypeId) (pos : String) (af)
    (hx : chainOk W (a.eval x) = true) :
    Oper.wp Tryd.prog { dst := some d, op := .load 132 x, type := ty, pos := pos, after := af, guard := none } a W K Q = K (a.put (some d) (.agg (chainAt W (a.eval x)).toArray)) W := by
  obtain ⟨b, o, hv⟩ : ∃ b o, a.eval x = .pointer (some ⟨b, o, none⟩) := by
    cases hv : a.eval x <;> rw [hv] at hx <;> try (simp only [chainOk, Bool.false_eq_true] at hx)
    rename_i p
    cases p with
    | none => simp only [Bool.false_eq_true] at hx
    | some p =>
      obtain ⟨b, o, s⟩ := p
      cases s with
      | none => exact ⟨b, o, rfl⟩
      | some s => simp only [Bool.false_eq_true] at hx
  rw [hv] at hx ⊢
  have hl : (chainAt W (.pointer (some ⟨b, o, none⟩))).length = 16 := rfl
  have hi : (Tryd.prog.info? 132).map (·.size) = some 16 := by kernel_rfl
  have h := run_loadAt_mid (P := Tryd.prog) W b o 132 (chainAt W (.pointer (some ⟨b, o, none⟩))) _ (chain_range W b o hx) Tryd.underlying132 rfl (by rw [hi, hl])
  have e : (execOp a.eval { dst := some d, op := .load 132 x, type := ty, pos := pos, after := af, guard := none }).run Tryd.prog W = .ok (.value (.agg (chainAt W (.pointer (some ⟨b, o, none⟩))).toArray)) W := by
    unfold execOp
    simp only [hv, Sem.run_bind, h, Result.andThen_ok, Sem.run_pure]
  unfold Oper.wp
  rw [e]
  rfl
end Go.Proofs.YtjcmgpiapbeodaaDoor.Sha
