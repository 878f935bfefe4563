/-
  Whole rows: loaded, compared.
-/
import Derived.Test.YtjcmgpiapbeodaaDoorFin32
import Derived.Deep.MidRow
namespace Go.Proofs.YtjcmgpiapbeodaaDoor.Sha
open Go.RowKit Go.Proofs.YtjcmgpiapbeodaaDoor.Mem Go.Proofs.YtjcmgpiapbeodaaDoorW.PrintWords
/-- two rows of integers as values, compared -/
theorem run_equalIn_ints {P : Program} (w : World) (d : Nat) (t e : TypeId) (n : Nat) (k : IntKind) (ht : P.underlying t = some (.array n e)) (he : P.underlying e = some (.int k)) (hsz : ∀ w, (sizeOf e).run P w = .ok 1 w)
    (xs ys : List Int) (hx : xs.length = n) (hy : ys.length = n) :
    (Op.equalIn (d + 2) t (.agg (xs.map (Value.int k)).toArray) (.agg (ys.map (Value.int k)).toArray)).run P w = .ok (decide (xs = ys)) w := by
  have hall : decide (xs = ys) = (List.range n).all fun i => xs.getD i 0 == ys.getD i 0 := by
    rw [Bool.eq_iff_iff]
    simp only [decide_eq_true_eq, List.all_eq_true, List.mem_range, beq_iff_eq]
    constructor
    · rintro rfl i _; rfl
    · intro h
      apply List.ext_getElem (by omega)
      intro i h1 h2
      have := h i (by omega)
      simpa [h1, h2] using this
  rw [hall, List.range_eq_range', Op.equalIn]
  simp only [Sem.run_bind, run_underlying ht, Result.andThen_ok, hsz, Std.Legacy.Range.forIn_eq_forIn_range', Std.Legacy.Range.size, Nat.sub_zero, Nat.add_sub_cancel, Nat.div_one]
  have hl : ∀ i ∈ List.range' 0 n 1, i < n := fun i hi => by simpa using (List.mem_range'_1.1 hi).2
  generalize List.range' 0 n 1 = l at hl ⊢
  induction l with
  | nil => simp
  | cons i l ih =>
    have hi : i < n := hl i (by simp)
    have px : (part e (xs.map (Value.int k)).toArray (i * 1)).run P w = .ok (.int k (xs.getD i 0)) w := by
      simp [part, isAgg, run_underlying he, List.getD, List.getElem?_eq_getElem (show i < xs.length by omega)]
    have py : (part e (ys.map (Value.int k)).toArray (i * 1)).run P w = .ok (.int k (ys.getD i 0)) w := by
      simp [part, isAgg, run_underlying he, List.getD, List.getElem?_eq_getElem (show i < ys.length by omega)]
    have pe : (Op.equalIn (d + 1) e (.int k (xs.getD i 0)) (.int k (ys.getD i 0))).run P w = .ok (xs.getD i 0 == ys.getD i 0) w := run_equalIn_int w d e k k _ _ he
    simp only [List.forIn_cons, Sem.run_bind, px, py, pe, Result.andThen_ok, List.all_cons]
    cases hb : (xs.getD i 0 == ys.getD i 0)
    · simp
    · simp only [Bool.not_true, Bool.false_eq_true, if_false, Sem.run_pure, Result.andThen_ok, Bool.true_and]
      exact ih fun j hj => hl j (by simp [hj])
theorem size_u8 (w : World) : (sizeOf 5).run Tryd.prog w = .ok 1 w := by
  obtain ⟨i, hi, hs⟩ := Option.map_eq_some_iff.1 (show (Tryd.prog.info? 5).map (·.size) = some 1 by kernel_rfl)
  simp [sizeOf, typeInfo, hi, hs]
theorem run_eql_hash (w : World) (xs ys : List Int) (hx : xs.length = 32) (hy : ys.length = 32) : (binOp .eql 29 (.agg (bytes xs).toArray) (.agg (bytes ys).toArray)).run Tryd.prog w = .ok (.bool (decide (xs = ys))) w := by
  rw [run_eql_struct]
  show ((Op.equalIn (9998 + 2) 29 (.agg (xs.map (Value.int .u8)).toArray) (.agg (ys.map (Value.int .u8)).toArray)).run Tryd.prog w).andThen _ = _
  rw [run_equalIn_ints w 9998 29 5 32 .u8 Tryd.underlying29 Tryd.underlying5 size_u8 xs ys hx hy]
  rfl
theorem run_neq_hash (w : World) (xs ys : List Int) (hx : xs.length = 32) (hy : ys.length = 32) : (binOp .neq 29 (.agg (bytes xs).toArray) (.agg (bytes ys).toArray)).run Tryd.prog w = .ok (.bool (!decide (xs = ys))) w := by
  rw [run_neq_struct]
  show ((Op.equalIn (9998 + 2) 29 (.agg (xs.map (Value.int .u8)).toArray) (.agg (ys.map (Value.int .u8)).toArray)).run Tryd.prog w).andThen _ = _
  rw [run_equalIn_ints w 9998 29 5 32 .u8 Tryd.underlying29 Tryd.underlying5 size_u8 xs ys hx hy]
  rfl
/-- the cells of a block that is loaded whole -/
noncomputable def rowAt (W : World) : Value → Array Value
  | .pointer (some ⟨b, 0, none⟩) => match W.heap[b]? with
    | some (.cells cs _ _) => cs
    | _ => #[]
  | _ => #[]
/-- does a whole row of type t lie here? -/
noncomputable def rowOk (W : World) (t : TypeId) : Value → Bool
  | .pointer (some ⟨b, 0, none⟩) => match W.heap[b]? with
    | some (.cells cs t' fr) => t' == t && fr == (0, 0) && (Tryd.prog.info? t).map (·.size) == some cs.size
    | _ => false
  | _ => false
theorem rowAt_blk {W : World} {b : Nat} {T : TypeId} {vs : List Value} (h : Blk W b T vs) : rowAt W (.pointer (some ⟨b, 0, none⟩)) = vs.toArray := by
  unfold Blk at h
  simp only [rowAt, h]
theorem rowOk_blk {W : World} {b : Nat} {T : TypeId} {vs : List Value} (h : Blk W b T vs) (hz : (Tryd.prog.info? T).map (·.size) = some vs.length) : rowOk W T (.pointer (some ⟨b, 0, none⟩)) = true := by
  unfold Blk at h
  simp only [rowOk, h]
  simp [hz]
theorem wp_load_hash (W : World) (a : Act) (K : Act → World → Prop) (Q : Exit → Act → World → Prop) (x : Operand) (d : Tmp) (ty : TypeId) (pos : String) (af)
    (hx : rowOk W 29 (a.eval x) = true) :
    Oper.wp Tryd.prog { dst := some d, op := .load 29 x, type := ty, pos := pos, after := af, guard := none } a W K Q = K (a.put (some d) (.agg (rowAt W (a.eval x)))) W := by
  obtain ⟨b, cs, hv, hb, hz⟩ : ∃ b cs, a.eval x = .pointer (some ⟨b, 0, none⟩) ∧ W.heap[b]? = some (.cells cs 29 (0, 0)) ∧ (Tryd.prog.info? 29).map (·.size) = some cs.size := by
    unfold rowOk at hx
    split at hx
    · rename_i b hv
      split at hx
      · rename_i cs t' fr hb
        simp only [Bool.and_eq_true, beq_iff_eq] at hx
        obtain ⟨⟨rfl, rfl⟩, h3⟩ := hx
        exact ⟨b, cs, hv, hb, h3⟩
      · cases hx
    · cases hx
  have hr : W.rangeAt b 0 cs.toList := fun j v hj => by
    rw [Nat.zero_add, cell_of_row W b j cs 29 (0, 0) hb]
    simpa using hj
  have h := run_loadAt_mid (P := Tryd.prog) W b 0 29 cs.toList _ hr Tryd.underlying29 rfl (by simpa using hz)
  have e : (execOp a.eval { dst := some d, op := .load 29 x, type := ty, pos := pos, after := af, guard := none }).run Tryd.prog W = .ok (.value (.agg cs)) W := by
    unfold execOp
    simp only [hv, Sem.run_bind, h, Result.andThen_ok, Sem.run_pure]
  have hra : rowAt W (a.eval x) = cs := by rw [hv]; simp only [rowAt, hb]
  unfold Oper.wp
  rw [e, hra]
  rfl
theorem rowAt_drew (W : World) (v : Value) : rowAt W.drew v = rowAt W v := rfl
theorem rowOk_drew (W : World) (t : TypeId) (v : Value) : rowOk W.drew t v = rowOk W t v := rfl
end Go.Proofs.YtjcmgpiapbeodaaDoor.Sha
