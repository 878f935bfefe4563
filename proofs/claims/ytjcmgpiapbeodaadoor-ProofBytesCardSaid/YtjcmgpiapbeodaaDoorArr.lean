/-
  Arrays of bytes as arguments.
-/
import Derived.Test.YtjcmgpiapbeodaaDoorShaState
import Derived.Test.YtjcmgpiapbeodaaDoorRows
import Derived.WalkKit
import Derived.ProofKit
import Derived.OpenShut
import Derived.Lib.LaidU8
namespace Go.Proofs.YtjcmgpiapbeodaaDoor.Sha
open Go.RowKit Go.Proofs.YtjcmgpiapbeodaaDoor.Mem
section
variable {H : Type} {enc : TypeId × Value → H} {P : Program} {w : World} {base : Nat} {sp : Nat → Bool} {held : Bool}
theorem trod_agg {fuel : Nat} {t e : TypeId} {n : Nat} {cs : List Value} {d : DataW H} {p : List MemPlace} (ht : P.underlying t = some (.array n e))
    (h : DataW.trod enc P w base sp held fuel t cs = some (d, p)) : (∃ ds, d = .agg ds) ∧ cs.length = P.cellsOf t := by
  cases fuel with
  | zero => simp [DataW.trod] at h
  | succ fuel =>
    simp only [DataW.trod, ht] at h
    split at h
    · rename_i hl
      obtain ⟨xs, hm, hx⟩ := Option.map_eq_some_iff.1 h
      exact ⟨⟨_, (congrArg Prod.fst hx).symm⟩, hl⟩
    · cases h
theorem ints_of_arr {fuel : Nat} {t e : TypeId} {n : Nat} {k : IntKind} {cs : List Value} {d : DataW H} {p : List MemPlace} (ht : P.underlying t = some (.array n e)) (he : P.underlying e = some (.int k)) (hce : P.cellsOf e = 1) (hct : P.cellsOf t = n)
    (h : DataW.trod enc P w base sp held fuel t cs = some (d, p)) : ∃ zs : List Int, zs.length = n ∧ cs = zs.map (Value.int k) ∧ ∀ z ∈ zs, (Lit.int k z).wf = true := by
  obtain ⟨⟨ds, rfl⟩, hl⟩ := trod_agg ht h
  rw [hct] at hl
  have el : ∀ i, i < n → ∃ z, cs[i]? = some (.int k z) ∧ (Lit.int k z).wf = true := fun i hi => by
    obtain ⟨f', d', q, _, htr⟩ := Lib.array_elem ht h i hi
    rw [hce, Nat.mul_one] at htr
    obtain ⟨z, hz, _, hw⟩ := DataW.trod_int he htr
    refine ⟨z, ?_, hw⟩
    have h1 := congrArg (fun l : List Value => l[0]?) hz
    simpa [List.getElem?_take, List.getElem?_drop] using h1
  refine ⟨cs.map (fun v => match v with | .int _ z => z | _ => 0), by simpa using hl, ?_, ?_⟩
  · apply List.ext_getElem?
    intro i
    rcases Nat.lt_or_ge i n with hi | hi
    · obtain ⟨z, hz, _⟩ := el i hi
      simp [hz]
    · rw [List.getElem?_eq_none (by omega), List.getElem?_eq_none (by simp; omega)]
  · intro z hz
    obtain ⟨v, hv, rfl⟩ := List.mem_map.1 hz
    obtain ⟨i, hi, he⟩ := List.getElem_of_mem hv
    obtain ⟨z, h1, h2⟩ := el i (by omega)
    rw [List.getElem?_eq_getElem hi, he] at h1
    obtain rfl := Option.some.inj h1
    exact h2
/-- two rows of ints, one behind the other -/
theorem ints_of_two {fuel : Nat} {t e q : TypeId} {n : Nat} {k : IntKind} {cs : List Value} {d : DataW H} {p : List MemPlace} (ht : P.underlying t = some (.array 2 e)) (he : P.underlying e = some (.array n q)) (hq : P.underlying q = some (.int k)) (hcq : P.cellsOf q = 1) (hce : P.cellsOf e = n) (hct : P.cellsOf t = 2 * n)
    (h : DataW.trod enc P w base sp held fuel t cs = some (d, p)) : ∃ xs ys : List Int, xs.length = n ∧ ys.length = n ∧ cs = xs.map (Value.int k) ++ ys.map (Value.int k) ∧ (∀ z ∈ xs, (Lit.int k z).wf = true) ∧ ∀ z ∈ ys, (Lit.int k z).wf = true := by
  obtain ⟨⟨ds, rfl⟩, hl⟩ := trod_agg ht h
  rw [hct] at hl
  obtain ⟨f0, d0, q0, _, h0⟩ := Lib.array_elem ht h 0 (by omega)
  obtain ⟨f1, d1, q1, _, h1⟩ := Lib.array_elem ht h 1 (by omega)
  rw [hce] at h0 h1
  obtain ⟨xs, hx, ex, wx⟩ := ints_of_arr he hq hcq hce h0
  obtain ⟨ys, hy, ey, wy⟩ := ints_of_arr he hq hcq hce h1
  refine ⟨xs, ys, hx, hy, ?_, wx, wy⟩
  rw [← ex, ← ey, Nat.zero_mul, List.drop_zero, Nat.one_mul]
  have : (cs.drop n).take n = cs.drop n := List.take_of_length_le (by rw [List.length_drop]; omega)
  rw [this, List.take_append_drop]
end
end Go.Proofs.YtjcmgpiapbeodaaDoor.Sha
