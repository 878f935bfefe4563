/-
  The map of hashes by spans, in memory: what it tells is a function of two numbers.
-/
import Derived.Test.YtjcmgpiapbeodaaDoorRev
import Derived.Test.YtjcmgpiapbeodaaDoorKnownA
import Derived.Maps.Own
import Derived.Maps.Views
import Derived.DeepKeys4
set_option linter.unusedSimpArgs false
set_option linter.unusedVariables false
namespace Go.Proofs.YtjcmgpiapbeodaaDoor.Sha
open Go.Proofs.YtjcmgpiapbeodaaDoor.Pf
open Go.RowKit Go.Proofs.YtjcmgpiapbeodaaDoor.Mem
abbrev RV : Value → Option (DataW Value × List MemPlace) := fun v => some (.held v, [])
theorem maps_laid : laidOutB Tryd.prog = true := by kernel_rfl
theorem span_keyed : Maps.Keyed Tryd.prog 91 :=
  Maps.Keyed.of_law (deep_law_laid maps_laid (m := 2) (by omega) (of_decide_eq_true (by kernel_rfl)) (by kernel_rfl) (by rw [Tryd.underlying91]))
def spanV (a b : Nat) : Value := .agg #[.int .i64 (a : Int), .int .i64 (b : Int)]
theorem wf_i64 {a : Nat} (h : a ≤ 281474976710656) : (Lit.int .i64 (a : Int)).wf = true := by
  have e1 : IntKind.i64.min = -9223372036854775808 := by decide
  have e2 : IntKind.i64.max = 9223372036854775807 := by decide
  simp only [Lit.wf, Bool.and_eq_true, decide_eq_true_eq, e1, e2]
  omega
theorem keyOf_span {a b : Nat} (ha : a ≤ 281474976710656) (hb : b ≤ 281474976710656) : ∃ kl, keyOf Tryd.prog 91 (spanV a b) = some kl := by
  have h1 : Tryd.prog.keyType 91 = true := by kernel_rfl
  have h2 : Tryd.prog.cellsOf 91 = 2 := by kernel_rfl
  have h3 : Tryd.prog.cellsOf 2 = 1 := by kernel_rfl
  have h4 : (spanV a b).formed Tryd.prog 91 = true := by
    simp [spanV, Value.formed, Tryd.underlying91, h2]
  obtain ⟨d, hd⟩ : ∃ d, Tryd.prog.types.size = d + 1 := ⟨Tryd.prog.types.size - 1, by
    have : (0 : Nat) < Tryd.prog.types.size := of_decide_eq_true (by kernel_rfl)
    omega⟩
  have ka := wf_i64 ha
  have kb := wf_i64 hb
  unfold keyOf
  rw [Tryd.underlying91]
  simp only [h1, h4, hd, Bool.and_self, if_true]
  simp [Program.keyLits, Tryd.underlying91, Tryd.underlying2, h2, h3, spanV, Value.cells, ka, kb]
/-- block b is a map of hashes by spans, at most n of them; it tells K -/
def MapB (w : World) (b n : Nat) (K : Nat → Nat → List Int) : Prop :=
  ∃ D, w.ownsMap Tryd.prog 91 RV b n D ∧ Maps.IsMap D ∧ ∀ x y, x ≤ 281474976710656 → y ≤ 281474976710656 → ∀ kl, keyOf Tryd.prog 91 (spanV x y) = some kl → D.atKey kl (.held (.agg (bytes (List.replicate 32 0)).toArray)) = .held (.agg (bytes (K x y)).toArray)
theorem MapB.new (w : World) : MapB (w.alloc (.map #[] 0)) w.heap.size 0 zeros2 :=
  ⟨_, World.ownsMap_made w _ _ _, ⟨_, rfl⟩, fun x y _ _ kl _ => rfl⟩
theorem MapB.lt {w : World} {b n : Nat} {K : Nat → Nat → List Int} (h : MapB w b n K) : b < w.heap.size := by
  obtain ⟨D, h, _⟩ := h
  exact h.lt
theorem MapB.keep {w w1 : World} {b n : Nat} {K : Nat → Nat → List Int} {S : Nat → Prop} (h : MapB w b n K) (hf : Fr S w w1) (hS : ¬ S b) : MapB w1 b n K := by
  have hlt := h.lt
  obtain ⟨D, ⟨es, clock, hb, F, hs, hD⟩, h2⟩ := h
  exact ⟨D, ⟨es, clock, (hf.block b hlt hS).trans hb, F, hs, hD⟩, h2⟩
theorem spanV_inj {a b x y : Nat} (h : spanV a b = spanV x y) : x = a ∧ y = b := by
  simp only [spanV, Value.agg.injEq, Array.mk.injEq, List.cons.injEq, Value.int.injEq, Int.ofNat_inj, true_and, and_true] at h
  exact ⟨h.1.symm, h.2.symm⟩
theorem isMap_put {D : DataW Value} (h : Maps.IsMap D) (k : Lit) (d : DataW Value) : Maps.IsMap (D.put k d) := by
  obtain ⟨es, rfl⟩ := h
  exact ⟨_, rfl⟩
theorem MapB.update {w : World} {b n : Nat} {K : Nat → Nat → List Int} (h : MapB w b n K) (hn : n < 1000) {x y : Nat} (hx : x ≤ 281474976710656) (hy : y ≤ 281474976710656) (v : List Int) :
    ∃ w', (Instr.mapUpdate 99 (.map (some b)) (spanV x y) (.agg (bytes v).toArray)).run Tryd.prog w = .ok () w' ∧ MapB w' b (n + 1) (upd K x y v) ∧ Fr (fun q => q = b) w w' := by
  obtain ⟨D, h1, h2, h3⟩ := h
  obtain ⟨kl, hk⟩ := keyOf_span hx hy
  obtain ⟨w', hr, ho, hg⟩ := h1.update span_keyed Tryd.underlying99 (Nat.lt_of_lt_of_le hn (by decide)) hk (val := .agg (bytes v).toArray) (d := .held (.agg (bytes v).toArray)) (ps := []) rfl
  refine ⟨w', hr, ⟨_, ho, isMap_put h2 _ _, fun a c ha hc l hl => ?_⟩, (Fr.refl _ w).grown hg (fun k _ he => (Option.some.inj he).symm)⟩
  by_cases he : a = x ∧ c = y
  · obtain ⟨rfl, rfl⟩ := he
    rw [hk] at hl
    cases hl
    rw [upd_same, Maps.atKey_put_same h2 (span_keyed.key hk)]
  · rw [upd_ne K v he, Maps.atKey_put_other (fun e => he (by
      subst e
      exact spanV_inj (span_keyed.inj hk hl))), h3 a c ha hc l hl]
theorem MapB.lookup {w : World} {b n : Nat} {K : Nat → Nat → List Int} (h : MapB w b n K) {x y : Nat} (hx : x ≤ 281474976710656) (hy : y ≤ 281474976710656) :
    (Instr.lookup 99 (.map (some b)) (spanV x y) false).run Tryd.prog w = .ok (.agg (bytes (K x y)).toArray) w := by
  obtain ⟨D, h1, h2, h3⟩ := h
  obtain ⟨kl, hk⟩ := keyOf_span hx hy
  have hz : (zeroValue 29).run Tryd.prog w = .ok (.agg (bytes (List.replicate 32 0)).toArray) w := by kernel_rfl
  obtain ⟨v, ps, hr, hv⟩ := h1.lookup span_keyed Tryd.underlying99 hz (zd := .held (.agg (bytes (List.replicate 32 0)).toArray)) (zp := []) rfl hk
  rw [h3 x y hx hy kl hk] at hv
  cases hv
  exact hr
end Go.Proofs.YtjcmgpiapbeodaaDoor.Sha
