/-
  A list of arrays of 32 bytes as an argument.
-/
import Derived.Test.YtjcmgpiapbeodaaDoorArr
import Derived.Test.YtjcmgpiapbeodaaDoorRoot
import Derived.Deep.Matrix
import Derived.SizedLaws
namespace Go.Proofs.YtjcmgpiapbeodaaDoor.Sha
open Go.RowKit Go.Proofs.YtjcmgpiapbeodaaDoor.Mem Go.ChangeShapes Go.WideShapes
theorem flat_get {L : List (List Int)} (h : ∀ x ∈ L, x.length = 32) (i j : Nat) (hi : i < L.length) (hj : j < 32) : L.flatten.getD (32 * i + j) 0 = (L[i]).getD j 0 := by
  rw [← flat_row h i hi]
  simp only [List.getD, List.getElem?_take_of_lt hj, List.getElem?_drop]
theorem hopen_at {w : World} {x : Addr} {v : Value} (h : w.cell? (x.add 0) = some v) : x = ⟨x.block, x.off, none⟩ ∧ x.block < w.heap.size := by
  rw [Addr.add_zero'] at h
  have hs : x.spot = none := by
    unfold World.cell? at h
    cases hsp : x.spot with
    | none => rfl
    | some s => rw [hsp] at h; split at h <;> simp at h
  exact ⟨by cases x; simp at hs; subst hs; rfl, World.block_lt_of_cell? w _ h⟩
section
variable {H : Type} {enc : TypeId × Value → H} {P : Program} {w : World} {base : Nat} {held : Bool}
theorem hrows_of {t e q : TypeId} {fuel : Nat} {a : Option Addr} {len cap : Nat} {x : DataW H × List MemPlace} (ht : P.underlying t = some (.slice e)) (he : P.underlying e = some (.array 32 q)) (hq : P.underlying q = some (.int .u8))
    (ce : P.cellsOf e = 32) (cq : P.cellsOf q = 1) (h : DataW.trod enc P w base (fun _ => true) held fuel t [.slice a len cap] = some x) :
    ∃ L : List (List Int), L.length = len ∧ HRow w (fun _ => False) a cap L ∧ (len = 0 ∨ ∃ elems rest : List (DataW H), x.1 = .slice elems rest ∧ elems.length = len) := by
  cases fuel with
  | zero => simp [DataW.trod] at h
  | succ fuel =>
    cases a with
    | none =>
      have h0 : len = 0 ∧ cap = 0 := by
        simp only [DataW.trod, ht] at h
        split at h <;> simp_all
      obtain ⟨rfl, rfl⟩ := h0
      exact ⟨[], rfl, ⟨by simp, Nat.le_refl _, .inl ⟨rfl, rfl, rfl⟩⟩, .inl rfl⟩
    | some a =>
      simp only [DataW.trod, ht] at h
      split at h
      · rename_i hb
        obtain ⟨elems, hm, h2⟩ := Option.bind_eq_some_iff.1 h
        obtain ⟨rest, _, hx⟩ := Option.map_eq_some_iff.1 h2
        have hel : elems.length = len := by simpa using mapM_some_length hm
        have each : ∀ i, i < len → ∃ zs : List Int, zs.length = 32 ∧ ∀ j, j < 32 → w.cell? ((a.add (i * 32)).add j) = some (.int .u8 (zs.getD j 0)) := by
          intro i hi
          obtain ⟨b, _, hb2⟩ := Lib.mapM_at hm i i (by simp [hi])
          rw [ce] at hb2
          obtain ⟨cs, hcs, htr⟩ := Option.bind_eq_some_iff.1 hb2
          obtain ⟨_, _, hcell⟩ := World.cells?_some hcs
          obtain ⟨d, p⟩ := b
          obtain ⟨zs, hz, rfl, _⟩ := ints_of_arr he hq cq ce htr
          refine ⟨zs, hz, fun j hj => ?_⟩
          rw [hcell j hj]
          simp [List.getElem?_eq_getElem (show j < zs.length by omega)]
        obtain ⟨y, hy⟩ := Deep.choose_lt each
        refine ⟨(List.range len).map y, by simp, ?_, .inr ⟨_, _, by rw [← hx], by rw [List.length_map, hel]⟩⟩
        have h32 : ∀ z ∈ (List.range len).map y, z.length = 32 := by
          intro z hz
          obtain ⟨i, hi, rfl⟩ := List.mem_map.1 hz
          exact (hy i (List.mem_range.1 hi)).1
        refine ⟨h32, by simpa using hb.2.1, ?_⟩
        rcases Nat.eq_zero_or_pos len with h0 | h0
        · subst h0
          exact .inr (.inl ⟨rfl, a, rfl⟩)
        · have h00 := (hy 0 h0).2 0 (by decide)
          rw [Nat.zero_mul, Addr.add_zero'] at h00
          obtain ⟨ea, hbk⟩ := hopen_at h00
          refine .inr (.inr ⟨a.block, a.off, by rw [← ea], ⟨hbk, fun i hi => ?_⟩, fun h => h⟩)
          rw [flat_len h32, List.length_map, List.length_range] at hi
          have h1 := (hy (i / 32) (by omega)).2 (i % 32) (Nat.mod_lt _ (by decide))
          rw [ea, Addr.add_lit, Addr.add_lit] at h1
          have h3 := flat_get h32 (i / 32) (i % 32) (by simp; omega) (Nat.mod_lt _ (by decide))
          rw [show 32 * (i / 32) + i % 32 = i by omega] at h3
          simp only [List.getElem_map, List.getElem_range] at h3
          rw [h3, ← h1]
          congr 2
          omega
      · cases h
/-- how long such a list may be -/
theorem sized_hashes {t e : TypeId} {len : Nat} {d : DataW H} {ts : List TypeId} {ds : List (DataW H)} {j : Nat}
    (hsz : (DataW.weightsEach P ts ds).all (· ≤ reachBytes) = true) (ht : ts[j]? = some t) (hd : ds[j]? = some d) (hu : P.underlying t = some (.slice e)) (hB : P.bytesOf e = 32)
    (h : len = 0 ∨ ∃ elems rest : List (DataW H), d = .slice elems rest ∧ elems.length = len) : len * 32 ≤ 140737488351232 := by
  rcases h with rfl | ⟨elems, rest, rfl, hl⟩
  · omega
  · have z := sized_slice hsz ht hd hu
    rw [hB] at z
    exact Nat.le_trans (by omega) z
end
end Go.Proofs.YtjcmgpiapbeodaaDoor.Sha
