/-
  The laws' argument: a struct of four numbers, two texts, two hashes and two lists of hashes.
-/
import Derived.Test.YtjcmgpiapbeodaaDoorRowSha
import Derived.Test.YtjcmgpiapbeodaaDoorHArg
import Derived.Test.YtjcmgpiapbeodaaDoorWSized
import Derived.WalkKit
import Derived.ProofKit
import Derived.OpenShut
import Derived.ChangeOld
import Derived.SizedLaws
set_option linter.unusedSimpArgs false
set_option linter.unusedVariables false
namespace Go.Proofs.YtjcmgpiapbeodaaDoor.Sha
open Go.ChangeShapes Go.WideShapes Go.ChangeAt Go.RowKit Go.Proofs.YtjcmgpiapbeodaaDoor.Mem
/-- what the cells of the laws' argument are -/
def Twn (w : World) (cs : List Value) : Prop :=
    cs.length = 72 ∧ (∃ k n m i : Int, cs[0]? = some (.int .i64 k) ∧ cs[1]? = some (.int .i64 n) ∧ cs[2]? = some (.int .i64 m) ∧ cs[3]? = some (.int .i64 i) ∧ ∀ z ∈ [k, n, m, i], -9223372036854775808 ≤ z ∧ z ≤ 9223372036854775807) ∧
    (∃ a c p, cs[4]? = some (.slice a p.length c) ∧ Src w (fun _ => False) a c p ∧ (∀ b ∈ p, 0 ≤ b ∧ b < 256) ∧ p.length ≤ 140737488351232) ∧
    (∃ a c p, cs[5]? = some (.slice a p.length c) ∧ Src w (fun _ => False) a c p ∧ (∀ b ∈ p, 0 ≤ b ∧ b < 256) ∧ p.length ≤ 140737488351232) ∧
    (∃ X Y : List Int, X.length = 32 ∧ Y.length = 32 ∧ (∀ b ∈ X, 0 ≤ b ∧ b < 256) ∧ (∀ b ∈ Y, 0 ≤ b ∧ b < 256) ∧ (cs.drop 6).take 32 = bytes X ∧ (cs.drop 38).take 32 = bytes Y) ∧
    (∃ a c, ∃ L : List (List Int), cs[70]? = some (.slice a L.length c) ∧ HRow w (fun _ => False) a c L ∧ L.length * 32 ≤ 140737488351232) ∧
    (∃ a c, ∃ L : List (List Int), cs[71]? = some (.slice a L.length c) ∧ HRow w (fun _ => False) a c L ∧ L.length * 32 ≤ 140737488351232)
section
variable {H : Type} {enc : TypeId × Value → H} {w : World}
theorem irow_cells {fuel : Nat} {cs : List Value} {d : DataW H} {p : List MemPlace} (h : DataW.trod enc Tryd.prog w 0 (fun _ => true) true fuel 22 cs = some (d, p)) :
    ∃ a len cap zs, cs = [.slice a len cap] ∧ IsRow .u8 w a len cap zs := by
  rcases open_ints Tryd.underlying22 Tryd.underlying5 (by kernel_rfl) h with ⟨hcs, _⟩ | ⟨x, l, c, zs, hcs, _, hl, hm, hz, _, hcell, hwz⟩
  · exact ⟨none, 0, 0, [], hcs, .inl ⟨rfl, rfl, rfl, rfl⟩⟩
  · exact ⟨some x, l, c, zs, hcs, .inr ⟨_, rfl, hl, hm, by simpa using hz, hcell, hwz⟩⟩
theorem hrow_cells {fuel : Nat} {cs : List Value} {d : DataW H} {p : List MemPlace} (h : DataW.trod enc Tryd.prog w 0 (fun _ => true) true fuel 24 cs = some (d, p)) :
    ∃ a cap, ∃ L : List (List Int), cs = [.slice a L.length cap] ∧ HRow w (fun _ => False) a cap L ∧ (L.length = 0 ∨ ∃ elems rest : List (DataW H), d = .slice elems rest ∧ elems.length = L.length) := by
  rcases DataW.trod_slice Tryd.underlying24 h with ⟨rfl, _⟩ | ⟨a, len, cap, _, _, _, _, rfl, _⟩
  · obtain ⟨L, hl, hx, hd⟩ := hrows_of Tryd.underlying24 Tryd.underlying23 Tryd.underlying5 (by kernel_rfl) (by kernel_rfl) h
    exact ⟨none, 0, L, by rw [hl], hx, by rw [hl]; exact hd⟩
  · obtain ⟨L, hl, hx, hd⟩ := hrows_of Tryd.underlying24 Tryd.underlying23 Tryd.underlying5 (by kernel_rfl) (by kernel_rfl) h
    exact ⟨some a, cap, L, by rw [hl], hx, by rw [hl]; exact hd⟩
theorem cell_of {cs : List Value} {o : Nat} {v : Value} (h : (cs.drop o).take 1 = [v]) : cs[o]? = some v := by
  have h1 := congrArg (fun l : List Value => l[0]?) h
  simpa [List.getElem?_take, List.getElem?_drop] using h1
theorem byt_wf {zs : List Int} (h : ∀ z ∈ zs, (Lit.int .u8 z).wf = true) : ∀ b ∈ zs, 0 ≤ b ∧ b < 256 := fun z hz => by
  have := h z hz
  have e1 : IntKind.u8.min = 0 := by decide
  have e2 : IntKind.u8.max = 255 := by decide
  simp only [Lit.wf, Bool.and_eq_true, decide_eq_true_eq, e1, e2] at this
  omega
theorem bs_row {w : World} {a : Option Addr} {len cap : Nat} {zs : List Int} (h : IsRow .u8 w a len cap zs) : ∀ b ∈ zs.take len, 0 ≤ b ∧ b < 256 := by
  rcases h with ⟨rfl, rfl, rfl, rfl⟩ | ⟨x, rfl, _, _, _, _, hw⟩
  · intro b hb
    simp at hb
  · exact fun b hb => byt_wf hw b (List.mem_of_mem_take hb)
set_option maxRecDepth 100000 in
set_option maxHeartbeats 2000000 in
/-- what the struct's cells are -/
theorem twin_of {fuel : Nat} {cs : List Value} {x : DataW H × List MemPlace} (h : DataW.trod enc Tryd.prog w 0 (fun _ => true) true fuel 26 cs = some x)
    (hsz : ∀ n ∈ DataW.weights Tryd.prog 26 x.1, n ≤ reachBytes) :
    Twn w cs := by
  obtain ⟨xs, n, rfl, rfl, hl, hlen, hf⟩ := DataW.trod_struct Tryd.underlying26 h
  have c1 : Tryd.prog.cellsOf 3 = 1 := by kernel_rfl
  have c2 : Tryd.prog.cellsOf 22 = 1 := by kernel_rfl
  have c3 : Tryd.prog.cellsOf 23 = 32 := by kernel_rfl
  have c4 : Tryd.prog.cellsOf 24 = 1 := by kernel_rfl
  have c5 : Tryd.prog.cellsOf 26 = 72 := by kernel_rfl
  have hsz' : (DataW.weightsEach Tryd.prog [3, 3, 3, 3, 22, 22, 23, 23, 24, 24] (xs.map (·.1))).all (· ≤ reachBytes) = true := by
    rw [List.all_eq_true]
    intro n hn
    have := hsz n (by simp only [DataW.weights, Tryd.underlying26]; exact hn)
    simpa using this
  obtain ⟨y0, y1, y2, y3, y4, y5, y6, y7, y8, y9, rfl⟩ : ∃ y0 y1 y2 y3 y4 y5 y6 y7 y8 y9, xs = [y0, y1, y2, y3, y4, y5, y6, y7, y8, y9] := by
    match xs, hlen with
    | [y0, y1, y2, y3, y4, y5, y6, y7, y8, y9], _ => exact ⟨y0, y1, y2, y3, y4, y5, y6, y7, y8, y9, rfl⟩
  have f0 : DataW.trod enc Tryd.prog w 0 (fun _ => true) true n 3 ((cs.drop 0).take (Tryd.prog.cellsOf 3)) = some y0 := hf 0 _ rfl
  rw [c1] at f0
  have f1 : DataW.trod enc Tryd.prog w 0 (fun _ => true) true n 3 ((cs.drop 1).take (Tryd.prog.cellsOf 3)) = some y1 := hf 1 _ rfl
  rw [c1] at f1
  have f2 : DataW.trod enc Tryd.prog w 0 (fun _ => true) true n 3 ((cs.drop 2).take (Tryd.prog.cellsOf 3)) = some y2 := hf 2 _ rfl
  rw [c1] at f2
  have f3 : DataW.trod enc Tryd.prog w 0 (fun _ => true) true n 3 ((cs.drop 3).take (Tryd.prog.cellsOf 3)) = some y3 := hf 3 _ rfl
  rw [c1] at f3
  have f4 : DataW.trod enc Tryd.prog w 0 (fun _ => true) true n 22 ((cs.drop 4).take (Tryd.prog.cellsOf 22)) = some y4 := hf 4 _ rfl
  rw [c2] at f4
  have f5 : DataW.trod enc Tryd.prog w 0 (fun _ => true) true n 22 ((cs.drop 5).take (Tryd.prog.cellsOf 22)) = some y5 := hf 5 _ rfl
  rw [c2] at f5
  have f6 : DataW.trod enc Tryd.prog w 0 (fun _ => true) true n 23 ((cs.drop 6).take (Tryd.prog.cellsOf 23)) = some y6 := hf 6 _ rfl
  rw [c3] at f6
  have f7 : DataW.trod enc Tryd.prog w 0 (fun _ => true) true n 23 ((cs.drop 38).take (Tryd.prog.cellsOf 23)) = some y7 := hf 7 _ rfl
  rw [c3] at f7
  have f8 : DataW.trod enc Tryd.prog w 0 (fun _ => true) true n 24 ((cs.drop 70).take (Tryd.prog.cellsOf 24)) = some y8 := hf 8 _ rfl
  rw [c4] at f8
  have f9 : DataW.trod enc Tryd.prog w 0 (fun _ => true) true n 24 ((cs.drop 71).take (Tryd.prog.cellsOf 24)) = some y9 := hf 9 _ rfl
  rw [c4] at f9
  refine ⟨by rw [hl, c5], ?_, ?_, ?_, ?_, ?_, ?_⟩
  · obtain ⟨k, h0, _, w0⟩ := DataW.trod_int Tryd.underlying3 f0
    obtain ⟨n, h1, _, w1⟩ := DataW.trod_int Tryd.underlying3 f1
    obtain ⟨m, h2, _, w2⟩ := DataW.trod_int Tryd.underlying3 f2
    obtain ⟨i, h3, _, w3⟩ := DataW.trod_int Tryd.underlying3 f3
    refine ⟨k, n, m, i, cell_of h0, cell_of h1, cell_of h2, cell_of h3, fun z hz => ?_⟩
    have hw : (Lit.int .i64 z).wf = true := by
      simp only [List.mem_cons, List.not_mem_nil, or_false] at hz
      rcases hz with rfl | rfl | rfl | rfl <;> assumption
    have e1 : IntKind.i64.min = -9223372036854775808 := by decide
    have e2 : IntKind.i64.max = 9223372036854775807 := by decide
    simp only [Lit.wf, Bool.and_eq_true, decide_eq_true_eq, e1, e2] at hw
    exact hw
  · obtain ⟨a, len, cap, zs, hc, hr⟩ := irow_cells f4
    have ht : DataW.Trod enc Tryd.prog w 0 (fun _ => true) true 22 (.slice a len cap) y4.1 y4.2 := ⟨n, by rw [hc] at f4; exact f4⟩
    obtain ⟨s0, x0⟩ := src_of_row hr
    have hy : len * 1 ≤ 140737488351232 := Go.Proofs.YtjcmgpiapbeodaaDoorW.PrintWords.sized_ints hsz' (j := 4) (t := 22) rfl rfl Tryd.underlying22 Tryd.underlying5 (by kernel_rfl) (by kernel_rfl) ht
    refine ⟨a, cap, zs.take len, ?_, x0, bs_row hr, ?_⟩
    · rw [s0]; exact cell_of hc
    · rw [s0]; omega
  · obtain ⟨a, len, cap, zs, hc, hr⟩ := irow_cells f5
    have ht : DataW.Trod enc Tryd.prog w 0 (fun _ => true) true 22 (.slice a len cap) y5.1 y5.2 := ⟨n, by rw [hc] at f5; exact f5⟩
    obtain ⟨s0, x0⟩ := src_of_row hr
    have hy : len * 1 ≤ 140737488351232 := Go.Proofs.YtjcmgpiapbeodaaDoorW.PrintWords.sized_ints hsz' (j := 5) (t := 22) rfl rfl Tryd.underlying22 Tryd.underlying5 (by kernel_rfl) (by kernel_rfl) ht
    refine ⟨a, cap, zs.take len, ?_, x0, bs_row hr, ?_⟩
    · rw [s0]; exact cell_of hc
    · rw [s0]; omega
  · obtain ⟨X, hX, eX, wX⟩ := ints_of_arr Tryd.underlying23 Tryd.underlying5 (by kernel_rfl) c3 f6
    obtain ⟨Y, hY, eY, wY⟩ := ints_of_arr Tryd.underlying23 Tryd.underlying5 (by kernel_rfl) c3 f7
    exact ⟨X, Y, hX, hY, byt_wf wX, byt_wf wY, eX, eY⟩
  · obtain ⟨a, cap, L, hc, hr, hd⟩ := hrow_cells f8
    exact ⟨a, cap, L, cell_of hc, hr, sized_hashes hsz' (j := 8) (t := 24) rfl rfl Tryd.underlying24 (by kernel_rfl) hd⟩
  · obtain ⟨a, cap, L, hc, hr, hd⟩ := hrow_cells f9
    exact ⟨a, cap, L, cell_of hc, hr, sized_hashes hsz' (j := 9) (t := 24) rfl rfl Tryd.underlying24 (by kernel_rfl) hd⟩
end
end Go.Proofs.YtjcmgpiapbeodaaDoor.Sha
