/-
  What the document's listed variables lay.
-/
import Derived.Test.YtjcfnflkiialbaaDoorRNum
import Derived.Test.YtjcfnflkiialbaaDoorRowSha
namespace Go.Proofs.YtjcfnflkiialbaaDoor.Sha
open Go.ChangeShapes Go.WideShapes Go.ChangeAt Go.RowKit
theorem rturns_cells {W : World} {l : List (String × DataW Unit)} (h : laidMet Tryd.prog l W)
    (hm : ("ledger/ledgerref01.turns", .agg [Lib.tabData .u64 [0, 0, 0, 0, 0, 0, 0, 0, 0, 0, 0, 0], Lib.tabData .u64 [2, 13, 22, 6, 11, 25, 7, 18, 3, 17, 19, 10], Lib.tabData .u64 [28, 34, 39, 14, 18, 41, 1, 8, 7, 19, 61, 6]]) ∈ l) :
    ∀ i, i < 36 → W.cell? ⟨7, i, none⟩ = rtCells[i]? := by
  obtain ⟨g', t', cs, fuel, p, hg', ht', hvar, hd⟩ := Lib.laidMet.reads h hm
  have hg : Tryd.prog.globalNamed "ledger/ledgerref01.turns" = some 7 := by kernel_rfl
  have hty : (Tryd.prog.globals[(7 : Nat)]?).map (·.type) = some 118 := by kernel_rfl
  obtain rfl := Option.some.inj (hg.symm.trans hg')
  obtain rfl := Option.some.inj (hty.symm.trans ht')
  have hct : Tryd.prog.cellsOf 117 = 12 := by kernel_rfl
  have hce : Tryd.prog.cellsOf 59 = 1 := by kernel_rfl
  have ch : ∀ r, r < 3 → (cs.toList.drop (r * 12)).take 12 = ((rtInts.drop (r * 12)).take 12).map (Value.int .u64) := fun r hr => by
    obtain ⟨f', d, q, hds, htr⟩ := Lib.array_elem Tryd.underlying118 hd r hr
    rw [hct] at htr
    rcases (show r = 0 ∨ r = 1 ∨ r = 2 by omega) with rfl | rfl | rfl
    · obtain rfl : Lib.tabData .u64 [0, 0, 0, 0, 0, 0, 0, 0, 0, 0, 0, 0] = d := Option.some.inj hds
      exact Lib.cells_of_tab Tryd.underlying117 Tryd.underlying59 hce hct htr
    · obtain rfl : Lib.tabData .u64 [2, 13, 22, 6, 11, 25, 7, 18, 3, 17, 19, 10] = d := Option.some.inj hds
      exact Lib.cells_of_tab Tryd.underlying117 Tryd.underlying59 hce hct htr
    · obtain rfl : Lib.tabData .u64 [28, 34, 39, 14, 18, 41, 1, 8, 7, 19, 61, 6] = d := Option.some.inj hds
      exact Lib.cells_of_tab Tryd.underlying117 Tryd.underlying59 hce hct htr
  intro i hi
  rw [World.var?_cell hg hvar i]
  have h1 := congrArg (fun l : List Value => l[i % 12]?) (ch (i / 12) (by omega))
  simp only [List.getElem?_map] at h1
  rw [List.getElem?_take_of_lt (by omega), List.getElem?_drop, List.getElem?_take_of_lt (by omega), List.getElem?_drop, show i / 12 * 12 + i % 12 = i by omega] at h1
  unfold rtCells
  rw [List.getElem?_map, ← h1]
  simp
theorem rlaid_gen {l : List (String × DataW Unit)} (W : World) (h : laidMet Tryd.prog l W) (hsize : low ≤ W.heap.size)
    (m1 : ("ledger/ledgerref01.squares", Lib.tabData .u64 (nats start64.list)) ∈ l) (m2 : ("ledger/ledgerref01.cubes", Lib.tabData .u64 (nats K512)) ∈ l)
    (m3 : ("ledger/ledgerref01.turns", .agg [Lib.tabData .u64 [0, 0, 0, 0, 0, 0, 0, 0, 0, 0, 0, 0], Lib.tabData .u64 [2, 13, 22, 6, 11, 25, 7, 18, 3, 17, 19, 10], Lib.tabData .u64 [28, 34, 39, 14, 18, 41, 1, 8, 7, 19, 61, 6]]) ∈ l) : RLaid W := by
  refine ⟨hsize, fun i hi => ?_, fun i hi => ?_, rturns_cells h m3⟩
  · have hl : start64.list.length = 8 := rfl
    rw [← nats_get start64.list i (by omega)]
    exact tab_mem h m1 (g := 6) (by kernel_rfl) (t := 65) (by kernel_rfl) Tryd.underlying65 Tryd.underlying58 (by kernel_rfl) (by kernel_rfl) i (by simp [nats]; omega)
  · have hl : K512.length = 80 := by kernel_rfl
    rw [← nats_get K512 i (by omega)]
    exact tab_mem h m2 (g := 2) (by kernel_rfl) (t := 82) (by kernel_rfl) Tryd.underlying82 Tryd.underlying58 (by kernel_rfl) (by kernel_rfl) i (by simp [nats]; omega)
end Go.Proofs.YtjcfnflkiialbaaDoor.Sha
