/-
  The walk of Reset.
-/
import Derived.Test.YtjcfnflkiialbaaDoorAux1
import Derived.Deep.DrawnRows
import Derived.Deep.RegionWith
namespace Go.Proofs.YtjcfnflkiialbaaDoor.Sha
open Go.RowKit Go.Proofs.YtjcfnflkiialbaaDoor.Mem Go.Proofs.YtjcfnflkiialbaaDoorW.PrintWords
/-- does a whole digest lie here? -/
def digOk (W : World) : Value → Bool
  | .pointer (some ⟨b, 0, none⟩) => match W.heap[b]? with
    | some (.cells old t fr) => t == 93 && fr == (0, 0) && old.size == 19
    | _ => false
  | _ => false
def blockOf : Value → Nat
  | .pointer (some ⟨b, _, _⟩) => b
  | _ => 0
theorem digOk_blk {W : World} {b : Nat} {vs : List Value} (h : Blk W b 93 vs) (hl : vs.length = 19) : digOk W (.pointer (some ⟨b, 0, none⟩)) = true := by
  unfold Blk at h
  simp only [digOk, h]
  simp [hl]
/-- a whole digest stored into one that is there: at the operation, for the walk's simp -/
theorem wp_store_old (W : World) (a : Act) (K : Act → World → Prop) (Q : Exit → Act → World → Prop) (x y : Operand) (ty : TypeId) (pos : String) (af)
    (hx : digOk W (a.eval x) = true) (hy : good19 (a.eval y) = true) :
    Oper.wp Tryd.prog { dst := none, op := .store 93 x y, type := ty, pos := pos, after := af, guard := none } a W K Q = K a (W.setRow (blockOf (a.eval x)) (aggCells (a.eval y))) := by
  have hi : (Tryd.prog.info? 93).map (·.size) = some 19 := by kernel_rfl
  obtain ⟨b, old, hv, hb, hsz⟩ : ∃ b old, a.eval x = .pointer (some ⟨b, 0, none⟩) ∧ W.heap[b]? = some (.cells old 93 (0, 0)) ∧ old.size = 19 := by
    unfold digOk at hx
    split at hx
    · rename_i b hv
      split at hx
      · rename_i old t fr hb
        simp only [Bool.and_eq_true, beq_iff_eq] at hx
        obtain ⟨⟨rfl, rfl⟩, h3⟩ := hx
        exact ⟨b, old, hv, hb, h3⟩
      · cases hx
    · cases hx
  cases hw : a.eval y <;> rw [hw] at hy <;> simp only [good19, Bool.false_eq_true] at hy
  rename_i cs
  simp only [Bool.and_eq_true, beq_iff_eq] at hy
  have h := run_storeVar_row (P := Tryd.prog) W b 93 93 old cs hb (by rw [hi, hy.1]) (hsz.trans hy.1.symm) hy.2
  have e : (execOp a.eval { dst := none, op := .store 93 x y, type := ty, pos := pos, after := af, guard := none }).run Tryd.prog W = .ok .skip (W.setRow b cs) := by
    unfold execOp
    simp only [hv, hw, Instr.storeAt, Instr.sureAddr, Sem.run_bind, Sem.run_pure, Result.andThen_ok, h]
  unfold Oper.wp
  rw [e, hv]
  rfl
attribute [local go_sem ↓] Go.wp_at_zero Go.wp_at_succ wp_store_old
attribute [local go_sem] good19_agg aggCells_agg Value.oneCell'
set_option maxHeartbeats 4000000 in
set_option maxRecDepth 100000 in
theorem reset_calls (s : St) (b : Nat) (rv : Value) (w : World) (hL : Laid w) (hD : Dg w b rv s) :
    Calls Tryd.prog 43 #[.pointer (some ⟨b, 0, none⟩)] w fun e w' => ∃ r, e = .returned r ∧ Dg w' b (.slice none 0 0) (St.new s.B) ∧ Fr (fun k => k = b) w w' := by
  have h0 := hD.blk.cell 0 _ rfl
  have HB := block_calls b s.B w h0
  have HD := Kp.mk hD
  have HL := Kp.mk hL
  clear hD hL
  obtain ⟨B, cnt, c, rest⟩ := s
  simp only at h0 HB HD ⊢
  obtain ⟨⟨⟨c0, c1, c2, c3, c4, c5, c6, c7⟩, ⟨d0, d1, d2, d3, d4, d5, d6, d7⟩⟩, hs⟩ : ∃ c, c = start B := ⟨_, rfl⟩
  have HSt := Kp.mk (fun W => start_calls B c0 c1 c2 c3 c4 c5 c6 c7 d0 d1 d2 d3 d4 d5 d6 d7 hs.symm W)
  have HE := Kp.mk hs
  clear hs
  cases B
  all_goals
    simp only [kind, blk] at h0 HB HSt
    go_enter Tryd.func43, Tryd.ntmps43
    go_wp2_with (first | (go_at_call 55; (with_reducible refine HB.mono ?_); rintro e w' ⟨rfl, rfl⟩))
    have HS2 := Kp.mk (HSt.out w'.drew (HL.out.fr ((Fr.refl (fun _ => False) w').drew) (fun _ h => h.elim)))
    clear HSt
    go_region_with (go_at_call 54; (refine HS2.out.mono ?_); rintro e w1 ⟨rfl, hB1⟩; have HF : Kp (Fr (fun _ => False) w' w1) := ⟨((Fr.refl (fun _ => False) w').drew).then_below hB1⟩; have HBk := Kp.mk (HD.out.blk.fr HF.out (fun h => h)); have hok := digOk_blk HBk.out rfl; have hk0 := HBk.out.cell 0 _ rfl; simp only [kind] at hk0; clear hB1)
    all_goals (try go_wp2)
    all_goals first | go_end0 | ((try simp only [Exit.inBlock, Exit.then]); refine bodyPost_ret (results_none rfl _ _ _) rfl ?_)
    all_goals
      refine ⟨_, rfl, ⟨?_, ⟨rfl, .inl ⟨rfl, rfl⟩⟩, HD.out.low⟩, ?_⟩
      · show Blk _ b _ (dcells _ 0 (start _) _)
        rw [← HE.out]
        exact setRow_heap w1 b _ _ _ _ HBk.out
      · exact (HF.out.mono (fun _ _ h => h.elim)).trans (S' := fun k => k = b) ⟨rfl, rfl, rfl, by simp [World.setRow], fun k _ hk => setRow_other w1 b k _ hk⟩ (fun _ _ h => h)
end Go.Proofs.YtjcfnflkiialbaaDoor.Sha
