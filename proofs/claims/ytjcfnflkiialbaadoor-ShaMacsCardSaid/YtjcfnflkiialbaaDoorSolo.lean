/-
  The walk of Reset. One digest that a function makes and uses alone: what was written to it so far; its blocks are all new since a first world.
-/
import Derived.Test.YtjcfnflkiialbaaDoorAux1
import Derived.Deep.DrawnRows
import Derived.Deep.RegionWith
import Derived.Test.YtjcfnflkiialbaaDoorAux2
namespace Go.Proofs.YtjcfnflkiialbaaDoor.Sha
open Go.RowKit Go.Proofs.YtjcfnflkiialbaaDoor.Mem Go.Proofs.YtjcfnflkiialbaaDoorW.PrintWords
/-- does a whole digest lie here? -/
def digOk (W : World) : Value → Bool
  | .pointer (some ⟨b, 0, none⟩) => match W.heap[b]? with
    | some (.cells old t fr) => t == 93 && fr == (0, 0) && old.size == 19
    | _ => false
  | _ => false
def blockOf : Value → Nat
  | .pointer (some ⟨b, _, _⟩) => b
  | _ => 0
theorem digOk_blk {W : World} {b : Nat} {vs : List Value} (h : Blk W b 93 vs) (hl : vs.length = 19) : digOk W (.pointer (some ⟨b, 0, none⟩)) = true := by
  unfold Blk at h
  simp only [digOk, h]
  simp [hl]
/-- a whole digest stored into one that is there: at the operation, for the walk's simp -/
theorem wp_store_old (W : World) (a : Act) (K : Act → World → Prop) (Q : Exit → Act → World → Prop) (x y : Operand) (ty : TypeId) (pos : String) (af)
    (hx : digOk W (a.eval x) = true) (hy : good19 (a.eval y) = true) :
    Oper.wp Tryd.prog { dst := none, op := .store 93 x y, type := ty, pos := pos, after := af, guard := none } a W K Q = K a (W.setRow (blockOf (a.eval x)) (aggCells (a.eval y))) := by
  have hi : (Tryd.prog.info? 93).map (·.size) = some 19 := by kernel_rfl
  obtain ⟨b, old, hv, hb, hsz⟩ : ∃ b old, a.eval x = .pointer (some ⟨b, 0, none⟩) ∧ W.heap[b]? = some (.cells old 93 (0, 0)) ∧ old.size = 19 := by
    unfold digOk at hx
    split at hx
    · rename_i b hv
      split at hx
      · rename_i old t fr hb
        simp only [Bool.and_eq_true, beq_iff_eq] at hx
        obtain ⟨⟨rfl, rfl⟩, h3⟩ := hx
        exact ⟨b, old, hv, hb, h3⟩
      · cases hx
    · cases hx
  cases hw : a.eval y <;> rw [hw] at hy <;> simp only [good19, Bool.false_eq_true] at hy
  rename_i cs
  simp only [Bool.and_eq_true, beq_iff_eq] at hy
  have h := run_storeVar_row (P := Tryd.prog) W b 93 93 old cs hb (by rw [hi, hy.1]) (hsz.trans hy.1.symm) hy.2
  have e : (execOp a.eval { dst := none, op := .store 93 x y, type := ty, pos := pos, after := af, guard := none }).run Tryd.prog W = .ok .skip (W.setRow b cs) := by
    unfold execOp
    simp only [hv, hw, Instr.storeAt, Instr.sureAddr, Sem.run_bind, Sem.run_pure, Result.andThen_ok, h]
  unfold Oper.wp
  rw [e, hv]
  rfl
attribute [local go_sem ↓] Go.wp_at_zero Go.wp_at_succ wp_store_old
attribute [local go_sem] good19_agg aggCells_agg Value.oneCell'
set_option maxHeartbeats 4000000 in
set_option maxRecDepth 100000 in
theorem reset_calls (s : St) (b : Nat) (rv : Value) (w : World) (hL : Laid w) (hD : Dg w b rv s) :
    Calls Tryd.prog 43 #[.pointer (some ⟨b, 0, none⟩)] w fun e w' => ∃ r, e = .returned r ∧ Dg w' b (.slice none 0 0) (St.new s.B) ∧ Fr (fun k => k = b) w w' := by
  have h0 := hD.blk.cell 0 _ rfl
  have HB := block_calls b s.B w h0
  have HD := Kp.mk hD
  have HL := Kp.mk hL
  clear hD hL
  obtain ⟨B, cnt, c, rest⟩ := s
  simp only at h0 HB HD ⊢
  obtain ⟨⟨⟨c0, c1, c2, c3, c4, c5, c6, c7⟩, ⟨d0, d1, d2, d3, d4, d5, d6, d7⟩⟩, hs⟩ : ∃ c, c = start B := ⟨_, rfl⟩
  have HSt := Kp.mk (fun W => start_calls B c0 c1 c2 c3 c4 c5 c6 c7 d0 d1 d2 d3 d4 d5 d6 d7 hs.symm W)
  have HE := Kp.mk hs
  clear hs
  cases B
  all_goals
    simp only [kind, blk] at h0 HB HSt
    go_enter Tryd.func43, Tryd.ntmps43
    go_wp2_with (first | (go_at_call 55; (with_reducible refine HB.mono ?_); rintro e w' ⟨rfl, rfl⟩))
    have HS2 := Kp.mk (HSt.out w'.drew (HL.out.fr ((Fr.refl (fun _ => False) w').drew) (fun _ h => h.elim)))
    clear HSt
    go_region_with (go_at_call 54; (refine HS2.out.mono ?_); rintro e w1 ⟨rfl, hB1⟩; have HF : Kp (Fr (fun _ => False) w' w1) := ⟨((Fr.refl (fun _ => False) w').drew).then_below hB1⟩; have HBk := Kp.mk (HD.out.blk.fr HF.out (fun h => h)); have hok := digOk_blk HBk.out rfl; have hk0 := HBk.out.cell 0 _ rfl; simp only [kind] at hk0; clear hB1)
    all_goals (try go_wp2)
    all_goals first | go_end0 | ((try simp only [Exit.inBlock, Exit.then]); refine bodyPost_ret (results_none rfl _ _ _) rfl ?_)
    all_goals
      refine ⟨_, rfl, ⟨?_, ⟨rfl, .inl ⟨rfl, rfl⟩⟩, HD.out.low⟩, ?_⟩
      · show Blk _ b _ (dcells _ 0 (start _) _)
        rw [← HE.out]
        exact setRow_heap w1 b _ _ _ _ HBk.out
      · exact (HF.out.mono (fun _ _ h => h.elim)).trans (S' := fun k => k = b) ⟨rfl, rfl, rfl, by simp [World.setRow], fun k _ hk => setRow_other w1 b k _ hk⟩ (fun _ _ h => h)
end Go.Proofs.YtjcfnflkiialbaaDoor.Sha
namespace Go.Proofs.YtjcfnflkiialbaaDoor.Sha
open Go.RowKit Go.Proofs.YtjcfnflkiialbaaDoor.Mem Go.Proofs.YtjcfnflkiialbaaDoorW.PrintWords
theorem St.write_none (B : Bool) : (St.new B).write [] = St.new B := by
  cases B <;> simp [St.write, St.new, absorb, runC, maxCount, blk]
/-- the digest at b is of kind B, and q was written to it -/
structure Solo (w0 w : World) (b : Nat) (rv : Value) (B : Bool) (q : List Int) : Prop where
  d : Dg w b rv ((St.new B).write q)
  fr : Fr (fun _ => False) w0 w
  foot : ∀ k, dfoot b rv k → w0.heap.size ≤ k
section
variable {w0 w w' : World} {b : Nat} {rv : Value} {B : Bool} {q : List Int}
theorem Solo.below (h : Solo w0 w b rv B q) (hf : Fr (fun _ => False) w w') : Solo w0 w' b rv B q :=
  ⟨⟨h.d.blk.fr hf (fun h => h), own_keep h.d.rest hf (fun _ _ h => h), h.d.low⟩, h.fr.trans hf (fun _ _ h => h), h.foot⟩
theorem Solo.lt (h : Solo w0 w b rv B q) : ∀ k, dfoot b rv k → k < w.heap.size := fun k hk => by
  rcases hk with rfl | hk
  · exact h.d.blk.lt
  · exact (own_lt h.d.rest hk).1
/-- what is older than the digest is not its own -/
theorem Solo.src (h : Solo w0 w b rv B q) {A : Option Addr} {c : Nat} {p : List Int} (hs : Src w0 (fun _ => False) A c p) : Src w (dfoot b rv) A c p :=
  src_out hs h.fr (fun k hk hf => by have := h.foot k hf; omega)
theorem soloNew_calls (B : Bool) (w : World) (hL : Laid w) :
    Calls Tryd.prog 30 #[.int .i64 (kind B : Nat)] w fun e w' => ∃ b, e = .returned (.tuple #[.pointer (some ⟨b, 0, none⟩), .int .i64 0]) ∧ Solo w w' b (.slice none 0 0) B [] := by
  refine (new_calls B w hL).mono ?_
  rintro e w' ⟨b, rfl, hb, hD, hB⟩
  refine ⟨b, rfl, by rw [St.write_none]; exact hD, Fr.of_below hB _, fun k hk => ?_⟩
  rcases hk with rfl | hk
  · exact hb
  · cases hk
theorem soloWrite_calls (h : Solo w0 w b rv B q) (hL : Laid w0) (A : Option Addr) (cp : Nat) (p : List Int) (hX : Src w (dfoot b rv) A cp p) (hmax : q.length + p.length ≤ maxCount) :
    Calls Tryd.prog 34 #[.pointer (some ⟨b, 0, none⟩), .slice A p.length cp] w fun e w' => ∃ r rv', e = .returned r ∧ Solo w0 w' b rv' B (q ++ p) ∧ Heir w rv' rv ∧ Fr (dfoot b rv) w w' := by
  refine (write_calls _ (write_ok _ (new_ok B) q) b rv A cp p (by rw [cnt_of B q (by omega)]; exact hmax) w (hL.fr h.fr (fun _ h => h.elim)) h.d hX).mono ?_
  rintro e w' ⟨r, rv', rfl, hD, hh, hf⟩
  have hw : ((St.new B).write q).write p = (St.new B).write (q ++ p) := write_write _ _ _ (by show 0 + _ ≤ maxCount; omega)
  rw [hw] at hD
  refine ⟨r, rv', rfl, ⟨hD, h.fr.trans hf (fun k hk hs => by have := h.foot k hs; omega), fun k hk => ?_⟩, hh, hf⟩
  rcases hk with rfl | hk
  · exact h.foot _ (.inl rfl)
  · rcases hh with hh | ⟨g, h1, h2⟩
    · exact h.foot _ (.inr (hh.symm.trans hk))
    · obtain rfl := Option.some.inj (h1.symm.trans hk)
      exact Nat.le_trans h.fr.size h2
theorem soloSum_calls (h : Solo w0 w b rv B q) (hL : Laid w0) :
    Calls Tryd.prog 31 #[.pointer (some ⟨b, 0, none⟩)] w fun e w' => ∃ A c, e = .returned (.slice A (out B) c) ∧ w'.ownsRow w.heap.size 5 1 (.slice A (out B) c) (out B) (bytes (hash B q)) ∧ Src w' (fun k => k < w.heap.size ∨ w'.heap.size ≤ k) A c (hash B q) ∧ Solo w0 w' b rv B q ∧ Fr (fun _ => False) w w' := by
  refine (sum_calls _ (write_ok _ (new_ok B) q) b rv w (hL.fr h.fr (fun _ h => h.elim)) h.d).mono ?_
  rintro e w' ⟨v, rfl, hO, hB⟩
  have hl : ((St.new B).write q).sum.length = out B := hash_length B q
  unfold Own at hO
  rw [hl] at hO
  obtain ⟨A, c, rfl, hc⟩ := own_shape hO
  have hO' : w'.ownsRow w.heap.size 5 1 (.slice A (out B) c) (hash B q).length (bytes (hash B q)) := by rw [hash_length]; exact hO
  refine ⟨A, c, rfl, hO, ?_, h.below (Fr.of_below hB _), Fr.of_below hB _⟩
  obtain ⟨A', c', he, hs⟩ := Src.of_own hO' (fun k => k < w.heap.size ∨ w'.heap.size ≤ k) (fun k hk h => by have := own_lt hO hk; omega)
  simp only [Value.slice.injEq] at he
  obtain ⟨rfl, _, rfl⟩ := he
  exact hs
theorem soloReset_calls (h : Solo w0 w b rv B q) (hL : Laid w0) :
    Calls Tryd.prog 43 #[.pointer (some ⟨b, 0, none⟩)] w fun e w' => ∃ r, e = .returned r ∧ Solo w0 w' b (.slice none 0 0) B [] ∧ Fr (fun k => k = b) w w' := by
  have hB : ((St.new B).write q).B = B := by
    unfold St.write
    split
    · rfl
    · rfl
  refine (reset_calls _ b rv w (hL.fr h.fr (fun _ h => h.elim)) h.d).mono ?_
  rintro e w' ⟨r, rfl, hD, hf⟩
  rw [hB] at hD
  have hb := h.foot b (.inl rfl)
  refine ⟨r, rfl, ⟨by rw [St.write_none]; exact hD, h.fr.trans hf (fun k hk hs => by subst hs; omega), fun k hk => ?_⟩, hf⟩
  rcases hk with rfl | hk
  · exact hb
  · cases hk
end
end Go.Proofs.YtjcfnflkiialbaaDoor.Sha
