/-
  leaf and node of a hasher, hasherOf, LeafHash, NodeHash, EmptyHash.
-/
import Derived.Test.YtjbhaopocabfaaaDoorHash
namespace Go.Proofs.YtjbhaopocabfaaaDoor.Sha
open Go.RowKit Go.Proofs.YtjbhaopocabfaaaDoor.Mem Go.Proofs.YtjbhaopocabfaaaDoorW.PrintWords
theorem cell_row_ne (W : World) (g k i : Nat) (cs : Array Value) (v : Value) (h : W.cell? ⟨k, i, none⟩ = some v) (hne : k ≠ g) : (W.setRow g cs).cell? ⟨k, i, none⟩ = some v :=
  (World.cell?_of_block (setRow_other W g k cs hne)).trans h
theorem own_srcs {w : World} {base g n c : Nat} {xs : List Int} (h : w.ownsRow base 5 1 (.slice (some ⟨g, 0, none⟩) n c) n (bytes xs)) : Src w (fun _ => False) (some ⟨g, 0, none⟩) c xs := by
  have hn : n = xs.length := by have := h.1; rw [bytes_length] at this; omega
  subst hn
  obtain ⟨A, c', he, hs⟩ := Src.of_own h (fun _ => False) (fun _ _ h => h)
  cases he
  exact hs
theorem own_make (w : World) (n : Nat) (hn : n ≤ 140737488355328) : (w.alloc (.cells (Wk.zeros n) 5)).ownsRow w.heap.size 5 1 (.slice (some ⟨w.heap.size, 0, none⟩) 0 n) ([] : List Int).length (bytes ([] : List Int)) :=
  ⟨rfl, .inr ⟨w.heap.size, n, Wk.zeros n, rfl, Nat.le_refl _, heap_alloc_new w _, Nat.zero_le _, by unfold maxLen; omega, by rw [Wk.zeros, size_madeCells, Nat.mul_one], by simp [bytes]⟩⟩
/-- where a whole row lies that is stored to, what is stored -/
def rowBlock : Value → Nat
  | .pointer (some ⟨b, _, _⟩) => b
  | _ => 0
def rowCells : Value → Array Value
  | .agg cs => cs
  | _ => #[]
def hashOk (v : Value) : Bool := match v with
  | .agg cs => cs.size == 32 && cs.all (fun v => v.oneCell')
  | _ => false
theorem wp_store_hash (W : World) (a : Act) (K : Act → World → Prop) (Q : Exit → Act → World → Prop) (x y : Operand) (ty : TypeId) (pos : String) (af)
    (hx : rowOk W 25 (a.eval x) = true) (hy : hashOk (a.eval y) = true) :
    Oper.wp Tryd.prog { dst := none, op := .store 25 x y, type := ty, pos := pos, after := af, guard := none } a W K Q = K (a.put none undef) (W.setRow (rowBlock (a.eval x)) (rowCells (a.eval y))) := by
  obtain ⟨b, cs, hv, hb, hz⟩ : ∃ b cs, a.eval x = .pointer (some ⟨b, 0, none⟩) ∧ W.heap[b]? = some (.cells cs 25 (0, 0)) ∧ (Tryd.prog.info? 25).map (·.size) = some cs.size := by
    unfold rowOk at hx
    split at hx
    · rename_i b hv
      split at hx
      · rename_i cs t' fr hb
        simp only [Bool.and_eq_true, beq_iff_eq] at hx
        obtain ⟨⟨rfl, rfl⟩, h3⟩ := hx
        exact ⟨b, cs, hv, hb, h3⟩
      · cases hx
    · cases hx
  obtain ⟨ds, hd, h32, h1⟩ : ∃ ds, a.eval y = .agg ds ∧ ds.size = 32 ∧ ds.all (fun v => v.oneCell') = true := by
    unfold hashOk at hy
    split at hy
    · rename_i ds hd
      simp only [Bool.and_eq_true, beq_iff_eq] at hy
      exact ⟨ds, hd, hy.1, hy.2⟩
    · cases hy
  have hi : (Tryd.prog.info? 25).map (·.size) = some 32 := by kernel_rfl
  have h32' : cs.size = ds.size := by
    rw [hi] at hz
    have := Option.some.inj hz
    omega
  have hr := run_storeVar_row (P := Tryd.prog) W b 25 25 cs ds hb (by rw [hi, h32]) h32' h1
  unfold Oper.wp execOp
  simp only [hv, hd, Instr.storeAt, Instr.sureAddr, Sem.run_bind, Sem.run_pure, Result.andThen_ok, hr, rowBlock, rowCells]
  rfl
theorem hashOk_bytes (M : List Int) (h : M.length = 32) : hashOk (.agg (bytes M).toArray) = true := by
  show ((bytes M).toArray.size == 32 && (bytes M).toArray.all (fun v => v.oneCell')) = true
  rw [bytes_ones M]
  simp [bytes, h]
attribute [local go_sem ↓] Go.wp_at_zero Go.wp_at_succ wp_load_hash wp_store_hash
attribute [local go_sem] rowAt_drew rowOk_drew rowBlock rowCells
set_option maxHeartbeats 2000000 in
set_option maxRecDepth 100000 in
theorem leaf_calls (A : Option Addr) (c : Nat) (p : List Int) (gk go s : Nat) (w : World) (hL : Laid w) (hH : Hs w gk go s) (hX : Src w (fun _ => False) A c p) (hp : p.length ≤ 140737488351232) :
    Calls Tryd.prog 80 #[.slice A p.length c, .pointer (some ⟨go, 0, none⟩)] w fun e w' => e = .returned (.agg (bytes (leafL s p)).toArray) ∧ Fr (fun _ => False) w w' := by
  have hll : (leafL s p).length = 32 := ofL_len s _ hH.le
  have HX := Kp.mk hX
  have C0 : Kp (∀ A' c' W, Fr (fun _ => False) w W → Src W (fun _ => False) A' c' (0 :: p) → Calls Tryd.prog 79 #[.slice A' (p.length + 1) c', .pointer (some ⟨gk, 0, none⟩)] W fun e w' => e = .returned (.agg (bytes (leafL s p)).toArray) ∧ Fr (fun _ => False) W w') :=
    ⟨fun A' c' W hf hs => of_calls A' c' (0 :: p) gk go s W (hL.fr hf (fun _ h => h.elim)) (hH.fr hf (fun h => h) (fun h => h)) hs (by simp only [List.length_cons]; unfold maxCount; omega)⟩
  have HO := Kp.mk hH.o
  obtain ⟨n, hn⟩ : ∃ n, n = p.length := ⟨_, rfl⟩
  have HN := Kp.mk hn
  rw [← hn] at C0 hp ⊢
  generalize leafL s p = M at C0 hll ⊢
  have HL := Kp.mk hll
  clear hn hL hH hX hll
  go_enter Tryd.func80, Tryd.ntmps80
  go_upto_region 1 with (fail)
  obtain ⟨g3, hg3⟩ : ∃ g3, g3 = w.heap.size := ⟨_, rfl⟩
  rw [← hg3]
  obtain ⟨W1, hW1⟩ : ∃ W1, W1 = w.alloc (.cells #[.int .u8 0, .int .u8 0, .int .u8 0, .int .u8 0, .int .u8 0, .int .u8 0, .int .u8 0, .int .u8 0, .int .u8 0, .int .u8 0, .int .u8 0, .int .u8 0, .int .u8 0, .int .u8 0, .int .u8 0, .int .u8 0, .int .u8 0, .int .u8 0, .int .u8 0, .int .u8 0, .int .u8 0, .int .u8 0, .int .u8 0, .int .u8 0, .int .u8 0, .int .u8 0, .int .u8 0, .int .u8 0, .int .u8 0, .int .u8 0, .int .u8 0, .int .u8 0] 25) := ⟨_, rfl⟩
  have H3 : Kp (Blk W1 g3 25 [.int .u8 0, .int .u8 0, .int .u8 0, .int .u8 0, .int .u8 0, .int .u8 0, .int .u8 0, .int .u8 0, .int .u8 0, .int .u8 0, .int .u8 0, .int .u8 0, .int .u8 0, .int .u8 0, .int .u8 0, .int .u8 0, .int .u8 0, .int .u8 0, .int .u8 0, .int .u8 0, .int .u8 0, .int .u8 0, .int .u8 0, .int .u8 0, .int .u8 0, .int .u8 0, .int .u8 0, .int .u8 0, .int .u8 0, .int .u8 0, .int .u8 0, .int .u8 0]) := ⟨by rw [hW1, hg3]; exact Blk.new w _ _⟩
  have HF1 : Kp (Fr (fun _ => False) w W1) := ⟨by rw [hW1]; exact (Fr.refl _ w).alloc _⟩
  have HG : Kp (w.heap.size ≤ g3) := ⟨by omega⟩
  rw [← hW1]
  clear hW1 hg3
  have hmk := Wk.make_bytes ((n : Int) + 1) (by omega) (by omega) W1
  rw [show ((n : Int) + 1).toNat = n + 1 by omega] at hmk
  go_upto_region 2 with (fail)
  have HM0 := Kp.mk (own_make W1 (n + 1) (by omega))
  have hfa := (Fr.refl (fun _ => False) W1).alloc (.cells (Wk.zeros (n + 1)) 5)
  have H3a := Kp.mk (H3.out.fr hfa (fun h => h))
  have HFa := Kp.mk (HF1.out.trans hfa (fun _ _ h => h))
  generalize hga : W1.heap.size = ga at HM0 ⊢
  have HGA : Kp (w.heap.size ≤ ga ∧ g3 < ga) := ⟨by rw [← hga]; exact ⟨HF1.out.size, H3.out.lt⟩⟩
  generalize hWa : World.alloc W1 _ = Wa at HM0 H3a HFa ⊢
  have HSa : Kp (ga ≤ Wa.heap.size) := ⟨by rw [← hWa, ← hga]; simp⟩
  clear hWa hga hfa hmk H3 HF1
  go_upto_region 3 with (at_builtin; refine wpList_appendS rfl _ _ rfl rfl ga (.slice (some ⟨ga, 0, none⟩) 0 (n + 1)) [] rfl (by exact own_keep HM0.out ((Fr.refl (fun _ => False) Wa).alloc _) (fun _ _ h => h)) (some ⟨Wa.heap.size, 0, none⟩) 1 1 [0] rfl rfl (by exact src_new Wa [0] 5 1 (Nat.le_refl _)) (by simp) (by exact Nat.le_trans HSa.out (by simp)) ?_; intro v5 w5 hown hgr hat; obtain ⟨g5, cp5, hv, hvv⟩ := own_form hown (by simp); subst hv; have HO5 := Kp.mk hown; have HGr5 := Kp.mk hgr; clear hown hgr hat hvv)
  have hfg : Fr (fun _ => False) w w5 := (HFa.out.alloc (.cells #[.int .u8 0] 5)).grown HGr5.out (fun k hk h => by have h1 : ga = k := Option.some.inj h; have := HGA.out.1; omega)
  have h35 : Blk w5 g3 25 [.int .u8 0, .int .u8 0, .int .u8 0, .int .u8 0, .int .u8 0, .int .u8 0, .int .u8 0, .int .u8 0, .int .u8 0, .int .u8 0, .int .u8 0, .int .u8 0, .int .u8 0, .int .u8 0, .int .u8 0, .int .u8 0, .int .u8 0, .int .u8 0, .int .u8 0, .int .u8 0, .int .u8 0, .int .u8 0, .int .u8 0, .int .u8 0, .int .u8 0, .int .u8 0, .int .u8 0, .int .u8 0, .int .u8 0, .int .u8 0, .int .u8 0, .int .u8 0] := (H3a.out.alloc (.cells #[.int .u8 0] 5)).fr (Fr.grown (Fr.refl (fun k => k = ga) _) HGr5.out (fun k hk h => by have h1 : ga = k := Option.some.inj h; exact h1.symm)) (fun h => by have := HGA.out.2; omega)
  have hg5 : ga ≤ g5 := by
    rcases HO5.out.2 with ⟨h, _⟩ | ⟨q, cap, cur, h, hb, _⟩
    · cases h
    · cases h; exact hb
  have HF5 := Kp.mk hfg
  have H35 := Kp.mk h35
  have HG5 := Kp.mk hg5
  have HX5 := Kp.mk (HX.out.fr hfg)
  have h0 : Wa.heap.size ≤ w5.heap.size := Nat.le_trans (by simp) HGr5.out.size
  have HSZ : Kp (ga ≤ w5.heap.size) := ⟨Nat.le_trans HSa.out h0⟩
  clear h0
  have co : w5.cell? ⟨go, 0, none⟩ = some (.func (.func 79) #[] #[.pointer (some ⟨gk, 0, none⟩)]) := (HO.out.fr hfg (fun h => h)).cell 0 _ rfl
  have hgo : go ≠ g3 := by have h1 := HO.out.lt; have := HG.out; omega
  have HGO := Kp.mk hgo
  clear hgo
  have hi32 : (Tryd.prog.info? 25).map (·.size) = some 32 := by kernel_rfl
  have hbl : some 32 = some (bytes M).length := by rw [bytes_length, HL.out]
  have hone : ∀ v ∈ bytes M, v.oneCell' = true := fun v hv => by
    obtain ⟨z, _, rfl⟩ := List.mem_map.1 hv
    rfl
  have hln : ([] ++ [0] ++ p : List Int).length = n + 1 := by rw [HN.out]; simp
  have HLN := Kp.mk hln
  clear hfg h35 hg5 HFa H3a HM0 HGr5 HSa hln
  go_region_held3 (fun w' => w'.cell? ⟨go, 0, none⟩ = some (.func (.func 79) #[] #[.pointer (some ⟨gk, 0, none⟩)])) (first | go_keep | exact co8 | exact co7 | exact co6) (first
    | (refine step_appendS (by rfl) (.tmp 13) (.tmp 14) (by rfl) (by rfl) ga (.slice (some ⟨g5, 0, none⟩) 1 cp5) ([] ++ [0]) (by rfl) (by exact own_keep HO5.out ((Fr.refl (fun _ => False) w5).drew) (fun _ _ h => h)) A n c p (by exact HN.out) (by rfl) (by exact HX5.out.fr ((Fr.refl (fun _ => False) w5).drew)) (by rw [← HN.out]; simp; omega) (by exact HSZ.out) ?_; intro v6 w6 hown hgr hat; obtain ⟨g6, cp6, hv, hvv⟩ := own_form hown (by rw [HLN.out]; omega); subst hv; rw [HLN.out] at hown ⊢; have HFg := Kp.mk (Fr.grown ((Fr.refl (fun k => k = g5) w5).drew) hgr (fun k hk h => by have h1 : g5 = k := Option.some.inj h; exact h1.symm)); have HF6 := Kp.mk (HF5.out.trans HFg.out (fun k hk he => by have := HG5.out; have := HGA.out.1; omega)); have H36 := Kp.mk (H35.out.fr HFg.out (fun h => by have := HG5.out; have := HGA.out.2; omega)); have co6 := (HO.out.fr HF6.out (fun h => h)).cell 0 _ rfl; have HO6 := Kp.mk hown; clear hown hgr hat hvv)
    | (go_at_call 79; (refine (C0.out (some ⟨g6, 0, none⟩) cp6 w6 HF6.out (by exact own_srcs HO6.out)).mono ?_); rintro e' w7 ⟨rfl, hf7⟩; have HF7 := Kp.mk (HF6.out.trans hf7 (fun _ _ h => h)); have H37 := Kp.mk (H36.out.fr hf7 (fun h => h)); have hth : w7.there g3 0 (bytes M).length := blk_there H37.out 0 _ (by rw [bytes_length, HL.out]; simp); have co7 := (HO.out.fr HF7.out (fun h => h)).cell 0 _ rfl; have co8 := ((HO.out.fr HF7.out (fun h => h)).fr (fr_setCells g3 (bytes M) 0 w7) (fun he => HGO.out he)).cell 0 _ rfl; clear hf7))
  have h38 : Blk (w7.setCells g3 0 (bytes M)) g3 25 (bytes M) := by
    have h := Blk.setCells g3 25 [] (bytes M) [] [.int .u8 0, .int .u8 0, .int .u8 0, .int .u8 0, .int .u8 0, .int .u8 0, .int .u8 0, .int .u8 0, .int .u8 0, .int .u8 0, .int .u8 0, .int .u8 0, .int .u8 0, .int .u8 0, .int .u8 0, .int .u8 0, .int .u8 0, .int .u8 0, .int .u8 0, .int .u8 0, .int .u8 0, .int .u8 0, .int .u8 0, .int .u8 0, .int .u8 0, .int .u8 0, .int .u8 0, .int .u8 0, .int .u8 0, .int .u8 0, .int .u8 0, .int .u8 0] w7 (by rw [bytes_length, HL.out]; rfl) (by rw [List.nil_append, List.append_nil]; exact H37.out)
    rw [List.nil_append, List.append_nil, List.length_nil] at h
    exact h
  have H38 := Kp.mk h38
  have HF8 := Kp.mk (HF7.out.trans (fr_setCells g3 (bytes M) 0 w7) (fun q hq he => by have := HG.out; omega))
  generalize World.setCells w7 g3 0 _ = w8 at H38 HF8 ⊢
  have hszM : (bytes M).toArray.size = 32 := by simp [bytes, HL.out]
  clear h38 hth co7 co8 HF7 H37 hbl hone
  go_wp2
  refine bodyPost_ret (results_cell_row rfl _ _ g3 25 _ (0, 0) _ rfl H38.out Tryd.underlying25 rfl (by rw [hszM]; exact hi32)) rfl ?_
  exact ⟨rfl, HF8.out⟩
theorem blk_srcs {w : World} {g : Nat} {T : TypeId} {l : List Int} (h : Blk w g T (bytes l)) : Src w (fun _ => False) (some ⟨g, 0, none⟩) l.length l :=
  ⟨Nat.le_refl _, .inr (.inr ⟨g, 0, rfl, ⟨h.lt, fun i hi => by rw [Nat.zero_add]; exact h.cell i _ (bytes_get l i hi)⟩, fun h => h⟩)⟩
theorem make65 (w : World) : (Instr.makeSlice 22 (.int .i64 0) (.int .i64 65)).run Tryd.prog w = .ok (.slice (some ⟨w.heap.size, 0, none⟩) 0 65) (w.alloc (.cells (Wk.zeros 65) 5)) := Wk.make_bytes 65 (by decide) (by decide) w
set_option maxHeartbeats 2000000 in
set_option maxRecDepth 100000 in
theorem node_calls (l r : List Int) (hl : l.length = 32) (hr : r.length = 32) (gk go s : Nat) (w : World) (hL : Laid w) (hH : Hs w gk go s) :
    Calls Tryd.prog 81 #[.agg (bytes l).toArray, .agg (bytes r).toArray, .pointer (some ⟨go, 0, none⟩)] w fun e w' => e = .returned (.agg (bytes (nodeL s l r)).toArray) ∧ Fr (fun _ => False) w w' := by
  have hll : (nodeL s l r).length = 32 := ofL_len s _ hH.le
  have C0 : Kp (∀ A' c' W, Fr (fun _ => False) w W → Src W (fun _ => False) A' c' (1 :: (l ++ r)) → Calls Tryd.prog 79 #[.slice A' 65 c', .pointer (some ⟨gk, 0, none⟩)] W fun e w' => e = .returned (.agg (bytes (nodeL s l r)).toArray) ∧ Fr (fun _ => False) W w') :=
    ⟨fun A' c' W hf hs => by
      have h := of_calls A' c' (1 :: (l ++ r)) gk go s W (hL.fr hf (fun _ h => h.elim)) (hH.fr hf (fun h => h) (fun h => h)) hs (by simp [hl, hr]; decide)
      rw [show (1 :: (l ++ r)).length = 65 by simp [hl, hr]] at h
      exact h⟩
  have HO := Kp.mk hH.o
  have HLl := Kp.mk hl
  have HRl := Kp.mk hr
  generalize nodeL s l r = M at C0 hll ⊢
  have HL := Kp.mk hll
  clear hl hr hL hH hll
  go_enter Tryd.func81, Tryd.ntmps81
  go_upto_region 1 with (fail)
  obtain ⟨g3, hg3⟩ : ∃ g3, g3 = w.heap.size := ⟨_, rfl⟩
  obtain ⟨g4, hg4⟩ : ∃ g4, g4 = w.heap.size + 1 := ⟨_, rfl⟩
  obtain ⟨g5, hg5⟩ : ∃ g5, g5 = w.heap.size + 1 + 1 := ⟨_, rfl⟩
  rw [← hg5, ← hg4, ← hg3]
  obtain ⟨W1, hW1⟩ : ∃ W1, W1 = ((w.alloc (.cells (bytes l).toArray 25)).alloc (.cells (bytes r).toArray 25)).alloc (.cells #[.int .u8 0, .int .u8 0, .int .u8 0, .int .u8 0, .int .u8 0, .int .u8 0, .int .u8 0, .int .u8 0, .int .u8 0, .int .u8 0, .int .u8 0, .int .u8 0, .int .u8 0, .int .u8 0, .int .u8 0, .int .u8 0, .int .u8 0, .int .u8 0, .int .u8 0, .int .u8 0, .int .u8 0, .int .u8 0, .int .u8 0, .int .u8 0, .int .u8 0, .int .u8 0, .int .u8 0, .int .u8 0, .int .u8 0, .int .u8 0, .int .u8 0, .int .u8 0] 25) := ⟨_, rfl⟩
  have H3 : Kp (Blk W1 g3 25 (bytes l)) := ⟨by rw [hW1, hg3]; exact ((Blk.new w (bytes l).toArray _).alloc _).alloc _⟩
  have H4 : Kp (Blk W1 g4 25 (bytes r)) := ⟨by rw [hW1, hg4]; exact (Blk.new' (w.alloc (.cells (bytes l).toArray 25)) (bytes r).toArray _ (by simp)).alloc _⟩
  have H5 : Kp (Blk W1 g5 25 [.int .u8 0, .int .u8 0, .int .u8 0, .int .u8 0, .int .u8 0, .int .u8 0, .int .u8 0, .int .u8 0, .int .u8 0, .int .u8 0, .int .u8 0, .int .u8 0, .int .u8 0, .int .u8 0, .int .u8 0, .int .u8 0, .int .u8 0, .int .u8 0, .int .u8 0, .int .u8 0, .int .u8 0, .int .u8 0, .int .u8 0, .int .u8 0, .int .u8 0, .int .u8 0, .int .u8 0, .int .u8 0, .int .u8 0, .int .u8 0, .int .u8 0, .int .u8 0]) := ⟨by rw [hW1, hg5]; exact Blk.new' _ _ _ (by simp)⟩
  have HF1 : Kp (Fr (fun _ => False) w W1) := ⟨by rw [hW1]; exact (((Fr.refl _ w).alloc _).alloc _).alloc _⟩
  have HG : Kp (w.heap.size ≤ g5) := ⟨by omega⟩
  rw [← hW1]
  clear hW1 hg3 hg4 hg5
  have hmk := make65 W1
  go_upto_region 2 with (fail)
  have HM0 := Kp.mk (own_make W1 65 (by decide))
  have hfa := (Fr.refl (fun _ => False) W1).alloc (.cells (Wk.zeros 65) 5)
  have H3a := Kp.mk (H3.out.fr hfa (fun h => h))
  have H4a := Kp.mk (H4.out.fr hfa (fun h => h))
  have H5a := Kp.mk (H5.out.fr hfa (fun h => h))
  have HFa := Kp.mk (HF1.out.trans hfa (fun _ _ h => h))
  generalize hga : W1.heap.size = ga at HM0 ⊢
  have HGA : Kp (w.heap.size ≤ ga ∧ g3 < ga ∧ g4 < ga ∧ g5 < ga) := ⟨by rw [← hga]; exact ⟨HF1.out.size, H3.out.lt, H4.out.lt, H5.out.lt⟩⟩
  generalize hWa : World.alloc W1 _ = Wa at HM0 H3a H4a H5a HFa ⊢
  have HSa : Kp (ga ≤ Wa.heap.size) := ⟨by rw [← hWa, ← hga]; simp⟩
  clear hWa hga hfa hmk H3 H4 H5 HF1
  go_upto_region 3 with (at_builtin; refine wpList_appendS rfl _ _ rfl rfl ga (.slice (some ⟨ga, 0, none⟩) 0 65) [] rfl (by exact own_keep HM0.out ((Fr.refl (fun _ => False) Wa).alloc _) (fun _ _ h => h)) (some ⟨Wa.heap.size, 0, none⟩) 1 1 [1] rfl rfl (by exact src_new Wa [1] 5 1 (Nat.le_refl _)) (by simp) (by exact Nat.le_trans HSa.out (by simp)) ?_; intro v5 w5 hown hgr hat; obtain ⟨gb, cpb, hv, hvv⟩ := own_form hown (by simp); subst hv; have HOb := Kp.mk hown; have HGr5 := Kp.mk hgr; clear hown hgr hat hvv)
  have hgr := (Fr.refl (fun k => k = ga) (Wa.alloc (.cells #[.int .u8 1] 5))).grown HGr5.out (fun k hk h => by have h1 : ga = k := Option.some.inj h; exact h1.symm)
  have HF5 := Kp.mk ((HFa.out.alloc (.cells #[.int .u8 1] 5)).trans hgr (fun k hk he => by have := HGA.out.1; omega))
  have H35 := Kp.mk ((H3a.out.alloc (.cells #[.int .u8 1] 5)).fr hgr (fun h => by have := HGA.out.2.1; omega))
  have H45 := Kp.mk ((H4a.out.alloc (.cells #[.int .u8 1] 5)).fr hgr (fun h => by have := HGA.out.2.2.1; omega))
  have H55 := Kp.mk ((H5a.out.alloc (.cells #[.int .u8 1] 5)).fr hgr (fun h => by have := HGA.out.2.2.2; omega))
  have HGB : Kp (ga ≤ gb) := ⟨by
    rcases HOb.out.2 with ⟨h, _⟩ | ⟨q, cap, cur, h, hb, _⟩
    · cases h
    · cases h; exact hb⟩
  have HS5 : Kp (ga ≤ w5.heap.size) := ⟨Nat.le_trans HSa.out (Nat.le_trans (by simp) HGr5.out.size)⟩
  clear hgr HGr5 HSa HM0 H3a H4a H5a HFa
  have HX3 : Kp (Src w5 (fun _ => False) (some ⟨g3, 0, none⟩) 32 l) := ⟨by have h := blk_srcs H35.out; rw [HLl.out] at h; exact h⟩
  go_upto_region 4 with (at_builtin; refine wpList_appendS rfl _ _ rfl rfl ga (.slice (some ⟨gb, 0, none⟩) 1 cpb) ([] ++ [1]) rfl (by exact HOb.out) (some ⟨g3, 0, none⟩) 32 32 l (by exact HLl.out.symm) rfl (by exact HX3.out) (by rw [HLl.out]; simp) (by exact HS5.out) ?_; intro v6 w6 hown hgr hat; obtain ⟨gc, cpc, hv, hvv⟩ := own_form hown (by simp); subst hv; have HOc := Kp.mk hown; have HGr6 := Kp.mk hgr; clear hown hgr hat hvv)
  have hlc : ([] ++ [1] ++ l : List Int).length = 33 := by simp [HLl.out]
  have hgr := (Fr.refl (fun k => k = gb) w5).grown HGr6.out (fun k hk h => by have h1 : gb = k := Option.some.inj h; exact h1.symm)
  have HF6 := Kp.mk (HF5.out.trans hgr (fun k hk he => by have := HGA.out.1; have := HGB.out; omega))
  have H46 := Kp.mk (H45.out.fr hgr (fun h => by have := HGA.out.2.2.1; have := HGB.out; omega))
  have H56 := Kp.mk (H55.out.fr hgr (fun h => by have := HGA.out.2.2.2; have := HGB.out; omega))
  have HGC : Kp (ga ≤ gc) := ⟨by
    rcases HOc.out.2 with ⟨h, _⟩ | ⟨q, cap, cur, h, hb, _⟩
    · cases h
    · cases h; exact hb⟩
  have HS6 : Kp (ga ≤ w6.heap.size) := ⟨Nat.le_trans HS5.out HGr6.out.size⟩
  clear hgr HGr6 HOb H35 H45 H55 HX3 HS5 HF5
  have HX4 : Kp (Src w6 (fun _ => False) (some ⟨g4, 0, none⟩) 32 r) := ⟨by have h := blk_srcs H46.out; rw [HRl.out] at h; exact h⟩
  have co : w6.cell? ⟨go, 0, none⟩ = some (.func (.func 79) #[] #[.pointer (some ⟨gk, 0, none⟩)]) := (HO.out.fr HF6.out (fun h => h)).cell 0 _ rfl
  have HGO : Kp (go ≠ g5) := ⟨by have h1 := HO.out.lt; have := HG.out; omega⟩
  have hi32 : (Tryd.prog.info? 25).map (·.size) = some 32 := by kernel_rfl
  have hbl : some 32 = some (bytes M).length := by rw [bytes_length, HL.out]
  have hone : ∀ v ∈ bytes M, v.oneCell' = true := fun v hv => by
    obtain ⟨z, _, rfl⟩ := List.mem_map.1 hv
    rfl
  have HLN : Kp (([] ++ [1] ++ l ++ r : List Int).length = 65) := ⟨by simp [HLl.out, HRl.out]⟩
  have HLM : Kp (([] ++ [1] ++ l ++ r : List Int) = 1 :: (l ++ r)) := ⟨by simp⟩
  have HLC := Kp.mk hlc
  have HOc2 : Kp (w6.ownsRow ga 5 1 (.slice (some ⟨gc, 0, none⟩) 33 cpc) ([] ++ [1] ++ l : List Int).length (bytes ([] ++ [1] ++ l))) := ⟨by have h := HOc.out; rw [hlc] at h ⊢; exact h⟩
  rw [show l.length + 1 = 33 by rw [HLl.out]]
  clear HOc hlc
  go_region_held3 (fun w' => w'.cell? ⟨go, 0, none⟩ = some (.func (.func 79) #[] #[.pointer (some ⟨gk, 0, none⟩)])) (first | go_keep | exact co8 | exact co7 | exact co6) (first
    | (refine step_appendS (by rfl) (.tmp 15) (.tmp 16) (by rfl) (by rfl) ga (.slice (some ⟨gc, 0, none⟩) 33 cpc) ([] ++ [1] ++ l) (by rfl) (by exact own_keep HOc2.out ((Fr.refl (fun _ => False) w6).drew) (fun _ _ h => h)) (some ⟨g4, 0, none⟩) 32 32 r (by exact HRl.out.symm) (by rfl) (by exact HX4.out.fr ((Fr.refl (fun _ => False) w6).drew)) (by rw [HLC.out, HRl.out]; decide) (by exact HS6.out) ?_; intro v7 w66 hown hgr hat; obtain ⟨gd, cpd, hv, hvv⟩ := own_form hown (by rw [HLN.out]; omega); subst hv; rw [HLN.out] at hown ⊢; rw [HLM.out] at hown; have HFg := Kp.mk (Fr.grown ((Fr.refl (fun k => k = gc) w6).drew) hgr (fun k hk h => by have h1 : gc = k := Option.some.inj h; exact h1.symm)); have HF66 := Kp.mk (HF6.out.trans HFg.out (fun k hk he => by have := HGC.out; have := HGA.out.1; omega)); have H566 := Kp.mk (H56.out.fr HFg.out (fun h => by have := HGC.out; have := HGA.out.2.2.2; omega)); have co6 := (HO.out.fr HF66.out (fun h => h)).cell 0 _ rfl; have HO66 := Kp.mk hown; clear hown hgr hat hvv)
    | (go_at_call 79; (refine (C0.out (some ⟨gd, 0, none⟩) cpd w66 HF66.out (by exact own_srcs HO66.out)).mono ?_); rintro e' w7 ⟨rfl, hf7⟩; have HF7 := Kp.mk (HF66.out.trans hf7 (fun _ _ h => h)); have H57 := Kp.mk (H566.out.fr hf7 (fun h => h)); have hth : w7.there g5 0 (bytes M).length := blk_there H57.out 0 _ (by rw [bytes_length, HL.out]; simp); have co7 := (HO.out.fr HF7.out (fun h => h)).cell 0 _ rfl; have co8 := ((HO.out.fr HF7.out (fun h => h)).fr (fr_setCells g5 (bytes M) 0 w7) (fun he => HGO.out he)).cell 0 _ rfl; clear hf7))
  have h38 : Blk (w7.setCells g5 0 (bytes M)) g5 25 (bytes M) := by
    have h := Blk.setCells g5 25 [] (bytes M) [] [.int .u8 0, .int .u8 0, .int .u8 0, .int .u8 0, .int .u8 0, .int .u8 0, .int .u8 0, .int .u8 0, .int .u8 0, .int .u8 0, .int .u8 0, .int .u8 0, .int .u8 0, .int .u8 0, .int .u8 0, .int .u8 0, .int .u8 0, .int .u8 0, .int .u8 0, .int .u8 0, .int .u8 0, .int .u8 0, .int .u8 0, .int .u8 0, .int .u8 0, .int .u8 0, .int .u8 0, .int .u8 0, .int .u8 0, .int .u8 0, .int .u8 0, .int .u8 0] w7 (by rw [bytes_length, HL.out]; rfl) (by rw [List.nil_append, List.append_nil]; exact H57.out)
    rw [List.nil_append, List.append_nil, List.length_nil] at h
    exact h
  have H38 := Kp.mk h38
  have HF8 := Kp.mk (HF7.out.trans (fr_setCells g5 (bytes M) 0 w7) (fun q hq he => by have := HG.out; omega))
  generalize World.setCells w7 g5 0 _ = w8 at H38 HF8 ⊢
  have hszM : (bytes M).toArray.size = 32 := by simp [bytes, HL.out]
  clear h38 hth co7 co8 HF7 H57 hbl hone
  go_wp2
  refine bodyPost_ret (results_cell_row rfl _ _ g5 25 _ (0, 0) _ rfl H38.out Tryd.underlying25 rfl (by rw [hszM]; exact hi32)) rfl ?_
  exact ⟨rfl, HF8.out⟩
end Go.Proofs.YtjbhaopocabfaaaDoor.Sha
