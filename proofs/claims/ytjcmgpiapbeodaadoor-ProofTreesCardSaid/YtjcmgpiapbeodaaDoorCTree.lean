/-
  climbedTree, ClimbTree, CheckTree.
-/
import Derived.Test.YtjcmgpiapbeodaaDoorPartsW
import Derived.Test.YtjcmgpiapbeodaaDoorMaps
import Derived.Test.YtjcmgpiapbeodaaDoorCTreeP
set_option linter.unusedSimpArgs false
set_option linter.unusedVariables false
namespace Go.Proofs.YtjcmgpiapbeodaaDoor.Sha
open Go.Proofs.YtjcmgpiapbeodaaDoor.Pf Go.Proofs.YtjcmgpiapbeodaaDoor.Len Go.Proofs.YtjcmgpiapbeodaaDoor.PProofTakes
open Go.RowKit Go.Proofs.YtjcmgpiapbeodaaDoor.Mem Go.Proofs.YtjcmgpiapbeodaaDoorW.PrintWords Go.Proofs.YtjcmgpiapbeodaaDoorW.PrintLast Go.Proofs.YtjcmgpiapbeodaaDoor.Pl Go.Proofs.YtjcmgpiapbeodaaDoor.Wk
attribute [local go_sem ↓] Go.wp_at_zero Go.wp_at_succ wp_load_hash wp_store_hash wp_load_mid23 wp_load_mid25 wp_store_mid25 wp_build_hash
attribute [local go_sem] rowAt_drew rowOk_drew midOk_drew midAt_drew rowBlock rowCells rowOff midFree_drew
theorem mk_map (ev : Operand → Value) (o : Oper) (w : World) (ho : o.op = .makeMap 99 none) : (execOp ev o).run Tryd.prog w = .ok (.value (.map (some w.heap.size))) (w.alloc (.map #[] 0)) := by
  unfold execOp
  simp only [ho]
  rfl
theorem ins_map (ev : Operand → Value) (o : Oper) (w w' : World) (x y z : Operand) (m k v : Value) (ho : o.op = .insert 99 x y z) (hx : ev x = m) (hy : ev y = k) (hz : ev z = v)
    (hr : (Instr.mapUpdate 99 m k v).run Tryd.prog w = .ok () w') : (execOp ev o).run Tryd.prog w = .ok .skip w' := by
  unfold execOp
  simp only [ho, hx, hy, hz]
  simp [hr, Result.andThen]
theorem upd_map (ev : Operand → Value) (o : Oper) (w w' : World) (x y z : Operand) (m k v : Value) (ho : o.op = .mapUpdate 99 x y z) (hx : ev x = m) (hy : ev y = k) (hz : ev z = v)
    (hr : (Instr.mapUpdate 99 m k v).run Tryd.prog w = .ok () w') : (execOp ev o).run Tryd.prog w = .ok .skip w' := by
  unfold execOp
  simp only [ho, hx, hy, hz]
  simp [hr, Result.andThen]
theorem al_two (ev : Operand → Value) (o : Oper) (w : World) (ho : o.op = .alloc 101) : (execOp ev o).run Tryd.prog w = .ok (.value (.pointer (some ⟨w.heap.size, 0, none⟩))) (w.alloc (.cells #[.nilIface, .nilIface, .map none] 101)) := by
  unfold execOp
  simp only [ho]
  go_simp
theorem built_two (t1 t2 : TypeId) (u1 u2 : Value) (b : Option Nat) (w : World) : (Instr.build 101 #[(0, .iface t1 u1), (1, .iface t2 u2), (2, .map b)]).run Tryd.prog w = .ok (.agg #[.iface t1 u1, .iface t2 u2, .map b]) w := by kernel_rfl
theorem MapB.fr {w w1 : World} {b n : Nat} {K : Nat → Nat → List Int} {S : Nat → Prop} (h : MapB w b n K) (hf : Fr S w w1) (hS : ¬ S b) : MapB w1 b n K := h.keep hf hS
theorem MapB.not_cells {w : World} {b n : Nat} {K : Nat → Nat → List Int} (h : MapB w b n K) {k : Nat} {cur : Array Value} {T : TypeId} {fr : Nat × Nat} (hk : w.heap[k]? = some (.cells cur T fr)) : ¬ k = b := by
  rintro rfl
  obtain ⟨D, ⟨es, clock, hb, _⟩, _⟩ := h
  rw [hk] at hb
  cases hb
theorem st_nod (ev : Operand → Value) (o : Oper) (x y : Operand) (w : World) (b i : Nat) (T t : TypeId) (u : Value) (vs : List Value) (ho : o.op = .store 98 x y) (hx : ev x = .pointer (some ⟨b, i, none⟩)) (hy : ev y = .iface t u) (hb : Blk w b T vs) (hi : i < vs.length) :
    (execOp ev o).run Tryd.prog w = .ok .skip (w.setCell ⟨b, i, none⟩ (.iface t u)) := by
  have c1 : w.cell? ⟨b, i, none⟩ = some vs[i] := hb.cell i _ (List.getElem?_eq_getElem hi)
  have f1 := hb.free i
  unfold execOp
  simp only [ho, hx, hy]
  go_simp
theorem cell_kept {w w' : World} {b n : Nat} {v : Value} (h : w.cell? ⟨b, n, none⟩ = some v) (hf : Fr (fun _ => False) w w') : w'.cell? ⟨b, n, none⟩ = some v := by
  obtain ⟨cs, t, fr, h1, _⟩ := cells_of h
  have hlt := (Array.getElem?_eq_some_iff.1 h1).1
  rw [World.cell?_of_block (a := ⟨b, n, none⟩) (hf.block b hlt (fun h => h))]
  exact h
theorem nd_giv {w : World} {s : Nat} {x : List Int} (h : x.length = 32) : NdAt w s (.giv x) (.iface 141 (.agg (bytes x).toArray)) := ⟨h, rfl⟩
theorem bld_given (ev : Operand → Value) (o : Oper) (x : Operand) (l : List Int) (hl : l.length = 32) (w : World) (ho : o.op = .build 141 #[(0, x)]) (hx : ev x = .agg (bytes l).toArray) :
    (execOp ev o).run Tryd.prog w = .ok (.value (.agg (bytes l).toArray)) w := by
  have h := built_given (bytes l) (by rw [bytes_length, hl]) w
  unfold execOp
  simp only [ho]
  simp only [List.map_toArray, List.map_cons, List.map_nil, hx, Sem.run_bind, h, Result.andThen_ok, Sem.run_pure]
theorem lds_map {w : World} {a : Addr} {v : Value} (h : w.cell? a = some v) : Lds w 99 (.pointer (some a)) v := by
  intro ev o x ho hx
  unfold execOp
  simp only [ho, hx]
  go_simp
theorem run_bnd (f : List Int → List Int → List Int) (N : Nat) : ∀ (w : List Pf.St) (p : List (List Int)) (c : Cl), (∀ t ∈ w, t.a ≤ N ∧ t.b ≤ N) → c.x ≤ N → c.y ≤ N → (c.run f w p).x ≤ N ∧ (c.run f w p).y ≤ N
  | [], _, c, _, h1, h2 => by cases ‹List (List Int)› <;> exact ⟨h1, h2⟩
  | _ :: _, [], c, _, h1, h2 => ⟨h1, h2⟩
  | t :: w, x :: p, c, h, h1, h2 => by
    have ht := h t (by simp)
    refine run_bnd f N w p (c.up f t x) (fun u hu => h u (by simp [hu])) ?_ ?_
    · unfold Cl.up
      split
      · exact h1
      · exact ht.1
    · unfold Cl.up
      split
      · exact ht.2
      · exact h2
theorem run_take (f : List Int → List Int → List Int) (c : Cl) (w : List Pf.St) (p : List (List Int)) (hl : w.length = p.length) (j : Nat) (t : Pf.St) (x : List Int) (ht : w[j]? = some t) (hx : p[j]? = some x) :
    c.run f (w.take (j + 1)) (p.take (j + 1)) = (c.run f (w.take j) (p.take j)).up f t x := by
  rw [List.take_add_one, List.take_add_one, ht, hx]
  exact run_snoc f t x _ _ c (by rw [List.length_take, List.length_take, hl])
theorem old_snoc (s : Pf.St) (h : List Int) : ∀ (w : List Pf.St) (p : List (List Int)) (n : Nd), w.length = p.length → oldT n (w ++ [s]) (p ++ [h]) = if s.r = true then oldT n w p else .join (.giv h) (oldT n w p)
  | [], [], n, _ => rfl
  | [], _ :: _, _, hl => by simp at hl
  | _ :: _, [], _, hl => by simp at hl
  | s' :: w, h' :: p, n, hl => old_snoc s h w p (if s'.r = true then n else .join (.giv h') n) (by simpa using hl)
theorem old_take (c : Nd) (w : List Pf.St) (p : List (List Int)) (hl : w.length = p.length) (j : Nat) (t : Pf.St) (x : List Int) (ht : w[j]? = some t) (hx : p[j]? = some x) :
    oldT c (w.take (j + 1)) (p.take (j + 1)) = if t.r = true then oldT c (w.take j) (p.take j) else .join (.giv x) (oldT c (w.take j) (p.take j)) := by
  rw [List.take_add_one, List.take_add_one, ht, hx]
  exact old_snoc t x _ _ c (by rw [List.length_take, List.length_take, hl])
theorem results_cell1 {P : Program} {fn : Func} {p : Tmp} {ty : TypeId} (h : fn.results = #[.cell p ty]) (tmps : Array Value) (w : World) (g : Nat) (t : TypeId) (cs : Array Value) (fr : Nat × Nat) (d : TypeDesc)
    (hp : tmps.getD p undef = .pointer (some ⟨g, 0, none⟩)) (hg : w.heap[g]? = some (.cells cs t fr))
    (hu : P.underlying ty = some d) (hd : (match d with | .struct _ | .array _ _ => true | _ => false) = true) (hi : (P.info? ty).map (·.size) = some cs.size) :
    (results fn tmps).run P w = .ok (.agg cs) w := by
  have hp' : tmps[p]?.getD undef = .pointer (some ⟨g, 0, none⟩) := by simpa using hp
  simp [results, h, hp', asAddr, run_loadVar_row w g t ty cs fr d hg hu hd hi]
theorem wp_load_two3 (W : World) (a : Act) (K : Act → World → Prop) (Q : Exit → Act → World → Prop) (x : Operand) (d : Tmp) (ty : TypeId) (pos : String) (af) (gd)
    (hx : midOk W 3 (a.eval x) = true) :
    Oper.wp Tryd.prog { dst := some d, op := .load 101 x, type := ty, pos := pos, after := af, guard := gd } a W K Q = K (a.put (some d) (.agg (midAt W 3 (a.eval x)))) W := by
  obtain ⟨b, o, cs, t, fr, hv, hb, hz⟩ : ∃ b o cs t fr, a.eval x = .pointer (some ⟨b, o, none⟩) ∧ W.heap[b]? = some (.cells cs t fr) ∧ o + 3 ≤ cs.size := by
    unfold midOk at hx
    split at hx
    · rename_i b o hv
      split at hx
      · rename_i cs t fr hb
        exact ⟨b, o, cs, t, fr, hv, hb, of_decide_eq_true hx⟩
      · cases hx
    · cases hx
  have hi : (Tryd.prog.info? 101).map (·.size) = some 3 := by kernel_rfl
  have h := run_loadAt_mid (P := Tryd.prog) W b o 101 (cs.extract o (o + 3)).toList _ (World.rangeAt_of_block hb o 3) Tryd.underlying101 rfl (by rw [hi, Array.length_toList, Array.size_extract, show min (o + 3) cs.size - o = 3 by omega])
  have e : (execOp a.eval { dst := some d, op := .load 101 x, type := ty, pos := pos, after := af, guard := gd }).run Tryd.prog W = .ok (.value (.agg (cs.extract o (o + 3)))) W := by
    unfold execOp
    simp only [hv, Sem.run_bind, h, Result.andThen_ok, Sem.run_pure, Array.toArray_toList]
  have hra : midAt W 3 (a.eval x) = cs.extract o (o + 3) := by rw [hv]; simp only [midAt, hb]
  unfold Oper.wp
  rw [e, hra]
  rfl
theorem mid_two {w : World} {b : Nat} {x y z : Value} (h : Blk w b 101 [x, y, z]) : midOk w 3 (.pointer (some ⟨b, 0, none⟩)) = true ∧ midAt w 3 (.pointer (some ⟨b, 0, none⟩)) = #[x, y, z] := by
  refine ⟨midOk_blk (o := 0) (n := 3) h (by simp), ?_⟩
  have h2 := midAt_blk (o := 0) (n := 3) h
  rwa [List.drop_zero, List.take_of_length_le (by simp)] at h2
attribute [local go_sem ↓] wp_load_two3
set_option maxHeartbeats 4000000 in
set_option maxRecDepth 100000 in
theorem climbedTree_calls (k : Int) (A : Option Addr) (c : Nat) (p : List (List Int)) (m n : Nat) (old : List Int) (w : World) (hL : Laid w) (hX : HRow w (fun _ => False) A c p) (h0 : 0 < m) (hm : m ≤ n) (hn : n ≤ 281474976710656) (hl : p.length = (from' m n).length) (ho : old.length = 32) :
    Calls Tryd.prog 46 #[.int .i64 k, .slice A p.length c, .int .i64 (n : Int), .int .i64 (m : Int), .agg (bytes old).toArray] w fun e w' => ∃ v1 v2 b N, e = .returned (.agg #[v1, v2, .map (some b)]) ∧
      NdAt w' (strength k) (freshN m n old p) v1 ∧ NdAt w' (strength k) (oldN m n old p) v2 ∧ MapB w' b N (climbK (nodeL (strength k)) m n old p) ∧ N ≤ 60 ∧ w.heap.size ≤ b ∧ Fr (fun _ => False) w w' := by
  have HL := Kp.mk hL
  have HX := Kp.mk hX
  have HO := Kp.mk ho
  have CW : Kp (∀ W, Calls Tryd.prog 44 #[.int .i64 (n : Int), .int .i64 (m : Int), .func (.func 45) #[] #[]] W fun e w' =>
    ∃ v, e = .returned (.tuple #[v, .agg #[.int .i64 ((seedA m 0 n : Nat) : Int), .int .i64 (m : Int)]]) ∧ ROwn 95 3 w' W.heap.size v ((from' m n).map stC) ∧ Fr (fun _ => False) W w') := ⟨fun W => wayFrom_step m n h0 hm hn W⟩
  have CJ : Kp (∀ (l r : Nd) (vl vr : Value) (W : World), Fr (fun _ => False) w W → NdAt W (strength k) l vl → NdAt W (strength k) r vr → Calls Tryd.prog 75 #[.int .i64 k, vl, vr] W fun e w' => ∃ v, e = .returned v ∧ NdAt w' (strength k) (.join l r) v ∧ Fr (fun _ => False) W w') :=
    ⟨fun l r vl vr W hf h1 h2 => pjoin_calls k l r vl vr W (hL.fr hf (fun _ h => h.elim)) h1 h2⟩
  have hrl := rest_len hl
  have hr32 := rest_32 (m := m) (n := n) hX.1
  have HN := Kp.mk (And.intro h0 (And.intro hm hn))
  have H48 := Kp.mk (show (stepsT m n).length ≤ 48 by unfold stepsT; rw [List.length_reverse]; exact fromD_len48 hn)
  have hsl := (seedA_lt m n 0 n (Nat.le_of_lt Nat.lt_two_pow_self) h0 hm)
  obtain ⟨a0, ha0⟩ : ∃ a, a = seedA m 0 n := ⟨_, rfl⟩
  have ha0b : a0 < m ∧ a0 ≤ 281474976710656 := by omega
  have HA0 := Kp.mk ha0
  have HA0B := Kp.mk ha0b
  rw [← ha0] at CW
  obtain ⟨s, hs⟩ : ∃ s, s = strength k := ⟨_, rfl⟩
  rw [← hs] at CJ ⊢
  have HS := Kp.mk (show s ≤ 32 by rw [hs]; exact strength_le k)
  have HRL := Kp.mk hrl
  have HR32 := Kp.mk hr32
  obtain ⟨q0, hq0⟩ : ∃ q, q = p.length := ⟨_, rfl⟩
  rw [← hq0]
  have HQ0 := Kp.mk hq0
  have HPL := Kp.mk hl
  have hbo := built_given (bytes old) (by rw [bytes_length, ho])
  have hi32 : (Tryd.prog.info? 29).map (·.size) = some 32 := by kernel_rfl
  have hlo : Kp ((bytes old).length = 32) := ⟨by rw [bytes_length, ho]⟩
  clear hL hX h0 hm hn hl ho hrl hr32 hsl ha0 hs hq0 ha0b
  go_enter Tryd.func46, Tryd.ntmps46
  go_upto_region 1 with (fail)
  obtain ⟨g9, hg9⟩ : ∃ g, g = w.heap.size := ⟨_, rfl⟩
  obtain ⟨g10, hg10⟩ : ∃ g, g = w.heap.size + 1 := ⟨_, rfl⟩
  rw [← hg10, ← hg9]
  obtain ⟨W2, hW2⟩ : ∃ W, W = (w.alloc (.cells (bytes old).toArray 29)).alloc (.cells #[.nilIface, .nilIface, .map none] 101) := ⟨_, rfl⟩
  have H9b : Kp (Blk W2 g9 29 (bytes old)) := ⟨by rw [hW2, hg9]; exact (Blk.new w _ _).alloc _⟩
  have H10 : Kp (Blk W2 g10 101 [.nilIface, .nilIface, .map none]) := ⟨by rw [hW2, hg10]; exact Blk.new' _ _ _ (by simp)⟩
  have HF2 : Kp (Fr (fun _ => False) w W2) := ⟨by rw [hW2]; exact ((Fr.refl _ w).alloc _).alloc _⟩
  have HG10 : Kp (w.heap.size ≤ g10) := ⟨by omega⟩
  have N910 : Kp (g9 ≠ g10) := ⟨by omega⟩
  rw [← hW2]
  clear hg10 hW2 hg9
  go_wp2_with (fail)
  refine (CW.out W2).mono ?_
  rintro e W3 ⟨vw, rfl, how, hf⟩
  obtain ⟨Aw, cw, hvw⟩ := how.slice
  subst hvw
  have HF3 := Kp.mk (HF2.out.trans hf (fun _ _ h => h))
  have H9c := Kp.mk (H9b.out.fr hf (fun h => h))
  have H10c := Kp.mk (H10.out.fr hf (fun h => h))
  have HWY := Kp.mk how
  rw [List.length_map, ← HPL.out, ← HQ0.out]
  clear how hf HF2 H9b H10
  go_upto_region 2 with (fail)
  obtain ⟨g12, hg12⟩ : ∃ g, g = W3.heap.size := ⟨_, rfl⟩
  obtain ⟨W4, hW4⟩ : ∃ W, W = W3.alloc (.cells #[.int .i64 (a0 : Int), .int .i64 (m : Int)] 91) := ⟨_, rfl⟩
  have H12 : Kp (Blk W4 g12 91 [.int .i64 (a0 : Int), .int .i64 (m : Int)]) := ⟨by rw [hW4, hg12]; exact Blk.new W3 _ _⟩
  have hfa : Fr (fun _ => False) W3 W4 := by rw [hW4]; exact (Fr.refl _ W3).alloc _
  have H9 := Kp.mk (H9c.out.fr hfa (fun h => h))
  have H10 := Kp.mk (H10c.out.fr hfa (fun h => h))
  have HF4 := Kp.mk (HF3.out.trans hfa (fun _ _ h => h))
  have HWY4 := Kp.mk (HWY.out.keep hfa (fun _ _ h => h))
  have HG12 : Kp (w.heap.size ≤ g12) := ⟨by rw [hg12]; exact HF3.out.size⟩
  rw [← hg12, ← hW4]
  have c120 : W4.cell? ⟨g12, 0, none⟩ = some (.int .i64 (a0 : Int)) := H12.out.cell 0 _ rfl
  have H9r := Kp.mk (blk_range H9.out)
  clear hg12 hW4 hfa H9c H10c HF3 HWY
  go_upto_region 3 with (first
    | refine wpList_load_mid rfl 29 _ rfl g9 0 rfl (bytes old) _ H9r.out Tryd.underlying29 rfl (by rw [hlo.out]; exact hi32) ?_
    | refine wpList_build rfl 141 _ rfl #[(0, .agg (bytes old).toArray)] (by simp only [List.map_toArray, List.map_cons, List.map_nil]; rfl) _ hbo ?_)
  clear c120 H9r H9 hbo
  have HB0 : Kp ((begT m n old p) = .giv (if 0 < a0 then p.headD [] else old)) := ⟨by unfold begT; rw [HA0.out]⟩
  have HR0 : Kp (restT m n p = if 0 < a0 then p.tail else p) := ⟨by unfold restT; rw [HA0.out]⟩
  have HFRM : Kp (from' m n = (if 0 < a0 then [⟨a0, m, false⟩] else []) ++ stepsT m n) := ⟨by rw [HA0.out]; rfl⟩
  have c120 : W4.cell? ⟨g12, 0, none⟩ = some (.int .i64 (a0 : Int)) := H12.out.cell 0 _ rfl
  rcases Nat.eq_zero_or_pos a0 with hs | hs
  case' inr =>
    have hq1 : 1 ≤ q0 := by
      rw [HQ0.out, HPL.out, HFRM.out, if_pos hs]
      simp
    obtain ⟨bP, oP, hAP, hz1, hz2, hz3⟩ := HX.out.at 0 (by rw [← HQ0.out]; exact hq1)
    clear hz1 hz2 hz3
    have hp0 : 0 < p.length := by rw [← HQ0.out]; exact hq1
    have hx032 := HX.out.1 _ (List.getElem_mem hp0)
    have hm0 := HX.out.fr HF4.out
    subst hAP
    obtain ⟨m1, m2⟩ := hm0.mid 0 hp0
    rw [Nat.zero_mul, Nat.add_zero] at m1 m2
    have hbx := built_given (bytes p[0]) (by rw [bytes_length, hx032])
    have hhd : p.headD [] = p[0] := by
      cases p with
      | nil => simp at hp0
      | cons x r => rfl
    obtain ⟨q, hq⟩ : ∃ q, q0 = q + 1 := ⟨q0 - 1, by omega⟩
    obtain ⟨gw, cw', hvw, hz1, hz2⟩ := HWY4.out.form (by rw [List.length_map, ← HPL.out, ← HQ0.out]; exact hq1)
    rw [List.length_map, ← HPL.out, ← HQ0.out] at hvw hz2
    simp only [Value.slice.injEq] at hvw
    obtain ⟨rfl, hz3, rfl⟩ := hvw
    clear hz3 hz1
    have hcP : q0 ≤ c := by rw [HQ0.out]; exact HX.out.2.1
    have HBN : Kp (begT m n old p = .giv p[0]) := ⟨by rw [HB0.out, if_pos hs, hhd]⟩
    have HBL : Kp ((p[0] : List Int).length = 32) := ⟨hx032⟩
    have HRS : Kp (restT m n p = p.drop 1) := ⟨by rw [HR0.out, if_pos hs, List.drop_one]⟩
    have HFR : Kp (from' m n = [⟨a0, m, false⟩] ++ stepsT m n) := ⟨by rw [HFRM.out, if_pos hs]⟩
    generalize p[0] = x0 at HBN HBL m2 hbx
    clear hhd hx032 hp0 HB0 HR0 HFRM
    subst hq
    go_upto_region 5 with (refine wpList_build rfl 141 _ rfl #[(0, .agg (bytes x0).toArray)] (by simp only [List.map_toArray, List.map_cons, List.map_nil]; rfl) _ hbx ?_)
    have hq2 : q + 1 ≤ c ∧ q + 1 ≤ cw := ⟨hcP, hz2⟩
    have hq3 : (1 : Int) ≤ (q : Int) + 1 := by omega
    refine start_ (n := 6) (S := fun w' => True) (ds := []) #[false, false, false, false, false, false] (by kernel_rfl) rfl rfl trivial (fun hHeld => ?_)
    refine pure_ (i := 0) (N := some 34) (v := ?_) (a' := ?_) #[true, false, false, false, false, false] rfl rfl (by kernel_rfl) (fun _ _ _ h => h) (Or.inl ⟨by rfl, ?_⟩) ?_ ?_
    rotate_left
    · intro w'
      go_simp
      with_reducible rfl
    rotate_left
    · simp only [Act.put, List.setIfInBounds_toArray, List.set_cons_zero, List.set_cons_succ]
      rfl
    refine pure_ (i := 1) (N := some 35) (v := ?_) (a' := ?_) #[true, true, false, false, false, false] rfl rfl (by kernel_rfl) (fun _ _ _ h => h) (Or.inl ⟨by rfl, ?_⟩) ?_ ?_
    rotate_left
    · intro w'
      go_simp
      with_reducible rfl
    rotate_left
    · simp only [Act.put, List.setIfInBounds_toArray, List.set_cons_zero, List.set_cons_succ]
      rfl
    refine pure_ (i := 2) (N := some 36) (v := ?_) (a' := ?_) #[true, true, true, false, false, false] rfl rfl (by kernel_rfl) (fun _ _ _ h => h) (Or.inl ⟨by rfl, ?_⟩) ?_ ?_
    rotate_left
    · intro w'
      go_simp
      with_reducible rfl
    rotate_left
    · simp only [Act.put, List.setIfInBounds_toArray, List.set_cons_zero, List.set_cons_succ]
      rfl
    refine pure_ (i := 3) (N := some 37) (v := ?_) (a' := ?_) #[true, true, true, true, false, false] rfl rfl (by kernel_rfl) (fun _ _ _ h => h) (Or.inl ⟨by rfl, ?_⟩) ?_ ?_
    rotate_left
    · intro w'
      go_simp
      with_reducible rfl
    rotate_left
    · simp only [Act.put, List.setIfInBounds_toArray, List.set_cons_zero, List.set_cons_succ]
      rfl
    refine pure_ (i := 4) (N := some 1) (v := ?_) (a' := ?_) #[true, true, true, true, true, false] rfl rfl (by kernel_rfl) (fun _ _ _ h => h) (Or.inl ⟨by rfl, ?_⟩) ?_ ?_
    rotate_left
    · intro w'
      go_simp
      with_reducible rfl
    rotate_left
    · simp only [Act.put, List.setIfInBounds_toArray, List.set_cons_zero, List.set_cons_succ]
      rfl
    refine pure_ (i := 5) (N := some 11) (v := ?_) (a' := ?_) #[true, true, true, true, true, true] rfl rfl (by kernel_rfl) (fun _ _ _ h => h) (Or.inl ⟨by rfl, ?_⟩) ?_ ?_
    rotate_left
    · intro w'
      go_simp
      with_reducible rfl
    rotate_left
    · simp only [Act.put, List.setIfInBounds_toArray, List.set_cons_zero, List.set_cons_succ]
      rfl
    refine done_ (by kernel_rfl) ?_
    clear hHeld hbx m1 m2
    obtain ⟨A1, hA1⟩ : ∃ x, x = (if c = 1 then (some ⟨bP, oP, none⟩ : Option Addr) else some ⟨bP, oP + 32, none⟩) := ⟨_, rfl⟩
    obtain ⟨A2, hA2⟩ : ∃ x, x = (if cw = 1 then (some ⟨gw, 0, none⟩ : Option Addr) else some ⟨gw, 3, none⟩) := ⟨_, rfl⟩
    rw [← hA1, ← hA2]
    have hq4 : (restT m n p).length = q := by rw [HRS.out, List.length_drop, ← HQ0.out]; omega
    have HPS : Kp (HRow w (fun _ => False) A1 (c - 1) (restT m n p)) := ⟨by
      by_cases hc1 : c = 1
      · rw [hA1, if_pos hc1, List.eq_nil_of_length_eq_zero (show (restT m n p).length = 0 by omega)]
        exact ⟨by simp, by simp, .inr (.inl ⟨rfl, _, rfl⟩)⟩
      · rw [hA1, if_neg hc1, HRS.out, show oP + 32 = oP + 1 * 32 by omega]
        exact (HX.out.drop 1 (c - 1) (by rw [← HQ0.out]; omega) (by intro e; have h1 := HQ0.out; rw [e] at h1; simp at h1))⟩
    have HWS : Kp (∀ (j : Nat) (t : Pf.St), (stepsT m n)[j]? = some t → ∃ g' o', A2 = some ⟨g', o', none⟩ ∧ g' ≠ g12 ∧ g' < W4.heap.size ∧ W4.rangeAt g' (o' + j * 3) (stC t)) := ⟨fun j t ht => by
      have hjs := (List.getElem?_eq_some_iff.1 ht).1
      have hl1 := HRL.out
      obtain ⟨cur, hcur⟩ := HWY4.out.type gw rfl
      refine ⟨gw, 3, by rw [hA2, if_neg (by omega)], (blk_ne_type H12.out hcur (by decide)).symm, (HWY4.out.lt gw rfl).1, fun i u hu => ?_⟩
      have hj : j + 1 < ((from' m n).map stC).length := by
        rw [List.length_map, HFR.out, List.length_append, List.length_singleton]
        omega
      have he : ((from' m n).map stC)[j + 1] = stC t := by
        have h1 : ((from' m n).map stC)[j + 1]? = some (stC t) := by
          rw [List.getElem?_map, HFR.out]
          simp [ht]
        rw [List.getElem?_eq_getElem hj] at h1
        exact Option.some.inj h1
      have h2 := HWY4.out.cell (j + 1) i u hj (by rw [he]; exact hu)
      rw [← h2]
      congr 2
      omega⟩
    have HQS := Kp.mk hq4
    obtain ⟨cA, hcA⟩ : ∃ x, x = c - 1 := ⟨_, rfl⟩
    obtain ⟨cB, hcB⟩ : ∃ x, x = cw - 1 := ⟨_, rfl⟩
    rw [← hcA] at HPS
    rw [← hcA, ← hcB]
    have HF5 := Kp.mk (HF4.out.drew)
    have H125 := Kp.mk (H12.out.drew)
    have H105 := Kp.mk (H10.out.drew)
    have HP5 : Kp (HRow w (fun _ => False) A1 cA (restT m n p)) := ⟨HPS.out⟩
    have HW5 : Kp (∀ (j : Nat) (t : Pf.St), (stepsT m n)[j]? = some t → ∃ g' o', A2 = some ⟨g', o', none⟩ ∧ g' ≠ g12 ∧ g' < W4.drew.heap.size ∧ W4.drew.rangeAt g' (o' + j * 3) (stC t)) := ⟨HWS.out⟩
    clear HPS HWS hcA hcB hA1 hA2 hq4 hq2 hq3 hcP hz2 HF4 H12 H10 HWY4 HX hm0 HQ0 HRS HFR hq1 HPL c120
    generalize W4.drew = W5 at HF5 H125 H105 HW5 ⊢
    go_upto_region 6 with (fail)
  case' inl =>
    go_upto_region 6 with (fail)
    have HBN : Kp (begT m n old p = .giv old) := ⟨by rw [HB0.out, if_neg (by omega)]⟩
    have HBL : Kp (old.length = 32) := ⟨HO.out⟩
    have HRS : Kp (restT m n p = p) := ⟨by rw [HR0.out, if_neg (by omega)]⟩
    have HFR : Kp (from' m n = stepsT m n) := ⟨by rw [HFRM.out, if_neg (by omega)]; rfl⟩
    have HQS : Kp ((restT m n p).length = q0) := ⟨by rw [HRS.out, HQ0.out]⟩
    have HP5 : Kp (HRow w (fun _ => False) A c (restT m n p)) := ⟨by rw [HRS.out]; exact HX.out⟩
    have HW5 : Kp (∀ (j : Nat) (t : Pf.St), (stepsT m n)[j]? = some t → ∃ g' o', Aw = some ⟨g', o', none⟩ ∧ g' ≠ g12 ∧ g' < W4.heap.size ∧ W4.rangeAt g' (o' + j * 3) (stC t)) := ⟨fun j t ht => by
      have hjs := (List.getElem?_eq_some_iff.1 ht).1
      have hj : j < ((from' m n).map stC).length := by rw [List.length_map, HFR.out]; exact hjs
      obtain ⟨gw, cw', hvw, _, _⟩ := HWY4.out.form (by omega)
      simp only [Value.slice.injEq] at hvw
      obtain ⟨rfl, hz3, rfl⟩ := hvw
      obtain ⟨cur, hcur⟩ := HWY4.out.type gw rfl
      refine ⟨gw, 0, rfl, (blk_ne_type H12.out hcur (by decide)).symm, (HWY4.out.lt gw rfl).1, fun i u hu => ?_⟩
      have he : ((from' m n).map stC)[j] = stC t := by
        have h1 : ((from' m n).map stC)[j]? = some (stC t) := by
          rw [List.getElem?_map, HFR.out]
          simp [ht]
        rw [List.getElem?_eq_getElem hj] at h1
        exact Option.some.inj h1
      have h2 := HWY4.out.cell j i u hj (by rw [he]; exact hu)
      rw [← h2]
      congr 2
      omega⟩
    have HF5 := HF4
    have H125 := H12
    have H105 := H10
    clear HF4 H12 H10 HWY4 HX HQ0 HRS HFR HPL HB0 HR0 HFRM c120
    generalize W4 = W5 at HF5 H125 H105 HW5 ⊢
    generalize A = A1 at HP5 ⊢
    generalize Aw = A2 at HW5 ⊢
    generalize c = cA at HP5 ⊢
    generalize cw = cB
    generalize q0 = q at HQS ⊢
    obtain ⟨x0, hx0⟩ : ∃ x, x = old := ⟨_, rfl⟩
    rw [← hx0] at HBL ⊢
    have HBN2 : Kp (begT m n old p = .giv x0) := ⟨by rw [hx0]; exact HBN.out⟩
    clear HBN
    have HBN := HBN2
    clear HBN2
    clear hx0
  all_goals (
    have LD12 : Kp (∀ W, Fr (fun _ => False) W5 W → Lds W 91 (.pointer (some ⟨g12, 0, none⟩)) (.agg #[.int .i64 (a0 : Int), .int .i64 (m : Int)])) := ⟨fun W hf => lds_agg Tryd.underlying91 rfl (by kernel_rfl) (blk_range (H125.out.fr hf (fun h => h)))⟩
    have hbt : ∀ (b : Option Nat) (w : World), (Instr.build 101 #[(0, (.iface 141 (.agg (bytes x0).toArray))), (1, (.iface 141 (.agg (bytes x0).toArray))), (2, .map b)]).run Tryd.prog w = .ok (.agg #[(.iface 141 (.agg (bytes x0).toArray)), (.iface 141 (.agg (bytes x0).toArray)), .map b]) w := fun b w => built_two _ _ _ _ b w
    refine start_ (n := 11) (S := fun w' => Fr (fun _ => False) W5 w') (ds := []) #[false, false, false, false, false, false, false, false, false, false, false] (by kernel_rfl) rfl rfl ((Fr.refl (fun _ => False) W5).drew) (fun hHeld => ?_)
    refine pure_ (i := 0) (N := some 38) (v := ?_) (a' := ?_) #[true, false, false, false, false, false, false, false, false, false, false] rfl rfl (by kernel_rfl) (fun _ _ _ h => h) (Or.inl ⟨by rfl, ?_⟩) ?_ ?_
    rotate_left
    · intro w'
      go_simp
      with_reducible rfl
    rotate_left
    · simp only [Act.put, List.setIfInBounds_toArray, List.set_cons_zero, List.set_cons_succ]
      rfl
    refine pure_ (i := 1) (N := some 39) (v := ?_) (a' := ?_) #[true, true, false, false, false, false, false, false, false, false, false] rfl rfl (by kernel_rfl) (fun _ _ _ h => h) (Or.inl ⟨by rfl, ?_⟩) ?_ ?_
    rotate_left
    · intro w'
      go_simp
      with_reducible rfl
    rotate_left
    · simp only [Act.put, List.setIfInBounds_toArray, List.set_cons_zero, List.set_cons_succ]
      rfl
    refine take_ (i := 3) (N := some 41) (v := ?_) (a' := ?_) #[true, true, false, true, false, false, false, false, false, false, false] rfl rfl (by kernel_rfl) (fun _ _ _ h => h) (Or.inl ⟨by rfl, ?_⟩) hHeld ?_ ?_
    rotate_left
    · intro w' s0
      refine Lds.run (LD12.out w' s0) (x := ?_) ?_ ?_
      · exact (Operand.tmp 12)
      · rfl
      · rfl
    rotate_left
    · simp only [Act.put, List.setIfInBounds_toArray, List.set_cons_zero, List.set_cons_succ]
      rfl
    refine pure_ (i := 4) (N := some 42) (v := ?_) (a' := ?_) #[true, true, false, true, true, false, false, false, false, false, false] rfl rfl (by kernel_rfl) (fun _ _ _ h => h) (Or.inl ⟨by rfl, ?_⟩) ?_ ?_
    rotate_left
    · intro w'
      go_simp
      with_reducible rfl
    rotate_left
    · simp only [Act.put, List.setIfInBounds_toArray, List.set_cons_zero, List.set_cons_succ]
      rfl
    refine join_ (σ := Nat × Nat) 0 #[true, true, true, true, true, true, true, true, true, true, true] (fun (s : Nat × Nat) => match s with | (gM, g14) => show List (Tmp × Value) from [(38, (.iface 141 (.agg (bytes x0).toArray))), (39, (.iface 141 (.agg (bytes x0).toArray))), (40, .map (some gM)), (41, .agg #[.int .i64 (a0 : Int), .int .i64 (m : Int)]), (42, (.iface 141 (.agg (bytes x0).toArray))), (43, .agg (bytes x0).toArray), (44, .map (some gM)), (45, .agg #[(.iface 141 (.agg (bytes x0).toArray)), (.iface 141 (.agg (bytes x0).toArray)), .map (some gM)]), (14, .pointer (some ⟨g14, 0, none⟩))]) (fun (s : Nat × Nat) w' => match s with | (gM, g14) => Fr (fun _ => False) W5 w' ∧ MapB w' gM 1 (upd zeros2 a0 m x0) ∧ Blk w' g14 101 [(.iface 141 (.agg (bytes x0).toArray)), (.iface 141 (.agg (bytes x0).toArray)), .map (some gM)] ∧ W5.heap.size ≤ gM ∧ W5.heap.size ≤ g14 ∧ gM ≠ g14) ?_ ?_
    rotate_left
    intro hD0
    refine join_ (σ := Nat × Nat) 1 #[true, true, true, true, true, true, true, true, true, true, false] (fun (s : Nat × Nat) => match s with | (gM, g14) => show List (Tmp × Value) from [(38, (.iface 141 (.agg (bytes x0).toArray))), (39, (.iface 141 (.agg (bytes x0).toArray))), (40, .map (some gM)), (41, .agg #[.int .i64 (a0 : Int), .int .i64 (m : Int)]), (42, (.iface 141 (.agg (bytes x0).toArray))), (43, .agg (bytes x0).toArray), (44, .map (some gM)), (45, .agg #[(.iface 141 (.agg (bytes x0).toArray)), (.iface 141 (.agg (bytes x0).toArray)), .map (some gM)]), (14, .pointer (some ⟨g14, 0, none⟩))]) (fun (s : Nat × Nat) w' => match s with | (gM, g14) => Fr (fun _ => False) W5 w' ∧ MapB w' gM 1 (upd zeros2 a0 m x0) ∧ Blk w' g14 101 [.nilIface, .nilIface, .map none] ∧ W5.heap.size ≤ gM ∧ W5.heap.size ≤ g14 ∧ gM ≠ g14) ?_ ?_
    rotate_left
    intro hD1
    refine join_ (σ := Nat) 2 #[true, true, true, true, true, true, true, true, true, false, false] (fun (gM : Nat) => show List (Tmp × Value) from [(38, (.iface 141 (.agg (bytes x0).toArray))), (39, (.iface 141 (.agg (bytes x0).toArray))), (40, .map (some gM)), (41, .agg #[.int .i64 (a0 : Int), .int .i64 (m : Int)]), (42, (.iface 141 (.agg (bytes x0).toArray))), (43, .agg (bytes x0).toArray), (44, .map (some gM)), (45, .agg #[(.iface 141 (.agg (bytes x0).toArray)), (.iface 141 (.agg (bytes x0).toArray)), .map (some gM)])]) (fun (gM : Nat) w' => Fr (fun _ => False) W5 w' ∧ MapB w' gM 1 (upd zeros2 a0 m x0) ∧ W5.heap.size ≤ gM) ?_ ?_
    rotate_left
    intro hD2
    refine join_ (σ := Nat × Nat) 4 #[true, true, true, true, true, true, false, false, false, true, false] (fun (s : Nat × Nat) => match s with | (gM, g14) => show List (Tmp × Value) from [(38, (.iface 141 (.agg (bytes x0).toArray))), (39, (.iface 141 (.agg (bytes x0).toArray))), (40, .map (some gM)), (41, .agg #[.int .i64 (a0 : Int), .int .i64 (m : Int)]), (42, (.iface 141 (.agg (bytes x0).toArray))), (43, .agg (bytes x0).toArray), (14, .pointer (some ⟨g14, 0, none⟩))]) (fun (s : Nat × Nat) w' => match s with | (gM, g14) => Fr (fun _ => False) W5 w' ∧ MapB w' gM 0 zeros2 ∧ Blk w' g14 101 [.nilIface, .nilIface, .map none] ∧ W5.heap.size ≤ gM ∧ W5.heap.size ≤ g14 ∧ gM ≠ g14) ?_ ?_
    rotate_left
    intro hD3
    refine join_ (σ := Nat) 5 #[true, true, true, true, true, true, false, false, false, false, false] (fun (gM : Nat) => show List (Tmp × Value) from [(38, (.iface 141 (.agg (bytes x0).toArray))), (39, (.iface 141 (.agg (bytes x0).toArray))), (40, .map (some gM)), (41, .agg #[.int .i64 (a0 : Int), .int .i64 (m : Int)]), (42, (.iface 141 (.agg (bytes x0).toArray))), (43, .agg (bytes x0).toArray)]) (fun (gM : Nat) w' => Fr (fun _ => False) W5 w' ∧ MapB w' gM 0 zeros2 ∧ W5.heap.size ≤ gM) ?_ ?_
    rotate_left
    intro hD4
    refine join_ (σ := Nat × Nat) 5 #[true, true, true, true, true, false, false, false, false, true, false] (fun (s : Nat × Nat) => match s with | (gM, g14) => show List (Tmp × Value) from [(38, (.iface 141 (.agg (bytes x0).toArray))), (39, (.iface 141 (.agg (bytes x0).toArray))), (40, .map (some gM)), (41, .agg #[.int .i64 (a0 : Int), .int .i64 (m : Int)]), (42, (.iface 141 (.agg (bytes x0).toArray))), (14, .pointer (some ⟨g14, 0, none⟩))]) (fun (s : Nat × Nat) w' => match s with | (gM, g14) => Fr (fun _ => False) W5 w' ∧ MapB w' gM 0 zeros2 ∧ Blk w' g14 101 [.nilIface, .nilIface, .map none] ∧ W5.heap.size ≤ gM ∧ W5.heap.size ≤ g14 ∧ gM ≠ g14) ?_ ?_
    rotate_left
    intro hD5
    refine join_ (σ := Nat) 5 #[true, true, false, true, true, true, false, false, false, true, false] (fun (g14 : Nat) => show List (Tmp × Value) from [(38, (.iface 141 (.agg (bytes x0).toArray))), (39, (.iface 141 (.agg (bytes x0).toArray))), (41, .agg #[.int .i64 (a0 : Int), .int .i64 (m : Int)]), (42, (.iface 141 (.agg (bytes x0).toArray))), (43, .agg (bytes x0).toArray), (14, .pointer (some ⟨g14, 0, none⟩))]) (fun (g14 : Nat) w' => Fr (fun _ => False) W5 w' ∧ Blk w' g14 101 [.nilIface, .nilIface, .map none] ∧ W5.heap.size ≤ g14) ?_ ?_
    rotate_left
    intro hD6
    refine join_ (σ := Nat) 6 #[true, true, true, true, true, false, false, false, false, false, false] (fun (gM : Nat) => show List (Tmp × Value) from [(38, (.iface 141 (.agg (bytes x0).toArray))), (39, (.iface 141 (.agg (bytes x0).toArray))), (40, .map (some gM)), (41, .agg #[.int .i64 (a0 : Int), .int .i64 (m : Int)]), (42, (.iface 141 (.agg (bytes x0).toArray)))]) (fun (gM : Nat) w' => Fr (fun _ => False) W5 w' ∧ MapB w' gM 0 zeros2 ∧ W5.heap.size ≤ gM) ?_ ?_
    rotate_left
    intro hD7
    refine join_ (σ := Unit) 6 #[true, true, false, true, true, true, false, false, false, false, false] (fun (_ : Unit) => show List (Tmp × Value) from [(38, (.iface 141 (.agg (bytes x0).toArray))), (39, (.iface 141 (.agg (bytes x0).toArray))), (41, .agg #[.int .i64 (a0 : Int), .int .i64 (m : Int)]), (42, (.iface 141 (.agg (bytes x0).toArray))), (43, .agg (bytes x0).toArray)]) (fun (_ : Unit) w' => Fr (fun _ => False) W5 w') ?_ ?_
    rotate_left
    intro hD8
    refine join_ (σ := Nat) 6 #[true, true, false, true, true, false, false, false, false, true, false] (fun (g14 : Nat) => show List (Tmp × Value) from [(38, (.iface 141 (.agg (bytes x0).toArray))), (39, (.iface 141 (.agg (bytes x0).toArray))), (41, .agg #[.int .i64 (a0 : Int), .int .i64 (m : Int)]), (42, (.iface 141 (.agg (bytes x0).toArray))), (14, .pointer (some ⟨g14, 0, none⟩))]) (fun (g14 : Nat) w' => Fr (fun _ => False) W5 w' ∧ Blk w' g14 101 [.nilIface, .nilIface, .map none] ∧ W5.heap.size ≤ g14) ?_ ?_
    rotate_left
    intro hD9
    · skip
      refine three_ (i := 2) (j := 5) (k := 9) (Ni := some 40) (Nj := some 43) (Nk := some 14) #[true, true, true, true, true, false, false, false, false, false, false] #[true, true, false, true, true, true, false, false, false, false, false] #[true, true, false, true, true, false, false, false, false, true, false] rfl rfl rfl rfl rfl rfl (by kernel_rfl) (by decide) (by decide) (by decide) (fun K hK => ?_) (fun K hK => ?_) (fun K hK => ?_)
      · skip
        refine value_ (by rfl) rfl (mk_map _ _ _ rfl) ?_
        have hal : Fr (fun _ => False) W5.drew (W5.drew.alloc (.map #[] 0)) := (Fr.refl _ W5.drew).alloc _
        have Fy : Fr (fun _ => False) W5 (W5.drew.alloc (.map #[] 0)) := hHeld.trans hal (fun _ _ h => h)
        have BygM : MapB (W5.drew.alloc (.map #[] 0)) W5.drew.heap.size 0 zeros2 := MapB.new W5.drew
        have GygM : W5.heap.size ≤ W5.drew.heap.size := hHeld.size
        refine hK.out _ _ Fy (fun _ => ?_)
        clear hK K
        refine norm_ (a' := ?_) ?_ ?_
        rotate_left
        · show Act.put _ (some 40) _ = _
          simp only [Act.put, List.setIfInBounds_toArray, List.set_cons_zero, List.set_cons_succ]
          rfl
        refine norm_ ?_ (hD7 W5.drew.heap.size _ ⟨Fy, BygM, GygM⟩)
        simp only [putAll, Act.put, List.setIfInBounds_toArray, List.set_cons_zero, List.set_cons_succ]
      · skip
        refine goesSum_ (Operand.tmp 42) (by rfl) rfl rfl (.iface 141 (.agg (bytes x0).toArray)) (by rfl) x0 (show Sums _ _ x0 from sums_of HS.out (n := .giv x0) ⟨HBL.out, rfl⟩) (fun wy hq => ?_)
        have Fy : Fr (fun _ => False) W5 wy := hHeld.trans hq (fun _ _ h => h)
        refine hK.out _ _ Fy (fun _ => ?_)
        clear hK K
        refine norm_ (a' := ?_) ?_ ?_
        rotate_left
        · show Act.put _ (some 43) _ = _
          simp only [Act.put, List.setIfInBounds_toArray, List.set_cons_zero, List.set_cons_succ]
          rfl
        refine norm_ ?_ (hD8 () _ Fy)
        simp only [putAll, Act.put, List.setIfInBounds_toArray, List.set_cons_zero, List.set_cons_succ]
      · skip
        refine value_ (by rfl) rfl (al_two _ _ _ rfl) ?_
        have hal : Fr (fun _ => False) W5.drew (W5.drew.alloc (.cells [.nilIface, .nilIface, .map none].toArray 101)) := (Fr.refl _ W5.drew).alloc _
        have Fy : Fr (fun _ => False) W5 (W5.drew.alloc (.cells [.nilIface, .nilIface, .map none].toArray 101)) := hHeld.trans hal (fun _ _ h => h)
        have Byg14 : Blk (W5.drew.alloc (.cells [.nilIface, .nilIface, .map none].toArray 101)) W5.drew.heap.size 101 [.nilIface, .nilIface, .map none] := Blk.new W5.drew _ _
        have Gyg14 : W5.heap.size ≤ W5.drew.heap.size := hHeld.size
        refine hK.out _ _ Fy (fun _ => ?_)
        clear hK K
        refine norm_ (a' := ?_) ?_ ?_
        rotate_left
        · show Act.put _ (some 14) _ = _
          simp only [Act.put, List.setIfInBounds_toArray, List.set_cons_zero, List.set_cons_succ]
          rfl
        refine norm_ ?_ (hD9 W5.drew.heap.size _ ⟨Fy, Byg14, Gyg14⟩)
        simp only [putAll, Act.put, List.setIfInBounds_toArray, List.set_cons_zero, List.set_cons_succ]
    rotate_left
    · skip
      rintro ⟨gM, g14⟩ wx ⟨Fx, BgM, Bg14, GgM, Gg14, NEgMg14⟩
      refine norm_ (a' := ?_) ?_ ?_
      rotate_left
      · simp only [putAll, Act.put, List.setIfInBounds_toArray, List.set_cons_zero, List.set_cons_succ]
        rfl
      refine one_ (i := 10) (N := none) #[true, true, true, true, true, true, true, true, true, true, true] rfl rfl (by kernel_rfl) (by decide) (fun K hK => ?_)
      refine skip_ (by rfl) rfl (st_agg _ _ (Operand.tmp 14) (Operand.tmp 45) wx 101 g14 0 [(.iface 141 (.agg (bytes x0).toArray)), (.iface 141 (.agg (bytes x0).toArray)), .map (some gM)] rfl rfl rfl (blk_there Bg14 0 _ (Nat.le_refl 3)) (by kernel_rfl) (by simp [Value.oneCell'])) ?_
      have hst : Fr (fun q => q = g14) wx (wx.setCells g14 0 [(.iface 141 (.agg (bytes x0).toArray)), (.iface 141 (.agg (bytes x0).toArray)), .map (some gM)]) := fr_setCells g14 [(.iface 141 (.agg (bytes x0).toArray)), (.iface 141 (.agg (bytes x0).toArray)), .map (some gM)] 0 _
      have Fy : Fr (fun _ => False) W5 (wx.setCells g14 0 [(.iface 141 (.agg (bytes x0).toArray)), (.iface 141 (.agg (bytes x0).toArray)), .map (some gM)]) := Fx.trans (S := fun _ => False) hst (fun q hq e => by have := Gg14; omega)
      have Byg14 : Blk (wx.setCells g14 0 [(.iface 141 (.agg (bytes x0).toArray)), (.iface 141 (.agg (bytes x0).toArray)), .map (some gM)]) g14 101 [(.iface 141 (.agg (bytes x0).toArray)), (.iface 141 (.agg (bytes x0).toArray)), .map (some gM)] := blk_put Bg14 (ys := [(.iface 141 (.agg (bytes x0).toArray)), (.iface 141 (.agg (bytes x0).toArray)), .map (some gM)]) rfl
      have BygM := BgM.fr hst (NEgMg14)
      refine hK.out _ _ Fy (fun _ => ?_)
      clear hK K
      refine norm_ ?_ (hD0 (gM, g14) _ ⟨Fy, BygM, Byg14, GgM, Gg14, NEgMg14⟩)
      simp only [putAll, Act.put, List.setIfInBounds_toArray, List.set_cons_zero, List.set_cons_succ]
    · skip
      rintro gM wx ⟨Fx, BgM, GgM⟩
      refine norm_ (a' := ?_) ?_ ?_
      rotate_left
      · simp only [putAll, Act.put, List.setIfInBounds_toArray, List.set_cons_zero, List.set_cons_succ]
        rfl
      refine one_ (i := 9) (N := some 14) #[true, true, true, true, true, true, true, true, true, true, false] rfl rfl (by kernel_rfl) (by decide) (fun K hK => ?_)
      refine value_ (by rfl) rfl (al_two _ _ _ rfl) ?_
      have hal : Fr (fun _ => False) wx (wx.alloc (.cells [.nilIface, .nilIface, .map none].toArray 101)) := (Fr.refl _ wx).alloc _
      have Fy : Fr (fun _ => False) W5 (wx.alloc (.cells [.nilIface, .nilIface, .map none].toArray 101)) := Fx.trans hal (fun _ _ h => h)
      have Byg14 : Blk (wx.alloc (.cells [.nilIface, .nilIface, .map none].toArray 101)) wx.heap.size 101 [.nilIface, .nilIface, .map none] := Blk.new wx _ _
      have Gyg14 : W5.heap.size ≤ wx.heap.size := Fx.size
      have BygM := BgM.fr hal (fun h => h)
      have NEygM : gM ≠ wx.heap.size := Nat.ne_of_lt BgM.lt
      refine hK.out _ _ Fy (fun _ => ?_)
      clear hK K
      refine norm_ (a' := ?_) ?_ ?_
      rotate_left
      · show Act.put _ (some 14) _ = _
        simp only [Act.put, List.setIfInBounds_toArray, List.set_cons_zero, List.set_cons_succ]
        rfl
      refine norm_ ?_ (hD1 (gM, wx.heap.size) _ ⟨Fy, BygM, Byg14, GgM, Gyg14, NEygM⟩)
      simp only [putAll, Act.put, List.setIfInBounds_toArray, List.set_cons_zero, List.set_cons_succ]
    · skip
      rintro ⟨gM, g14⟩ wx ⟨Fx, BgM, Bg14, GgM, Gg14, NEgMg14⟩
      refine norm_ (a' := ?_) ?_ ?_
      rotate_left
      · simp only [putAll, Act.put, List.setIfInBounds_toArray, List.set_cons_zero, List.set_cons_succ]
        rfl
      refine one_ (i := 6) (N := none) #[true, true, true, true, true, true, true, false, false, true, false] rfl rfl (by kernel_rfl) (by decide) (fun K hK => ?_)
      obtain ⟨wz, hrz, hMz, hfz⟩ := BgM.update (x := a0) (y := m) (by decide) HA0B.out.2 (by have := HN.out; omega) x0
      refine skip_ (by rfl) rfl (ins_map _ _ wx wz (Operand.tmp 40) (Operand.tmp 41) (Operand.tmp 43) _ _ _ rfl rfl rfl rfl hrz) ?_
      have hst : Fr (fun q => q = gM) wx wz := hfz
      have Fy : Fr (fun _ => False) W5 wz := Fx.trans (S := fun _ => False) hst (fun q hq e => by have := GgM; omega)
      have BygM : MapB wz gM 1 (upd zeros2 a0 m x0) := hMz
      have Byg14 := Bg14.fr hst (NEgMg14.symm)
      refine hK.out _ _ Fy (fun _ => ?_)
      clear hK K
      refine pure_ (i := 7) (N := some 44) (v := ?_) (a' := ?_) #[true, true, true, true, true, true, true, true, false, true, false] rfl rfl (by kernel_rfl) (fun _ _ _ h => h) (Or.inl ⟨by rfl, ?_⟩) ?_ ?_
      rotate_left
      · intro w'
        go_simp
        with_reducible rfl
      rotate_left
      · simp only [Act.put, List.setIfInBounds_toArray, List.set_cons_zero, List.set_cons_succ]
        rfl
      refine pure_ (i := 8) (N := some 45) (v := ?_) (a' := ?_) #[true, true, true, true, true, true, true, true, true, true, false] rfl rfl (by kernel_rfl) (fun _ _ _ h => h) (Or.inl ⟨by rfl, ?_⟩) ?_ ?_
      rotate_left
      · intro w'
        go_simp
        with_reducible rfl
      rotate_left
      · simp only [Act.put, List.setIfInBounds_toArray, List.set_cons_zero, List.set_cons_succ]
        rfl
      refine norm_ ?_ (hD1 (gM, g14) _ ⟨Fy, BygM, Byg14, GgM, Gg14, NEgMg14⟩)
      simp only [putAll, Act.put, List.setIfInBounds_toArray, List.set_cons_zero, List.set_cons_succ]
    · skip
      rintro gM wx ⟨Fx, BgM, GgM⟩
      refine norm_ (a' := ?_) ?_ ?_
      rotate_left
      · simp only [putAll, Act.put, List.setIfInBounds_toArray, List.set_cons_zero, List.set_cons_succ]
        rfl
      refine two_ (i := 6) (j := 9) (Ni := none) (Nj := some 14) #[true, true, true, true, true, true, true, false, false, false, false] #[true, true, true, true, true, true, false, false, false, true, false] rfl rfl rfl rfl (by kernel_rfl) (by decide) (by decide) (fun K hK => ?_) (fun K hK => ?_)
      · skip
        obtain ⟨wz, hrz, hMz, hfz⟩ := BgM.update (x := a0) (y := m) (by decide) HA0B.out.2 (by have := HN.out; omega) x0
        refine skip_ (by rfl) rfl (ins_map _ _ wx wz (Operand.tmp 40) (Operand.tmp 41) (Operand.tmp 43) _ _ _ rfl rfl rfl rfl hrz) ?_
        have hst : Fr (fun q => q = gM) wx wz := hfz
        have Fy : Fr (fun _ => False) W5 wz := Fx.trans (S := fun _ => False) hst (fun q hq e => by have := GgM; omega)
        have BygM : MapB wz gM 1 (upd zeros2 a0 m x0) := hMz
        refine hK.out _ _ Fy (fun _ => ?_)
        clear hK K
        refine pure_ (i := 7) (N := some 44) (v := ?_) (a' := ?_) #[true, true, true, true, true, true, true, true, false, false, false] rfl rfl (by kernel_rfl) (fun _ _ _ h => h) (Or.inl ⟨by rfl, ?_⟩) ?_ ?_
        rotate_left
        · intro w'
          go_simp
          with_reducible rfl
        rotate_left
        · simp only [Act.put, List.setIfInBounds_toArray, List.set_cons_zero, List.set_cons_succ]
          rfl
        refine pure_ (i := 8) (N := some 45) (v := ?_) (a' := ?_) #[true, true, true, true, true, true, true, true, true, false, false] rfl rfl (by kernel_rfl) (fun _ _ _ h => h) (Or.inl ⟨by rfl, ?_⟩) ?_ ?_
        rotate_left
        · intro w'
          go_simp
          with_reducible rfl
        rotate_left
        · simp only [Act.put, List.setIfInBounds_toArray, List.set_cons_zero, List.set_cons_succ]
          rfl
        refine norm_ ?_ (hD2 gM _ ⟨Fy, BygM, GgM⟩)
        simp only [putAll, Act.put, List.setIfInBounds_toArray, List.set_cons_zero, List.set_cons_succ]
      · skip
        refine value_ (by rfl) rfl (al_two _ _ _ rfl) ?_
        have hal : Fr (fun _ => False) wx (wx.alloc (.cells [.nilIface, .nilIface, .map none].toArray 101)) := (Fr.refl _ wx).alloc _
        have Fy : Fr (fun _ => False) W5 (wx.alloc (.cells [.nilIface, .nilIface, .map none].toArray 101)) := Fx.trans hal (fun _ _ h => h)
        have Byg14 : Blk (wx.alloc (.cells [.nilIface, .nilIface, .map none].toArray 101)) wx.heap.size 101 [.nilIface, .nilIface, .map none] := Blk.new wx _ _
        have Gyg14 : W5.heap.size ≤ wx.heap.size := Fx.size
        have BygM := BgM.fr hal (fun h => h)
        have NEygM : gM ≠ wx.heap.size := Nat.ne_of_lt BgM.lt
        refine hK.out _ _ Fy (fun _ => ?_)
        clear hK K
        refine norm_ (a' := ?_) ?_ ?_
        rotate_left
        · show Act.put _ (some 14) _ = _
          simp only [Act.put, List.setIfInBounds_toArray, List.set_cons_zero, List.set_cons_succ]
          rfl
        refine norm_ ?_ (hD3 (gM, wx.heap.size) _ ⟨Fy, BygM, Byg14, GgM, Gyg14, NEygM⟩)
        simp only [putAll, Act.put, List.setIfInBounds_toArray, List.set_cons_zero, List.set_cons_succ]
    · skip
      rintro ⟨gM, g14⟩ wx ⟨Fx, BgM, Bg14, GgM, Gg14, NEgMg14⟩
      refine norm_ (a' := ?_) ?_ ?_
      rotate_left
      · simp only [putAll, Act.put, List.setIfInBounds_toArray, List.set_cons_zero, List.set_cons_succ]
        rfl
      refine one_ (i := 5) (N := some 43) #[true, true, true, true, true, true, false, false, false, true, false] rfl rfl (by kernel_rfl) (by decide) (fun K hK => ?_)
      refine goesSum_ (Operand.tmp 42) (by rfl) rfl rfl (.iface 141 (.agg (bytes x0).toArray)) (by rfl) x0 (show Sums _ _ x0 from sums_of HS.out (n := .giv x0) ⟨HBL.out, rfl⟩) (fun wy hq => ?_)
      have Fy : Fr (fun _ => False) W5 wy := Fx.trans hq (fun _ _ h => h)
      have BygM := BgM.fr hq (fun h => h)
      have Byg14 := Bg14.fr hq (fun h => h)
      refine hK.out _ _ Fy (fun _ => ?_)
      clear hK K
      refine norm_ (a' := ?_) ?_ ?_
      rotate_left
      · show Act.put _ (some 43) _ = _
        simp only [Act.put, List.setIfInBounds_toArray, List.set_cons_zero, List.set_cons_succ]
        rfl
      refine norm_ ?_ (hD3 (gM, g14) _ ⟨Fy, BygM, Byg14, GgM, Gg14, NEgMg14⟩)
      simp only [putAll, Act.put, List.setIfInBounds_toArray, List.set_cons_zero, List.set_cons_succ]
    · skip
      rintro g14 wx ⟨Fx, Bg14, Gg14⟩
      refine norm_ (a' := ?_) ?_ ?_
      rotate_left
      · simp only [putAll, Act.put, List.setIfInBounds_toArray, List.set_cons_zero, List.set_cons_succ]
        rfl
      refine one_ (i := 2) (N := some 40) #[true, true, true, true, true, true, false, false, false, true, false] rfl rfl (by kernel_rfl) (by decide) (fun K hK => ?_)
      refine value_ (by rfl) rfl (mk_map _ _ _ rfl) ?_
      have hal : Fr (fun _ => False) wx (wx.alloc (.map #[] 0)) := (Fr.refl _ wx).alloc _
      have Fy : Fr (fun _ => False) W5 (wx.alloc (.map #[] 0)) := Fx.trans hal (fun _ _ h => h)
      have BygM : MapB (wx.alloc (.map #[] 0)) wx.heap.size 0 zeros2 := MapB.new wx
      have GygM : W5.heap.size ≤ wx.heap.size := Fx.size
      have Byg14 := Bg14.fr hal (fun h => h)
      have NEyg14 : g14 ≠ wx.heap.size := Nat.ne_of_lt Bg14.lt
      refine hK.out _ _ Fy (fun _ => ?_)
      clear hK K
      refine norm_ (a' := ?_) ?_ ?_
      rotate_left
      · show Act.put _ (some 40) _ = _
        simp only [Act.put, List.setIfInBounds_toArray, List.set_cons_zero, List.set_cons_succ]
        rfl
      refine norm_ ?_ (hD3 (wx.heap.size, g14) _ ⟨Fy, BygM, Byg14, GygM, Gg14, NEyg14.symm⟩)
      simp only [putAll, Act.put, List.setIfInBounds_toArray, List.set_cons_zero, List.set_cons_succ]
    · skip
      rintro gM wx ⟨Fx, BgM, GgM⟩
      refine norm_ (a' := ?_) ?_ ?_
      rotate_left
      · simp only [putAll, Act.put, List.setIfInBounds_toArray, List.set_cons_zero, List.set_cons_succ]
        rfl
      refine two_ (i := 5) (j := 9) (Ni := some 43) (Nj := some 14) #[true, true, true, true, true, true, false, false, false, false, false] #[true, true, true, true, true, false, false, false, false, true, false] rfl rfl rfl rfl (by kernel_rfl) (by decide) (by decide) (fun K hK => ?_) (fun K hK => ?_)
      · skip
        refine goesSum_ (Operand.tmp 42) (by rfl) rfl rfl (.iface 141 (.agg (bytes x0).toArray)) (by rfl) x0 (show Sums _ _ x0 from sums_of HS.out (n := .giv x0) ⟨HBL.out, rfl⟩) (fun wy hq => ?_)
        have Fy : Fr (fun _ => False) W5 wy := Fx.trans hq (fun _ _ h => h)
        have BygM := BgM.fr hq (fun h => h)
        refine hK.out _ _ Fy (fun _ => ?_)
        clear hK K
        refine norm_ (a' := ?_) ?_ ?_
        rotate_left
        · show Act.put _ (some 43) _ = _
          simp only [Act.put, List.setIfInBounds_toArray, List.set_cons_zero, List.set_cons_succ]
          rfl
        refine norm_ ?_ (hD4 gM _ ⟨Fy, BygM, GgM⟩)
        simp only [putAll, Act.put, List.setIfInBounds_toArray, List.set_cons_zero, List.set_cons_succ]
      · skip
        refine value_ (by rfl) rfl (al_two _ _ _ rfl) ?_
        have hal : Fr (fun _ => False) wx (wx.alloc (.cells [.nilIface, .nilIface, .map none].toArray 101)) := (Fr.refl _ wx).alloc _
        have Fy : Fr (fun _ => False) W5 (wx.alloc (.cells [.nilIface, .nilIface, .map none].toArray 101)) := Fx.trans hal (fun _ _ h => h)
        have Byg14 : Blk (wx.alloc (.cells [.nilIface, .nilIface, .map none].toArray 101)) wx.heap.size 101 [.nilIface, .nilIface, .map none] := Blk.new wx _ _
        have Gyg14 : W5.heap.size ≤ wx.heap.size := Fx.size
        have BygM := BgM.fr hal (fun h => h)
        have NEygM : gM ≠ wx.heap.size := Nat.ne_of_lt BgM.lt
        refine hK.out _ _ Fy (fun _ => ?_)
        clear hK K
        refine norm_ (a' := ?_) ?_ ?_
        rotate_left
        · show Act.put _ (some 14) _ = _
          simp only [Act.put, List.setIfInBounds_toArray, List.set_cons_zero, List.set_cons_succ]
          rfl
        refine norm_ ?_ (hD5 (gM, wx.heap.size) _ ⟨Fy, BygM, Byg14, GgM, Gyg14, NEygM⟩)
        simp only [putAll, Act.put, List.setIfInBounds_toArray, List.set_cons_zero, List.set_cons_succ]
    · skip
      rintro ⟨⟩ wx Fx
      refine norm_ (a' := ?_) ?_ ?_
      rotate_left
      · simp only [putAll, Act.put, List.setIfInBounds_toArray, List.set_cons_zero, List.set_cons_succ]
        rfl
      refine two_ (i := 2) (j := 9) (Ni := some 40) (Nj := some 14) #[true, true, true, true, true, true, false, false, false, false, false] #[true, true, false, true, true, true, false, false, false, true, false] rfl rfl rfl rfl (by kernel_rfl) (by decide) (by decide) (fun K hK => ?_) (fun K hK => ?_)
      · skip
        refine value_ (by rfl) rfl (mk_map _ _ _ rfl) ?_
        have hal : Fr (fun _ => False) wx (wx.alloc (.map #[] 0)) := (Fr.refl _ wx).alloc _
        have Fy : Fr (fun _ => False) W5 (wx.alloc (.map #[] 0)) := Fx.trans hal (fun _ _ h => h)
        have BygM : MapB (wx.alloc (.map #[] 0)) wx.heap.size 0 zeros2 := MapB.new wx
        have GygM : W5.heap.size ≤ wx.heap.size := Fx.size
        refine hK.out _ _ Fy (fun _ => ?_)
        clear hK K
        refine norm_ (a' := ?_) ?_ ?_
        rotate_left
        · show Act.put _ (some 40) _ = _
          simp only [Act.put, List.setIfInBounds_toArray, List.set_cons_zero, List.set_cons_succ]
          rfl
        refine norm_ ?_ (hD4 wx.heap.size _ ⟨Fy, BygM, GygM⟩)
        simp only [putAll, Act.put, List.setIfInBounds_toArray, List.set_cons_zero, List.set_cons_succ]
      · skip
        refine value_ (by rfl) rfl (al_two _ _ _ rfl) ?_
        have hal : Fr (fun _ => False) wx (wx.alloc (.cells [.nilIface, .nilIface, .map none].toArray 101)) := (Fr.refl _ wx).alloc _
        have Fy : Fr (fun _ => False) W5 (wx.alloc (.cells [.nilIface, .nilIface, .map none].toArray 101)) := Fx.trans hal (fun _ _ h => h)
        have Byg14 : Blk (wx.alloc (.cells [.nilIface, .nilIface, .map none].toArray 101)) wx.heap.size 101 [.nilIface, .nilIface, .map none] := Blk.new wx _ _
        have Gyg14 : W5.heap.size ≤ wx.heap.size := Fx.size
        refine hK.out _ _ Fy (fun _ => ?_)
        clear hK K
        refine norm_ (a' := ?_) ?_ ?_
        rotate_left
        · show Act.put _ (some 14) _ = _
          simp only [Act.put, List.setIfInBounds_toArray, List.set_cons_zero, List.set_cons_succ]
          rfl
        refine norm_ ?_ (hD6 wx.heap.size _ ⟨Fy, Byg14, Gyg14⟩)
        simp only [putAll, Act.put, List.setIfInBounds_toArray, List.set_cons_zero, List.set_cons_succ]
    · skip
      rintro g14 wx ⟨Fx, Bg14, Gg14⟩
      refine norm_ (a' := ?_) ?_ ?_
      rotate_left
      · simp only [putAll, Act.put, List.setIfInBounds_toArray, List.set_cons_zero, List.set_cons_succ]
        rfl
      refine two_ (i := 2) (j := 5) (Ni := some 40) (Nj := some 43) #[true, true, true, true, true, false, false, false, false, true, false] #[true, true, false, true, true, true, false, false, false, true, false] rfl rfl rfl rfl (by kernel_rfl) (by decide) (by decide) (fun K hK => ?_) (fun K hK => ?_)
      · skip
        refine value_ (by rfl) rfl (mk_map _ _ _ rfl) ?_
        have hal : Fr (fun _ => False) wx (wx.alloc (.map #[] 0)) := (Fr.refl _ wx).alloc _
        have Fy : Fr (fun _ => False) W5 (wx.alloc (.map #[] 0)) := Fx.trans hal (fun _ _ h => h)
        have BygM : MapB (wx.alloc (.map #[] 0)) wx.heap.size 0 zeros2 := MapB.new wx
        have GygM : W5.heap.size ≤ wx.heap.size := Fx.size
        have Byg14 := Bg14.fr hal (fun h => h)
        have NEyg14 : g14 ≠ wx.heap.size := Nat.ne_of_lt Bg14.lt
        refine hK.out _ _ Fy (fun _ => ?_)
        clear hK K
        refine norm_ (a' := ?_) ?_ ?_
        rotate_left
        · show Act.put _ (some 40) _ = _
          simp only [Act.put, List.setIfInBounds_toArray, List.set_cons_zero, List.set_cons_succ]
          rfl
        refine norm_ ?_ (hD5 (wx.heap.size, g14) _ ⟨Fy, BygM, Byg14, GygM, Gg14, NEyg14.symm⟩)
        simp only [putAll, Act.put, List.setIfInBounds_toArray, List.set_cons_zero, List.set_cons_succ]
      · skip
        refine goesSum_ (Operand.tmp 42) (by rfl) rfl rfl (.iface 141 (.agg (bytes x0).toArray)) (by rfl) x0 (show Sums _ _ x0 from sums_of HS.out (n := .giv x0) ⟨HBL.out, rfl⟩) (fun wy hq => ?_)
        have Fy : Fr (fun _ => False) W5 wy := Fx.trans hq (fun _ _ h => h)
        have Byg14 := Bg14.fr hq (fun h => h)
        refine hK.out _ _ Fy (fun _ => ?_)
        clear hK K
        refine norm_ (a' := ?_) ?_ ?_
        rotate_left
        · show Act.put _ (some 43) _ = _
          simp only [Act.put, List.setIfInBounds_toArray, List.set_cons_zero, List.set_cons_succ]
          rfl
        refine norm_ ?_ (hD6 g14 _ ⟨Fy, Byg14, Gg14⟩)
        simp only [putAll, Act.put, List.setIfInBounds_toArray, List.set_cons_zero, List.set_cons_succ]
    rintro ⟨gM, g14⟩ wx ⟨Fx, BgM, Bg14, GgM, Gg14, NEgMg14⟩
    refine norm_ (a' := ?_) ?_ ?_
    rotate_left
    · simp only [putAll, Act.put, List.setIfInBounds_toArray, List.set_cons_zero, List.set_cons_succ]
      rfl
    refine done_ (by kernel_rfl) ?_
    have HL10 : Kp (g10 < W5.heap.size) := ⟨H105.out.lt⟩
    have N1012 : Kp (g10 ≠ g12) := ⟨fun e => blk_ne_type H125.out (show W5.heap[g10]? = _ from H105.out) (by decide) e.symm⟩
    have HSZ : Kp (w.heap.size ≤ W5.heap.size) := ⟨HF5.out.size⟩
    have HZ7 : Kp (W5.heap.size ≤ wx.heap.size) := ⟨Fx.size⟩
    have HF7 := Kp.mk (HF5.out.trans Fx (fun _ _ h => h))
    have H127 := Kp.mk (H125.out.fr Fx (fun h => h))
    have H107 := Kp.mk (H105.out.fr Fx (fun h => h))
    have HG147 : Kp (W5.heap.size ≤ g14) := ⟨Gg14⟩
    have HGM7 : Kp (W5.heap.size ≤ gM) := ⟨GgM⟩
    have HW7 : Kp (∀ (j : Nat) (t : Pf.St), (stepsT m n)[j]? = some t → ∃ g' o', A2 = some ⟨g', o', none⟩ ∧ g' ≠ g12 ∧ g' < W5.heap.size ∧ wx.rangeAt g' (o' + j * 3) (stC t)) := ⟨fun j t ht => by
      obtain ⟨g', o', h1, h2, h3, h4⟩ := HW5.out j t ht
      exact ⟨g', o', h1, h2, h3, fun i u hu => cell_kept (h4 i u hu) Fx⟩⟩
    have HFW : Kp (∀ W, Fr (fun q => q = g14 ∨ q = g12 ∨ q = gM) wx W → Fr (fun _ => False) w W) := ⟨fun W hf => HF7.out.trans hf (fun q hq e => by have := HG147.out; have := HGM7.out; have := HG12.out; have := HF5.out.size; rcases e with e | e | e <;> omega)⟩
    obtain ⟨C, hC⟩ : ∃ C : Nat → Cl, C = fun j => (begC (nodeL s) m n old p).run (nodeL s) ((stepsT m n).take j) ((restT m n p).take j) := ⟨_, rfl⟩
    obtain ⟨O, hO⟩ : ∃ O : Nat → Nd, O = fun j => oldT (begT m n old p) ((stepsT m n).take j) ((restT m n p).take j) := ⟨_, rfl⟩
    have HSTB : Kp (∀ t ∈ stepsT m n, t.a ≤ 281474976710656 ∧ t.b ≤ 281474976710656) := ⟨fun t ht => by
      have h1 := from_in m n 0 n (Nat.le_of_lt Nat.lt_two_pow_self) HN.out.1 HN.out.2.1 t (List.mem_reverse.1 ht)
      have h2 := HN.out
      omega⟩
    have HBC : Kp (begC (nodeL s) m n old p = ⟨.giv x0, a0, m, upd zeros2 a0 m x0⟩) := ⟨by
      unfold begC
      rw [HBN.out, ← HA0.out]
      rfl⟩
    have HC0 : Kp (C 0 = ⟨.giv x0, a0, m, upd zeros2 a0 m x0⟩) := ⟨by
      rw [hC, ← HBC.out]
      show (begC (nodeL s) m n old p).run (nodeL s) ((stepsT m n).take 0) ((restT m n p).take 0) = _
      rw [List.take_zero, List.take_zero]
      rfl⟩
    have HO0 : Kp (O 0 = .giv x0) := ⟨by
      rw [hO, ← HBN.out]
      show oldT _ ((stepsT m n).take 0) ((restT m n p).take 0) = _
      rw [List.take_zero, List.take_zero]
      rfl⟩
    have HCS : Kp (∀ (j : Nat) (t : Pf.St) (x : List Int), (stepsT m n)[j]? = some t → (restT m n p)[j]? = some x → C (j + 1) = (C j).up (nodeL s) t x) := ⟨fun j t x ht hx => by rw [hC]; exact run_take (nodeL s) _ _ _ HRL.out j t x ht hx⟩
    have HOS : Kp (∀ (j : Nat) (t : Pf.St) (x : List Int), (stepsT m n)[j]? = some t → (restT m n p)[j]? = some x → O (j + 1) = if t.r = true then O j else .join (.giv x) (O j)) := ⟨fun j t x ht hx => by rw [hO]; exact old_take _ _ _ HRL.out j t x ht hx⟩
    have HCX : Kp (∀ j, (C j).x ≤ 281474976710656 ∧ (C j).y ≤ 281474976710656) := ⟨fun j => by
      rw [hC]
      exact run_bnd (nodeL s) 281474976710656 _ _ _ (fun t ht => HSTB.out t (List.mem_of_mem_take ht)) (by rw [HBC.out]; exact HA0B.out.2) (by rw [HBC.out]; have := HN.out; show m ≤ _; omega)⟩
    have HCE : Kp ((C q).n = freshN m n old p ∧ (C q).K = climbK (nodeL s) m n old p ∧ O q = oldN m n old p) := ⟨by
      have e1 : (stepsT m n).take q = stepsT m n := List.take_of_length_le (by have := HRL.out; have := HQS.out; omega)
      have e2 : (restT m n p).take q = restT m n p := List.take_of_length_le (by have := HQS.out; omega)
      rw [hC, hO]
      show ((begC (nodeL s) m n old p).run (nodeL s) ((stepsT m n).take q) ((restT m n p).take q)).n = _ ∧ ((begC (nodeL s) m n old p).run (nodeL s) ((stepsT m n).take q) ((restT m n p).take q)).K = _ ∧ oldT _ ((stepsT m n).take q) ((restT m n p).take q) = _
      rw [e1, e2]
      exact ⟨run_node (nodeL s) _ _ _, rfl, rfl⟩⟩
    clear hC hO HW5 hbt LD12 hHeld HBC HF5 H125 H105
    have hq48 : q ≤ 48 := by have := H48.out; have := HRL.out; have := HQS.out; omega
    go_wp2_with (fail)
    go_loopw [48] (fun i wr => ∃ (j : Nat) (t1 t2 : TypeId) (u1 u2 : Value), i = .int .i64 (j : Int) ∧ j ≤ q ∧ Kp (Blk wr g14 101 [.iface t1 u1, .iface t2 u2, .map (some gM)]) ∧ Kp (Blk wr g12 91 [.int .i64 ((C j).x : Int), .int .i64 ((C j).y : Int)]) ∧ Kp (NdAt wr s (C j).n (.iface t1 u1)) ∧ Kp (NdAt wr s (O j) (.iface t2 u2)) ∧ Kp (MapB wr gM (j + 1) (C j).K) ∧ Kp (Fr (fun q => q = g14 ∨ q = g12 ∨ q = gM) wx wr)) (fun i _ => q - (intOf i).toNat)
    case atStart => exact ⟨0, _, _, _, _, rfl, Nat.zero_le _, ⟨Bg14⟩, ⟨by rw [HC0.out]; exact H127.out⟩, ⟨by rw [HC0.out]; exact ⟨HBL.out, rfl⟩⟩, ⟨by rw [HO0.out]; exact ⟨HBL.out, rfl⟩⟩, ⟨by rw [HC0.out]; exact BgM⟩, ⟨Fr.refl _ _⟩⟩
    case round =>
      clear Bg14 BgM H127
      obtain ⟨j, t1, t2, u1, u2, rfl, hj, H14r, H12r, HN1r, HN2r, HMBr, HFrr⟩ := hrel
      by_cases hlt : j < q
      · have HFwr := Kp.mk (HFW.out _ HFrr.out)
        have hjs : j < (stepsT m n).length := by have := HRL.out; have := HQS.out; omega
        have hjp : j < (restT m n p).length := by rw [HQS.out]; exact hlt
        have hst := List.getElem?_eq_getElem hjs
        have hx := List.getElem?_eq_getElem hjp
        have HCn0 := HCS.out j _ _ hst hx
        have HOn0 := HOS.out j _ _ hst hx
        have hsb := HSTB.out _ (List.getElem_mem hjs)
        obtain ⟨gw, ow, hA2, hgw, hgl, hrg⟩ := HW7.out j _ hst
        obtain ⟨bX, oX, hA1, hz1, hz2, hz3⟩ := HP5.out.at j hjp
        clear hz1 hz2 hz3
        subst hA1
        subst hA2
        have hx32 := HR32.out _ (List.getElem_mem hjp)
        have LX : Kp (∀ W, Fr (fun _ => False) w W → Lds W 29 (.pointer (some ⟨bX, oX + j * 32, none⟩)) (.agg (bytes (restT m n p)[j]).toArray)) := ⟨fun W hf => lds_row (HP5.out.fr hf) j hjp⟩
        have HSr : Kp (wr.rangeAt gw (ow + j * 3) (stC (stepsT m n)[j])) := ⟨fun i u hu => (World.cell?_of_block (a := ⟨gw, ow + j * 3 + i, none⟩) (HFrr.out.block gw (Nat.lt_of_lt_of_le hgl HZ7.out) (by have := HG147.out; have := HGM7.out; intro e; rcases e with e | e | e <;> omega))).trans (hrg i u hu)⟩
        have hbx := built_given (bytes (restT m n p)[j]) (by rw [bytes_length, hx32])
        have HX32 := Kp.mk hx32
        generalize (stepsT m n)[j] = st at HCn0 HOn0 HSr hsb
        generalize (restT m n p)[j] = x at HCn0 HOn0 LX hbx HX32
        obtain ⟨sa, sb, sr⟩ := st
        have HCn := Kp.mk HCn0
        have HOn := Kp.mk HOn0
        have HSB := Kp.mk hsb
        have hi3 : (Tryd.prog.info? 95).map (·.size) = some 3 := by kernel_rfl
        clear hst hx hjs hjp hgw hgl hrg hx32 HCn0 HOn0 hsb
        go_upto_region 10 with (refine wpList_load_mid rfl 95 _ rfl gw (ow + j * 3) rfl [.int .i64 (sa : Int), .int .i64 (sb : Int), .bool sr] _ HSr.out Tryd.underlying95 rfl hi3 ?_)
        obtain ⟨g16, hg16⟩ : ∃ g, g = wr.heap.size := ⟨_, rfl⟩
        obtain ⟨Wa, hWa⟩ : ∃ W, W = wr.alloc (.cells #[.int .i64 (sa : Int), .int .i64 (sb : Int), .bool sr] 95) := ⟨_, rfl⟩
        have H16a : Kp (Blk Wa g16 95 [.int .i64 (sa : Int), .int .i64 (sb : Int), .bool sr]) := ⟨by rw [hWa, hg16]; exact Blk.new wr _ _⟩
        have hfa : Fr (fun _ => False) wr Wa := by rw [hWa]; exact (Fr.refl _ wr).alloc _
        rw [← hg16, ← hWa]
        clear hg16 hWa
        have H14a := Kp.mk (H14r.out.fr hfa (fun h => h))
        have H12a := Kp.mk (H12r.out.fr hfa (fun h => h))
        have HN1a := Kp.mk (HN1r.out.kept hfa)
        have HN2a := Kp.mk (HN2r.out.kept hfa)
        have HMBa := Kp.mk (HMBr.out.keep hfa (fun h => h))
        have HFra := Kp.mk (HFrr.out.trans hfa (fun q hq e => e.elim))
        have HFwa := Kp.mk (HFW.out _ HFra.out)
        have c162 : Wa.cell? ⟨g16, 2, none⟩ = some (.bool sr) := H16a.out.cell 2 _ rfl
        clear hfa H14r H12r HN1r HN2r HMBr HFrr HFwr HSr
        cases sr
        · go_upto_region 13 with (fail)
          clear c162
          refine start_ (n := 12) (S := fun w' => Lds w' 98 (.pointer (some ⟨g14, 0, none⟩)) (.iface t1 u1) ∧ Lds w' 29 (.pointer (some ⟨bX, oX + j * 32, none⟩)) (.agg (bytes x).toArray)) (ds := [11]) #[false, false, false, false, false, false, false, false, false, false, false, false] (by kernel_rfl) rfl rfl ⟨lds_nod (H14a.out.drew.cell 0 _ rfl), LX.out _ HFwa.out.drew⟩ (fun hHeld => ?_)
          refine pure_ (i := 0) (N := some 70) (v := ?_) (a' := ?_) #[true, false, false, false, false, false, false, false, false, false, false, false] rfl rfl (by kernel_rfl) (fun _ _ _ h => h) (Or.inl ⟨by rfl, ?_⟩) ?_ ?_
          rotate_left
          · intro w'
            go_simp
            with_reducible rfl
          rotate_left
          · simp only [Act.put, List.setIfInBounds_toArray, List.set_cons_zero, List.set_cons_succ]
            rfl
          refine pure_ (i := 1) (N := some 71) (v := ?_) (a' := ?_) #[true, true, false, false, false, false, false, false, false, false, false, false] rfl rfl (by kernel_rfl) (fun _ _ _ h => h) (Or.inl ⟨by rfl, ?_⟩) ?_ ?_
          rotate_left
          · intro w'
            go_simp
            with_reducible rfl
          rotate_left
          · simp only [Act.put, List.setIfInBounds_toArray, List.set_cons_zero, List.set_cons_succ]
            rfl
          refine pure_ (i := 2) (N := some 72) (v := ?_) (a' := ?_) #[true, true, true, false, false, false, false, false, false, false, false, false] rfl rfl (by kernel_rfl) (fun _ _ _ h => h) (Or.inl ⟨by rfl, ?_⟩) ?_ ?_
          rotate_left
          · intro w'
            go_simp
            with_reducible rfl
          rotate_left
          · simp only [Act.put, List.setIfInBounds_toArray, List.set_cons_zero, List.set_cons_succ]
            rfl
          refine pure_ (i := 3) (N := some 73) (v := ?_) (a' := ?_) #[true, true, true, true, false, false, false, false, false, false, false, false] rfl rfl (by kernel_rfl) (fun _ _ _ h => h) (Or.inl ⟨by rfl, ?_⟩) ?_ ?_
          rotate_left
          · intro w'
            go_simp
            with_reducible rfl
          rotate_left
          · simp only [Act.put, List.setIfInBounds_toArray, List.set_cons_zero, List.set_cons_succ]
            rfl
          refine pure_ (i := 7) (N := some 77) (v := ?_) (a' := ?_) #[true, true, true, true, false, false, false, true, false, false, false, false] rfl rfl (by kernel_rfl) (fun _ _ _ h => h) (Or.inl ⟨by rfl, ?_⟩) ?_ ?_
          rotate_left
          · intro w'
            go_simp
            with_reducible rfl
          rotate_left
          · simp only [Act.put, List.setIfInBounds_toArray, List.set_cons_zero, List.set_cons_succ]
            rfl
          refine take_ (i := 4) (N := some 74) (v := ?_) (a' := ?_) #[true, true, true, true, true, false, false, true, false, false, false, false] rfl rfl (by kernel_rfl) (fun _ _ _ h => h) (Or.inl ⟨by rfl, ?_⟩) hHeld ?_ ?_
          rotate_left
          · rintro w' ⟨s0, s1⟩
            refine Lds.run s1 (x := ?_) ?_ ?_
            · exact (Operand.tmp 73)
            · rfl
            · rfl
          rotate_left
          · simp only [Act.put, List.setIfInBounds_toArray, List.set_cons_zero, List.set_cons_succ]
            rfl
          refine pure_ (i := 5) (N := some 75) (v := ?_) (a' := ?_) #[true, true, true, true, true, true, false, true, false, false, false, false] rfl rfl (by kernel_rfl) (fun _ _ _ h => h) (Or.inl ⟨by rfl, ?_⟩) ?_ ?_
          rotate_left
          · intro w'
            refine bld_given _ _ (Operand.tmp 74) x HX32.out w' ?_ ?_
            · rfl
            · rfl
          rotate_left
          · simp only [Act.put, List.setIfInBounds_toArray, List.set_cons_zero, List.set_cons_succ]
            rfl
          refine pure_ (i := 6) (N := some 76) (v := ?_) (a' := ?_) #[true, true, true, true, true, true, true, true, false, false, false, false] rfl rfl (by kernel_rfl) (fun _ _ _ h => h) (Or.inl ⟨by rfl, ?_⟩) ?_ ?_
          rotate_left
          · intro w'
            go_simp
            with_reducible rfl
          rotate_left
          · simp only [Act.put, List.setIfInBounds_toArray, List.set_cons_zero, List.set_cons_succ]
            rfl
          refine take_ (i := 8) (N := some 78) (v := ?_) (a' := ?_) #[true, true, true, true, true, true, true, true, true, false, false, false] rfl rfl (by kernel_rfl) (fun _ _ _ h => h) (Or.inl ⟨by rfl, ?_⟩) hHeld ?_ ?_
          rotate_left
          · rintro w' ⟨s0, s1⟩
            refine Lds.run s0 (x := ?_) ?_ ?_
            · exact (Operand.tmp 77)
            · rfl
            · rfl
          rotate_left
          · simp only [Act.put, List.setIfInBounds_toArray, List.set_cons_zero, List.set_cons_succ]
            rfl
          refine one_ (i := 9) (N := some 79) #[true, true, true, true, true, true, true, true, true, true, false, false] rfl rfl (by kernel_rfl) (by decide) (fun K hK => ?_)
          refine goes_ Tryd.func75 (by kernel_rfl) rfl #[.int .i64 k, .iface 141 (.agg (bytes x).toArray), .iface t1 u1] (by rfl) rfl rfl (by simp only [List.map_toArray, List.map_cons, List.map_nil]; rfl) ?_
          with_reducible refine (CJ.out (.giv x) (C j).n _ _ _ HFwa.out.drew (nd_giv HX32.out) (HN1a.out.kept (Fr.refl _ _).drew)).mono ?_
          rintro e a1 ⟨v3, rfl, hv3, hf1⟩
          refine ⟨_, rfl, ?_⟩
          obtain ⟨t3, u3, rfl⟩ := hv3.iface
          refine hK.out _ _ ⟨lds_nod ((H14a.out.drew.fr hf1 (fun h => h)).cell 0 _ rfl), LX.out _ (HFwa.out.drew.trans hf1 (fun _ _ h => h))⟩ (fun hHeld => ?_)
          clear hK K
          refine norm_ (a' := ?_) ?_ ?_
          rotate_left
          · show Act.put _ (some 79) _ = _
            simp only [Act.put, List.setIfInBounds_toArray, List.set_cons_zero, List.set_cons_succ]
            rfl
          refine pure_ (i := 10) (N := some 80) (v := ?_) (a' := ?_) #[true, true, true, true, true, true, true, true, true, true, true, false] rfl rfl (by kernel_rfl) (fun _ _ _ h => h) (Or.inl ⟨by rfl, ?_⟩) ?_ ?_
          rotate_left
          · intro w'
            go_simp
            with_reducible rfl
          rotate_left
          · simp only [Act.put, List.setIfInBounds_toArray, List.set_cons_zero, List.set_cons_succ]
            rfl
          refine last_ (i := 11) (N := none) #[true, true, true, true, true, true, true, true, true, true, true, true] rfl rfl (by kernel_rfl) (by decide) (fun K hK => ?_)
          refine skip_ (by rfl) rfl (st_nod _ _ (Operand.tmp 80) (Operand.tmp 79) a1 g14 0 101 t3 u3 _ rfl rfl rfl (H14a.out.drew.fr hf1 (fun h => h)) (by simp)) ?_
          refine hK.out _ _ ?_
          clear hK K
          refine done_ (by kernel_rfl) ?_
          have H14b := Kp.mk (H14a.out.fr ((Fr.refl (fun _ => False) _).drew.trans hf1 (fun _ _ h => h)) (fun h => h))
          have H12b := Kp.mk (H12a.out.fr ((Fr.refl (fun _ => False) _).drew.trans hf1 (fun _ _ h => h)) (fun h => h))
          have H16b := Kp.mk (H16a.out.fr ((Fr.refl (fun _ => False) _).drew.trans hf1 (fun _ _ h => h)) (fun h => h))
          have HN1b := Kp.mk (HN1a.out.kept ((Fr.refl (fun _ => False) _).drew.trans hf1 (fun _ _ h => h)))
          have HN2b := Kp.mk (HN2a.out.kept ((Fr.refl (fun _ => False) _).drew.trans hf1 (fun _ _ h => h)))
          have HMBb := Kp.mk (HMBa.out.keep ((Fr.refl (fun _ => False) _).drew.trans hf1 (fun _ _ h => h)) (fun h => h))
          have HFrb := Kp.mk (HFra.out.trans ((Fr.refl (fun _ => False) _).drew.trans hf1 (fun _ _ h => h)) (fun q hq e => e.elim))
          have HFwb := Kp.mk (HFW.out _ HFrb.out)
          clear H14a H12a H16a HN1a HN2a HMBa HFra HFwa
          have hset : Fr (fun q => q = g14) a1 (a1.setCell ⟨g14, 0, none⟩ (.iface t3 u3)) := Fr.set (S := fun q => q = g14) (a := ⟨g14, 0, none⟩) (Fr.refl (fun q => q = g14) a1) (fun _ => rfl) _
          have hv4 := hv3.keep hset (fun q cur hc e => blk_ne_type H14b.out hc (by decide) e.symm)
          have H14c := Kp.mk (show Blk _ g14 101 [(.iface t3 u3), (.iface t2 u2), .map (some gM)] from H14b.out.set 0 _)
          have H12c := Kp.mk (H12b.out.fr hset (blk_ne_type H12b.out H14b.out (by decide)))
          have H16c := Kp.mk (H16b.out.fr hset (blk_ne_type H16b.out H14b.out (by decide)))
          have HN1c := Kp.mk (hv4)
          have HN2c := Kp.mk (HN2b.out.keep hset (fun q cur hc e => blk_ne_type H14b.out hc (by decide) e.symm))
          have HMBc := Kp.mk (HMBb.out.keep hset (fun e => HMBb.out.not_cells H14b.out e.symm))
          have HFrc := Kp.mk (HFrb.out.trans hset (fun q hq e => .inl e))
          have HFwc := Kp.mk (HFW.out _ HFrc.out)
          clear H14b H12b H16b HN1b HN2b HMBb HFrb HFwb
          clear hHeld hf1 hv3 hv4 hset
          generalize World.setCell a1 _ _ = Wc at H14c H12c H16c HN1c HN2c HMBc HFrc HFwc ⊢
          go_upto_region 14 with (fail)
          have HN1k := HN1c
          obtain ⟨t4, ht4⟩ : ∃ t, t = t3 := ⟨_, rfl⟩
          obtain ⟨u4, hu4⟩ : ∃ u, u = u3 := ⟨_, rfl⟩
          rw [← ht4, ← hu4] at H14c HN1c
          rw [← ht4, ← hu4]
          clear ht4 hu4 HN1k
          refine start_ (n := 12) (S := fun w' => Lds w' 98 (.pointer (some ⟨g14, 1, none⟩)) (.iface t2 u2) ∧ Lds w' 29 (.pointer (some ⟨bX, oX + j * 32, none⟩)) (.agg (bytes x).toArray)) (ds := [11]) #[false, false, false, false, false, false, false, false, false, false, false, false] (by kernel_rfl) rfl rfl ⟨lds_nod (H14c.out.drew.cell 1 _ rfl), LX.out _ HFwc.out.drew⟩ (fun hHeld => ?_)
          refine pure_ (i := 0) (N := some 81) (v := ?_) (a' := ?_) #[true, false, false, false, false, false, false, false, false, false, false, false] rfl rfl (by kernel_rfl) (fun _ _ _ h => h) (Or.inl ⟨by rfl, ?_⟩) ?_ ?_
          rotate_left
          · intro w'
            go_simp
            with_reducible rfl
          rotate_left
          · simp only [Act.put, List.setIfInBounds_toArray, List.set_cons_zero, List.set_cons_succ]
            rfl
          refine pure_ (i := 1) (N := some 82) (v := ?_) (a' := ?_) #[true, true, false, false, false, false, false, false, false, false, false, false] rfl rfl (by kernel_rfl) (fun _ _ _ h => h) (Or.inl ⟨by rfl, ?_⟩) ?_ ?_
          rotate_left
          · intro w'
            go_simp
            with_reducible rfl
          rotate_left
          · simp only [Act.put, List.setIfInBounds_toArray, List.set_cons_zero, List.set_cons_succ]
            rfl
          refine pure_ (i := 2) (N := some 83) (v := ?_) (a' := ?_) #[true, true, true, false, false, false, false, false, false, false, false, false] rfl rfl (by kernel_rfl) (fun _ _ _ h => h) (Or.inl ⟨by rfl, ?_⟩) ?_ ?_
          rotate_left
          · intro w'
            go_simp
            with_reducible rfl
          rotate_left
          · simp only [Act.put, List.setIfInBounds_toArray, List.set_cons_zero, List.set_cons_succ]
            rfl
          refine pure_ (i := 3) (N := some 84) (v := ?_) (a' := ?_) #[true, true, true, true, false, false, false, false, false, false, false, false] rfl rfl (by kernel_rfl) (fun _ _ _ h => h) (Or.inl ⟨by rfl, ?_⟩) ?_ ?_
          rotate_left
          · intro w'
            go_simp
            with_reducible rfl
          rotate_left
          · simp only [Act.put, List.setIfInBounds_toArray, List.set_cons_zero, List.set_cons_succ]
            rfl
          refine pure_ (i := 7) (N := some 88) (v := ?_) (a' := ?_) #[true, true, true, true, false, false, false, true, false, false, false, false] rfl rfl (by kernel_rfl) (fun _ _ _ h => h) (Or.inl ⟨by rfl, ?_⟩) ?_ ?_
          rotate_left
          · intro w'
            go_simp
            with_reducible rfl
          rotate_left
          · simp only [Act.put, List.setIfInBounds_toArray, List.set_cons_zero, List.set_cons_succ]
            rfl
          refine take_ (i := 4) (N := some 85) (v := ?_) (a' := ?_) #[true, true, true, true, true, false, false, true, false, false, false, false] rfl rfl (by kernel_rfl) (fun _ _ _ h => h) (Or.inl ⟨by rfl, ?_⟩) hHeld ?_ ?_
          rotate_left
          · rintro w' ⟨s0, s1⟩
            refine Lds.run s1 (x := ?_) ?_ ?_
            · exact (Operand.tmp 84)
            · rfl
            · rfl
          rotate_left
          · simp only [Act.put, List.setIfInBounds_toArray, List.set_cons_zero, List.set_cons_succ]
            rfl
          refine pure_ (i := 5) (N := some 86) (v := ?_) (a' := ?_) #[true, true, true, true, true, true, false, true, false, false, false, false] rfl rfl (by kernel_rfl) (fun _ _ _ h => h) (Or.inl ⟨by rfl, ?_⟩) ?_ ?_
          rotate_left
          · intro w'
            refine bld_given _ _ (Operand.tmp 85) x HX32.out w' ?_ ?_
            · rfl
            · rfl
          rotate_left
          · simp only [Act.put, List.setIfInBounds_toArray, List.set_cons_zero, List.set_cons_succ]
            rfl
          refine pure_ (i := 6) (N := some 87) (v := ?_) (a' := ?_) #[true, true, true, true, true, true, true, true, false, false, false, false] rfl rfl (by kernel_rfl) (fun _ _ _ h => h) (Or.inl ⟨by rfl, ?_⟩) ?_ ?_
          rotate_left
          · intro w'
            go_simp
            with_reducible rfl
          rotate_left
          · simp only [Act.put, List.setIfInBounds_toArray, List.set_cons_zero, List.set_cons_succ]
            rfl
          refine take_ (i := 8) (N := some 89) (v := ?_) (a' := ?_) #[true, true, true, true, true, true, true, true, true, false, false, false] rfl rfl (by kernel_rfl) (fun _ _ _ h => h) (Or.inl ⟨by rfl, ?_⟩) hHeld ?_ ?_
          rotate_left
          · rintro w' ⟨s0, s1⟩
            refine Lds.run s0 (x := ?_) ?_ ?_
            · exact (Operand.tmp 88)
            · rfl
            · rfl
          rotate_left
          · simp only [Act.put, List.setIfInBounds_toArray, List.set_cons_zero, List.set_cons_succ]
            rfl
          refine one_ (i := 9) (N := some 90) #[true, true, true, true, true, true, true, true, true, true, false, false] rfl rfl (by kernel_rfl) (by decide) (fun K hK => ?_)
          refine goes_ Tryd.func75 (by kernel_rfl) rfl #[.int .i64 k, .iface 141 (.agg (bytes x).toArray), .iface t2 u2] (by rfl) rfl rfl (by simp only [List.map_toArray, List.map_cons, List.map_nil]; rfl) ?_
          with_reducible refine (CJ.out (.giv x) (O j) _ _ _ HFwc.out.drew (nd_giv HX32.out) (HN2c.out.kept (Fr.refl _ _).drew)).mono ?_
          rintro e a1 ⟨v3, rfl, hv3, hf1⟩
          refine ⟨_, rfl, ?_⟩
          obtain ⟨t3, u3, rfl⟩ := hv3.iface
          refine hK.out _ _ ⟨lds_nod ((H14c.out.drew.fr hf1 (fun h => h)).cell 1 _ rfl), LX.out _ (HFwc.out.drew.trans hf1 (fun _ _ h => h))⟩ (fun hHeld => ?_)
          clear hK K
          refine norm_ (a' := ?_) ?_ ?_
          rotate_left
          · show Act.put _ (some 90) _ = _
            simp only [Act.put, List.setIfInBounds_toArray, List.set_cons_zero, List.set_cons_succ]
            rfl
          refine pure_ (i := 10) (N := some 91) (v := ?_) (a' := ?_) #[true, true, true, true, true, true, true, true, true, true, true, false] rfl rfl (by kernel_rfl) (fun _ _ _ h => h) (Or.inl ⟨by rfl, ?_⟩) ?_ ?_
          rotate_left
          · intro w'
            go_simp
            with_reducible rfl
          rotate_left
          · simp only [Act.put, List.setIfInBounds_toArray, List.set_cons_zero, List.set_cons_succ]
            rfl
          refine last_ (i := 11) (N := none) #[true, true, true, true, true, true, true, true, true, true, true, true] rfl rfl (by kernel_rfl) (by decide) (fun K hK => ?_)
          refine skip_ (by rfl) rfl (st_nod _ _ (Operand.tmp 91) (Operand.tmp 90) a1 g14 1 101 t3 u3 _ rfl rfl rfl (H14c.out.drew.fr hf1 (fun h => h)) (by simp)) ?_
          refine hK.out _ _ ?_
          clear hK K
          refine done_ (by kernel_rfl) ?_
          have H14f := Kp.mk (H14c.out.fr ((Fr.refl (fun _ => False) _).drew.trans hf1 (fun _ _ h => h)) (fun h => h))
          have H12f := Kp.mk (H12c.out.fr ((Fr.refl (fun _ => False) _).drew.trans hf1 (fun _ _ h => h)) (fun h => h))
          have H16f := Kp.mk (H16c.out.fr ((Fr.refl (fun _ => False) _).drew.trans hf1 (fun _ _ h => h)) (fun h => h))
          have HN1f := Kp.mk (HN1c.out.kept ((Fr.refl (fun _ => False) _).drew.trans hf1 (fun _ _ h => h)))
          have HN2f := Kp.mk (HN2c.out.kept ((Fr.refl (fun _ => False) _).drew.trans hf1 (fun _ _ h => h)))
          have HMBf := Kp.mk (HMBc.out.keep ((Fr.refl (fun _ => False) _).drew.trans hf1 (fun _ _ h => h)) (fun h => h))
          have HFrf := Kp.mk (HFrc.out.trans ((Fr.refl (fun _ => False) _).drew.trans hf1 (fun _ _ h => h)) (fun q hq e => e.elim))
          have HFwf := Kp.mk (HFW.out _ HFrf.out)
          clear H14c H12c H16c HN1c HN2c HMBc HFrc HFwc
          have hset : Fr (fun q => q = g14) a1 (a1.setCell ⟨g14, 1, none⟩ (.iface t3 u3)) := Fr.set (S := fun q => q = g14) (a := ⟨g14, 1, none⟩) (Fr.refl (fun q => q = g14) a1) (fun _ => rfl) _
          have hv4 := hv3.keep hset (fun q cur hc e => blk_ne_type H14f.out hc (by decide) e.symm)
          have H14g := Kp.mk (show Blk _ g14 101 [(.iface t4 u4), (.iface t3 u3), .map (some gM)] from H14f.out.set 1 _)
          have H12g := Kp.mk (H12f.out.fr hset (blk_ne_type H12f.out H14f.out (by decide)))
          have H16g := Kp.mk (H16f.out.fr hset (blk_ne_type H16f.out H14f.out (by decide)))
          have HN1g := Kp.mk (HN1f.out.keep hset (fun q cur hc e => blk_ne_type H14f.out hc (by decide) e.symm))
          have HN2g := Kp.mk (hv4)
          have HMBg := Kp.mk (HMBf.out.keep hset (fun e => HMBf.out.not_cells H14f.out e.symm))
          have HFrg := Kp.mk (HFrf.out.trans hset (fun q hq e => .inl e))
          have HFwg := Kp.mk (HFW.out _ HFrg.out)
          clear H14f H12f H16f HN1f HN2f HMBf HFrf HFwf
          clear hHeld hf1 hv3 hv4 hset
          generalize World.setCell a1 _ _ = Wg at H14g H12g H16g HN1g HN2g HMBg HFrg HFwg ⊢
          go_upto_region 15 with (fail)
          have c16 : Wg.cell? ⟨g16, 0, none⟩ = some (.int .i64 (sa : Int)) := H16g.out.cell 0 _ rfl
          have c12 : Wg.cell? ⟨g12, 0, none⟩ = some (.int .i64 ((C j).x : Int)) := H12g.out.cell 0 _ rfl
          have f12 : Wg.frozen? ⟨g12, 0, none⟩ = false := H12g.out.free 0
          go_upto_region 16 with (fail)
          have hset : Fr (fun q => q = g12) Wg (Wg.setCell ⟨g12, 0, none⟩ (.int .i64 (sa : Int))) := Fr.set (S := fun q => q = g12) (a := ⟨g12, 0, none⟩) (Fr.refl (fun q => q = g12) Wg) (fun _ => rfl) _
          have H14d := Kp.mk (H14g.out.fr hset (blk_ne_type H14g.out H12g.out (by decide)))
          have H12d := Kp.mk (show Blk _ g12 91 [.int .i64 (sa : Int), .int .i64 ((C j).y : Int)] from H12g.out.set 0 _)
          have H16d := Kp.mk (H16g.out.fr hset (blk_ne_type H16g.out H12g.out (by decide)))
          have HN1d := Kp.mk (HN1g.out.keep hset (fun q cur hc e => blk_ne_type H12g.out hc (by decide) e.symm))
          have HN2d := Kp.mk (HN2g.out.keep hset (fun q cur hc e => blk_ne_type H12g.out hc (by decide) e.symm))
          have HMBd := Kp.mk (HMBg.out.keep hset (fun e => HMBg.out.not_cells H12g.out e.symm))
          have HFrd := Kp.mk (HFrg.out.trans hset (fun q hq e => .inr (.inl e)))
          have HFwd := Kp.mk (HFW.out _ HFrd.out)
          clear H14g H12g H16g HN1g HN2g HMBg HFrg HFwg
          clear hset c16 c12 f12
          generalize World.setCell Wg _ _ = Wd at H14d H12d H16d HN1d HN2d HMBd HFrd HFwd ⊢
          refine start_ (n := 7) (S := fun w' => Lds w' 99 (.pointer (some ⟨g14, 2, none⟩)) (.map (some gM)) ∧ Lds w' 91 (.pointer (some ⟨g12, 0, none⟩)) (.agg #[.int .i64 (sa : Int), .int .i64 ((C j).y : Int)]) ∧ Lds w' 98 (.pointer (some ⟨g14, 0, none⟩)) (.iface t4 u4)) (ds := [6]) #[false, false, false, false, false, false, false] (by kernel_rfl) rfl rfl ⟨lds_map (H14d.out.drew.cell 2 _ rfl), lds_agg Tryd.underlying91 rfl (by kernel_rfl) (blk_range H12d.out.drew), lds_nod (H14d.out.drew.cell 0 _ rfl)⟩ (fun hHeld => ?_)
          refine pure_ (i := 0) (N := some 96) (v := ?_) (a' := ?_) #[true, false, false, false, false, false, false] rfl rfl (by kernel_rfl) (fun _ _ _ h => h) (Or.inl ⟨by rfl, ?_⟩) ?_ ?_
          rotate_left
          · intro w'
            go_simp
            with_reducible rfl
          rotate_left
          · simp only [Act.put, List.setIfInBounds_toArray, List.set_cons_zero, List.set_cons_succ]
            rfl
          refine pure_ (i := 3) (N := some 99) (v := ?_) (a' := ?_) #[true, false, false, true, false, false, false] rfl rfl (by kernel_rfl) (fun _ _ _ h => h) (Or.inl ⟨by rfl, ?_⟩) ?_ ?_
          rotate_left
          · intro w'
            go_simp
            with_reducible rfl
          rotate_left
          · simp only [Act.put, List.setIfInBounds_toArray, List.set_cons_zero, List.set_cons_succ]
            rfl
          refine take_ (i := 1) (N := some 97) (v := ?_) (a' := ?_) #[true, true, false, true, false, false, false] rfl rfl (by kernel_rfl) (fun _ _ _ h => h) (Or.inl ⟨by rfl, ?_⟩) hHeld ?_ ?_
          rotate_left
          · rintro w' ⟨s0, s1, s2⟩
            refine Lds.run s0 (x := ?_) ?_ ?_
            · exact (Operand.tmp 96)
            · rfl
            · rfl
          rotate_left
          · simp only [Act.put, List.setIfInBounds_toArray, List.set_cons_zero, List.set_cons_succ]
            rfl
          refine take_ (i := 2) (N := some 98) (v := ?_) (a' := ?_) #[true, true, true, true, false, false, false] rfl rfl (by kernel_rfl) (fun _ _ _ h => h) (Or.inl ⟨by rfl, ?_⟩) hHeld ?_ ?_
          rotate_left
          · rintro w' ⟨s0, s1, s2⟩
            refine Lds.run s1 (x := ?_) ?_ ?_
            · exact (Operand.tmp 12)
            · rfl
            · rfl
          rotate_left
          · simp only [Act.put, List.setIfInBounds_toArray, List.set_cons_zero, List.set_cons_succ]
            rfl
          refine take_ (i := 4) (N := some 100) (v := ?_) (a' := ?_) #[true, true, true, true, true, false, false] rfl rfl (by kernel_rfl) (fun _ _ _ h => h) (Or.inl ⟨by rfl, ?_⟩) hHeld ?_ ?_
          rotate_left
          · rintro w' ⟨s0, s1, s2⟩
            refine Lds.run s2 (x := ?_) ?_ ?_
            · exact (Operand.tmp 99)
            · rfl
            · rfl
          rotate_left
          · simp only [Act.put, List.setIfInBounds_toArray, List.set_cons_zero, List.set_cons_succ]
            rfl
          refine one_ (i := 5) (N := some 101) #[true, true, true, true, true, true, false] rfl rfl (by kernel_rfl) (by decide) (fun K hK => ?_)
          refine goesSum_ (Operand.tmp 100) (by rfl) rfl rfl (.iface t4 u4) (by rfl) (Nd.sum (nodeL s) (.join (.giv x) (C j).n)) (sums_of HS.out (HN1d.out.kept (Fr.refl _ _).drew)) (fun a1 hf1 => ?_)
          refine hK.out _ _ ⟨lds_map ((H14d.out.drew.fr hf1 (fun h => h)).cell 2 _ rfl), lds_agg Tryd.underlying91 rfl (by kernel_rfl) (blk_range (H12d.out.drew.fr hf1 (fun h => h))), lds_nod ((H14d.out.drew.fr hf1 (fun h => h)).cell 0 _ rfl)⟩ (fun hHeld => ?_)
          clear hK K
          refine norm_ (a' := ?_) ?_ ?_
          rotate_left
          · show Act.put _ (some 101) _ = _
            simp only [Act.put, List.setIfInBounds_toArray, List.set_cons_zero, List.set_cons_succ]
            rfl
          refine last_ (i := 6) (N := none) #[true, true, true, true, true, true, true] rfl rfl (by kernel_rfl) (by decide) (fun K hK => ?_)
          obtain ⟨wz, hrz, hMz, hfz⟩ := (HMBd.out.keep ((Fr.refl (fun _ => False) _).drew.trans hf1 (fun _ _ h => h)) (fun h => h)).update (x := sa) (y := (C j).y) (by have := H48.out; have := HRL.out; have := HQS.out; omega) (HSB.out.1) ((HCX.out j).2) (Nd.sum (nodeL s) (.join (.giv x) (C j).n))
          refine skip_ (by rfl) rfl (upd_map _ _ a1 wz (Operand.tmp 97) (Operand.tmp 98) (Operand.tmp 101) _ _ _ rfl rfl rfl rfl hrz) ?_
          refine hK.out _ _ ?_
          clear hK K
          refine done_ (by kernel_rfl) ?_
          have H14y := Kp.mk (H14d.out.fr ((Fr.refl (fun _ => False) _).drew.trans hf1 (fun _ _ h => h)) (fun h => h))
          have H12y := Kp.mk (H12d.out.fr ((Fr.refl (fun _ => False) _).drew.trans hf1 (fun _ _ h => h)) (fun h => h))
          have H16y := Kp.mk (H16d.out.fr ((Fr.refl (fun _ => False) _).drew.trans hf1 (fun _ _ h => h)) (fun h => h))
          have HN1y := Kp.mk (HN1d.out.kept ((Fr.refl (fun _ => False) _).drew.trans hf1 (fun _ _ h => h)))
          have HN2y := Kp.mk (HN2d.out.kept ((Fr.refl (fun _ => False) _).drew.trans hf1 (fun _ _ h => h)))
          have HMBy := Kp.mk (HMBd.out.keep ((Fr.refl (fun _ => False) _).drew.trans hf1 (fun _ _ h => h)) (fun h => h))
          have HFry := Kp.mk (HFrd.out.trans ((Fr.refl (fun _ => False) _).drew.trans hf1 (fun _ _ h => h)) (fun q hq e => e.elim))
          have HFwy := Kp.mk (HFW.out _ HFry.out)
          clear H14d H12d H16d HN1d HN2d HMBd HFrd HFwd
          have H14e := Kp.mk (H14y.out.fr hfz (HMBy.out.not_cells H14y.out))
          have H12e := Kp.mk (H12y.out.fr hfz (HMBy.out.not_cells H12y.out))
          have H16e := Kp.mk (H16y.out.fr hfz (HMBy.out.not_cells H16y.out))
          have HN1e := Kp.mk (HN1y.out.keep hfz (fun q cur hc e => HMBy.out.not_cells hc e))
          have HN2e := Kp.mk (HN2y.out.keep hfz (fun q cur hc e => HMBy.out.not_cells hc e))
          have HMBe := Kp.mk (hMz)
          have HFre := Kp.mk (HFry.out.trans hfz (fun q hq e => .inr (.inr e)))
          have HFwe := Kp.mk (HFW.out _ HFre.out)
          clear H14y H12y H16y HN1y HN2y HMBy HFry HFwy
          clear hHeld hf1 hrz hMz hfz
          go_wp2_with (fail)
          first
            | refine ⟨⟨j + 1, t4, t3, u4, u3, by go_num, hlt, ⟨H14e.out⟩, ⟨by rw [HCn.out]; exact H12e.out⟩, ⟨by rw [HCn.out]; exact HN1e.out⟩, ⟨by rw [HOn.out]; exact HN2e.out⟩, ⟨by rw [HCn.out]; exact HMBe.out⟩, HFre⟩, ?_⟩
            | refine ⟨⟨_, _, _, ⟨j + 1, by go_num, hlt, t4, t3, u4, u3, ⟨H14e.out⟩, ⟨by rw [HCn.out]; exact H12e.out⟩, ⟨by rw [HCn.out]; exact HN1e.out⟩, ⟨by rw [HOn.out]; exact HN2e.out⟩, ⟨by rw [HCn.out]; exact HMBe.out⟩⟩, rfl, rfl, rfl⟩, ?_⟩
            | refine ⟨⟨_, _, _, ⟨j + 1, by go_num, hlt, t4, t3, u4, u3, ⟨H14e.out⟩, ⟨by rw [HCn.out]; exact H12e.out⟩, ⟨by rw [HCn.out]; exact HN1e.out⟩, ⟨by rw [HOn.out]; exact HN2e.out⟩, ⟨by rw [HCn.out]; exact HMBe.out⟩, HFre⟩, rfl, rfl, rfl⟩, ?_⟩
          simp only [intOf]
          omega
        · go_upto_region 11 with (fail)
          clear c162
          refine start_ (n := 12) (S := fun w' => Lds w' 98 (.pointer (some ⟨g14, 0, none⟩)) (.iface t1 u1) ∧ Lds w' 29 (.pointer (some ⟨bX, oX + j * 32, none⟩)) (.agg (bytes x).toArray)) (ds := [11]) #[false, false, false, false, false, false, false, false, false, false, false, false] (by kernel_rfl) rfl rfl ⟨lds_nod (H14a.out.drew.cell 0 _ rfl), LX.out _ HFwa.out.drew⟩ (fun hHeld => ?_)
          refine pure_ (i := 0) (N := some 55) (v := ?_) (a' := ?_) #[true, false, false, false, false, false, false, false, false, false, false, false] rfl rfl (by kernel_rfl) (fun _ _ _ h => h) (Or.inl ⟨by rfl, ?_⟩) ?_ ?_
          rotate_left
          · intro w'
            go_simp
            with_reducible rfl
          rotate_left
          · simp only [Act.put, List.setIfInBounds_toArray, List.set_cons_zero, List.set_cons_succ]
            rfl
          refine pure_ (i := 1) (N := some 56) (v := ?_) (a' := ?_) #[true, true, false, false, false, false, false, false, false, false, false, false] rfl rfl (by kernel_rfl) (fun _ _ _ h => h) (Or.inl ⟨by rfl, ?_⟩) ?_ ?_
          rotate_left
          · intro w'
            go_simp
            with_reducible rfl
          rotate_left
          · simp only [Act.put, List.setIfInBounds_toArray, List.set_cons_zero, List.set_cons_succ]
            rfl
          refine pure_ (i := 3) (N := some 58) (v := ?_) (a' := ?_) #[true, true, false, true, false, false, false, false, false, false, false, false] rfl rfl (by kernel_rfl) (fun _ _ _ h => h) (Or.inl ⟨by rfl, ?_⟩) ?_ ?_
          rotate_left
          · intro w'
            go_simp
            with_reducible rfl
          rotate_left
          · simp only [Act.put, List.setIfInBounds_toArray, List.set_cons_zero, List.set_cons_succ]
            rfl
          refine pure_ (i := 4) (N := some 59) (v := ?_) (a' := ?_) #[true, true, false, true, true, false, false, false, false, false, false, false] rfl rfl (by kernel_rfl) (fun _ _ _ h => h) (Or.inl ⟨by rfl, ?_⟩) ?_ ?_
          rotate_left
          · intro w'
            go_simp
            with_reducible rfl
          rotate_left
          · simp only [Act.put, List.setIfInBounds_toArray, List.set_cons_zero, List.set_cons_succ]
            rfl
          refine pure_ (i := 5) (N := some 60) (v := ?_) (a' := ?_) #[true, true, false, true, true, true, false, false, false, false, false, false] rfl rfl (by kernel_rfl) (fun _ _ _ h => h) (Or.inl ⟨by rfl, ?_⟩) ?_ ?_
          rotate_left
          · intro w'
            go_simp
            with_reducible rfl
          rotate_left
          · simp only [Act.put, List.setIfInBounds_toArray, List.set_cons_zero, List.set_cons_succ]
            rfl
          refine take_ (i := 2) (N := some 57) (v := ?_) (a' := ?_) #[true, true, true, true, true, true, false, false, false, false, false, false] rfl rfl (by kernel_rfl) (fun _ _ _ h => h) (Or.inl ⟨by rfl, ?_⟩) hHeld ?_ ?_
          rotate_left
          · rintro w' ⟨s0, s1⟩
            refine Lds.run s0 (x := ?_) ?_ ?_
            · exact (Operand.tmp 56)
            · rfl
            · rfl
          rotate_left
          · simp only [Act.put, List.setIfInBounds_toArray, List.set_cons_zero, List.set_cons_succ]
            rfl
          refine take_ (i := 6) (N := some 61) (v := ?_) (a' := ?_) #[true, true, true, true, true, true, true, false, false, false, false, false] rfl rfl (by kernel_rfl) (fun _ _ _ h => h) (Or.inl ⟨by rfl, ?_⟩) hHeld ?_ ?_
          rotate_left
          · rintro w' ⟨s0, s1⟩
            refine Lds.run s1 (x := ?_) ?_ ?_
            · exact (Operand.tmp 60)
            · rfl
            · rfl
          rotate_left
          · simp only [Act.put, List.setIfInBounds_toArray, List.set_cons_zero, List.set_cons_succ]
            rfl
          refine pure_ (i := 7) (N := some 62) (v := ?_) (a' := ?_) #[true, true, true, true, true, true, true, true, false, false, false, false] rfl rfl (by kernel_rfl) (fun _ _ _ h => h) (Or.inl ⟨by rfl, ?_⟩) ?_ ?_
          rotate_left
          · intro w'
            refine bld_given _ _ (Operand.tmp 61) x HX32.out w' ?_ ?_
            · rfl
            · rfl
          rotate_left
          · simp only [Act.put, List.setIfInBounds_toArray, List.set_cons_zero, List.set_cons_succ]
            rfl
          refine pure_ (i := 8) (N := some 63) (v := ?_) (a' := ?_) #[true, true, true, true, true, true, true, true, true, false, false, false] rfl rfl (by kernel_rfl) (fun _ _ _ h => h) (Or.inl ⟨by rfl, ?_⟩) ?_ ?_
          rotate_left
          · intro w'
            go_simp
            with_reducible rfl
          rotate_left
          · simp only [Act.put, List.setIfInBounds_toArray, List.set_cons_zero, List.set_cons_succ]
            rfl
          refine one_ (i := 9) (N := some 64) #[true, true, true, true, true, true, true, true, true, true, false, false] rfl rfl (by kernel_rfl) (by decide) (fun K hK => ?_)
          refine goes_ Tryd.func75 (by kernel_rfl) rfl #[.int .i64 k, .iface t1 u1, .iface 141 (.agg (bytes x).toArray)] (by rfl) rfl rfl (by simp only [List.map_toArray, List.map_cons, List.map_nil]; rfl) ?_
          with_reducible refine (CJ.out (C j).n (.giv x) _ _ _ HFwa.out.drew (HN1a.out.kept (Fr.refl _ _).drew) (nd_giv HX32.out)).mono ?_
          rintro e a1 ⟨v3, rfl, hv3, hf1⟩
          refine ⟨_, rfl, ?_⟩
          obtain ⟨t3, u3, rfl⟩ := hv3.iface
          refine hK.out _ _ ⟨lds_nod ((H14a.out.drew.fr hf1 (fun h => h)).cell 0 _ rfl), LX.out _ (HFwa.out.drew.trans hf1 (fun _ _ h => h))⟩ (fun hHeld => ?_)
          clear hK K
          refine norm_ (a' := ?_) ?_ ?_
          rotate_left
          · show Act.put _ (some 64) _ = _
            simp only [Act.put, List.setIfInBounds_toArray, List.set_cons_zero, List.set_cons_succ]
            rfl
          refine pure_ (i := 10) (N := some 65) (v := ?_) (a' := ?_) #[true, true, true, true, true, true, true, true, true, true, true, false] rfl rfl (by kernel_rfl) (fun _ _ _ h => h) (Or.inl ⟨by rfl, ?_⟩) ?_ ?_
          rotate_left
          · intro w'
            go_simp
            with_reducible rfl
          rotate_left
          · simp only [Act.put, List.setIfInBounds_toArray, List.set_cons_zero, List.set_cons_succ]
            rfl
          refine last_ (i := 11) (N := none) #[true, true, true, true, true, true, true, true, true, true, true, true] rfl rfl (by kernel_rfl) (by decide) (fun K hK => ?_)
          refine skip_ (by rfl) rfl (st_nod _ _ (Operand.tmp 65) (Operand.tmp 64) a1 g14 0 101 t3 u3 _ rfl rfl rfl (H14a.out.drew.fr hf1 (fun h => h)) (by simp)) ?_
          refine hK.out _ _ ?_
          clear hK K
          refine done_ (by kernel_rfl) ?_
          have H14b := Kp.mk (H14a.out.fr ((Fr.refl (fun _ => False) _).drew.trans hf1 (fun _ _ h => h)) (fun h => h))
          have H12b := Kp.mk (H12a.out.fr ((Fr.refl (fun _ => False) _).drew.trans hf1 (fun _ _ h => h)) (fun h => h))
          have H16b := Kp.mk (H16a.out.fr ((Fr.refl (fun _ => False) _).drew.trans hf1 (fun _ _ h => h)) (fun h => h))
          have HN1b := Kp.mk (HN1a.out.kept ((Fr.refl (fun _ => False) _).drew.trans hf1 (fun _ _ h => h)))
          have HN2b := Kp.mk (HN2a.out.kept ((Fr.refl (fun _ => False) _).drew.trans hf1 (fun _ _ h => h)))
          have HMBb := Kp.mk (HMBa.out.keep ((Fr.refl (fun _ => False) _).drew.trans hf1 (fun _ _ h => h)) (fun h => h))
          have HFrb := Kp.mk (HFra.out.trans ((Fr.refl (fun _ => False) _).drew.trans hf1 (fun _ _ h => h)) (fun q hq e => e.elim))
          have HFwb := Kp.mk (HFW.out _ HFrb.out)
          clear H14a H12a H16a HN1a HN2a HMBa HFra HFwa
          have hset : Fr (fun q => q = g14) a1 (a1.setCell ⟨g14, 0, none⟩ (.iface t3 u3)) := Fr.set (S := fun q => q = g14) (a := ⟨g14, 0, none⟩) (Fr.refl (fun q => q = g14) a1) (fun _ => rfl) _
          have hv4 := hv3.keep hset (fun q cur hc e => blk_ne_type H14b.out hc (by decide) e.symm)
          have H14c := Kp.mk (show Blk _ g14 101 [(.iface t3 u3), (.iface t2 u2), .map (some gM)] from H14b.out.set 0 _)
          have H12c := Kp.mk (H12b.out.fr hset (blk_ne_type H12b.out H14b.out (by decide)))
          have H16c := Kp.mk (H16b.out.fr hset (blk_ne_type H16b.out H14b.out (by decide)))
          have HN1c := Kp.mk (hv4)
          have HN2c := Kp.mk (HN2b.out.keep hset (fun q cur hc e => blk_ne_type H14b.out hc (by decide) e.symm))
          have HMBc := Kp.mk (HMBb.out.keep hset (fun e => HMBb.out.not_cells H14b.out e.symm))
          have HFrc := Kp.mk (HFrb.out.trans hset (fun q hq e => .inl e))
          have HFwc := Kp.mk (HFW.out _ HFrc.out)
          clear H14b H12b H16b HN1b HN2b HMBb HFrb HFwb
          clear hHeld hf1 hv3 hv4 hset
          generalize World.setCell a1 _ _ = Wc at H14c H12c H16c HN1c HN2c HMBc HFrc HFwc ⊢
          go_upto_region 12 with (fail)
          have c16 : Wc.cell? ⟨g16, 1, none⟩ = some (.int .i64 (sb : Int)) := H16c.out.cell 1 _ rfl
          have c12 : Wc.cell? ⟨g12, 1, none⟩ = some (.int .i64 ((C j).y : Int)) := H12c.out.cell 1 _ rfl
          have f12 : Wc.frozen? ⟨g12, 1, none⟩ = false := H12c.out.free 1
          go_upto_region 16 with (fail)
          have hset : Fr (fun q => q = g12) Wc (Wc.setCell ⟨g12, 1, none⟩ (.int .i64 (sb : Int))) := Fr.set (S := fun q => q = g12) (a := ⟨g12, 1, none⟩) (Fr.refl (fun q => q = g12) Wc) (fun _ => rfl) _
          have H14d := Kp.mk (H14c.out.fr hset (blk_ne_type H14c.out H12c.out (by decide)))
          have H12d := Kp.mk (show Blk _ g12 91 [.int .i64 ((C j).x : Int), .int .i64 (sb : Int)] from H12c.out.set 1 _)
          have H16d := Kp.mk (H16c.out.fr hset (blk_ne_type H16c.out H12c.out (by decide)))
          have HN1d := Kp.mk (HN1c.out.keep hset (fun q cur hc e => blk_ne_type H12c.out hc (by decide) e.symm))
          have HN2d := Kp.mk (HN2c.out.keep hset (fun q cur hc e => blk_ne_type H12c.out hc (by decide) e.symm))
          have HMBd := Kp.mk (HMBc.out.keep hset (fun e => HMBc.out.not_cells H12c.out e.symm))
          have HFrd := Kp.mk (HFrc.out.trans hset (fun q hq e => .inr (.inl e)))
          have HFwd := Kp.mk (HFW.out _ HFrd.out)
          clear H14c H12c H16c HN1c HN2c HMBc HFrc HFwc
          clear hset c16 c12 f12
          generalize World.setCell Wc _ _ = Wd at H14d H12d H16d HN1d HN2d HMBd HFrd HFwd ⊢
          refine start_ (n := 7) (S := fun w' => Lds w' 99 (.pointer (some ⟨g14, 2, none⟩)) (.map (some gM)) ∧ Lds w' 91 (.pointer (some ⟨g12, 0, none⟩)) (.agg #[.int .i64 ((C j).x : Int), .int .i64 (sb : Int)]) ∧ Lds w' 98 (.pointer (some ⟨g14, 0, none⟩)) (.iface t3 u3)) (ds := [6]) #[false, false, false, false, false, false, false] (by kernel_rfl) rfl rfl ⟨lds_map (H14d.out.drew.cell 2 _ rfl), lds_agg Tryd.underlying91 rfl (by kernel_rfl) (blk_range H12d.out.drew), lds_nod (H14d.out.drew.cell 0 _ rfl)⟩ (fun hHeld => ?_)
          refine pure_ (i := 0) (N := some 96) (v := ?_) (a' := ?_) #[true, false, false, false, false, false, false] rfl rfl (by kernel_rfl) (fun _ _ _ h => h) (Or.inl ⟨by rfl, ?_⟩) ?_ ?_
          rotate_left
          · intro w'
            go_simp
            with_reducible rfl
          rotate_left
          · simp only [Act.put, List.setIfInBounds_toArray, List.set_cons_zero, List.set_cons_succ]
            rfl
          refine pure_ (i := 3) (N := some 99) (v := ?_) (a' := ?_) #[true, false, false, true, false, false, false] rfl rfl (by kernel_rfl) (fun _ _ _ h => h) (Or.inl ⟨by rfl, ?_⟩) ?_ ?_
          rotate_left
          · intro w'
            go_simp
            with_reducible rfl
          rotate_left
          · simp only [Act.put, List.setIfInBounds_toArray, List.set_cons_zero, List.set_cons_succ]
            rfl
          refine take_ (i := 1) (N := some 97) (v := ?_) (a' := ?_) #[true, true, false, true, false, false, false] rfl rfl (by kernel_rfl) (fun _ _ _ h => h) (Or.inl ⟨by rfl, ?_⟩) hHeld ?_ ?_
          rotate_left
          · rintro w' ⟨s0, s1, s2⟩
            refine Lds.run s0 (x := ?_) ?_ ?_
            · exact (Operand.tmp 96)
            · rfl
            · rfl
          rotate_left
          · simp only [Act.put, List.setIfInBounds_toArray, List.set_cons_zero, List.set_cons_succ]
            rfl
          refine take_ (i := 2) (N := some 98) (v := ?_) (a' := ?_) #[true, true, true, true, false, false, false] rfl rfl (by kernel_rfl) (fun _ _ _ h => h) (Or.inl ⟨by rfl, ?_⟩) hHeld ?_ ?_
          rotate_left
          · rintro w' ⟨s0, s1, s2⟩
            refine Lds.run s1 (x := ?_) ?_ ?_
            · exact (Operand.tmp 12)
            · rfl
            · rfl
          rotate_left
          · simp only [Act.put, List.setIfInBounds_toArray, List.set_cons_zero, List.set_cons_succ]
            rfl
          refine take_ (i := 4) (N := some 100) (v := ?_) (a' := ?_) #[true, true, true, true, true, false, false] rfl rfl (by kernel_rfl) (fun _ _ _ h => h) (Or.inl ⟨by rfl, ?_⟩) hHeld ?_ ?_
          rotate_left
          · rintro w' ⟨s0, s1, s2⟩
            refine Lds.run s2 (x := ?_) ?_ ?_
            · exact (Operand.tmp 99)
            · rfl
            · rfl
          rotate_left
          · simp only [Act.put, List.setIfInBounds_toArray, List.set_cons_zero, List.set_cons_succ]
            rfl
          refine one_ (i := 5) (N := some 101) #[true, true, true, true, true, true, false] rfl rfl (by kernel_rfl) (by decide) (fun K hK => ?_)
          refine goesSum_ (Operand.tmp 100) (by rfl) rfl rfl (.iface t3 u3) (by rfl) (Nd.sum (nodeL s) (.join (C j).n (.giv x))) (sums_of HS.out (HN1d.out.kept (Fr.refl _ _).drew)) (fun a1 hf1 => ?_)
          refine hK.out _ _ ⟨lds_map ((H14d.out.drew.fr hf1 (fun h => h)).cell 2 _ rfl), lds_agg Tryd.underlying91 rfl (by kernel_rfl) (blk_range (H12d.out.drew.fr hf1 (fun h => h))), lds_nod ((H14d.out.drew.fr hf1 (fun h => h)).cell 0 _ rfl)⟩ (fun hHeld => ?_)
          clear hK K
          refine norm_ (a' := ?_) ?_ ?_
          rotate_left
          · show Act.put _ (some 101) _ = _
            simp only [Act.put, List.setIfInBounds_toArray, List.set_cons_zero, List.set_cons_succ]
            rfl
          refine last_ (i := 6) (N := none) #[true, true, true, true, true, true, true] rfl rfl (by kernel_rfl) (by decide) (fun K hK => ?_)
          obtain ⟨wz, hrz, hMz, hfz⟩ := (HMBd.out.keep ((Fr.refl (fun _ => False) _).drew.trans hf1 (fun _ _ h => h)) (fun h => h)).update (x := (C j).x) (y := sb) (by have := H48.out; have := HRL.out; have := HQS.out; omega) ((HCX.out j).1) (HSB.out.2) (Nd.sum (nodeL s) (.join (C j).n (.giv x)))
          refine skip_ (by rfl) rfl (upd_map _ _ a1 wz (Operand.tmp 97) (Operand.tmp 98) (Operand.tmp 101) _ _ _ rfl rfl rfl rfl hrz) ?_
          refine hK.out _ _ ?_
          clear hK K
          refine done_ (by kernel_rfl) ?_
          have H14y := Kp.mk (H14d.out.fr ((Fr.refl (fun _ => False) _).drew.trans hf1 (fun _ _ h => h)) (fun h => h))
          have H12y := Kp.mk (H12d.out.fr ((Fr.refl (fun _ => False) _).drew.trans hf1 (fun _ _ h => h)) (fun h => h))
          have H16y := Kp.mk (H16d.out.fr ((Fr.refl (fun _ => False) _).drew.trans hf1 (fun _ _ h => h)) (fun h => h))
          have HN1y := Kp.mk (HN1d.out.kept ((Fr.refl (fun _ => False) _).drew.trans hf1 (fun _ _ h => h)))
          have HN2y := Kp.mk (HN2d.out.kept ((Fr.refl (fun _ => False) _).drew.trans hf1 (fun _ _ h => h)))
          have HMBy := Kp.mk (HMBd.out.keep ((Fr.refl (fun _ => False) _).drew.trans hf1 (fun _ _ h => h)) (fun h => h))
          have HFry := Kp.mk (HFrd.out.trans ((Fr.refl (fun _ => False) _).drew.trans hf1 (fun _ _ h => h)) (fun q hq e => e.elim))
          have HFwy := Kp.mk (HFW.out _ HFry.out)
          clear H14d H12d H16d HN1d HN2d HMBd HFrd HFwd
          have H14e := Kp.mk (H14y.out.fr hfz (HMBy.out.not_cells H14y.out))
          have H12e := Kp.mk (H12y.out.fr hfz (HMBy.out.not_cells H12y.out))
          have H16e := Kp.mk (H16y.out.fr hfz (HMBy.out.not_cells H16y.out))
          have HN1e := Kp.mk (HN1y.out.keep hfz (fun q cur hc e => HMBy.out.not_cells hc e))
          have HN2e := Kp.mk (HN2y.out.keep hfz (fun q cur hc e => HMBy.out.not_cells hc e))
          have HMBe := Kp.mk (hMz)
          have HFre := Kp.mk (HFry.out.trans hfz (fun q hq e => .inr (.inr e)))
          have HFwe := Kp.mk (HFW.out _ HFre.out)
          clear H14y H12y H16y HN1y HN2y HMBy HFry HFwy
          clear hHeld hf1 hrz hMz hfz
          go_wp2_with (fail)
          first
            | refine ⟨⟨j + 1, t3, t2, u3, u2, by go_num, hlt, ⟨H14e.out⟩, ⟨by rw [HCn.out]; exact H12e.out⟩, ⟨by rw [HCn.out]; exact HN1e.out⟩, ⟨by rw [HOn.out]; exact HN2e.out⟩, ⟨by rw [HCn.out]; exact HMBe.out⟩, HFre⟩, ?_⟩
            | refine ⟨⟨_, _, _, ⟨j + 1, by go_num, hlt, t3, t2, u3, u2, ⟨H14e.out⟩, ⟨by rw [HCn.out]; exact H12e.out⟩, ⟨by rw [HCn.out]; exact HN1e.out⟩, ⟨by rw [HOn.out]; exact HN2e.out⟩, ⟨by rw [HCn.out]; exact HMBe.out⟩⟩, rfl, rfl, rfl⟩, ?_⟩
            | refine ⟨⟨_, _, _, ⟨j + 1, by go_num, hlt, t3, t2, u3, u2, ⟨H14e.out⟩, ⟨by rw [HCn.out]; exact H12e.out⟩, ⟨by rw [HCn.out]; exact HN1e.out⟩, ⟨by rw [HOn.out]; exact HN2e.out⟩, ⟨by rw [HCn.out]; exact HMBe.out⟩, HFre⟩, rfl, rfl, rfl⟩, ?_⟩
          simp only [intOf]
          omega
      · obtain rfl : j = q := by omega
        have HFwr := Kp.mk (HFW.out _ HFrr.out)
        have H10r := Kp.mk (H107.out.fr HFrr.out (fun e => by
          have h1 := HL10.out
          have h2 := HG147.out
          have h3 := HGM7.out
          rcases e with e | e | e
          · omega
          · exact N1012.out e
          · omega))
        obtain ⟨m1, m2⟩ := mid_two H14r.out
        have hfz := fr_setCells g10 [.iface t1 u1, .iface t2 u2, .map (some gM)] 0 wr
        have hbz := blk_put H10r.out (ys := [.iface t1 u1, .iface t2 u2, .map (some gM)]) rfl
        have Hfz := Kp.mk hfz
        have Hbz := Kp.mk hbz
        clear hfz hbz
        go_wp2_with (refine wpList_storeT rfl rfl 101 (Operand.tmp 10) (Operand.tmp 103) rfl g10 0 [.iface t1 u1, .iface t2 u2, .map (some gM)] rfl rfl (blk_there H10r.out 0 _ (Nat.le_refl 3)) (by kernel_rfl) (by simp [Value.oneCell']) ?_)
        refine bodyPost_ret (results_cell1 rfl _ _ g10 101 _ (0, 0) _ rfl (show (World.setCells wr g10 0 [.iface t1 u1, .iface t2 u2, .map (some gM)]).heap[g10]? = some (.cells ([.iface t1 u1, .iface t2 u2, .map (some gM)] : List Value).toArray 101 (0, 0)) from Hbz.out) Tryd.underlying101 rfl (by kernel_rfl)) rfl ?_
        refine ⟨.iface t1 u1, .iface t2 u2, gM, j + 1, rfl, ?_, ?_, ?_, by omega, ?_, ?_⟩
        · rw [← HCE.out.1]
          exact HN1r.out.keep Hfz.out (fun q cur hc e => blk_ne_type H10r.out hc (by decide) e.symm)
        · rw [← HCE.out.2.2]
          exact HN2r.out.keep Hfz.out (fun q cur hc e => blk_ne_type H10r.out hc (by decide) e.symm)
        · rw [← HCE.out.2.1]
          exact HMBr.out.keep Hfz.out (fun e => HMBr.out.not_cells H10r.out e.symm)
        · have h1 := HGM7.out
          have h2 := HF7.out.size
          have h3 := HSZ.out
          omega
        · exact HFwr.out.trans (S := (fun _ => False)) Hfz.out (fun q hq e => by have := HG10.out; omega)
    )
end Go.Proofs.YtjcmgpiapbeodaaDoor.Sha
