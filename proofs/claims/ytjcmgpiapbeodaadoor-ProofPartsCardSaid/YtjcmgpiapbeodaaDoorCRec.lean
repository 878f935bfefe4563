/-
  climbed, ClimbRecord, CheckRecord. ClimbRecord, CheckRecord.
-/
import Derived.Test.YtjcmgpiapbeodaaDoorNodes
import Derived.Test.YtjcmgpiapbeodaaDoorReg
set_option linter.unusedSimpArgs false
set_option linter.unusedVariables false
namespace Go.Proofs.YtjcmgpiapbeodaaDoor.Sha
open Go.Proofs.YtjcmgpiapbeodaaDoor.Pf Go.Proofs.YtjcmgpiapbeodaaDoor.Len Go.Proofs.YtjcmgpiapbeodaaDoor.PProofTakes
open Go.RowKit Go.Proofs.YtjcmgpiapbeodaaDoor.Mem Go.Proofs.YtjcmgpiapbeodaaDoorW.PrintWords Go.Proofs.YtjcmgpiapbeodaaDoorW.PrintLast Go.Proofs.YtjcmgpiapbeodaaDoor.Pl Go.Proofs.YtjcmgpiapbeodaaDoor.Wk
attribute [local go_sem ↓] Go.wp_at_zero Go.wp_at_succ wp_load_hash wp_store_hash wp_load_mid23 wp_load_mid25 wp_store_mid25 wp_build_hash
attribute [local go_sem] rowAt_drew rowOk_drew midOk_drew midAt_drew rowBlock rowCells rowOff midFree_drew
theorem inf_node : (Tryd.prog.info? 98).map (fun i => (i.size, i.bytes)) = some (1, 16) := by kernel_rfl
theorem zer_node : ((Tryd.prog.info? 98).bind (·.zero)).map (·.cells.size) = some 1 := by kernel_rfl
theorem el_node : El 110 98 1 16 := by
  refine ⟨Tryd.underlying110, ?_, by decide⟩
  have h1 := inf_node
  have h2 := zer_node
  cases hi : Tryd.prog.info? 98 with
  | none => rw [hi] at h1; cases h1
  | some i =>
    rw [hi] at h1 h2
    simp only [Option.map_some, Option.some.injEq, Prod.mk.injEq] at h1
    cases hz : i.zero with
    | none => simp [hz] at h2
    | some z =>
      simp only [Option.bind_some, hz, Option.map_some, Option.some.injEq] at h2
      exact ⟨i, z, rfl, hz, h1.1, h1.2, h2⟩
/-- a list of nodes in memory -/
inductive NRows (w : World) (s : Nat) : List (List Value) → List Nd → Prop
  | nil : NRows w s [] []
  | cons {v : Value} {n : Nd} {rows : List (List Value)} {nds : List Nd} : NdAt w s n v → NRows w s rows nds → NRows w s ([v] :: rows) (n :: nds)
theorem NRows.keep {w w1 : World} {s : Nat} {S : Nat → Prop} (hf : Fr S w w1) (hs : ∀ k cur, w.heap[k]? = some (.cells cur 145 (0, 0)) → ¬ S k) : ∀ {rows : List (List Value)} {nds : List Nd}, NRows w s rows nds → NRows w1 s rows nds
  | _, _, .nil => .nil
  | _, _, .cons h r => .cons (h.keep hf hs) (NRows.keep hf hs r)
theorem NRows.len {w : World} {s : Nat} : ∀ {rows : List (List Value)} {nds : List Nd}, NRows w s rows nds → rows.length = nds.length
  | _, _, .nil => rfl
  | _, _, .cons _ r => by rw [List.length_cons, List.length_cons, NRows.len r]
theorem NRows.push {w : World} {s : Nat} {n : Nd} {v : Value} (hv : NdAt w s n v) : ∀ {rows : List (List Value)} {nds : List Nd}, NRows w s rows nds → NRows w s (rows ++ [[v]]) (nds ++ [n])
  | _, _, .nil => .cons hv .nil
  | _, _, .cons h r => .cons h (NRows.push hv r)
theorem NRows.at {w : World} {s : Nat} : ∀ {rows : List (List Value)} {nds : List Nd}, NRows w s rows nds → ∀ (i : Nat) (n : Nd), nds[i]? = some n → ∃ v, rows[i]? = some [v] ∧ NdAt w s n v
  | _, _, .nil, i, n, h => by simp at h
  | _, _, .cons hv r, 0, n, h => by
    have h := Option.some.inj h
    subst h
    exact ⟨_, rfl, hv⟩
  | _, _, .cons _ r, i + 1, n, h => NRows.at r i n h
theorem take_succ_of {α : Type} {L : List α} {j : Nat} {x : α} (h : L[j]? = some x) : L.take (j + 1) = L.take j ++ [x] := by
  rw [List.take_add_one, h]; rfl
set_option maxHeartbeats 4000000 in
set_option maxRecDepth 100000 in
theorem climbed_calls (k : Int) (A : Option Addr) (c : Nat) (p : List (List Int)) (vw : Value) (base : Nat) (ws : List Pf.St) (leaf : List Int) (w : World) (hL : Laid w) (hX : HRow w (fun _ => False) A c p) (hWy : ROwn 95 3 w base vw (ws.map stC)) (hl : ws.length = p.length) (h49 : ws.length ≤ 49) (hlf : leaf.length = 32) :
    Calls Tryd.prog 51 #[.int .i64 k, .slice A p.length c, vw, .agg (bytes leaf).toArray] w fun e w' =>
      ∃ v rows, e = .returned v ∧ ROwn 98 1 w' w.heap.size v rows ∧ NRows w' (strength k) rows (nodes (.giv leaf) ws p) ∧ Fr (fun _ => False) w w' := by
  obtain ⟨Aw, cw, hvw⟩ := hWy.slice
  subst hvw
  have HL0 := Kp.mk hL
  have HX := Kp.mk hX
  have HWY0 := Kp.mk hWy
  have HLF := Kp.mk hlf
  have hbg := built_given (bytes leaf) (by rw [bytes_length, hlf])
  have HWL : Kp ((ws.map stC).length = ws.length) := ⟨List.length_map _⟩
  rw [HWL.out] at HWY0 ⊢
  obtain ⟨n, hn⟩ : ∃ n, n = p.length := ⟨_, rfl⟩
  obtain ⟨m, hm⟩ : ∃ m, m = ws.length := ⟨_, rfl⟩
  have HN := Kp.mk hn
  have HM := Kp.mk hm
  have hnm : m ≤ n ∧ n ≤ m := by omega
  rw [← hm] at HWY0 h49 ⊢
  rw [← hn]
  clear hL hX hWy hlf hl hn hm HWL
  go_enter Tryd.func51, Tryd.ntmps51
  go_upto_region 1 with (fail)
  obtain ⟨g7, hg7⟩ : ∃ g7, g7 = w.heap.size := ⟨_, rfl⟩
  obtain ⟨W1, hW1⟩ : ∃ W1, W1 = w.alloc (.cells (bytes leaf).toArray 29) := ⟨_, rfl⟩
  have H7 : Kp (Blk W1 g7 29 (bytes leaf)) := ⟨by rw [hW1, hg7]; exact Blk.new w _ _⟩
  have HF : Kp (Fr (fun _ => False) w W1) := ⟨by rw [hW1]; exact (Fr.refl _ w).alloc _⟩
  rw [← hg7, ← hW1]
  clear hg7 hW1
  have hi32 : (Tryd.prog.info? 29).map (·.size) = some 32 := by kernel_rfl
  have hln : Kp ((bytes leaf).length = 32) := ⟨by rw [bytes_length, HLF.out]⟩
  have H7r := Kp.mk (blk_range H7.out)
  go_upto_region 2 with (first
    | refine wpList_load_mid rfl 29 _ rfl g7 0 rfl (bytes leaf) _ H7r.out Tryd.underlying29 rfl (by rw [hln.out]; exact hi32) ?_
    | refine wpList_build rfl 141 _ rfl #[(0, .agg (bytes leaf).toArray)] (by simp only [List.map_toArray, List.map_cons, List.map_nil]; rfl) _ hbg ?_)
  obtain ⟨g9, hg9⟩ : ∃ g9, g9 = W1.heap.size := ⟨_, rfl⟩
  obtain ⟨W2, hW2⟩ : ∃ W2, W2 = W1.alloc (.cells #[.iface 141 (.agg (bytes leaf).toArray)] 98) := ⟨_, rfl⟩
  have HO : Kp (ROwn 98 1 W2 w.heap.size (.slice (some ⟨g9, 0, none⟩) 1 1) [[.iface 141 (.agg (bytes leaf).toArray)]]) := ⟨by rw [hW2, hg9]; exact ROwn.one W1 98 1 [.iface 141 (.agg (bytes leaf).toArray)] ⟨rfl, fun u hu => by rw [List.mem_singleton.1 hu]; rfl⟩ w.heap.size HF.out.size⟩
  have HF2 : Kp (Fr (fun _ => False) w W2) := ⟨by rw [hW2]; exact HF.out.alloc _⟩
  have c9 : W2.cell? ⟨g9, 0, none⟩ = some (.iface 141 (.agg (bytes leaf).toArray)) := by
    have h := HO.out.cell 0 0 _ (by simp) rfl
    rwa [Nat.zero_mul, Nat.zero_add] at h
  rw [← hg9, ← hW2]
  have HG0 : Kp (NdAt W2 (strength k) (.giv leaf) (.iface 141 (.agg (bytes leaf).toArray))) := ⟨HLF.out, rfl⟩
  clear hg9 hW2 HF H7 H7r hbg
  have CJ : Kp (∀ (l r : Nd) (vl vr : Value) (W : World), Fr (fun _ => False) w W → NdAt W (strength k) l vl → NdAt W (strength k) r vr → Calls Tryd.prog 75 #[.int .i64 k, vl, vr] W fun e w' => ∃ v, e = .returned v ∧ NdAt w' (strength k) (.join l r) v ∧ Fr (fun _ => False) W w') :=
    ⟨fun l r vl vr W hf h1 h2 => pjoin_calls k l r vl vr W (HL0.out.fr hf (fun _ h => h.elim)) h1 h2⟩
  obtain ⟨s, hs⟩ : ∃ s, s = strength k := ⟨_, rfl⟩
  rw [← hs] at CJ HG0
  have HS := Kp.mk hs
  clear hs HL0
  go_wp2_with fail
  go_loopw [9, 10, 22] (fun v a i wr => ∃ (j : Nat) (rows : List (List Value)), i = .int .i64 (j : Int) ∧ j ≤ m ∧ Kp (NdAt wr s (top (.giv leaf) (ws.take j) (p.take j)) a) ∧ Kp (ROwn 98 1 wr w.heap.size v rows) ∧ Kp (NRows wr s rows (nodes (.giv leaf) (ws.take j) (p.take j))) ∧ Kp (Fr (fun _ => False) w wr)) (fun _ _ i _ => m - (intOf i).toNat)
  case atStart => exact ⟨0, _, rfl, Nat.zero_le _, HG0, HO, ⟨.cons HG0.out .nil⟩, HF2⟩
  case round =>
    clear HO HF2 HG0 c9
    obtain ⟨j, rows, rfl, hj, HAT, HO, HNR, HF⟩ := hrel
    by_cases hlt : j < m
    · have HWY := Kp.mk (HWY0.out.keep HF.out (fun _ _ h => h))
      have hjw : j < ws.length := by rw [← HM.out]; exact hlt
      have hjp : j < p.length := by rw [← HN.out]; omega
      obtain ⟨gw, cw', hA, hz1, hz2⟩ := HWY.out.form (by rw [List.length_map]; omega)
      simp only [Value.slice.injEq] at hA
      obtain ⟨rfl, hz3, hz4⟩ := hA
      clear hz1 hz2 hz3 hz4
      have HT1 := Kp.mk (take_succ_of (List.getElem?_eq_getElem hjw))
      have HT2 := Kp.mk (take_succ_of (List.getElem?_eq_getElem hjp))
      have HSr : Kp (wr.rangeAt gw (j * 3) (stC ws[j])) := ⟨fun q u hu => HWY.out.cell j q u (by rw [List.length_map]; exact hjw) (by rw [List.getElem_map]; exact hu)⟩
      obtain ⟨bX, oX, hAX, hz1, hz2, hz3⟩ := HX.out.at j hjp
      clear hz1 hz2 hz3
      have hx32 := HX.out.1 _ (List.getElem_mem hjp)
      have HXm : Kp (∀ W, Fr (fun _ => False) wr W → midOk W 32 (.pointer (some ⟨bX, oX + j * 32, none⟩)) = true ∧ midAt W 32 (.pointer (some ⟨bX, oX + j * 32, none⟩)) = (bytes p[j]).toArray) := ⟨fun W hf => by
        have h := ((HX.out.fr HF.out).fr hf)
        rw [hAX] at h
        exact h.mid j hjp⟩
      subst hAX
      generalize ws[j] = st at HT1 HSr
      generalize p[j] = x at HT2 HXm hx32
      obtain ⟨sa, sb, sr⟩ := st
      have HX32 := Kp.mk hx32
      have hbx := built_given (bytes x) (by rw [bytes_length, hx32])
      have hi3 : (Tryd.prog.info? 95).map (·.size) = some 3 := by kernel_rfl
      clear hjw hjp hx32 HWY
      have hjn : j < n := by omega
      go_upto_region 6 with (refine wpList_load_mid rfl 95 _ rfl gw (j * 3) rfl [.int .i64 (sa : Int), .int .i64 (sb : Int), .bool sr] _ HSr.out Tryd.underlying95 rfl hi3 ?_)
      obtain ⟨g12, hg12⟩ : ∃ g12, g12 = wr.heap.size := ⟨_, rfl⟩
      obtain ⟨W2, hW2⟩ : ∃ W2, W2 = wr.alloc (.cells #[.int .i64 (sa : Int), .int .i64 (sb : Int), .bool sr] 95) := ⟨_, rfl⟩
      have H12 : Blk W2 g12 95 [.int .i64 (sa : Int), .int .i64 (sb : Int), .bool sr] := by rw [hW2, hg12]; exact Blk.new wr _ _
      have hfa : Fr (fun _ => False) wr W2 := by rw [hW2]; exact (Fr.refl _ wr).alloc _
      rw [← hg12, ← hW2]
      have c12 : W2.cell? ⟨g12, 2, none⟩ = some (.bool sr) := H12.cell 2 _ rfl
      obtain ⟨m1, m2⟩ := HXm.out W2 hfa
      have HATn := Kp.mk (HAT.out.kept hfa)
      have HOn := Kp.mk (HO.out.keep hfa (fun _ _ h => h))
      have HNRn := Kp.mk (HNR.out.keep hfa (fun _ _ _ h => h))
      have HF2 := Kp.mk (HF.out.trans hfa (fun _ _ h => h))
      clear hg12 hW2 H12 hfa HAT HO HNR HF HXm HSr
      have HAT := HATn
      have HO := HOn
      have HNR := HNRn
      clear HATn HOn HNRn
      cases sr
      · go_wp2_with (refine wpList_build rfl 141 _ rfl #[(0, .agg (bytes x).toArray)] (by simp only [List.map_toArray, List.map_cons, List.map_nil]; rfl) _ hbx ?_)
        refine (CJ.out (.giv x) _ (.iface 141 (.agg (bytes x).toArray)) _ _ HF2.out ⟨HX32.out, rfl⟩ HAT.out).mono ?_
        rintro e W3 ⟨v3, rfl, hv3, hf⟩
        have HF3 := Kp.mk (HF2.out.trans hf (fun _ _ h => h))
        have HO3 := Kp.mk (HO.out.keep hf (fun _ _ h => h))
        have HNR3 := Kp.mk (HNR.out.keep hf (fun _ _ _ h => h))
        have HV3 := Kp.mk hv3
        obtain ⟨t3, u3, rfl⟩ := hv3.iface
        have HRL := Kp.mk (HNR3.out.len)
        have HNL := Kp.mk (nodes_len (ws.take j) (p.take j) (.giv leaf) (by rw [List.length_take, List.length_take, ← HM.out, ← HN.out]; omega))
        clear hv3 hf HF2 HO HNR HAT m1 m2 hbx
        go_wp2_with (at_builtin; refine wpList_appendR1 el_node rfl _ _ rfl rfl w.heap.size _ _ rfl HO3.out [.iface t3 u3] ⟨rfl, fun u hu => by rw [List.mem_singleton.1 hu]; rfl⟩ rfl (by have h1 := HRL.out; have h2 := HNL.out; rw [List.length_take] at h2; omega) (by have h1 := HRL.out; have h2 := HNL.out; rw [List.length_take] at h2; omega) HF3.out.size ?_; intro v6 W6 hO6 hF6 hat6; have HO6 := Kp.mk hO6; have HF6 := Kp.mk hF6; clear hO6 hF6 hat6)
        have hty : ∀ (q : Nat) (cur : Array Value), W3.heap[q]? = some (.cells cur 145 (0, 0)) → ¬ (u9.ownBlock = some q) := fun q cur hc e => by
          obtain ⟨cur2, hc2⟩ := HO3.out.type q e
          rw [hc] at hc2
          simp at hc2
        have hts : (ws.take j).length = (p.take j).length := by rw [List.length_take, List.length_take, ← HM.out, ← HN.out]; omega
        have HV6 := Kp.mk (HV3.out.keep HF6.out hty)
        have HNR6 := Kp.mk (HNR3.out.keep HF6.out hty)
        have HFr6 := Kp.mk (HF3.out.trans HF6.out (fun q hq e => by have := (HO3.out.lt q e).2; omega))
        have hup : top (.giv leaf) (ws.take (j + 1)) (p.take (j + 1)) = up (top (.giv leaf) (ws.take j) (p.take j)) ⟨sa, sb, false⟩ x := by rw [HT1.out, HT2.out, top_snoc _ _ _ _ _ hts]
        have hnd : nodes (.giv leaf) (ws.take (j + 1)) (p.take (j + 1)) = nodes (.giv leaf) (ws.take j) (p.take j) ++ [up (top (.giv leaf) (ws.take j) (p.take j)) ⟨sa, sb, false⟩ x] := by rw [HT1.out, HT2.out, nodes_snoc _ _ _ _ _ hts]
        refine ⟨⟨j + 1, _, by go_num, hlt, ⟨by rw [hup]; exact HV6.out⟩, HO6, ⟨by rw [hnd]; exact HNR6.out.push HV6.out⟩, HFr6⟩, ?_⟩
        simp only [intOf]
        omega
      · go_wp2_with (refine wpList_build rfl 141 _ rfl #[(0, .agg (bytes x).toArray)] (by simp only [List.map_toArray, List.map_cons, List.map_nil]; rfl) _ hbx ?_)
        refine (CJ.out _ (.giv x) _ (.iface 141 (.agg (bytes x).toArray)) _ HF2.out HAT.out ⟨HX32.out, rfl⟩).mono ?_
        rintro e W3 ⟨v3, rfl, hv3, hf⟩
        have HF3 := Kp.mk (HF2.out.trans hf (fun _ _ h => h))
        have HO3 := Kp.mk (HO.out.keep hf (fun _ _ h => h))
        have HNR3 := Kp.mk (HNR.out.keep hf (fun _ _ _ h => h))
        have HV3 := Kp.mk hv3
        obtain ⟨t3, u3, rfl⟩ := hv3.iface
        have HRL := Kp.mk (HNR3.out.len)
        have HNL := Kp.mk (nodes_len (ws.take j) (p.take j) (.giv leaf) (by rw [List.length_take, List.length_take, ← HM.out, ← HN.out]; omega))
        clear hv3 hf HF2 HO HNR HAT m1 m2 hbx
        go_wp2_with (at_builtin; refine wpList_appendR1 el_node rfl _ _ rfl rfl w.heap.size _ _ rfl HO3.out [.iface t3 u3] ⟨rfl, fun u hu => by rw [List.mem_singleton.1 hu]; rfl⟩ rfl (by have h1 := HRL.out; have h2 := HNL.out; rw [List.length_take] at h2; omega) (by have h1 := HRL.out; have h2 := HNL.out; rw [List.length_take] at h2; omega) HF3.out.size ?_; intro v6 W6 hO6 hF6 hat6; have HO6 := Kp.mk hO6; have HF6 := Kp.mk hF6; clear hO6 hF6 hat6)
        have hty : ∀ (q : Nat) (cur : Array Value), W3.heap[q]? = some (.cells cur 145 (0, 0)) → ¬ (u9.ownBlock = some q) := fun q cur hc e => by
          obtain ⟨cur2, hc2⟩ := HO3.out.type q e
          rw [hc] at hc2
          simp at hc2
        have hts : (ws.take j).length = (p.take j).length := by rw [List.length_take, List.length_take, ← HM.out, ← HN.out]; omega
        have HV6 := Kp.mk (HV3.out.keep HF6.out hty)
        have HNR6 := Kp.mk (HNR3.out.keep HF6.out hty)
        have HFr6 := Kp.mk (HF3.out.trans HF6.out (fun q hq e => by have := (HO3.out.lt q e).2; omega))
        have hup : top (.giv leaf) (ws.take (j + 1)) (p.take (j + 1)) = up (top (.giv leaf) (ws.take j) (p.take j)) ⟨sa, sb, true⟩ x := by rw [HT1.out, HT2.out, top_snoc _ _ _ _ _ hts]
        have hnd : nodes (.giv leaf) (ws.take (j + 1)) (p.take (j + 1)) = nodes (.giv leaf) (ws.take j) (p.take j) ++ [up (top (.giv leaf) (ws.take j) (p.take j)) ⟨sa, sb, true⟩ x] := by rw [HT1.out, HT2.out, nodes_snoc _ _ _ _ _ hts]
        refine ⟨⟨j + 1, _, by go_num, hlt, ⟨by rw [hup]; exact HV6.out⟩, HO6, ⟨by rw [hnd]; exact HNR6.out.push HV6.out⟩, HFr6⟩, ?_⟩
        simp only [intOf]
        omega
    · obtain rfl : j = m := by omega
      have HE : Kp (NRows wr s rows (nodes (.giv leaf) ws p)) := ⟨by
        have h := HNR.out
        rwa [List.take_of_length_le (by rw [← HM.out]; exact Nat.le_refl _), List.take_of_length_le (by rw [← HN.out]; omega)] at h⟩
      clear HNR HAT hlt
      go_wp2_with fail
      go_ret
      exact ⟨u9, rows, rfl, HO.out, by rw [← HS.out]; exact HE.out, HF.out⟩
end Go.Proofs.YtjcmgpiapbeodaaDoor.Sha
set_option linter.unusedVariables false
namespace Go.Proofs.YtjcmgpiapbeodaaDoor.Sha
open Go.Proofs.YtjcmgpiapbeodaaDoor.Pf Go.Proofs.YtjcmgpiapbeodaaDoor.Len Go.Proofs.YtjcmgpiapbeodaaDoor.PProofTakes
open Go.RowKit Go.Proofs.YtjcmgpiapbeodaaDoor.Mem Go.Proofs.YtjcmgpiapbeodaaDoorW.PrintWords Go.Proofs.YtjcmgpiapbeodaaDoorW.PrintLast Go.Proofs.YtjcmgpiapbeodaaDoor.Pl Go.Proofs.YtjcmgpiapbeodaaDoor.Wk
attribute [local go_sem ↓] Go.wp_at_zero Go.wp_at_succ wp_load_hash wp_store_hash wp_load_mid23 wp_load_mid25 wp_store_mid25 wp_build_hash
attribute [local go_sem] rowAt_drew rowOk_drew midOk_drew midAt_drew rowBlock rowCells rowOff midFree_drew
theorem mid_blk {w : World} {b : Nat} {T : TypeId} {l : List Int} (h : Blk w b T (bytes l)) (hl : l.length = 32) : midOk w 32 (.pointer (some ⟨b, 0, none⟩)) = true ∧ midAt w 32 (.pointer (some ⟨b, 0, none⟩)) = (bytes l).toArray := by
  refine ⟨midOk_blk (o := 0) (n := 32) h (by rw [bytes_length, hl]; decide), ?_⟩
  have h2 := midAt_blk (o := 0) (n := 32) h
  rwa [List.drop_zero, List.take_of_length_le (by rw [bytes_length, hl]; exact Nat.le_refl _)] at h2
/-- may these numbers be? -/
def recOk (n i : Int) : Prop := 1 ≤ n ∧ n ≤ 281474976710656 ∧ 0 ≤ i ∧ i < n
instance (n i : Int) : Decidable (recOk n i) := by unfold recOk; exact inferInstance
/-- to what a record proof leads, and the error -/
def climbR (s : Nat) (n i : Int) (p : List (List Int)) (leaf : List Int) : List Int × Int :=
  if recOk n i then if p.length = (way i.toNat n.toNat).length then ((top (.giv leaf) (way i.toNat n.toNat) p).sum (nodeL s), 0) else (z32, 90) else (z32, 1)
theorem climbR_arg {s : Nat} {n i : Int} {p : List (List Int)} {leaf : List Int} (h : ¬ recOk n i) : climbR s n i p leaf = (z32, 1) := by rw [climbR, if_neg h]
theorem climbR_len {s : Nat} {n i : Int} {p : List (List Int)} {leaf : List Int} (h : recOk n i) (hl : p.length ≠ (way i.toNat n.toNat).length) : climbR s n i p leaf = (z32, 90) := by rw [climbR, if_pos h, if_neg hl]
theorem climbR_yes {s : Nat} {n i : Int} {p : List (List Int)} {leaf : List Int} (h : recOk n i) (hl : p.length = (way i.toNat n.toNat).length) : climbR s n i p leaf = ((top (.giv leaf) (way i.toNat n.toNat) p).sum (nodeL s), 0) := by rw [climbR, if_pos h, if_pos hl]
theorem climbR_32 {s : Nat} (hs : s ≤ 32) {n i : Int} {p : List (List Int)} {leaf : List Int} (hp : ∀ x ∈ p, x.length = 32) (hl : leaf.length = 32) : (climbR s n i p leaf).1.length = 32 := by
  unfold climbR
  split
  · split
    · exact Pf.sum_len (nodeL s) (fun l r => ofL_len s _ hs) (top_ok _ _ _ hl hp)
    · rfl
  · rfl
set_option maxHeartbeats 4000000 in
set_option maxRecDepth 100000 in
theorem ClimbRecord_arg (k : Int) (A : Option Addr) (c : Nat) (p : List (List Int)) (n i : Int) (leaf : List Int) (w : World) (hL : Laid w) (hX : HRow w (fun _ => False) A c p) (hlf : leaf.length = 32) (h : ¬ recOk n i) :
    Calls Tryd.prog 23 #[.int .i64 k, .slice A p.length c, .int .i64 n, .int .i64 i, .agg (bytes leaf).toArray] w fun e w' => e = .returned (.tuple #[.agg (bytes z32).toArray, .int .i64 1]) ∧ Fr (fun _ => False) w w' := by
  obtain ⟨q, hq⟩ : ∃ q, q = p.length := ⟨_, rfl⟩
  rw [← hq]
  clear hq hL hX hlf
  unfold recOk at h
  go_enter Tryd.func23, Tryd.ntmps23
  go_upto_region 1 with (fail)
  obtain ⟨g9, hg9⟩ : ∃ g9, g9 = w.heap.size := ⟨_, rfl⟩
  obtain ⟨g10, hg10⟩ : ∃ g10, g10 = w.heap.size + 1 := ⟨_, rfl⟩
  rw [← hg10, ← hg9]
  obtain ⟨W1, hW1⟩ : ∃ W1, W1 = (w.alloc (.cells (bytes leaf).toArray 29)).alloc (.cells #[.int .u8 0, .int .u8 0, .int .u8 0, .int .u8 0, .int .u8 0, .int .u8 0, .int .u8 0, .int .u8 0, .int .u8 0, .int .u8 0, .int .u8 0, .int .u8 0, .int .u8 0, .int .u8 0, .int .u8 0, .int .u8 0, .int .u8 0, .int .u8 0, .int .u8 0, .int .u8 0, .int .u8 0, .int .u8 0, .int .u8 0, .int .u8 0, .int .u8 0, .int .u8 0, .int .u8 0, .int .u8 0, .int .u8 0, .int .u8 0, .int .u8 0, .int .u8 0] 29) := ⟨_, rfl⟩
  have H9 : Kp (Blk W1 g9 29 (bytes leaf)) := ⟨by rw [hW1, hg9]; exact (Blk.new w _ _).alloc _⟩
  have H10 : Kp (Blk W1 g10 29 [.int .u8 0, .int .u8 0, .int .u8 0, .int .u8 0, .int .u8 0, .int .u8 0, .int .u8 0, .int .u8 0, .int .u8 0, .int .u8 0, .int .u8 0, .int .u8 0, .int .u8 0, .int .u8 0, .int .u8 0, .int .u8 0, .int .u8 0, .int .u8 0, .int .u8 0, .int .u8 0, .int .u8 0, .int .u8 0, .int .u8 0, .int .u8 0, .int .u8 0, .int .u8 0, .int .u8 0, .int .u8 0, .int .u8 0, .int .u8 0, .int .u8 0, .int .u8 0]) := ⟨by rw [hW1, hg10]; exact Blk.new' _ _ _ (by simp)⟩
  have HF1 : Kp (Fr (fun _ => False) w W1) := ⟨by rw [hW1]; exact ((Fr.refl _ w).alloc _).alloc _⟩
  have HGg10 : Kp (w.heap.size ≤ g10) := ⟨by omega⟩
  rw [← hW1]
  clear hW1 hg9 hg10
  have hi32 : (Tryd.prog.info? 29).map (·.size) = some 32 := by kernel_rfl
  have ZZ : Kp ((Tryd.prog.info? 29).map (·.size) = some ([.int .u8 0, .int .u8 0, .int .u8 0, .int .u8 0, .int .u8 0, .int .u8 0, .int .u8 0, .int .u8 0, .int .u8 0, .int .u8 0, .int .u8 0, .int .u8 0, .int .u8 0, .int .u8 0, .int .u8 0, .int .u8 0, .int .u8 0, .int .u8 0, .int .u8 0, .int .u8 0, .int .u8 0, .int .u8 0, .int .u8 0, .int .u8 0, .int .u8 0, .int .u8 0, .int .u8 0, .int .u8 0, .int .u8 0, .int .u8 0, .int .u8 0, .int .u8 0] : List Value).length) := ⟨hi32⟩
  clear hi32
  have hMok : hashOk (.agg #[.int .u8 0, .int .u8 0, .int .u8 0, .int .u8 0, .int .u8 0, .int .u8 0, .int .u8 0, .int .u8 0, .int .u8 0, .int .u8 0, .int .u8 0, .int .u8 0, .int .u8 0, .int .u8 0, .int .u8 0, .int .u8 0, .int .u8 0, .int .u8 0, .int .u8 0, .int .u8 0, .int .u8 0, .int .u8 0, .int .u8 0, .int .u8 0, .int .u8 0, .int .u8 0, .int .u8 0, .int .u8 0, .int .u8 0, .int .u8 0, .int .u8 0, .int .u8 0]) = true := hashOk_bytes z32 rfl
  rcases (by omega : (n < 1 ∨ 281474976710656 < n) ∨ (1 ≤ n ∧ n ≤ 281474976710656 ∧ i < 0) ∨ (1 ≤ n ∧ n ≤ 281474976710656 ∧ 0 ≤ i ∧ n ≤ i)) with hn | ⟨h1, h2, h3⟩ | ⟨h1, h2, h3, h4⟩
  · clear h
    go_wp2_with fail
    refine (sized_no n hn _).mono ?_
    rintro e W2 ⟨rfl, hf⟩
    have HF2 := Kp.mk (HF1.out.trans hf (fun _ _ h => h))
    have H102 := Kp.mk (H10.out.fr hf (fun h => h))
    have H92 := Kp.mk (H9.out.fr hf (fun h => h))
    have ok10 := rowOk_blk H102.out ZZ.out
    clear hf HF1 H10 H9
    go_wp2_with fail
    refine bodyPost_ret (results_cell_tmp rfl _ _ g10 29 _ (0, 0) _ (.int .i64 1) rfl rfl (setRow_heap _ g10 _ _ _ _ (show W2.heap[g10]? = _ from H102.out)) Tryd.underlying29 rfl (by kernel_rfl)) rfl ?_
    refine ⟨rfl, ?_⟩
    exact HF2.out.trans (S' := fun q => q = g10) ⟨rfl, rfl, rfl, by simp [World.setRow], fun q _ hq => setRow_other _ _ q _ hq⟩ (fun q hq he => by have := HGg10.out; omega)
  · clear h
    obtain ⟨n', rfl⟩ := Int.eq_ofNat_of_zero_le (show 0 ≤ n by omega)
    go_wp2_with fail
    refine (sized_yes n' (by omega) (by omega) _).mono ?_
    rintro e W2 ⟨rfl, hf⟩
    have HF2 := Kp.mk (HF1.out.trans hf (fun _ _ h => h))
    have H102 := Kp.mk (H10.out.fr hf (fun h => h))
    have H92 := Kp.mk (H9.out.fr hf (fun h => h))
    have ok10 := rowOk_blk H102.out ZZ.out
    clear hf HF1 H10 H9
    go_wp2_with fail
    refine bodyPost_ret (results_cell_tmp rfl _ _ g10 29 _ (0, 0) _ (.int .i64 1) rfl rfl (setRow_heap _ g10 _ _ _ _ (show W2.heap[g10]? = _ from H102.out)) Tryd.underlying29 rfl (by kernel_rfl)) rfl ?_
    refine ⟨rfl, ?_⟩
    exact HF2.out.trans (S' := fun q => q = g10) ⟨rfl, rfl, rfl, by simp [World.setRow], fun q _ hq => setRow_other _ _ q _ hq⟩ (fun q hq he => by have := HGg10.out; omega)
  · clear h
    obtain ⟨n', rfl⟩ := Int.eq_ofNat_of_zero_le (show 0 ≤ n by omega)
    have hd1 : decide (i < 0) = false := decide_eq_false (by omega)
    go_wp2_with fail
    refine (sized_yes n' (by omega) (by omega) _).mono ?_
    rintro e W2 ⟨rfl, hf⟩
    have HF2 := Kp.mk (HF1.out.trans hf (fun _ _ h => h))
    have H102 := Kp.mk (H10.out.fr hf (fun h => h))
    have H92 := Kp.mk (H9.out.fr hf (fun h => h))
    have ok10 := rowOk_blk H102.out ZZ.out
    clear hf HF1 H10 H9
    go_wp2_with fail
    refine bodyPost_ret (results_cell_tmp rfl _ _ g10 29 _ (0, 0) _ (.int .i64 1) rfl rfl (setRow_heap _ g10 _ _ _ _ (show W2.heap[g10]? = _ from H102.out)) Tryd.underlying29 rfl (by kernel_rfl)) rfl ?_
    refine ⟨rfl, ?_⟩
    exact HF2.out.trans (S' := fun q => q = g10) ⟨rfl, rfl, rfl, by simp [World.setRow], fun q _ hq => setRow_other _ _ q _ hq⟩ (fun q hq he => by have := HGg10.out; omega)
set_option maxHeartbeats 4000000 in
set_option maxRecDepth 100000 in
theorem ClimbRecord_len (k : Int) (A : Option Addr) (c : Nat) (p : List (List Int)) (n i : Int) (leaf : List Int) (w : World) (hL : Laid w) (hX : HRow w (fun _ => False) A c p) (hlf : leaf.length = 32) (h : recOk n i) (hl : p.length ≠ (way i.toNat n.toNat).length) :
    Calls Tryd.prog 23 #[.int .i64 k, .slice A p.length c, .int .i64 n, .int .i64 i, .agg (bytes leaf).toArray] w fun e w' => e = .returned (.tuple #[.agg (bytes z32).toArray, .int .i64 90]) ∧ Fr (fun _ => False) w w' := by
  have HL := Kp.mk hl
  clear hl hL hX hlf
  obtain ⟨hn1, hn2, hi1, hi2⟩ := h
  obtain ⟨n', rfl⟩ := Int.eq_ofNat_of_zero_le (show 0 ≤ n by omega)
  obtain ⟨i', rfl⟩ := Int.eq_ofNat_of_zero_le hi1
  simp only [Int.toNat_natCast] at *
  have hni : i' < n' ∧ n' ≤ 281474976710656 ∧ 1 ≤ n' := by omega
  have CS := Kp.mk (fun W => sized_yes n' hni.2.2 hni.2.1 W)
  have CW := Kp.mk (fun W => wayOf_step i' n' hni.1 hni.2.1 W)
  have HWL := Kp.mk (way_len (i := i') hni.2.1)
  obtain ⟨ws, hws⟩ : ∃ ws, ws = way i' n' := ⟨_, rfl⟩
  rw [← hws] at CW HWL HL
  have hws' := hws
  clear hws hn1 hn2 hi1
  obtain ⟨q, hq⟩ : ∃ q, q = p.length := ⟨_, rfl⟩
  rw [← hq] at HL ⊢
  obtain ⟨m, hm⟩ : ∃ m, m = ws.length := ⟨_, rfl⟩
  have HM := Kp.mk hm
  clear hq hm
  go_enter Tryd.func23, Tryd.ntmps23
  go_upto_region 1 with (fail)
  obtain ⟨g9, hg9⟩ : ∃ g9, g9 = w.heap.size := ⟨_, rfl⟩
  obtain ⟨g10, hg10⟩ : ∃ g10, g10 = w.heap.size + 1 := ⟨_, rfl⟩
  rw [← hg10, ← hg9]
  obtain ⟨W1, hW1⟩ : ∃ W1, W1 = (w.alloc (.cells (bytes leaf).toArray 29)).alloc (.cells #[.int .u8 0, .int .u8 0, .int .u8 0, .int .u8 0, .int .u8 0, .int .u8 0, .int .u8 0, .int .u8 0, .int .u8 0, .int .u8 0, .int .u8 0, .int .u8 0, .int .u8 0, .int .u8 0, .int .u8 0, .int .u8 0, .int .u8 0, .int .u8 0, .int .u8 0, .int .u8 0, .int .u8 0, .int .u8 0, .int .u8 0, .int .u8 0, .int .u8 0, .int .u8 0, .int .u8 0, .int .u8 0, .int .u8 0, .int .u8 0, .int .u8 0, .int .u8 0] 29) := ⟨_, rfl⟩
  have H9 : Kp (Blk W1 g9 29 (bytes leaf)) := ⟨by rw [hW1, hg9]; exact (Blk.new w _ _).alloc _⟩
  have H10 : Kp (Blk W1 g10 29 [.int .u8 0, .int .u8 0, .int .u8 0, .int .u8 0, .int .u8 0, .int .u8 0, .int .u8 0, .int .u8 0, .int .u8 0, .int .u8 0, .int .u8 0, .int .u8 0, .int .u8 0, .int .u8 0, .int .u8 0, .int .u8 0, .int .u8 0, .int .u8 0, .int .u8 0, .int .u8 0, .int .u8 0, .int .u8 0, .int .u8 0, .int .u8 0, .int .u8 0, .int .u8 0, .int .u8 0, .int .u8 0, .int .u8 0, .int .u8 0, .int .u8 0, .int .u8 0]) := ⟨by rw [hW1, hg10]; exact Blk.new' _ _ _ (by simp)⟩
  have HF1 : Kp (Fr (fun _ => False) w W1) := ⟨by rw [hW1]; exact ((Fr.refl _ w).alloc _).alloc _⟩
  have HGg10 : Kp (w.heap.size ≤ g10) := ⟨by omega⟩
  rw [← hW1]
  clear hW1 hg9 hg10
  have hi32 : (Tryd.prog.info? 29).map (·.size) = some 32 := by kernel_rfl
  have ZZ : Kp ((Tryd.prog.info? 29).map (·.size) = some ([.int .u8 0, .int .u8 0, .int .u8 0, .int .u8 0, .int .u8 0, .int .u8 0, .int .u8 0, .int .u8 0, .int .u8 0, .int .u8 0, .int .u8 0, .int .u8 0, .int .u8 0, .int .u8 0, .int .u8 0, .int .u8 0, .int .u8 0, .int .u8 0, .int .u8 0, .int .u8 0, .int .u8 0, .int .u8 0, .int .u8 0, .int .u8 0, .int .u8 0, .int .u8 0, .int .u8 0, .int .u8 0, .int .u8 0, .int .u8 0, .int .u8 0, .int .u8 0] : List Value).length) := ⟨hi32⟩
  clear hi32
  have hMok : hashOk (.agg #[.int .u8 0, .int .u8 0, .int .u8 0, .int .u8 0, .int .u8 0, .int .u8 0, .int .u8 0, .int .u8 0, .int .u8 0, .int .u8 0, .int .u8 0, .int .u8 0, .int .u8 0, .int .u8 0, .int .u8 0, .int .u8 0, .int .u8 0, .int .u8 0, .int .u8 0, .int .u8 0, .int .u8 0, .int .u8 0, .int .u8 0, .int .u8 0, .int .u8 0, .int .u8 0, .int .u8 0, .int .u8 0, .int .u8 0, .int .u8 0, .int .u8 0, .int .u8 0]) = true := hashOk_bytes z32 rfl
  have hd1 : decide ((i' : Int) < 0) = false := decide_eq_false (by omega)
  have hd2 : decide ((n' : Int) ≤ (i' : Int)) = false := decide_eq_false (by omega)
  go_wp2_with fail
  refine (CS.out _).mono ?_
  rintro e W2 ⟨rfl, hf⟩
  have HF2 := Kp.mk (HF1.out.trans hf (fun _ _ h => h))
  have H102 := Kp.mk (H10.out.fr hf (fun h => h))
  have H92 := Kp.mk (H9.out.fr hf (fun h => h))
  clear hf HF1 H10 H9 CS
  go_wp2_with fail
  refine (CW.out _).mono ?_
  rintro e W3 ⟨vw, rfl, hO, hf⟩
  have HF3 := Kp.mk (HF2.out.trans hf (fun _ _ h => h))
  have H103 := Kp.mk (H102.out.fr hf (fun h => h))
  have H93 := Kp.mk (H92.out.fr hf (fun h => h))
  obtain ⟨Aw, cw, hvw⟩ := hO.slice
  rw [List.length_map] at hvw
  subst hvw
  have HW := Kp.mk (hO.low HF2.out.size)
  clear hf HF2 H102 H92 CW hO
  rw [← HM.out]
  have hne : ((q : Int) == (m : Int)) = false := by rw [beq_eq_false_iff_ne]; have := HL.out; have := HM.out; omega
  have ok10 := rowOk_blk H103.out ZZ.out
  go_wp2_with fail
  refine bodyPost_ret (results_cell_tmp rfl _ _ g10 29 _ (0, 0) _ (.int .i64 90) rfl rfl (setRow_heap _ g10 _ _ _ _ (show W3.heap[g10]? = _ from H103.out)) Tryd.underlying29 rfl (by kernel_rfl)) rfl ?_
  refine ⟨rfl, ?_⟩
  exact HF3.out.trans (S' := fun q => q = g10) ⟨rfl, rfl, rfl, by simp [World.setRow], fun q _ hq => setRow_other _ _ q _ hq⟩ (fun q hq he => by have := HGg10.out; omega)
set_option maxHeartbeats 4000000 in
set_option maxRecDepth 100000 in
theorem ClimbRecord_yes (k : Int) (A : Option Addr) (c : Nat) (p : List (List Int)) (n i : Int) (leaf : List Int) (w : World) (hL : Laid w) (hX : HRow w (fun _ => False) A c p) (hlf : leaf.length = 32) (h : recOk n i) (hl : p.length = (way i.toNat n.toNat).length) :
    Calls Tryd.prog 23 #[.int .i64 k, .slice A p.length c, .int .i64 n, .int .i64 i, .agg (bytes leaf).toArray] w fun e w' => e = .returned (.tuple #[.agg (bytes ((top (.giv leaf) (way i.toNat n.toNat) p).sum (nodeL (strength k)))).toArray, .int .i64 0]) ∧ Fr (fun _ => False) w w' := by
  have HL := Kp.mk hl
  have CC : Kp (∀ (W : World) (base : Nat) (vw : Value), Fr (fun _ => False) w W → ROwn 95 3 W base vw ((way i.toNat n.toNat).map stC) → (way i.toNat n.toNat).length ≤ 48 → Calls Tryd.prog 51 #[.int .i64 k, .slice A p.length c, vw, .agg (bytes leaf).toArray] W fun e w' =>
      ∃ v rows, e = .returned v ∧ ROwn 98 1 w' W.heap.size v rows ∧ NRows w' (strength k) rows (nodes (.giv leaf) (way i.toNat n.toNat) p) ∧ Fr (fun _ => False) W w') :=
    ⟨fun W base vw hf hw h48 => climbed_calls k A c p vw base _ leaf W (hL.fr hf (fun _ h => h.elim)) (hX.fr hf) hw hl.symm (by omega) hlf⟩
  have HT := Kp.mk (nodes_last (way i.toNat n.toNat) p (.giv leaf) hl.symm)
  have HNL := Kp.mk (nodes_len (way i.toNat n.toNat) p (.giv leaf) hl.symm)
  have HLF := Kp.mk hlf
  clear hl hL hX hlf
  obtain ⟨hn1, hn2, hi1, hi2⟩ := h
  obtain ⟨n', rfl⟩ := Int.eq_ofNat_of_zero_le (show 0 ≤ n by omega)
  obtain ⟨i', rfl⟩ := Int.eq_ofNat_of_zero_le hi1
  simp only [Int.toNat_natCast] at *
  have hni : i' < n' ∧ n' ≤ 281474976710656 ∧ 1 ≤ n' := by omega
  have CS := Kp.mk (fun W => sized_yes n' hni.2.2 hni.2.1 W)
  have CW := Kp.mk (fun W => wayOf_step i' n' hni.1 hni.2.1 W)
  have HWL := Kp.mk (way_len (i := i') hni.2.1)
  obtain ⟨ws, hws⟩ : ∃ ws, ws = way i' n' := ⟨_, rfl⟩
  rw [← hws] at CW HWL HL
  have hws' := hws
  clear hws hn1 hn2 hi1
  rw [← hws'] at CC HT HNL ⊢
  obtain ⟨q, hq⟩ : ∃ q, q = p.length := ⟨_, rfl⟩
  rw [← hq] at HL CC ⊢
  obtain ⟨m, hm⟩ : ∃ m, m = ws.length := ⟨_, rfl⟩
  have HM := Kp.mk hm
  have hqm : q = m := by rw [HL.out, hm]
  subst hqm
  obtain ⟨s, hs⟩ : ∃ s, s = strength k := ⟨_, rfl⟩
  have HS32 : Kp (s ≤ 32) := ⟨by rw [hs]; exact strength_le k⟩
  rw [← hs] at CC ⊢
  obtain ⟨M, hMe⟩ : ∃ M, M = (top (.giv leaf) ws p).sum (nodeL s) := ⟨_, rfl⟩
  rw [← hMe]
  have HME := Kp.mk hMe
  clear hq hm hs hMe
  go_enter Tryd.func23, Tryd.ntmps23
  go_upto_region 1 with (fail)
  obtain ⟨g9, hg9⟩ : ∃ g9, g9 = w.heap.size := ⟨_, rfl⟩
  obtain ⟨g10, hg10⟩ : ∃ g10, g10 = w.heap.size + 1 := ⟨_, rfl⟩
  rw [← hg10, ← hg9]
  obtain ⟨W1, hW1⟩ : ∃ W1, W1 = (w.alloc (.cells (bytes leaf).toArray 29)).alloc (.cells #[.int .u8 0, .int .u8 0, .int .u8 0, .int .u8 0, .int .u8 0, .int .u8 0, .int .u8 0, .int .u8 0, .int .u8 0, .int .u8 0, .int .u8 0, .int .u8 0, .int .u8 0, .int .u8 0, .int .u8 0, .int .u8 0, .int .u8 0, .int .u8 0, .int .u8 0, .int .u8 0, .int .u8 0, .int .u8 0, .int .u8 0, .int .u8 0, .int .u8 0, .int .u8 0, .int .u8 0, .int .u8 0, .int .u8 0, .int .u8 0, .int .u8 0, .int .u8 0] 29) := ⟨_, rfl⟩
  have H9 : Kp (Blk W1 g9 29 (bytes leaf)) := ⟨by rw [hW1, hg9]; exact (Blk.new w _ _).alloc _⟩
  have H10 : Kp (Blk W1 g10 29 [.int .u8 0, .int .u8 0, .int .u8 0, .int .u8 0, .int .u8 0, .int .u8 0, .int .u8 0, .int .u8 0, .int .u8 0, .int .u8 0, .int .u8 0, .int .u8 0, .int .u8 0, .int .u8 0, .int .u8 0, .int .u8 0, .int .u8 0, .int .u8 0, .int .u8 0, .int .u8 0, .int .u8 0, .int .u8 0, .int .u8 0, .int .u8 0, .int .u8 0, .int .u8 0, .int .u8 0, .int .u8 0, .int .u8 0, .int .u8 0, .int .u8 0, .int .u8 0]) := ⟨by rw [hW1, hg10]; exact Blk.new' _ _ _ (by simp)⟩
  have HF1 : Kp (Fr (fun _ => False) w W1) := ⟨by rw [hW1]; exact ((Fr.refl _ w).alloc _).alloc _⟩
  have HGg10 : Kp (w.heap.size ≤ g10) := ⟨by omega⟩
  rw [← hW1]
  clear hW1 hg9 hg10
  have hi32 : (Tryd.prog.info? 29).map (·.size) = some 32 := by kernel_rfl
  have ZZ : Kp ((Tryd.prog.info? 29).map (·.size) = some ([.int .u8 0, .int .u8 0, .int .u8 0, .int .u8 0, .int .u8 0, .int .u8 0, .int .u8 0, .int .u8 0, .int .u8 0, .int .u8 0, .int .u8 0, .int .u8 0, .int .u8 0, .int .u8 0, .int .u8 0, .int .u8 0, .int .u8 0, .int .u8 0, .int .u8 0, .int .u8 0, .int .u8 0, .int .u8 0, .int .u8 0, .int .u8 0, .int .u8 0, .int .u8 0, .int .u8 0, .int .u8 0, .int .u8 0, .int .u8 0, .int .u8 0, .int .u8 0] : List Value).length) := ⟨hi32⟩
  clear hi32
  have hMok : hashOk (.agg #[.int .u8 0, .int .u8 0, .int .u8 0, .int .u8 0, .int .u8 0, .int .u8 0, .int .u8 0, .int .u8 0, .int .u8 0, .int .u8 0, .int .u8 0, .int .u8 0, .int .u8 0, .int .u8 0, .int .u8 0, .int .u8 0, .int .u8 0, .int .u8 0, .int .u8 0, .int .u8 0, .int .u8 0, .int .u8 0, .int .u8 0, .int .u8 0, .int .u8 0, .int .u8 0, .int .u8 0, .int .u8 0, .int .u8 0, .int .u8 0, .int .u8 0, .int .u8 0]) = true := hashOk_bytes z32 rfl
  have hd1 : decide ((i' : Int) < 0) = false := decide_eq_false (by omega)
  have hd2 : decide ((n' : Int) ≤ (i' : Int)) = false := decide_eq_false (by omega)
  go_wp2_with fail
  refine (CS.out _).mono ?_
  rintro e W2 ⟨rfl, hf⟩
  have HF2 := Kp.mk (HF1.out.trans hf (fun _ _ h => h))
  have H102 := Kp.mk (H10.out.fr hf (fun h => h))
  have H92 := Kp.mk (H9.out.fr hf (fun h => h))
  clear hf HF1 H10 H9 CS
  go_wp2_with fail
  refine (CW.out _).mono ?_
  rintro e W3 ⟨vw, rfl, hO, hf⟩
  have HF3 := Kp.mk (HF2.out.trans hf (fun _ _ h => h))
  have H103 := Kp.mk (H102.out.fr hf (fun h => h))
  have H93 := Kp.mk (H92.out.fr hf (fun h => h))
  obtain ⟨Aw, cw, hvw⟩ := hO.slice
  rw [List.length_map] at hvw
  subst hvw
  have HW := Kp.mk (hO.low HF2.out.size)
  clear hf HF2 H102 H92 CW hO
  rw [← HM.out]
  have H9r := Kp.mk (blk_range H93.out)
  have hi32 : (Tryd.prog.info? 29).map (·.size) = some 32 := by kernel_rfl
  have hln : Kp ((bytes leaf).length = 32) := ⟨by rw [bytes_length, HLF.out]⟩
  have HW' : Kp (ROwn 95 3 W3 w.heap.size (.slice Aw q cw) (ws.map stC)) := ⟨by have h := HW.out; rwa [← HM.out] at h⟩
  go_wp2_with (refine wpList_load_mid rfl 29 _ rfl g9 0 rfl (bytes leaf) _ H9r.out Tryd.underlying29 rfl (by rw [hln.out]; exact hi32) ?_)
  refine (CC.out W3 w.heap.size _ HF3.out HW'.out HWL.out).mono ?_
  rintro e W4 ⟨vn, rows, rfl, hO, hR, hf⟩
  have HF4 := Kp.mk (HF3.out.trans hf (fun _ _ h => h))
  have H104 := Kp.mk (H103.out.fr hf (fun h => h))
  have hrl : rows.length = q + 1 := by rw [hR.len, HNL.out, HM.out]
  obtain ⟨vt, hvt, hnd⟩ := hR.at q _ (by rw [HM.out]; exact HT.out)
  obtain ⟨gn, capn, hvn, hz1, hz2⟩ := hO.form (by omega)
  rw [hrl] at hvn
  subst hvn
  have hql : q < rows.length := by omega
  have ct : W4.cell? ⟨gn, q, none⟩ = some vt := by
    have h1 : rows[q] = [vt] := by rw [List.getElem?_eq_getElem hql] at hvt; exact Option.some.inj hvt
    have h2 := hO.cell q 0 vt hql (by rw [h1]; rfl)
    rwa [Nat.mul_one, Nat.add_zero] at h2
  have HSm : Kp (Sums W4 vt M) := ⟨by rw [HME.out]; exact sums_of HS32.out hnd⟩
  have HM32 : Kp (M.length = 32) := ⟨by rw [HME.out]; exact hnd.sum_len HS32.out⟩
  have hMk := hashOk_bytes M HM32.out
  have hq48 := HWL.out
  rw [← HM.out] at hq48
  clear hf HF3 H103 H93 H9r hO hR HW HW' hvt hnd hz1 hz2 hrl hql CC HT HNL
  go_upto_region 7 with (fail)
  go_wp2_with (first
    | (refine goesSum (some 47) rfl rfl (Operand.tmp 46) rfl _ rfl M HSm.out ?_; intro W5 hf5; have HF5 := Kp.mk (HF4.out.trans hf5 (fun _ _ h => h)); have H105 := Kp.mk (H104.out.fr hf5 (fun h => h)); have ok10 := rowOk_blk H105.out ZZ.out; clear hf5))
  refine bodyPost_ret (results_cell_tmp rfl _ _ g10 29 _ (0, 0) _ (.int .i64 0) rfl rfl (setRow_heap _ g10 _ _ _ _ (show W5.heap[g10]? = _ from H105.out)) Tryd.underlying29 rfl (by rw [show (bytes M).toArray.size = 32 by simp [bytes, HM32.out]]; kernel_rfl)) rfl ?_
  refine ⟨rfl, ?_⟩
  exact HF5.out.trans (S' := fun q => q = g10) ⟨rfl, rfl, rfl, by simp [World.setRow], fun q _ hq => setRow_other _ _ q _ hq⟩ (fun q hq he => by have := HGg10.out; omega)
theorem ClimbRecord_calls (k : Int) (A : Option Addr) (c : Nat) (p : List (List Int)) (n i : Int) (leaf : List Int) (w : World) (hL : Laid w) (hX : HRow w (fun _ => False) A c p) (hlf : leaf.length = 32) :
    Calls Tryd.prog 23 #[.int .i64 k, .slice A p.length c, .int .i64 n, .int .i64 i, .agg (bytes leaf).toArray] w fun e w' => e = .returned (.tuple #[.agg (bytes (climbR (strength k) n i p leaf).1).toArray, .int .i64 (climbR (strength k) n i p leaf).2]) ∧ Fr (fun _ => False) w w' := by
  by_cases h : recOk n i
  · by_cases hl : p.length = (way i.toNat n.toNat).length
    · rw [climbR_yes h hl]
      exact ClimbRecord_yes k A c p n i leaf w hL hX hlf h hl
    · rw [climbR_len h hl]
      exact ClimbRecord_len k A c p n i leaf w hL hX hlf h hl
  · rw [climbR_arg h]
    exact ClimbRecord_arg k A c p n i leaf w hL hX hlf h
theorem climbR_code {s : Nat} {n i : Int} {p : List (List Int)} {leaf : List Int} : (climbR s n i p leaf).2 = 0 ∨ (climbR s n i p leaf).2 = 1 ∨ (climbR s n i p leaf).2 = 90 := by
  unfold climbR
  split
  · split
    · exact .inl rfl
    · exact .inr (.inr rfl)
  · exact .inr (.inl rfl)
/-- the check of a record proof -/
def checkR (s : Nat) (n i : Int) (p : List (List Int)) (root leaf : List Int) : Int :=
  if (climbR s n i p leaf).2 = 0 then if (climbR s n i p leaf).1 = root then 0 else 91 else (climbR s n i p leaf).2
set_option maxHeartbeats 4000000 in
set_option maxRecDepth 100000 in
theorem CheckRecord_calls (k : Int) (A : Option Addr) (c : Nat) (p : List (List Int)) (n i : Int) (root leaf : List Int) (w : World) (hL : Laid w) (hX : HRow w (fun _ => False) A c p) (hrt : root.length = 32) (hlf : leaf.length = 32) :
    Calls Tryd.prog 24 #[.int .i64 k, .slice A p.length c, .int .i64 n, .agg (bytes root).toArray, .int .i64 i, .agg (bytes leaf).toArray] w fun e w' => e = .returned (.int .i64 (checkR (strength k) n i p root leaf)) ∧ Fr (fun _ => False) w w' := by
  have CC : Kp (∀ W, Fr (fun _ => False) w W → Calls Tryd.prog 23 #[.int .i64 k, .slice A p.length c, .int .i64 n, .int .i64 i, .agg (bytes leaf).toArray] W fun e w' => e = .returned (.tuple #[.agg (bytes (climbR (strength k) n i p leaf).1).toArray, .int .i64 (climbR (strength k) n i p leaf).2]) ∧ Fr (fun _ => False) W w') :=
    ⟨fun W hf => ClimbRecord_calls k A c p n i leaf W (hL.fr hf (fun _ h => h.elim)) (hX.fr hf) hlf⟩
  have hM32 := climbR_32 (s := strength k) (strength_le k) (n := n) (i := i) (p := p) (leaf := leaf) hX.1 hlf
  have hcode := climbR_code (s := strength k) (n := n) (i := i) (p := p) (leaf := leaf)
  obtain ⟨R, hR⟩ : ∃ R, R = checkR (strength k) n i p root leaf := ⟨_, rfl⟩
  rw [← hR]
  unfold checkR at hR
  generalize (climbR (strength k) n i p leaf).1 = M at CC hM32 hR
  generalize (climbR (strength k) n i p leaf).2 = E at CC hcode hR
  have HM32 := Kp.mk hM32
  have HRT := Kp.mk hrt
  have HLF := Kp.mk hlf
  have HR := Kp.mk hR
  have hcmp : ∀ W, (Op.equalIn 10000 29 (.agg (bytes M).toArray) (.agg (bytes root).toArray)).run Tryd.prog W = .ok (decide (M = root)) W := fun W => eq32 M root hM32 hrt W
  have hMk := hashOk_bytes M hM32
  obtain ⟨q, hq⟩ : ∃ q, q = p.length := ⟨_, rfl⟩
  rw [← hq] at CC ⊢
  clear hq hR hL hX hrt hlf hM32
  go_enter Tryd.func24, Tryd.ntmps24
  go_upto_region 1 with (fail)
  obtain ⟨g9, hg9⟩ : ∃ g9, g9 = w.heap.size := ⟨_, rfl⟩
  obtain ⟨g11, hg11⟩ : ∃ g11, g11 = w.heap.size + 1 := ⟨_, rfl⟩
  rw [← hg11, ← hg9]
  obtain ⟨W1, hW1⟩ : ∃ W1, W1 = (w.alloc (.cells (bytes root).toArray 29)).alloc (.cells (bytes leaf).toArray 29) := ⟨_, rfl⟩
  have H9 : Kp (Blk W1 g9 29 (bytes root)) := ⟨by rw [hW1, hg9]; exact (Blk.new w _ _).alloc _⟩
  have H11 : Kp (Blk W1 g11 29 (bytes leaf)) := ⟨by rw [hW1, hg11]; exact Blk.new' _ _ _ (by simp)⟩
  have HF1 : Kp (Fr (fun _ => False) w W1) := ⟨by rw [hW1]; exact ((Fr.refl _ w).alloc _).alloc _⟩
  rw [← hW1]
  clear hW1 hg9 hg11
  have H11r := Kp.mk (blk_range H11.out)
  have hi32 : (Tryd.prog.info? 29).map (·.size) = some 32 := by kernel_rfl
  have hln : Kp ((bytes leaf).length = 32) := ⟨by rw [bytes_length, HLF.out]⟩
  have hlr : Kp ((bytes root).length = 32) := ⟨by rw [bytes_length, HRT.out]⟩
  have hlm : Kp ((bytes M).length = 32) := ⟨by rw [bytes_length, HM32.out]⟩
  go_wp2_with (refine wpList_load_mid rfl 29 _ rfl g11 0 rfl (bytes leaf) _ H11r.out Tryd.underlying29 rfl (by rw [hln.out]; exact hi32) ?_)
  refine (CC.out W1 HF1.out).mono ?_
  rintro e W2 ⟨rfl, hf⟩
  have HF2 := Kp.mk (HF1.out.trans hf (fun _ _ h => h))
  have H92 := Kp.mk (H9.out.fr hf (fun h => h))
  have HNEW : Kp (Blk (W2.alloc (.cells #[.int .u8 0, .int .u8 0, .int .u8 0, .int .u8 0, .int .u8 0, .int .u8 0, .int .u8 0, .int .u8 0, .int .u8 0, .int .u8 0, .int .u8 0, .int .u8 0, .int .u8 0, .int .u8 0, .int .u8 0, .int .u8 0, .int .u8 0, .int .u8 0, .int .u8 0, .int .u8 0, .int .u8 0, .int .u8 0, .int .u8 0, .int .u8 0, .int .u8 0, .int .u8 0, .int .u8 0, .int .u8 0, .int .u8 0, .int .u8 0, .int .u8 0, .int .u8 0] 29)) W2.heap.size 29 [.int .u8 0, .int .u8 0, .int .u8 0, .int .u8 0, .int .u8 0, .int .u8 0, .int .u8 0, .int .u8 0, .int .u8 0, .int .u8 0, .int .u8 0, .int .u8 0, .int .u8 0, .int .u8 0, .int .u8 0, .int .u8 0, .int .u8 0, .int .u8 0, .int .u8 0, .int .u8 0, .int .u8 0, .int .u8 0, .int .u8 0, .int .u8 0, .int .u8 0, .int .u8 0, .int .u8 0, .int .u8 0, .int .u8 0, .int .u8 0, .int .u8 0, .int .u8 0]) := ⟨Blk.new W2 _ _⟩
  clear hf HF1 H9 H11 H11r CC
  go_upto_region 2 with (refine wpList_storeH rfl rfl (Operand.tmp 13) (Operand.tmp 22) rfl W2.heap.size _ _ M rfl rfl HNEW.out rfl HM32.out ?_)
  obtain ⟨g13, hg13⟩ : ∃ g13, g13 = W2.heap.size := ⟨_, rfl⟩
  obtain ⟨W3, hW3⟩ : ∃ W3, W3 = (W2.alloc (.cells #[.int .u8 0, .int .u8 0, .int .u8 0, .int .u8 0, .int .u8 0, .int .u8 0, .int .u8 0, .int .u8 0, .int .u8 0, .int .u8 0, .int .u8 0, .int .u8 0, .int .u8 0, .int .u8 0, .int .u8 0, .int .u8 0, .int .u8 0, .int .u8 0, .int .u8 0, .int .u8 0, .int .u8 0, .int .u8 0, .int .u8 0, .int .u8 0, .int .u8 0, .int .u8 0, .int .u8 0, .int .u8 0, .int .u8 0, .int .u8 0, .int .u8 0, .int .u8 0] 29)).setRow W2.heap.size (bytes M).toArray := ⟨_, rfl⟩
  have hfr := fr_row (Fr.refl (fun _ => False) W2) (.cells #[.int .u8 0, .int .u8 0, .int .u8 0, .int .u8 0, .int .u8 0, .int .u8 0, .int .u8 0, .int .u8 0, .int .u8 0, .int .u8 0, .int .u8 0, .int .u8 0, .int .u8 0, .int .u8 0, .int .u8 0, .int .u8 0, .int .u8 0, .int .u8 0, .int .u8 0, .int .u8 0, .int .u8 0, .int .u8 0, .int .u8 0, .int .u8 0, .int .u8 0, .int .u8 0, .int .u8 0, .int .u8 0, .int .u8 0, .int .u8 0, .int .u8 0, .int .u8 0] 29) (bytes M).toArray
  rw [← hW3] at hfr
  have H13 : Kp (Blk W3 g13 29 (bytes M)) := ⟨by rw [hW3, hg13]; exact blk_row W2 _ _ _⟩
  have HF3 := Kp.mk (HF2.out.trans hfr (fun _ _ h => h))
  have H93 := Kp.mk (H92.out.fr hfr (fun h => h))
  rw [← hW3, ← hg13]
  clear hg13 hW3 hfr HF2 H92 HNEW
  obtain ⟨mo13, ma13⟩ := mid_blk H13.out HM32.out
  obtain ⟨mo9, ma9⟩ := mid_blk H93.out HRT.out
  rcases hcode with hc | hc | hc
  · subst hc
    by_cases hm : M = root
    · have hd : decide (M = root) = true := decide_eq_true hm
      have hR0 : R = 0 := by rw [HR.out, if_pos rfl, if_pos hm]
      clear hm
      simp only [hd] at hcmp
      clear hd
      go_wp2_with fail
      go_ret
      exact ⟨by first | rfl | (rw [hR0]; rfl), HF3.out⟩
    · have hd : decide (M = root) = false := decide_eq_false hm
      have hR0 : R = 91 := by rw [HR.out, if_pos rfl, if_neg hm]
      clear hm
      simp only [hd] at hcmp
      clear hd
      go_wp2_with fail
      go_ret
      exact ⟨by first | rfl | (rw [hR0]; rfl), HF3.out⟩
  · subst hc
    have hR0 : R = 1 := by rw [HR.out, if_neg (by decide)]
    go_wp2_with fail
    go_ret
    exact ⟨by first | rfl | (rw [hR0]; rfl), HF3.out⟩
  · subst hc
    have hR0 : R = 90 := by rw [HR.out, if_neg (by decide)]
    go_wp2_with fail
    go_ret
    exact ⟨by first | rfl | (rw [hR0]; rfl), HF3.out⟩
end Go.Proofs.YtjcmgpiapbeodaaDoor.Sha
