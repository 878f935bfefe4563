/-
  Lists of plain arrays of 32 bytes that a call owns; plain and same. The walk of TlogBuilt.
-/
import Derived.Test.YtjbhaopocabfaaaDoorTRoot
import Derived.Test.YtjbhaopocabfaaaDoorReg
import Derived.Test.YtjbhaopocabfaaaDoorTree2
import Derived.Test.YtjbhaopocabfaaaDoorTold
import Derived.Test.YtjbhaopocabfaaaDoorHArg
namespace Go.Proofs.YtjbhaopocabfaaaDoor.Sha
open Go.RowKit Go.Proofs.YtjbhaopocabfaaaDoor.Mem Go.Proofs.YtjbhaopocabfaaaDoorW.PrintWords Go.Proofs.YtjbhaopocabfaaaDoorW.PrintLast Go.Proofs.YtjbhaopocabfaaaDoor.Pl Go.Proofs.YtjbhaopocabfaaaDoor.Wk
/-- a list of hashes that the call owns -/
def POwn (w : World) (base : Nat) (v : Value) (L : List (List Int)) : Prop := (∀ x ∈ L, x.length = 32) ∧ w.ownsRow base 23 32 v L.length (bytes L.flatten)
theorem info_p : (Tryd.prog.info? 23).map (fun i => (i.size, i.bytes)) = some (32, 32) := by kernel_rfl
theorem zero_p : ((Tryd.prog.info? 23).bind (·.zero)).map (·.cells.size) = some 32 := by kernel_rfl
theorem p_info : ∃ i z, Tryd.prog.info? 23 = some i ∧ i.zero = some z ∧ i.size = 32 ∧ i.bytes = 32 ∧ z.cells.size = 32 := by
  have h1 := info_p
  have h2 := zero_p
  cases hi : Tryd.prog.info? 23 with
  | none => rw [hi] at h1; cases h1
  | some i =>
    rw [hi] at h1 h2
    simp only [Option.map_some, Option.some.injEq, Prod.mk.injEq] at h1
    simp only [Option.bind_some] at h2
    obtain ⟨z, hz, hz2⟩ := Option.map_eq_some_iff.1 h2
    exact ⟨i, z, rfl, hz, h1.1, h1.2, hz2⟩
theorem run_appendP (w : World) (base : Nat) (v : Value) (L : List (List Int)) (hown : POwn w base v L) (A : Option Addr) (m c : Nat) (M : List (List Int)) (hm : m = M.length) {S : Nat → Prop} (hr : HRow w S A c M)
    (hb : (L.length + M.length) * 32 ≤ 140737488355328) (hbase : base ≤ w.heap.size) :
    ∃ v' w', (Builtin.append_ #[32, 32] 32 #[v, .slice A m c]).run Tryd.prog w = .ok v' w' ∧ POwn w' base v' (L ++ M) ∧ w.grownBy w' v.ownBlock ∧ (v'.ownBlock = v.ownBlock ∨ v'.ownBlock = some w.heap.size) := by
  subst hm
  obtain ⟨i0, z0, hi, hz, hz0, hz1, hz2⟩ := p_info
  rcases hr.2.2 with ⟨rfl, rfl, rfl⟩ | ⟨rfl, ad, rfl⟩ | ⟨b, o, rfl, h2, _⟩
  · rw [List.append_nil]
    exact ⟨v, w, run_append_owned_none (P := Tryd.prog) w base 32 32 23 i0 32 Tryd.underlying32 hi v _ _ hown.2, hown, ⟨rfl, rfl, rfl, Nat.le_refl _, fun _ _ _ => rfl⟩, .inl rfl⟩
  · rw [List.append_nil]
    refine ⟨v, w, ?_, hown, ⟨rfl, rfl, rfl, Nat.le_refl _, fun _ _ _ => rfl⟩, .inl rfl⟩
    rcases hown.2.2 with ⟨rfl, h0⟩ | ⟨g, cap, cur, rfl, _, _, hnc, _⟩
    · simp [Builtin.append_, run_underlying Tryd.underlying32, sizeOf, typeInfo, hi, Builtin.lenOf, Builtin.firstCells, loadCells, loadCellsFrom]
    · simp [Builtin.append_, run_underlying Tryd.underlying32, sizeOf, typeInfo, hi, Builtin.lenOf, Builtin.firstCells, hnc, storeCells, loadCells, loadCellsFrom]
  · have hf := flat_len hr.1
    obtain ⟨v', w', h1, h2', h3, _, h5⟩ := run_append_own_at (P := Tryd.prog) w base 32 32 23 i0 z0 32 32 Tryd.underlying32 hi hz hz0 hz1 hz2 (by omega) v L.length (bytes L.flatten) hown.2
      ⟨b, o, none⟩ M.length c (bytes M.flatten) (by rw [bytes_length, hf]; omega) (fun j u hu => by
        have hj : j < M.flatten.length := by
          rcases Nat.lt_or_ge j M.flatten.length with h | h
          · exact h
          · rw [List.getElem?_eq_none (by rw [bytes_length]; exact h)] at hu; cases hu
        rw [bytes_get _ j hj] at hu
        rw [Addr.add_lit, h2.2 j hj, ← hu]) (fun u hu => by
        obtain ⟨z, _, rfl⟩ := List.mem_map.1 hu
        rfl) (by unfold maxLen; omega) (by omega) hbase
    refine ⟨v', w', h1, ⟨fun x hx => ?_, ?_⟩, h3, h5⟩
    · rcases List.mem_append.1 hx with h | h
      · exact hown.1 x h
      · exact hr.1 x h
    · rw [List.length_append, List.flatten_append]
      simpa [bytes] using h2'
theorem wpList_appendP {ops : Array Oper} {rest : List Oper} {o : Oper} {a : Act} {w : World} {Q : Exit → Act → World → Prop} (hgd : o.guard = none) (s x : Operand)
    (ho : o.op = .call { callee := .builtin .append, args := #[s, x], argTypes := #[32, 32] }) (hty : o.type = 32) (base : Nat) (v : Value) (L : List (List Int)) (hs : a.eval s = v) (hown : POwn w base v L)
    (A : Option Addr) (m c : Nat) (M : List (List Int)) (hm : m = M.length) (hx : a.eval x = .slice A m c) {S : Nat → Prop} (hr : HRow w S A c M) (hb : (L.length + M.length) * 32 ≤ 140737488355328) (hbase : base ≤ w.heap.size)
    (h : ∀ v' w', POwn w' base v' (L ++ M) → w.grownBy w' v.ownBlock → (v'.ownBlock = v.ownBlock ∨ v'.ownBlock = some w.heap.size) → wpList Tryd.prog ops Q rest (a.put o.dst v') w') :
    wpList Tryd.prog ops Q (o :: rest) a w := by
  obtain ⟨v', w', hr', h2, h3, h4⟩ := run_appendP w base v L hown A m c M hm hr hb hbase
  refine wpList_plain hgd fun _ hK => ?_
  unfold Oper.wp execOp
  simp only [ho, resolve, invoke, builtin, Sem.run_bind, Sem.run_pure, Result.andThen_ok, List.map_toArray, List.map_cons, List.map_nil, hs, hx, hty, hr']
  exact hK _ _ (h v' w' h2 h3 h4)
theorem POwn.row {w : World} {base : Nat} {v : Value} {L : List (List Int)} (h : POwn w base v L) (S : Nat → Prop) (hs : ∀ k, v.ownBlock = some k → ¬ S k) : ∃ A c, v = .slice A L.length c ∧ HRow w S A c L := by
  rcases h.2.2 with ⟨rfl, h0⟩ | ⟨g, cap, cur, rfl, hb, hg, hnc, _, hsz, htk⟩
  · obtain rfl := List.eq_nil_of_length_eq_zero h0
    exact ⟨none, 0, rfl, by simp, Nat.le_refl _, .inl ⟨rfl, rfl, rfl⟩⟩
  · refine ⟨_, cap, rfl, h.1, hnc, .inr (.inr ⟨g, 0, rfl, ⟨?_, fun i hi => ?_⟩, hs g rfl⟩)⟩
    · rcases Nat.lt_or_ge g w.heap.size with h | h
      · exact h
      · rw [Array.getElem?_eq_none h] at hg; cases hg
    · rw [Nat.zero_add]
      have h1 := bytes_get L.flatten i hi
      rw [← htk] at h1
      have h2 : i < L.length * 32 := by have := flat_len h.1; omega
      rw [List.getElem?_take_of_lt h2] at h1
      unfold World.cell?
      simp only [hg, Option.isSome_none, Bool.false_eq_true, if_false]
      rw [← h1, Array.getElem?_toList]
theorem own_keepP {w w' : World} {base n size : Nat} {e : TypeId} {v : Value} {xs : List Value} {S : Nat → Prop} (h : w.ownsRow base e size v n xs) (hf : Fr S w w') (hs : ∀ k, v.ownBlock = some k → ¬ S k) : w'.ownsRow base e size v n xs := by
  refine ⟨h.1, ?_⟩
  rcases h.2 with h' | ⟨g, cap, cur, rfl, hb, hg, hr⟩
  · exact .inl h'
  · refine .inr ⟨g, cap, cur, rfl, hb, ?_, hr⟩
    have hlt : g < w.heap.size := by
      rcases Nat.lt_or_ge g w.heap.size with h | h
      · exact h
      · rw [Array.getElem?_eq_none h] at hg; cases hg
    rw [hf.block g hlt (hs g rfl), hg]
theorem POwn.lt {w : World} {base : Nat} {v : Value} {L : List (List Int)} (h : POwn w base v L) : ∀ k, v.ownBlock = some k → k < w.heap.size ∧ base ≤ k := by
  intro k hk
  rcases h.2.2 with ⟨rfl, _⟩ | ⟨g, cap, cur, rfl, hb, hg, _⟩
  · cases hk
  · have : g = k := by simpa [Value.ownBlock] using hk
    subst this
    refine ⟨?_, hb⟩
    rcases Nat.lt_or_ge g w.heap.size with h | h
    · exact h
    · rw [Array.getElem?_eq_none h] at hg; cases hg
theorem POwn.keep {w w1 : World} {base : Nat} {v : Value} {L : List (List Int)} {S : Nat → Prop} (h : POwn w base v L) (hf : Fr S w w1) (hs : ∀ k, v.ownBlock = some k → ¬ S k) : POwn w1 base v L :=
  ⟨h.1, own_keepP h.2 hf hs⟩
theorem POwn.nil (w : World) (base : Nat) : POwn w base (.slice none 0 0) [] := ⟨by simp, ⟨rfl, .inl ⟨rfl, rfl⟩⟩⟩
theorem built_p : ∀ (l : List Value), l.length = 32 → Tryd.prog.builtSlice 23 1 [(0, .agg l.toArray)] = some l.toArray
  | [c0, c1, c2, c3, c4, c5, c6, c7, c8, c9, c10, c11, c12, c13, c14, c15, c16, c17, c18, c19, c20, c21, c22, c23, c24, c25, c26, c27, c28, c29, c30, c31], _ => by kernel_rfl
theorem wp_build_p (W : World) (a : Act) (K : Act → World → Prop) (Q : Exit → Act → World → Prop) (x : Operand) (d : Tmp) (ty : TypeId) (pos : String) (af) (gd)
    (hx : hashOk (a.eval x) = true) :
    Oper.wp Tryd.prog { dst := some d, op := .buildSlice 32 1 #[(0, x)], type := ty, pos := pos, after := af, guard := gd } a W K Q = K (a.put (some d) (.slice (some ⟨W.heap.size, 0, none⟩) 1 1)) (W.alloc (.cells (rowCells (a.eval x)) 23)) := by
  obtain ⟨cs, hv, hs⟩ : ∃ cs, a.eval x = .agg cs ∧ cs.size = 32 := by
    unfold hashOk at hx
    split at hx
    · rename_i cs hv
      simp only [Bool.and_eq_true, beq_iff_eq] at hx
      exact ⟨cs, hv, hx.1⟩
    · cases hx
  have hb := built_p cs.toList (by simpa using hs)
  have e : (execOp a.eval { dst := some d, op := .buildSlice 32 1 #[(0, x)], type := ty, pos := pos, after := af, guard := gd }).run Tryd.prog W = .ok (.value (.slice (some ⟨W.heap.size, 0, none⟩) 1 1)) (W.alloc (.cells cs 23)) := by
    unfold Program.builtSlice at hb
    cases hie : Tryd.prog.info? 23 with
    | none => simp [hie] at hb
    | some ie =>
      simp only [hie] at hb
      cases hz : ie.zero with
      | none => simp [hz] at hb
      | some z =>
        simp only [hz] at hb
        by_cases hc : 1 * ie.size > 2 ^ 24 ∨ 1 * ie.size = 0
        · rw [if_pos hc] at hb; cases hb
        · rw [if_neg hc] at hb
          have h := run_buildSlice (P := Tryd.prog) W 32 23 1 #[(0, .agg cs)] _ ie z Tryd.underlying32 hie hz (fun h' => hc (Or.inl h')) (fun h' => hc (Or.inr h')) hb
          unfold execOp
          simp only [List.map_toArray, List.map_cons, List.map_nil, hv, Sem.run_bind, h, Result.andThen_ok, Sem.run_pure]
  have hr : rowCells (a.eval x) = cs := by rw [hv]; rfl
  unfold Oper.wp
  rw [e, hr]
  rfl
theorem prow_new (w : World) (x : List Int) (hx : x.length = 32) : HRow (w.alloc (.cells (bytes x).toArray 23)) (fun _ => False) (some ⟨w.heap.size, 0, none⟩) 1 [x] :=
  ⟨fun y hy => by rw [List.mem_singleton.1 hy]; exact hx, Nat.le_refl _, .inr (.inr ⟨_, 0, rfl, by simpa using reads_new w x _, fun h => h⟩)⟩
theorem lds_mid23 {w : World} {b o : Nat} (hx0 : midOk w 32 (.pointer (some ⟨b, o, none⟩)) = true) : Lds w 23 (.pointer (some ⟨b, o, none⟩)) (.agg (midAt w 32 (.pointer (some ⟨b, o, none⟩)))) := by
  intro ev op x ho hx
  obtain ⟨cs, t, fr, hb, hz⟩ : ∃ cs t fr, w.heap[b]? = some (.cells cs t fr) ∧ o + 32 ≤ cs.size := by
    unfold midOk at hx0
    simp only at hx0
    split at hx0
    · rename_i cs t fr hb
      exact ⟨cs, t, fr, hb, of_decide_eq_true hx0⟩
    · cases hx0
  have hi : (Tryd.prog.info? 23).map (·.size) = some 32 := by kernel_rfl
  have h := run_loadAt_mid (P := Tryd.prog) w b o 23 (cs.extract o (o + 32)).toList _ (World.rangeAt_of_block hb o 32) Tryd.underlying23 rfl (by rw [hi, Array.length_toList, Array.size_extract, show min (o + 32) cs.size - o = 32 by omega])
  have hra : midAt w 32 (.pointer (some ⟨b, o, none⟩)) = cs.extract o (o + 32) := by simp only [midAt, hb]
  unfold execOp
  simp only [ho, hx, Sem.run_bind, h, Result.andThen_ok, Sem.run_pure, Array.toArray_toList, hra]
theorem lds_row23 {w : World} {S : Nat → Prop} {b o c : Nat} {L : List (List Int)} (h : HRow w S (some ⟨b, o, none⟩) c L) (i : Nat) (hi : i < L.length) : Lds w 23 (.pointer (some ⟨b, o + i * 32, none⟩)) (.agg (bytes L[i]).toArray) := by
  obtain ⟨m1, m2⟩ := h.mid i hi
  rw [← m2]
  exact lds_mid23 m1
attribute [local go_sem ↓] Go.wp_at_zero Go.wp_at_succ wp_load_hash wp_store_hash wp_load_mid23 wp_load_mid25 wp_store_mid25 wp_build_hash wp_build_p
attribute [local go_sem] rowAt_drew rowOk_drew midOk_drew midAt_drew rowBlock rowCells rowOff midFree_drew
set_option maxHeartbeats 4000000 in
set_option maxRecDepth 100000 in
/-- plain: the list as plain bytes, new memory -/
theorem plain_calls (A : Option Addr) (c : Nat) (L : List (List Int)) (w : World) (hX : HRow w (fun _ => False) A c L) (hb : L.length * 32 ≤ 140737488355328) :
    Calls Tryd.prog 38 #[.slice A L.length c] w fun e w' => ∃ v, e = .returned v ∧ POwn w' w.heap.size v L ∧ Fr (fun _ => False) w w' := by
  have HX := Kp.mk hX
  have HB := Kp.mk hb
  obtain ⟨n, hn⟩ : ∃ n, n = L.length := ⟨_, rfl⟩
  rw [← hn]
  have HN := Kp.mk hn
  have hnl : n ≤ 4398046511104 := by omega
  clear hX hb hn
  go_enter Tryd.func38, Tryd.ntmps38
  go_wp2_with fail
  go_loopw [3, 4] (fun v a wr => ∃ i : Nat, a = .int .i64 i ∧ i ≤ n ∧ Kp (POwn wr w.heap.size v (L.take i)) ∧ Kp (Fr (fun _ => False) w wr)) (fun _ a _ => n - (intOf a).toNat)
  case atStart => exact ⟨0, rfl, Nat.zero_le _, ⟨POwn.nil _ _⟩, ⟨Fr.refl _ _⟩⟩
  case round =>
    obtain ⟨i, rfl, hi, HO, HF⟩ := hrel
    by_cases h : i < n
    · have HX1 := Kp.mk (HX.out.fr HF.out)
      obtain ⟨b, o, hA, _, _, _⟩ := HX1.out.at i (by rw [← HN.out]; exact h)
      subst hA
      obtain ⟨m1, m2⟩ := HX1.out.mid i (by rw [← HN.out]; exact h)
      have hx32 : (L[i]'(by rw [← HN.out]; exact h)).length = 32 := HX.out.1 _ (List.getElem_mem _)
      have HT := Kp.mk (show L.take (i + 1) = L.take i ++ [L[i]'(by rw [← HN.out]; exact h)] from List.take_succ_eq_append_getElem _)
      generalize L[i]'(by rw [← HN.out]; exact h) = x at m2 hx32 HT
      have hk := hashOk_bytes x hx32
      have HX32 := Kp.mk hx32
      clear hx32
      have HXn : Kp (HRow (wr.alloc (.cells (bytes x).toArray 23)) (fun _ => False) (some ⟨wr.heap.size, 0, none⟩) 1 [x]) := ⟨prow_new wr x HX32.out⟩
      have HOa := Kp.mk (HO.out.keep ((Fr.refl (fun _ => False) wr).alloc (.cells (bytes x).toArray 23)) (fun _ _ h => h))
      go_wp2_with (at_builtin; refine wpList_appendP rfl _ _ rfl rfl w.heap.size u3 (L.take i) rfl HOa.out (some ⟨wr.heap.size, 0, none⟩) 1 1 [x] rfl rfl HXn.out (by have := HN.out; rw [List.length_take]; simp only [List.length_singleton]; omega) (by exact (HF.out.alloc (.cells (bytes x).toArray 23)).size) ?_; intro v5 w5 hown hgr hat; have HO5 := Kp.mk hown; have HG5 := Kp.mk hgr; clear hown hgr hat)
      refine ⟨⟨i + 1, rfl, by omega, ⟨by rw [HT.out]; exact HO5.out⟩, ⟨(HF.out.alloc (.cells (bytes x).toArray 23)).grown HG5.out (fun q hq h => absurd (HO.out.lt q h).2 (by omega))⟩⟩, ?_⟩
      simp only [intOf]
      omega
    · obtain rfl : i = n := by omega
      clear h
      go_wp2_with fail
      go_ret
      refine ⟨_, rfl, ?_, HF.out⟩
      have h := HO.out
      rw [List.take_of_length_le (by rw [← HN.out]; exact Nat.le_refl _)] at h
      exact h
set_option maxHeartbeats 4000000 in
set_option maxRecDepth 100000 in
/-- same: of two lists that are the same -/
theorem same_calls (A1 A2 : Option Addr) (c1 c2 : Nat) (L : List (List Int)) (w : World) (hX1 : HRow w (fun _ => False) A1 c1 L) (hX2 : HRow w (fun _ => False) A2 c2 L) (hb : L.length ≤ 4398046511104) :
    Calls Tryd.prog 28 #[.slice A1 L.length c1, .slice A2 L.length c2] w fun e w' => e = .returned (.bool true) ∧ Fr (fun _ => False) w w' := by
  have HX1 := Kp.mk hX1
  have HX2 := Kp.mk hX2
  obtain ⟨n, hn⟩ : ∃ n, n = L.length := ⟨_, rfl⟩
  rw [← hn] at hb ⊢
  have HN := Kp.mk hn
  clear hX1 hX2 hn
  go_enter Tryd.func28, Tryd.ntmps28
  go_wp2_with fail
  go_loopw [5] (fun a wr => ∃ i : Nat, a = .int .i64 i ∧ i ≤ n ∧ Kp (Fr (fun _ => False) w wr)) (fun a _ => n - (intOf a).toNat)
  case atStart => exact ⟨0, rfl, Nat.zero_le _, ⟨Fr.refl _ _⟩⟩
  case round =>
    obtain ⟨i, rfl, hi, HF⟩ := hrel
    by_cases h : i < n
    · have hil : i < L.length := by rw [← HN.out]; exact h
      obtain ⟨b1, o1, hA1, _, _, _⟩ := HX1.out.at i hil
      obtain ⟨b2, o2, hA2, _, _, _⟩ := HX2.out.at i hil
      subst hA1 hA2
      have hx32 : (L[i]'hil).length = 32 := HX1.out.1 _ (List.getElem_mem _)
      have HL1 : Kp (∀ W, Fr (fun _ => False) wr W → Lds W 25 (.pointer (some ⟨b1, o1 + i * 32, none⟩)) (.agg (bytes (L[i]'hil)).toArray)) := ⟨fun W hf => lds_row ((HX1.out.fr HF.out).fr hf) i hil⟩
      have HL2 : Kp (∀ W, Fr (fun _ => False) wr W → Lds W 23 (.pointer (some ⟨b2, o2 + i * 32, none⟩)) (.agg (bytes (L[i]'hil)).toArray)) := ⟨fun W hf => lds_row23 ((HX2.out.fr HF.out).fr hf) i hil⟩
      generalize L[i]'hil = x at hx32 HL1 HL2
      have sE : ∀ W, (Op.equalIn 10000 25 (.agg (bytes x).toArray) (.agg (bytes x).toArray)).run Tryd.prog W = .ok true W := fun W => by
        have h := eq32 x x hx32 hx32 W
        rw [decide_eq_true rfl] at h
        exact h
      have hii : (i : Int) < (n : Int) := Int.ofNat_lt.2 h
      clear hx32 hil
      go_upto_region 6 with (fail)
      refine start_ (n := 9) (S := fun w' => Lds w' 25 (.pointer (some ⟨b1, o1 + i * 32, none⟩)) (.agg (bytes x).toArray) ∧ Lds w' 23 (.pointer (some ⟨b2, o2 + i * 32, none⟩)) (.agg (bytes x).toArray)) (ds := []) #[false, false, false, false, false, false, false, false, false] (by kernel_rfl) rfl rfl ⟨HL1.out _ ((Fr.refl (fun _ => False) wr).drew), HL2.out _ ((Fr.refl (fun _ => False) wr).drew)⟩ (fun hHeld => ?_)
      refine pure_ (i := 0) (N := some 17) (v := ?_) (a' := ?_) #[true, false, false, false, false, false, false, false, false] rfl rfl (by kernel_rfl) (fun _ _ _ h => h) (Or.inl ⟨by rfl, ?_⟩) ?_ ?_
      rotate_left
      · intro w'
        go_simp
        with_reducible rfl
      rotate_left
      · simp only [Act.put, List.setIfInBounds_toArray, List.set_cons_zero, List.set_cons_succ]
        rfl
      refine pure_ (i := 1) (N := some 18) (v := ?_) (a' := ?_) #[true, true, false, false, false, false, false, false, false] rfl rfl (by kernel_rfl) (fun _ _ _ h => h) (Or.inl ⟨by rfl, ?_⟩) ?_ ?_
      rotate_left
      · intro w'
        go_simp
        with_reducible rfl
      rotate_left
      · simp only [Act.put, List.setIfInBounds_toArray, List.set_cons_zero, List.set_cons_succ]
        rfl
      refine pure_ (i := 2) (N := some 19) (v := ?_) (a' := ?_) #[true, true, true, false, false, false, false, false, false] rfl rfl (by kernel_rfl) (fun _ _ _ h => h) (Or.inl ⟨by rfl, ?_⟩) ?_ ?_
      rotate_left
      · intro w'
        go_simp
        with_reducible rfl
      rotate_left
      · simp only [Act.put, List.setIfInBounds_toArray, List.set_cons_zero, List.set_cons_succ]
        rfl
      refine pure_ (i := 4) (N := some 21) (v := ?_) (a' := ?_) #[true, true, true, false, true, false, false, false, false] rfl rfl (by kernel_rfl) (fun _ _ _ h => h) (Or.inl ⟨by rfl, ?_⟩) ?_ ?_
      rotate_left
      · intro w'
        go_simp
        with_reducible rfl
      rotate_left
      · simp only [Act.put, List.setIfInBounds_toArray, List.set_cons_zero, List.set_cons_succ]
        rfl
      refine pure_ (i := 5) (N := some 22) (v := ?_) (a' := ?_) #[true, true, true, false, true, true, false, false, false] rfl rfl (by kernel_rfl) (fun _ _ _ h => h) (Or.inl ⟨by rfl, ?_⟩) ?_ ?_
      rotate_left
      · intro w'
        go_simp
        with_reducible rfl
      rotate_left
      · simp only [Act.put, List.setIfInBounds_toArray, List.set_cons_zero, List.set_cons_succ]
        rfl
      refine pure_ (i := 6) (N := some 23) (v := ?_) (a' := ?_) #[true, true, true, false, true, true, true, false, false] rfl rfl (by kernel_rfl) (fun _ _ _ h => h) (Or.inl ⟨by rfl, ?_⟩) ?_ ?_
      rotate_left
      · intro w'
        go_simp
        with_reducible rfl
      rotate_left
      · simp only [Act.put, List.setIfInBounds_toArray, List.set_cons_zero, List.set_cons_succ]
        rfl
      refine take_ (i := 3) (N := some 20) (v := ?_) (a' := ?_) #[true, true, true, true, true, true, true, false, false] rfl rfl (by kernel_rfl) (fun _ _ _ h => h) (Or.inl ⟨by rfl, ?_⟩) hHeld ?_ ?_
      rotate_left
      · rintro w' ⟨s0, s1⟩
        refine Lds.run s0 (x := ?_) ?_ ?_
        · exact (Operand.tmp 19)
        · rfl
        · rfl
      rotate_left
      · simp only [Act.put, List.setIfInBounds_toArray, List.set_cons_zero, List.set_cons_succ]
        rfl
      refine take_ (i := 7) (N := some 24) (v := ?_) (a' := ?_) #[true, true, true, true, true, true, true, true, false] rfl rfl (by kernel_rfl) (fun _ _ _ h => h) (Or.inl ⟨by rfl, ?_⟩) hHeld ?_ ?_
      rotate_left
      · rintro w' ⟨s0, s1⟩
        refine Lds.run s1 (x := ?_) ?_ ?_
        · exact (Operand.tmp 23)
        · rfl
        · rfl
      rotate_left
      · simp only [Act.put, List.setIfInBounds_toArray, List.set_cons_zero, List.set_cons_succ]
        rfl
      refine pure_ (i := 8) (N := some 25) (v := ?_) (a' := ?_) #[true, true, true, true, true, true, true, true, true] rfl rfl (by kernel_rfl) (fun _ _ _ h => h) (Or.inl ⟨by rfl, ?_⟩) ?_ ?_
      rotate_left
      · intro w'
        go_simp
        with_reducible rfl
      rotate_left
      · simp only [Act.put, List.setIfInBounds_toArray, List.set_cons_zero, List.set_cons_succ]
        rfl
      refine done_ (by kernel_rfl) ?_
      clear HL1 HL2 sE
      go_wp2_with fail
      refine ⟨⟨i + 1, by go_num, by omega, ⟨HF.out.drew⟩⟩, ?_⟩
      simp only [intOf]
      omega
    · obtain rfl : i = n := by omega
      clear h
      go_wp2_with fail
      go_ret
      exact ⟨rfl, HF.out⟩
end Go.Proofs.YtjbhaopocabfaaaDoor.Sha
namespace Go.Proofs.YtjbhaopocabfaaaDoor.Sha
open Go.RowKit Go.Proofs.YtjbhaopocabfaaaDoor.Mem Go.Proofs.YtjbhaopocabfaaaDoorW.PrintWords Go.Proofs.YtjbhaopocabfaaaDoorW.PrintLast Go.Proofs.YtjbhaopocabfaaaDoor.Pl Go.Proofs.YtjbhaopocabfaaaDoor.Wk
attribute [local go_sem ↓] Go.wp_at_zero Go.wp_at_succ wp_load_hash wp_store_hash wp_load_mid23 wp_load_mid25 wp_store_mid25 wp_build_hash
attribute [local go_sem] rowAt_drew rowOk_drew midOk_drew midAt_drew rowBlock rowCells rowOff midFree_drew
theorem flat_set (L : List (List Int)) (h : ∀ x ∈ L, x.length = 32) (v : Int) : ∀ (q : Nat) (hq : q < L.length) (j : Nat), j < 32 → (L.set q ((L[q]).set j v)).flatten = L.flatten.set (32 * q + j) v := by
  induction L with
  | nil => intro q hq; simp at hq
  | cons x r ih =>
    intro q hq j hj
    have hx : x.length = 32 := h x (by simp)
    cases q with
    | zero =>
      simp only [List.set_cons_zero, List.flatten_cons, List.getElem_cons_zero, Nat.mul_zero, Nat.zero_add]
      rw [List.set_append_left _ _ (by omega)]
    | succ q =>
      simp only [List.set_cons_succ, List.flatten_cons, List.getElem_cons_succ]
      rw [ih (fun y hy => h y (by simp [hy])) q (by simpa using hq) j hj, List.set_append_right _ _ (by omega), hx]
      congr 2
      omega
theorem set_32 {L : List (List Int)} (h : ∀ x ∈ L, x.length = 32) {q j : Nat} (hq : q < L.length) (v : Int) : ∀ y ∈ L.set q ((L[q]).set j v), y.length = 32 := by
  intro y hy
  rcases List.mem_or_eq_of_mem_set hy with h1 | h1
  · exact h y h1
  · rw [h1, List.length_set]; exact h _ (List.getElem_mem _)
/-- one byte of a list is written -/
theorem HRow.setByte {w : World} {b o c : Nat} {L : List (List Int)} (h : HRow w (fun _ => False) (some ⟨b, o, none⟩) c L) (q j : Nat) (hq : q < L.length) (hj : j < 32) (v : Int) :
    HRow (w.setCell ⟨b, o + q * 32 + j, none⟩ (.int .u8 v)) (fun _ => False) (some ⟨b, o, none⟩) c (L.set q ((L[q]).set j v)) := by
  refine ⟨set_32 h.1 hq v, by rw [List.length_set]; exact h.2.1, ?_⟩
  rcases h.2.2 with ⟨_, _, h3⟩ | ⟨h3, _⟩ | ⟨b', o', h1, h2, _⟩
  · rw [h3] at hq; cases hq
  · rw [h3] at hq; cases hq
  · simp only [Option.some.injEq, Addr.mk.injEq, and_true] at h1
    obtain ⟨rfl, rfl⟩ := h1
    refine .inr (.inr ⟨b, o, rfl, ⟨by simpa [World.setCell] using h2.1, fun i hi => ?_⟩, fun h => h⟩)
    rw [flat_set L h.1 v q hq j hj] at hi ⊢
    rw [List.length_set] at hi
    have h4 := h2.2 i hi
    by_cases he : i = 32 * q + j
    · subst he
      rw [show o + (32 * q + j) = o + q * 32 + j by omega] at h4 ⊢
      rw [World.cell?_setCell_same _ _ _ h4]
      simp [List.getD, List.getElem?_set_self hi]
    · rw [World.cell?_setCell_other _ _ _ _ (by intro he2; simp only [Addr.mk.injEq, true_and, and_true] at he2; omega), h4]
      simp only [List.getD, List.getElem?_set_ne (Ne.symm he)]
/-- with an inner hash turned the list is no tree's -/
theorem good_turned (s : Nat) (ls : List (List Int)) (_hl : ls.length ≤ 65536) (l m : Nat) (hl0 : 0 < l) (_hm : (m + 1) * 2 ^ l ≤ ls.length) (y : List Int) (hq : cnt ((m + 1) * 2 ^ l - 1) + l < (storedL s ls).length) (hy : y ≠ (storedL s ls)[cnt ((m + 1) * 2 ^ l - 1) + l]) :
    goodL s ((storedL s ls).set (cnt ((m + 1) * 2 ^ l - 1) + l) y) ls.length = false := by
  unfold goodL
  refine decide_eq_false fun e => hy ?_
  have hp : 0 < (m + 1) * 2 ^ l := Nat.mul_pos (by omega) (pow_pos l)
  have hlv : leavesOf [] ((storedL s ls).set (cnt ((m + 1) * 2 ^ l - 1) + l) y) ls.length = ls := by
    have h0 := leavesOf_stored (nodeL s) [] ls
    refine Eq.trans ?_ h0
    unfold leavesOf
    refine List.map_congr_left fun i hi => ?_
    have hne : cnt ((m + 1) * 2 ^ l - 1) + l ≠ cnt i := by
      intro he
      have h1 := cnt_step_le m l
      rcases Nat.lt_or_ge ((m + 1) * 2 ^ l - 1) i with h2 | h2
      · have h3 := cnt_mono (show (m + 1) * 2 ^ l ≤ i by omega)
        omega
      · have h3 := cnt_mono h2
        omega
    have e1 : (storedL s ls) = storedN (nodeL s) [] ls ls.length := rfl
    rw [← e1]
    simp only [List.getD, List.getElem?_set_ne hne]
  rw [hlv] at e
  have e2 : (storedL s ls).set (cnt ((m + 1) * 2 ^ l - 1) + l) y = storedL s ls := e
  have h5 : ((storedL s ls).set (cnt ((m + 1) * 2 ^ l - 1) + l) y)[cnt ((m + 1) * 2 ^ l - 1) + l]? = (storedL s ls)[cnt ((m + 1) * 2 ^ l - 1) + l]? := by rw [e2]
  rw [List.getElem?_set_self hq, List.getElem?_eq_getElem hq] at h5
  exact Option.some.inj h5
theorem lds_u8 {w : World} {a : Addr} {v : Value} (h : w.cell? a = some v) : Lds w 5 (.pointer (some a)) v := by
  intro ev o x ho hx
  unfold execOp
  simp only [ho, hx]
  go_simp
theorem st_u8 (ev : Operand → Value) (o : Oper) (x y : Operand) (w : World) (a : Addr) (u : Value) (v : Int) (ho : o.op = .store 5 x y) (hx : ev x = .pointer (some a)) (hy : ev y = .int .u8 v) (c1 : w.cell? a = some u) (f1 : w.frozen? a = false) :
    (execOp ev o).run Tryd.prog w = .ok .skip (w.setCell a (.int .u8 v)) := by
  unfold execOp
  simp only [ho, hx, hy]
  go_simp
theorem hlst_at {w : World} {B : Nat} {A : Option Addr} {n c : Nat} {L : List (List Int)} (h : HLst w B (.slice A n c) L) (hL : L ≠ []) : ∃ b, A = some ⟨b, 0, none⟩ ∧ B ≤ b ∧ b < w.heap.size ∧ ∃ vs, Blk w b 25 vs := by
  obtain ⟨b, hA⟩ : ∃ b, A = some ⟨b, 0, none⟩ := by
    rcases h with h | ⟨_, g, cur, hv, _⟩
    · rcases h.2.2 with ⟨_, h0⟩ | ⟨g, cap, cur, hv, _⟩
      · exact absurd (List.eq_nil_of_length_eq_zero h0) hL
      · cases hv; exact ⟨g, rfl⟩
    · cases hv; exact ⟨g, rfl⟩
  subst hA
  obtain ⟨h1, h2⟩ := h.lt b rfl
  obtain ⟨cur, hc⟩ := h.type b rfl
  exact ⟨b, rfl, h2, h1, cur.toList, by unfold Blk; rw [hc]⟩
theorem u8_ne (v : Int) : IntKind.u8.wrap (v + 1) ≠ v := by
  have h : IntKind.u8.wrap (v + 1) = (v + 1) % 256 := by simp [IntKind.wrap, IntKind.bits, IntKind.signed]
  rw [h]; omega
theorem set_ne {x : List Int} {j : Nat} (hj : j < x.length) (v : Int) (hv : v ≠ x.getD j 0) : x.set j v ≠ x := by
  intro e
  have h := congrArg (fun l => List.getD l j 0) e
  simp only [List.getD, List.getElem?_set_self hj, Option.getD_some] at h
  exact hv h
/-- Go's way to bring a number into a list's bounds -/
theorem at_in (r N : Int) (hN : 0 < N) : 0 ≤ (Int.tmod r N + N) % N ∧ (Int.tmod r N + N) % N < N ∧ -N < Int.tmod r N ∧ Int.tmod r N < N := by
  have h1 : Int.tmod r N < N := Int.tmod_lt_of_pos r hN
  have h2 : -N < Int.tmod r N := by
    have := Int.lt_tmod_of_pos r hN
    exact this
  exact ⟨Int.emod_nonneg _ (by omega), Int.emod_lt_of_pos _ hN, h2, h1⟩
end Go.Proofs.YtjbhaopocabfaaaDoor.Sha
