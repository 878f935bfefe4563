/-
  Byte strings: Equal, LeafBytes, and what strings of them say. LeafBytes, NodeBytes, Collides, and collides by the law. Loads and stores of small structs. collides, by the law.
-/
import Derived.Test.YtjcmgpiapbeodaaDoorRoot
import Derived.Test.YtjcmgpiapbeodaaDoorReg
import Derived.Lib.ConvBytes
import Derived.Laws.BytesString
import Derived.Lib.AppendZeros
set_option linter.unusedSimpArgs false
namespace Go.Proofs.YtjcmgpiapbeodaaDoor.Sha
open Go.RowKit Go.Proofs.YtjcmgpiapbeodaaDoor.Mem Go.Proofs.YtjcmgpiapbeodaaDoorW.PrintWords Go.Proofs.YtjcmgpiapbeodaaDoorW.PrintLast Go.Proofs.YtjcmgpiapbeodaaDoor.Pl Go.Proofs.YtjcmgpiapbeodaaDoor.Wk
attribute [local go_sem ↓] Go.wp_at_zero Go.wp_at_succ wp_load_hash wp_store_hash wp_load_mid23 wp_load_mid25 wp_store_mid25 wp_build_hash
attribute [local go_sem] rowAt_drew rowOk_drew midOk_drew midAt_drew rowBlock rowCells rowOff midFree_drew
/-- bytes -/
def Byt (p : List Int) : Prop := ∀ b ∈ p, 0 ≤ b ∧ b < 256
theorem run_strOf {w : World} {b o : Nat} {p : List Int} (h : Reads w b o p) (c : Nat) : (convert 22 9 (.slice (some ⟨b, o, none⟩) p.length c)).run Tryd.prog w = .ok (.string (strOfNums p)) w :=
  run_convert_bytes_arg w 22 5 Tryd.underlying22 Tryd.underlying5 b o p.length c p rfl h.2 9 Tryd.underlying9
theorem strOf_nil : strOfNums [] = ByteArray.empty := rfl
theorem conv_src {w : World} {S : Nat → Prop} {A : Option Addr} {c : Nat} {p : List Int} (h : Src w S A c p) : (convert 22 9 (.slice A p.length c)).run Tryd.prog w = .ok (.string (strOfNums p)) w := by
  rcases h.2 with ⟨rfl, rfl, rfl⟩ | ⟨rfl, ad, rfl⟩ | ⟨b, o, rfl, hr, _⟩
  · rw [strOf_nil]
    exact run_convert_bytes_nil w 22 5 Tryd.underlying22 Tryd.underlying5 _ _ 9 Tryd.underlying9
  · rw [run_convert_bytes_string w 22 9 5 _ _ _ Tryd.underlying22 Tryd.underlying5 Tryd.underlying9]
    have h0 : (loadCells ad 0).run Tryd.prog w = .ok (([] : List Int).map (Value.int .u8)).toArray w := by
      have := run_loadCells_list (P := Tryd.prog) w ad [] (fun j v hj => by simp at hj)
      simpa using this
    exact run_bytesToString w _ 0 c [] h0
  · exact run_strOf hr c
theorem strOf_inj {p q : List Int} (hp : Byt p) (hq : Byt q) (h : strOfNums p = strOfNums q) : p = q := by
  have h1 := congrArg (fun s : ByteArray => s.data.toList) h
  simp only [strOfNums_data] at h1
  apply List.ext_getElem?
  intro i
  have h2 := congrArg (fun l : List UInt8 => (l[i]?).map UInt8.toNat) h1
  simp only [List.getElem?_map, Option.map_map] at h2
  cases ha : p[i]? with
  | none =>
    cases hb : q[i]? with
    | none => rfl
    | some b => rw [ha, hb] at h2; simp at h2
  | some a =>
    cases hb : q[i]? with
    | none => rw [ha, hb] at h2; simp at h2
    | some b =>
      rw [ha, hb] at h2
      have r1 := hp a (List.mem_of_getElem? ha)
      have r2 := hq b (List.mem_of_getElem? hb)
      simp only [Option.map_some, Function.comp_apply, Option.some.injEq, UInt8.toNat_ofNat'] at h2
      rw [Nat.mod_eq_of_lt (by omega), Nat.mod_eq_of_lt (by omega)] at h2
      congr 1
      omega
theorem strOf_iff {p q : List Int} (hp : Byt p) (hq : Byt q) : (strOfNums p = strOfNums q) = (p = q) := by
  apply propext
  exact ⟨strOf_inj hp hq, fun h => by rw [h]⟩
set_option maxHeartbeats 2000000 in
set_option maxRecDepth 100000 in
/-- Equal -/
theorem equal_calls (A B : Option Addr) (c d : Nat) (p q : List Int) (w : World) {S S' : Nat → Prop} (hX : Src w S A c p) (hY : Src w S' B d q) (hp : Byt p) (hq : Byt q) :
    Calls Tryd.prog 42 #[.slice A p.length c, .slice B q.length d] w fun e w' => e = .returned (.bool (decide (p = q))) ∧ w' = w := by
  have h1 := conv_src hX
  have h2 := conv_src hY
  have h3 := strOf_iff hp hq
  generalize strOfNums p = s at h1 h3
  generalize strOfNums q = t at h2 h3
  generalize p.length = n at h1 ⊢
  generalize q.length = m at h2 ⊢
  have HE : Kp ((s.toList == t.toList) = decide (p = q)) := ⟨by
    have e : (s.toList == t.toList) = decide (s = t) := by
      by_cases h : s = t
      · subst h; simp
      · rw [decide_eq_false h]
        simp only [ByteArray.toList_eq, beq_eq_false_iff_ne, ne_eq]
        exact fun e => h (ByteArray.ext (Array.toList_inj.1 e))
    rw [e]
    exact decide_eq_decide.2 (iff_of_eq h3)⟩
  clear h3 hX hY hp hq
  go_enter Tryd.func42, Tryd.ntmps42
  go_wp2_with (fail)
  go_ret
  exact ⟨by rw [HE.out]; rfl, rfl⟩
end Go.Proofs.YtjcmgpiapbeodaaDoor.Sha
set_option linter.unusedVariables false
namespace Go.Proofs.YtjcmgpiapbeodaaDoor.Sha
open Go.RowKit Go.Proofs.YtjcmgpiapbeodaaDoor.Mem Go.Proofs.YtjcmgpiapbeodaaDoorW.PrintWords Go.Proofs.YtjcmgpiapbeodaaDoorW.PrintLast Go.Proofs.YtjcmgpiapbeodaaDoor.Pl Go.Proofs.YtjcmgpiapbeodaaDoor.Wk
attribute [local go_sem ↓] Go.wp_at_zero Go.wp_at_succ wp_load_hash wp_store_hash wp_load_mid23 wp_load_mid25 wp_store_mid25 wp_build_hash
attribute [local go_sem] rowAt_drew rowOk_drew midOk_drew midAt_drew rowBlock rowCells rowOff midFree_drew
def zr32 : List Int := [0, 0, 0, 0, 0, 0, 0, 0, 0, 0, 0, 0, 0, 0, 0, 0, 0, 0, 0, 0, 0, 0, 0, 0, 0, 0, 0, 0, 0, 0, 0, 0]
theorem own_one (w : World) (x : Int) (base : Nat) (hb : base ≤ w.heap.size) : (w.alloc (.cells #[.int .u8 x] 5)).ownsRow base 5 1 (.slice (some ⟨w.heap.size, 0, none⟩) 1 1) 1 (bytes [x]) :=
  World.ownsRow_lit w #[.int .u8 x] 1 hb (by unfold maxLen; omega) rfl
theorem owns_keep {w w1 : World} {base n : Nat} {E : TypeId} {sz : Nat} {v : Value} {xs : List Value} {S : Nat → Prop} (h : w.ownsRow base E sz v n xs) (hf : Fr S w w1) (hs : ∀ k, v.ownBlock = some k → ¬ S k) : w1.ownsRow base E sz v n xs := by
  refine ⟨h.1, ?_⟩
  rcases h.2 with h' | ⟨g, cap, cur, rfl, hb, hg, hr⟩
  · exact .inl h'
  · refine .inr ⟨g, cap, cur, rfl, hb, ?_, hr⟩
    have hlt : g < w.heap.size := by
      rcases Nat.lt_or_ge g w.heap.size with h | h
      · exact h
      · rw [Array.getElem?_eq_none h] at hg; cases hg
    exact (hf.block g hlt (hs g rfl)).trans hg
theorem owns_low {w : World} {base base' n : Nat} {E : TypeId} {sz : Nat} {v : Value} {xs : List Value} (h : w.ownsRow base E sz v n xs) (hb : base' ≤ base) : w.ownsRow base' E sz v n xs := by
  refine ⟨h.1, ?_⟩
  rcases h.2 with h' | ⟨g, cap, cur, rfl, hg, hr⟩
  · exact .inl h'
  · exact .inr ⟨g, cap, cur, rfl, Nat.le_trans hb hg, hr⟩
set_option maxHeartbeats 4000000 in
set_option maxRecDepth 100000 in
theorem leafBytes_calls (A : Option Addr) (c : Nat) (p : List Int) (w : World) (hX : Src w (fun _ => False) A c p) (hp : p.length ≤ 140737488351232) : Calls Tryd.prog 10 #[.slice A p.length c] w fun e w' =>
    ∃ v, e = .returned v ∧ w'.ownsRow w.heap.size 5 1 v (0 :: p).length (bytes (0 :: p)) ∧ Fr (fun _ => False) w w' := by
  have HX := Kp.mk hX
  obtain ⟨n, hn⟩ : ∃ n, n = p.length := ⟨_, rfl⟩
  have HN := Kp.mk hn
  rw [← hn] at hp ⊢
  have HO := Kp.mk (own_one w 0 w.heap.size (Nat.le_refl _))
  have hfa := (Fr.refl (fun _ => False) w).alloc (.cells #[.int .u8 0] 5)
  have HFA := Kp.mk hfa
  have HXa := Kp.mk (HX.out.fr hfa)
  clear hX hn hfa
  go_enter Tryd.func10, Tryd.ntmps10
  go_wp2_with (at_builtin; refine wpList_appendS rfl _ _ rfl rfl w.heap.size _ [0] rfl HO.out _ n _ p HN.out rfl HXa.out (by have := HN.out; simp only [List.length_singleton]; omega) (by exact HFA.out.size) ?_; intro v1 W1 h1 h2 h3; have HO1 := Kp.mk h1; have HG1 := Kp.mk h2; clear h1 h2 h3)
  go_ret
  refine ⟨v1, rfl, HO1.out, ?_⟩
  have hg := ((Fr.refl (fun q => q = w.heap.size) w).alloc (.cells #[.int .u8 0] 5)).grown HG1.out (fun q _ h => (Option.some.inj h).symm)
  exact (Fr.refl (fun _ => False) w).trans hg (fun q hq h => by omega)
theorem grown_nil (w : World) (n : Nat) (h0 : 0 < n) (hn : n ≤ 100000) : ∃ cap cur, n ≤ cap ∧ cap ≤ maxLen ∧ cur.size = cap ∧ (Builtin.append_ #[22, 3] 22 #[.slice none 0 0, .int .i64 (n : Int)]).run Tryd.prog w = .ok (.slice (some ⟨w.heap.size, 0, none⟩) n cap) (w.drew.alloc (.cells cur 5)) := by
  have hi := (by kernel_rfl : (Tryd.prog.info? 5).map (fun i => (i.zero, i.size, i.bytes)) = some (some (.int .u8 0), 1, 1))
  obtain ⟨i0, h1, h2, h3, h4⟩ := info_parts hi
  have h := Lib.run_append_nil_zeros (P := Tryd.prog) w 22 3 22 5 i0 (.int .u8 0) .i64 .i64 Tryd.underlying22 Tryd.underlying3 h1 h2 n h0 (by omega) (by omega) (by rw [h4]; omega)
  refine ⟨_, _, grownCap_ge w n 0 5, grownCap_le_maxLen w n 0 5 (by unfold maxLen; omega), ?_, h⟩
  have hg := grownCap_ge w n 0 5
  simp only [Array.size_append, size_zeroCells, Value.cells, List.size_toArray, List.length_cons, List.length_nil]
  omega
set_option maxHeartbeats 4000000 in
set_option maxRecDepth 100000 in
theorem grow_calls (n : Nat) (h0 : 0 < n) (hn : n ≤ 100000) (w : World) : Calls Tryd.prog 64 #[.slice none 0 0, .int .i64 (n : Int)] w fun e w' =>
    ∃ g cap, e = .returned (.slice (some ⟨g, 0, none⟩) 0 cap) ∧ w'.ownsRow w.heap.size 5 1 (.slice (some ⟨g, 0, none⟩) 0 cap) 0 [] ∧ Fr (fun _ => False) w w' := by
  obtain ⟨cap, cur, c1, c2, c3, c4⟩ := grown_nil w n h0 hn
  have HC := Kp.mk (And.intro c2 c3)
  clear c2 c3
  go_enter Tryd.func64, Tryd.ntmps64
  go_wp2_with (at_builtin; refine Lib.wpList_append_run _ rfl _ _ _ _ rfl _ _ rfl rfl _ _ c4 ?_)
  go_ret
  refine ⟨w.heap.size, cap, rfl, ⟨rfl, .inr ⟨w.heap.size, cap, cur, rfl, Nat.le_refl _, Blk.new w.drew cur _, Nat.zero_le _, HC.out.1, by rw [HC.out.2, Nat.mul_one], by simp⟩⟩, ((Fr.refl (fun _ => False) w).drew).alloc _⟩
set_option maxHeartbeats 4000000 in
set_option maxRecDepth 100000 in
/-- Concat, of three lists of 1, 32 and 32 bytes -/
theorem concat_calls (gs : Nat) (A1 A2 A3 : Option Addr) (c1 c2 c3 : Nat) (p1 p2 p3 : List Int) (w : World) (hB : Blk w gs 22 [.slice A1 1 c1, .slice A2 32 c2, .slice A3 32 c3]) (h1 : Src w (fun _ => False) A1 c1 p1) (h2 : Src w (fun _ => False) A2 c2 p2) (h3 : Src w (fun _ => False) A3 c3 p3) (l1 : p1.length = 1) (l2 : p2.length = 32) (l3 : p3.length = 32) :
    Calls Tryd.prog 37 #[.slice (some ⟨gs, 0, none⟩) 3 3] w fun e w' => ∃ v, e = .returned v ∧ w'.ownsRow w.heap.size 5 1 v (p1 ++ (p2 ++ p3)).length (bytes (p1 ++ (p2 ++ p3))) ∧ Fr (fun _ => False) w w' := by
  have HB := Kp.mk hB
  have HX1 := Kp.mk h1
  have HX2 := Kp.mk h2
  have HX3 := Kp.mk h3
  have HL1 := Kp.mk l1
  have HL2 := Kp.mk l2
  have HL3 := Kp.mk l3
  have d0 : w.cell? ⟨gs, 0, none⟩ = some (.slice A1 1 c1) := hB.cell 0 _ rfl
  have d1 : w.cell? ⟨gs, 1, none⟩ = some (.slice A2 32 c2) := hB.cell 1 _ rfl
  have d2 : w.cell? ⟨gs, 2, none⟩ = some (.slice A3 32 c3) := hB.cell 2 _ rfl
  have CG := Kp.mk (fun W => grow_calls 65 (by decide) (by decide) W)
  clear hB h1 h2 h3 l1 l2 l3
  go_enter Tryd.func37, Tryd.ntmps37
  go_wp2_with fail
  go_loop [3, 11] (fun n i => (i = .int .i64 0 ∧ n = .int .i64 0) ∨ (i = .int .i64 1 ∧ n = .int .i64 1) ∨ (i = .int .i64 2 ∧ n = .int .i64 33) ∨ (i = .int .i64 3 ∧ n = .int .i64 65)) (fun _ i => 3 - (intOf i).toNat)
  case atStart => exact .inl ⟨rfl, rfl⟩
  case round =>
    rcases hrel with ⟨rfl, rfl⟩ | ⟨rfl, rfl⟩ | ⟨rfl, rfl⟩ | ⟨rfl, rfl⟩
    · go_wp2_with fail
      go_round
      case rel => exact .inr (.inl ⟨rfl, rfl⟩)
      case measure => simp only [intOf]; decide
    · go_wp2_with fail
      go_round
      case rel => exact .inr (.inr (.inl ⟨rfl, rfl⟩))
      case measure => simp only [intOf]; decide
    · go_wp2_with fail
      go_round
      case rel => exact .inr (.inr (.inr ⟨rfl, rfl⟩))
      case measure => simp only [intOf]; decide
    · go_wp2_with fail
      refine (CG.out w).mono ?_
      rintro e W1 ⟨g, cap, rfl, hO, hf⟩
      have HO0 := Kp.mk hO
      have HF0 := Kp.mk hf
      clear hO hf CG d0 d1 d2
      go_wp2_with fail
      go_loopw [6, 27] (fun v i wr => ((i = .int .i64 0 ∧ Kp (wr.ownsRow w.heap.size 5 1 v ([] : List Int).length (bytes []))) ∨ (i = .int .i64 1 ∧ Kp (wr.ownsRow w.heap.size 5 1 v ([] ++ p1).length (bytes ([] ++ p1)))) ∨ (i = .int .i64 2 ∧ Kp (wr.ownsRow w.heap.size 5 1 v ([] ++ p1 ++ p2).length (bytes ([] ++ p1 ++ p2)))) ∨ (i = .int .i64 3 ∧ Kp (wr.ownsRow w.heap.size 5 1 v ([] ++ p1 ++ p2 ++ p3).length (bytes ([] ++ p1 ++ p2 ++ p3))))) ∧ Kp (Fr (fun _ => False) w wr)) (fun _ i _ => 3 - (intOf i).toNat)
      case atStart => exact ⟨.inl ⟨rfl, HO0⟩, HF0⟩
      case round =>
        clear HO0 HF0
        obtain ⟨hrel, HF⟩ := hrel
        rcases hrel with ⟨rfl, HO⟩ | ⟨rfl, HO⟩ | ⟨rfl, HO⟩ | ⟨rfl, HO⟩
        · skip
          have cj : wr.cell? ⟨gs, 0, none⟩ = some (.slice A1 1 c1) := (HB.out.fr HF.out (fun h => h)).cell 0 _ rfl
          have HXr := Kp.mk (HX1.out.fr HF.out)
          go_wp2_with (at_builtin; refine wpList_appendS rfl _ _ rfl rfl w.heap.size _ ([]) rfl HO.out _ 1 _ p1 HL1.out.symm rfl HXr.out (by have h1 := HL1.out; have h2 := HL2.out; have h3 := HL3.out; simp only [List.length_append, List.length_nil]; omega) (by exact HF.out.size) ?_; intro v1 W1 h1 h2 h3; have HO1 := Kp.mk h1; have HG1 := Kp.mk h2; clear h1 h2 h3)
          have HFn := Kp.mk (HF.out.grown HG1.out (fun q hq h => by have := (HO.out.lt q h).1; omega))
          refine ⟨⟨.inr (.inl ⟨rfl, HO1⟩), HFn⟩, ?_⟩
          simp only [intOf]; decide
        · skip
          have cj : wr.cell? ⟨gs, 1, none⟩ = some (.slice A2 32 c2) := (HB.out.fr HF.out (fun h => h)).cell 1 _ rfl
          have HXr := Kp.mk (HX2.out.fr HF.out)
          go_wp2_with (at_builtin; refine wpList_appendS rfl _ _ rfl rfl w.heap.size _ ([] ++ p1) rfl HO.out _ 32 _ p2 HL2.out.symm rfl HXr.out (by have h1 := HL1.out; have h2 := HL2.out; have h3 := HL3.out; simp only [List.length_append, List.length_nil]; omega) (by exact HF.out.size) ?_; intro v1 W1 h1 h2 h3; have HO1 := Kp.mk h1; have HG1 := Kp.mk h2; clear h1 h2 h3)
          have HFn := Kp.mk (HF.out.grown HG1.out (fun q hq h => by have := (HO.out.lt q h).1; omega))
          refine ⟨⟨.inr (.inr (.inl ⟨rfl, HO1⟩)), HFn⟩, ?_⟩
          simp only [intOf]; decide
        · skip
          have cj : wr.cell? ⟨gs, 2, none⟩ = some (.slice A3 32 c3) := (HB.out.fr HF.out (fun h => h)).cell 2 _ rfl
          have HXr := Kp.mk (HX3.out.fr HF.out)
          go_wp2_with (at_builtin; refine wpList_appendS rfl _ _ rfl rfl w.heap.size _ ([] ++ p1 ++ p2) rfl HO.out _ 32 _ p3 HL3.out.symm rfl HXr.out (by have h1 := HL1.out; have h2 := HL2.out; have h3 := HL3.out; simp only [List.length_append, List.length_nil]; omega) (by exact HF.out.size) ?_; intro v1 W1 h1 h2 h3; have HO1 := Kp.mk h1; have HG1 := Kp.mk h2; clear h1 h2 h3)
          have HFn := Kp.mk (HF.out.grown HG1.out (fun q hq h => by have := (HO.out.lt q h).1; omega))
          refine ⟨⟨.inr (.inr (.inr ⟨rfl, HO1⟩)), HFn⟩, ?_⟩
          simp only [intOf]; decide
        · have h := HO.out
          rw [List.nil_append, List.append_assoc] at h
          have HR := Kp.mk h
          clear h HO
          go_wp2_with fail
          go_ret
          exact ⟨_, rfl, HR.out, HF.out⟩
theorem src_blk {w : World} {b : Nat} {T : TypeId} {q : List Int} (hb : Blk w b T (bytes q)) (hq : q.length = 32) : Src w (fun _ => False) (some ⟨b, 0, none⟩) 32 q :=
  ⟨by omega, .inr (.inr ⟨_, 0, rfl, ⟨hb.lt, fun i hi => by rw [Nat.zero_add]; exact hb.cell i _ (bytes_get _ i hi)⟩, fun h => h⟩)⟩
theorem slice_all (W : World) (g : Nat) : (Instr.sliceAt 29 (.pointer (some ⟨g, 0, none⟩)) none none none).run Tryd.prog W = .ok (.slice (some ⟨g, 0, none⟩) 32 32) W := by kernel_rfl
theorem bs_b1 (ev : Operand → Value) (o : Oper) (w : World) (ho : o.op = .buildSlice 22 1 #[(0, .const (.int .u8 1))]) (hc : ev (.const (.int .u8 1)) = .int .u8 1) :
    (execOp ev o).run Tryd.prog w = .ok (.value (.slice (some ⟨w.heap.size, 0, none⟩) 1 1)) (w.alloc (.cells #[.int .u8 1] 5)) := by
  unfold execOp
  simp only [ho]
  go_simp
theorem bs_b3 (ev : Operand → Value) (o : Oper) (x y z : Operand) (w : World) (A1 A2 A3 : Option Addr) (n1 n2 n3 c1 c2 c3 : Nat) (ho : o.op = .buildSlice 63 3 #[(0, x), (1, y), (2, z)]) (hx : ev x = .slice A1 n1 c1) (hy : ev y = .slice A2 n2 c2) (hz : ev z = .slice A3 n3 c3) :
    (execOp ev o).run Tryd.prog w = .ok (.value (.slice (some ⟨w.heap.size, 0, none⟩) 3 3)) (w.alloc (.cells #[.slice A1 n1 c1, .slice A2 n2 c2, .slice A3 n3 c3] 22)) := by
  unfold execOp
  simp only [ho]
  go_simp
set_option maxHeartbeats 4000000 in
set_option maxRecDepth 100000 in
theorem nodeBytes_calls (l r : List Int) (h1 : l.length = 32) (h2 : r.length = 32) (w : World) : Calls Tryd.prog 11 #[.agg (bytes l).toArray, .agg (bytes r).toArray] w fun e w' =>
    ∃ v, e = .returned v ∧ w'.ownsRow w.heap.size 5 1 v (1 :: (l ++ r)).length (bytes (1 :: (l ++ r))) ∧ Fr (fun _ => False) w w' := by
  have HL := Kp.mk h1
  have HR := Kp.mk h2
  clear h1 h2
  go_enter Tryd.func11, Tryd.ntmps11
  go_upto_region 1 with (fail)
  obtain ⟨g2, hg2⟩ : ∃ g2, g2 = w.heap.size := ⟨_, rfl⟩
  obtain ⟨g3, hg3⟩ : ∃ g3, g3 = w.heap.size + 1 := ⟨_, rfl⟩
  rw [← hg3, ← hg2]
  obtain ⟨W1, hW1⟩ : ∃ W1, W1 = (w.alloc (.cells (bytes l).toArray 29)).alloc (.cells (bytes r).toArray 29) := ⟨_, rfl⟩
  have H2 : Kp (Blk W1 g2 29 (bytes l)) := ⟨by rw [hW1, hg2]; exact (Blk.new w _ _).alloc _⟩
  have H3 : Kp (Blk W1 g3 29 (bytes r)) := ⟨by rw [hW1, hg3]; exact Blk.new' _ _ _ (by simp)⟩
  have HF : Kp (Fr (fun _ => False) w W1) := ⟨by rw [hW1]; exact ((Fr.refl _ w).alloc _).alloc _⟩
  rw [← hW1]
  clear hW1 hg2 hg3
  have hs2 : ∀ W, (Instr.sliceAt 29 (.pointer (some ⟨g2, 0, none⟩)) none none none).run Tryd.prog W = .ok (.slice (some ⟨g2, 0, none⟩) 32 32) W := fun W => slice_all W g2
  have hs3 : ∀ W, (Instr.sliceAt 29 (.pointer (some ⟨g3, 0, none⟩)) none none none).run Tryd.prog W = .ok (.slice (some ⟨g3, 0, none⟩) 32 32) W := fun W => slice_all W g3
  refine start_ (n := 6) (S := fun w' => True) (ds := []) #[false, false, false, false, false, false] (by kernel_rfl) rfl rfl trivial (fun hHeld => ?_)
  refine pure_ (i := 1) (N := some 6) (v := ?_) (a' := ?_) #[false, true, false, false, false, false] rfl rfl (by kernel_rfl) (fun _ _ _ h => h) (Or.inl ⟨by rfl, ?_⟩) ?_ ?_
  rotate_left
  · intro w'
    go_simp
    with_reducible rfl
  rotate_left
  · simp only [Act.put, List.setIfInBounds_toArray, List.set_cons_zero, List.set_cons_succ]
    rfl
  refine pure_ (i := 2) (N := some 7) (v := ?_) (a' := ?_) #[false, true, true, false, false, false] rfl rfl (by kernel_rfl) (fun _ _ _ h => h) (Or.inl ⟨by rfl, ?_⟩) ?_ ?_
  rotate_left
  · intro w'
    go_simp
    with_reducible rfl
  rotate_left
  · simp only [Act.put, List.setIfInBounds_toArray, List.set_cons_zero, List.set_cons_succ]
    rfl
  refine one_ (i := 0) (N := some 5) #[true, true, true, false, false, false] rfl rfl (by kernel_rfl) (by decide) (fun K hK => ?_)
  refine value_ (by rfl) rfl (bs_b1 _ _ _ rfl rfl) ?_
  obtain ⟨g5, hg5⟩ : ∃ g5, g5 = W1.drew.heap.size := ⟨_, rfl⟩
  obtain ⟨W2, hW2⟩ : ∃ W2, W2 = W1.drew.alloc (.cells #[.int .u8 1] 5) := ⟨_, rfl⟩
  have hfA : Fr (fun _ => False) W1 W2 := by rw [hW2]; exact ((Fr.refl (fun _ => False) W1).drew).alloc _
  have H5 : Kp (Src W2 (fun _ => False) (some ⟨g5, 0, none⟩) 1 [1]) := ⟨by rw [hW2, hg5]; exact src_new W1.drew [1] 5 1 (Nat.le_refl _)⟩
  have H22 := Kp.mk (H2.out.fr hfA (fun h => h))
  have H32 := Kp.mk (H3.out.fr hfA (fun h => h))
  have HF2 := Kp.mk (HF.out.trans hfA (fun _ _ h => h))
  rw [← hW2, ← hg5]
  clear hg5 hW2 hfA
  refine hK.out _ _ trivial (fun hHeld => ?_)
  clear hK K
  refine norm_ (a' := ?_) ?_ ?_
  rotate_left
  · show Act.put _ (some 5) _ = _
    simp only [Act.put, List.setIfInBounds_toArray, List.set_cons_zero, List.set_cons_succ]
    rfl
  refine one_ (i := 3) (N := some 8) #[true, true, true, true, false, false] rfl rfl (by kernel_rfl) (by decide) (fun K hK => ?_)
  refine value_ (by rfl) rfl (bs_b3 _ _ (Operand.tmp 5) (Operand.tmp 6) (Operand.tmp 7) _ _ _ _ _ _ _ _ _ _ rfl rfl rfl rfl) ?_
  obtain ⟨g8, hg8⟩ : ∃ g8, g8 = W2.heap.size := ⟨_, rfl⟩
  obtain ⟨W3, hW3⟩ : ∃ W3, W3 = W2.alloc (.cells #[.slice (some ⟨g5, 0, none⟩) 1 1, .slice (some ⟨g2, 0, none⟩) 32 32, .slice (some ⟨g3, 0, none⟩) 32 32] 22) := ⟨_, rfl⟩
  have hfB : Fr (fun _ => False) W2 W3 := by rw [hW3]; exact (Fr.refl (fun _ => False) W2).alloc _
  have H8 : Kp (Blk W3 g8 22 [.slice (some ⟨g5, 0, none⟩) 1 1, .slice (some ⟨g2, 0, none⟩) 32 32, .slice (some ⟨g3, 0, none⟩) 32 32]) := ⟨by rw [hW3, hg8]; exact Blk.new W2 _ _⟩
  have HF3 := Kp.mk (HF2.out.trans hfB (fun _ _ h => h))
  have H53 := Kp.mk (H5.out.fr hfB)
  have H23 := Kp.mk (src_blk (H22.out.fr hfB (fun h => h)) HL.out)
  have H33 := Kp.mk (src_blk (H32.out.fr hfB (fun h => h)) HR.out)
  rw [← hW3, ← hg8]
  clear hg8 hW3 hfB
  refine hK.out _ _ trivial (fun hHeld => ?_)
  clear hK K
  refine norm_ (a' := ?_) ?_ ?_
  rotate_left
  · show Act.put _ (some 8) _ = _
    simp only [Act.put, List.setIfInBounds_toArray, List.set_cons_zero, List.set_cons_succ]
    rfl
  refine one_ (i := 4) (N := some 9) #[true, true, true, true, true, false] rfl rfl (by kernel_rfl) (by decide) (fun K hK => ?_)
  refine goes_ Tryd.func37 (by kernel_rfl) rfl #[.slice (some ⟨g8, 0, none⟩) 3 3] (by rfl) rfl rfl (by simp only [List.map_toArray, List.map_cons, List.map_nil]; rfl) ?_
  with_reducible refine (concat_calls g8 _ _ _ 1 32 32 [1] l r _ H8.out H53.out H23.out H33.out rfl HL.out HR.out).mono ?_
  rintro e W5 ⟨v, rfl, hO, hf⟩
  refine ⟨_, rfl, ?_⟩
  have HO := Kp.mk hO
  have HF5 := Kp.mk (HF3.out.trans hf (fun _ _ h => h))
  clear hO hf
  refine hK.out _ _ trivial (fun hHeld => ?_)
  clear hK K
  refine norm_ (a' := ?_) ?_ ?_
  rotate_left
  · show Act.put _ (some 9) _ = _
    simp only [Act.put, List.setIfInBounds_toArray, List.set_cons_zero, List.set_cons_succ]
    rfl
  refine pure_ (i := 5) (N := some 4) (v := ?_) (a' := ?_) #[true, true, true, true, true, true] rfl rfl (by kernel_rfl) (fun _ _ _ h => h) (Or.inl ⟨by rfl, ?_⟩) ?_ ?_
  rotate_left
  · intro w'
    go_simp
    with_reducible rfl
  rotate_left
  · simp only [Act.put, List.setIfInBounds_toArray, List.set_cons_zero, List.set_cons_succ]
    rfl
  refine done_ (by kernel_rfl) ?_
  go_wp2_with (fail)
  go_ret
  exact ⟨v, rfl, owns_low HO.out HF3.out.size, HF5.out⟩
theorem al_hash (ev : Operand → Value) (o : Oper) (w : World) (ho : o.op = .alloc 29) : (execOp ev o).run Tryd.prog w = .ok (.value (.pointer (some ⟨w.heap.size, 0, none⟩))) (w.alloc (.cells (bytes zr32).toArray 29)) := by
  unfold execOp
  simp only [ho]
  go_simp
  rfl
theorem lds_bytes {w : World} {a : Addr} {v : Value} (h : w.cell? a = some v) : Lds w 22 (.pointer (some a)) v := by
  intro ev o x ho hx
  unfold execOp
  simp only [ho, hx]
  go_simp
theorem slice_upto (W : World) (g s : Nat) (hs : s ≤ 32) : (Instr.sliceAt 29 (.pointer (some ⟨g, 0, none⟩)) none (some (.int .i64 (s : Int))) none).run Tryd.prog W = .ok (.slice (some ⟨g, 0, none⟩) s 32) W := by
  have hal : Tryd.prog.arrayLen 29 = 32 := by kernel_rfl
  have hel : Tryd.prog.elem 29 = 5 := by kernel_rfl
  rw [run_sliceAt_array_h (P := Tryd.prog) W 29 ⟨g, 0, none⟩ (by rw [hal, hel]; exact Tryd.underlying29) .i64 (s : Int) (by omega) (by rw [hal]; omega), hel, size_u8, hal]
  simp only [Result.andThen_ok, slicedAt, Int.toNat_natCast]
  rw [if_neg (by omega), Nat.zero_mul, Addr.add_lit, Nat.sub_zero, Nat.sub_zero]
theorem byt_layWord {w : Nat} (x : BitVec w) (sz : Nat) : Byt (layWord x sz) := fun b hb => by
  obtain ⟨i, _, rfl⟩ := List.mem_map.1 hb
  omega
theorem byt_words (B : Bool) (c : Chain) : Byt (words B c) := fun b hb => by
  cases B
  · obtain ⟨x, _, h⟩ := List.mem_flatMap.1 hb
    exact byt_layWord _ _ b h
  · obtain ⟨x, _, h⟩ := List.mem_flatMap.1 hb
    exact byt_layWord _ _ b h
theorem hash_byt (p : List Int) : Byt (hash false p) := byt_words _ _
set_option maxHeartbeats 4000000 in
set_option maxRecDepth 100000 in
theorem kept_calls (k : Int) (w : World) : Calls Tryd.prog 13 #[.int .i64 k] w fun e w' => e = .returned (.int .i64 (strength k : Nat)) ∧ w' = w := by
  have hs : (1 ≤ k ∧ k ≤ 31 ∧ ((strength k : Nat) : Int) = k) ∨ (¬ (1 ≤ k ∧ k ≤ 31) ∧ ((strength k : Nat) : Int) = 32) := by
    unfold strength
    by_cases h : 1 ≤ k ∧ k ≤ 31
    · rw [if_pos h]; exact .inl ⟨h.1, h.2, by omega⟩
    · rw [if_neg h]; exact .inr ⟨h, rfl⟩
  generalize ((strength k : Nat) : Int) = s at hs ⊢
  rcases hs with ⟨h1, h2, rfl⟩ | ⟨h, rfl⟩
  · go_enter Tryd.func13, Tryd.ntmps13
    go_wp2
    go_ret
    exact ⟨rfl, rfl⟩
  · rcases (by omega : k < 1 ∨ (1 ≤ k ∧ 31 < k)) with h1 | ⟨h1, h2⟩
    · clear h
      go_enter Tryd.func13, Tryd.ntmps13
      go_wp2
      go_ret
      exact ⟨rfl, rfl⟩
    · clear h
      go_enter Tryd.func13, Tryd.ntmps13
      go_wp2
      go_ret
      exact ⟨rfl, rfl⟩
theorem src_reads {w : World} {b : Nat} {T : TypeId} {q : List Int} (hb : Blk w b T (bytes q)) (hq : q.length = 32) : Reads w b 0 q := ⟨hb.lt, fun i hi => by rw [Nat.zero_add]; exact hb.cell i _ (bytes_get _ i hi)⟩
/-- do two texts collide at a strength? -/
def collP (s : Nat) (a b : List Int) : Prop := a ≠ b ∧ (hash false a).take s = (hash false b).take s
instance (s : Nat) (a b : List Int) : Decidable (collP s a b) := by unfold collP; exact inferInstance
end Go.Proofs.YtjcmgpiapbeodaaDoor.Sha
set_option linter.unusedVariables false
namespace Go.Proofs.YtjcmgpiapbeodaaDoor.Sha
open Go.RowKit Go.Proofs.YtjcmgpiapbeodaaDoor.Mem Go.Proofs.YtjcmgpiapbeodaaDoorW.PrintWords Go.Proofs.YtjcmgpiapbeodaaDoorW.PrintLast Go.Proofs.YtjcmgpiapbeodaaDoor.Pl Go.Proofs.YtjcmgpiapbeodaaDoor.Wk
attribute [local go_sem ↓] Go.wp_at_zero Go.wp_at_succ wp_load_hash wp_store_hash wp_load_mid23 wp_load_mid25 wp_store_mid25 wp_build_hash
attribute [local go_sem] rowAt_drew rowOk_drew midOk_drew midAt_drew rowBlock rowCells rowOff midFree_drew
theorem lds_ag {w : World} {T : TypeId} {d : TypeDesc} {b o : Nat} {r : List Value} (hu : Tryd.prog.underlying T = some d) (hd : d.isRow = true) (hi : (Tryd.prog.info? T).map (·.size) = some r.length) (hc : w.rangeAt b o r) : Lds w T (.pointer (some ⟨b, o, none⟩)) (.agg r.toArray) := by
  intro ev op x ho hx
  have h := run_loadAt_mid (P := Tryd.prog) w b o T r d hc hu hd hi
  unfold execOp
  simp only [ho, hx, Sem.run_bind, h, Result.andThen_ok, Sem.run_pure]
theorem st_ag (ev : Operand → Value) (o : Oper) (x y : Operand) (w : World) (T : TypeId) (b k : Nat) (r : List Value) (ho : o.op = .store T x y) (hx : ev x = .pointer (some ⟨b, k, none⟩)) (hy : ev y = .agg r.toArray) (ht : w.there b k r.length) (hi : (Tryd.prog.info? T).map (·.size) = some r.length) (h1 : ∀ u ∈ r, u.oneCell' = true) :
    (execOp ev o).run Tryd.prog w = .ok .skip (w.setCells b k r) := by
  have hr := run_storeVar_mid (P := Tryd.prog) w b k T r.toArray (by simpa using ht) (by simpa using hi) (by
    rw [Array.all_eq_true_iff_forall_mem]
    intro u hu
    exact h1 u (by simpa using hu))
  unfold execOp
  simp only [ho, hx, hy, Instr.storeAt, Instr.sureAddr, Sem.run_bind, Sem.run_pure, Result.andThen_ok, hr]
theorem mid_b {w : World} {b : Nat} {T : TypeId} {l : List Int} (h : Blk w b T (bytes l)) (hl : l.length = 32) : midOk w 32 (.pointer (some ⟨b, 0, none⟩)) = true ∧ midAt w 32 (.pointer (some ⟨b, 0, none⟩)) = (bytes l).toArray := by
  refine ⟨midOk_blk (o := 0) (n := 32) h (by rw [bytes_length, hl]; decide), ?_⟩
  have h2 := midAt_blk (o := 0) (n := 32) h
  rwa [List.drop_zero, List.take_of_length_le (by rw [bytes_length, hl]; exact Nat.le_refl _)] at h2
def cutUp (s : Nat) (h : List Int) (i : Nat) : List Int := (List.range 32).map fun j => if j < i ∧ s ≤ j then 0 else h.getD j 0
theorem cutUp_len (s : Nat) (h : List Int) (i : Nat) : (cutUp s h i).length = 32 := by simp [cutUp]
theorem cutUp_zero (s : Nat) (h : List Int) (hl : h.length = 32) : cutUp s h 0 = h := by
  apply List.ext_getElem
  · simp [cutUp, hl]
  · intro j h1 h2
    simp [cutUp, List.getD_eq_getElem?_getD, h2]
theorem cutUp_all (s : Nat) (h : List Int) (hl : h.length = 32) (hs : s ≤ 32) : cutUp s h 32 = cutL s h := by
  apply List.ext_getElem
  · rw [cutUp_len, cutL_len s h hl hs]
  · intro j h1 h2
    rw [cutUp_len] at h1
    simp only [cutUp, cutL, List.getElem_map, List.getElem_range, List.getElem_append, List.length_take, List.getElem_take, List.getElem_replicate]
    by_cases hj : s ≤ j
    · rw [if_pos ⟨h1, hj⟩, dif_neg (by omega)]
    · rw [if_neg (by omega), dif_pos (by omega)]
      simp [List.getD_eq_getElem?_getD, hl, h1]
theorem cutUp_same (s : Nat) (h : List Int) (i : Nat) (_hi : i < 32) (hs : i < s) : cutUp s h (i + 1) = cutUp s h i := by
  unfold cutUp
  apply List.map_congr_left
  intro j _
  by_cases h1 : j < i ∧ s ≤ j
  · rw [if_pos h1, if_pos ⟨by omega, h1.2⟩]
  · rw [if_neg h1, if_neg (by omega)]
theorem cutUp_set (s : Nat) (h : List Int) (i : Nat) (hi : i < 32) (hs : s ≤ i) : (bytes (cutUp s h i)).set i (.int .u8 0) = bytes (cutUp s h (i + 1)) := by
  apply List.ext_getElem?
  intro j
  rw [List.getElem?_set]
  by_cases hij : i = j
  · subst hij
    simp [bytes, cutUp, hi, hs]
  · rw [if_neg hij]
    rcases Nat.lt_or_ge j 32 with hj | hj
    · simp only [bytes, cutUp, List.getElem?_map, List.getElem?_range hj, Option.map_some]
      by_cases h1 : j < i ∧ s ≤ j
      · rw [if_pos h1, if_pos ⟨by omega, h1.2⟩]
      · rw [if_neg h1, if_neg (by omega)]
    · rw [List.getElem?_eq_none (by simpa [bytes, cutUp] using hj), List.getElem?_eq_none (by simpa [bytes, cutUp] using hj)]
theorem cutUp_start (s : Nat) (h : List Int) (hl : h.length = 32) : cutUp s h s = h := by
  apply List.ext_getElem
  · simp [cutUp, hl]
  · intro j h1 h2
    have : ¬ (j < s ∧ s ≤ j) := by omega
    simp [cutUp, List.getD_eq_getElem?_getD, h2, this]
theorem cutL_iff (s : Nat) (a b : List Int) (ha : a.length = 32) (hb : b.length = 32) (hs : s ≤ 32) : (cutL s a = cutL s b) = (a.take s = b.take s) := by
  apply propext
  constructor
  · intro h
    have h1 := congrArg (List.take s) h
    unfold cutL at h1
    rwa [List.take_append_of_le_length (by rw [List.length_take]; omega), List.take_append_of_le_length (by rw [List.length_take]; omega), List.take_take, List.take_take, Nat.min_self] at h1
  · intro h
    unfold cutL
    rw [h]
theorem eq32h (M N : List Int) (h : M.length = 32) (hn : N.length = 32) (W : World) : (Op.equalIn 10000 29 (.agg (bytes M).toArray) (.agg (bytes N).toArray)).run Tryd.prog W = .ok (decide (M = N)) W :=
  run_equalIn_ints W 9998 29 5 32 .u8 Tryd.underlying29 Tryd.underlying5 size_u8 M N h hn
theorem al_row (ev : Operand → Value) (o : Oper) (w : World) (ho : o.op = .alloc 23) : (execOp ev o).run Tryd.prog w = .ok (.value (.pointer (some ⟨w.heap.size, 0, none⟩))) (w.alloc (.cells (bytes zr32).toArray 23)) := by
  unfold execOp
  simp only [ho]
  go_simp
  rfl
theorem lds_nat {w : World} {a : Addr} {v : Value} (h : w.cell? a = some v) : Lds w 3 (.pointer (some a)) v := by
  intro ev o x ho hx
  unfold execOp
  simp only [ho, hx]
  go_simp
theorem bytes_all1 (l : List Int) : ∀ u ∈ bytes l, u.oneCell' = true := fun u hu => by
  obtain ⟨z, _, rfl⟩ := List.mem_map.1 hu
  rfl
theorem lds_r32 {W : World} {g off : Nat} {T : TypeId} {cells : List Value} {q : List Int} (h : Blk W g T cells) (ho : off + 32 ≤ cells.length) (he : (cells.drop off).take 32 = bytes q) (hq : q.length = 32) : Lds W 23 (.pointer (some ⟨g, off, none⟩)) (.agg (bytes q).toArray) :=
  lds_ag Tryd.underlying23 rfl (by rw [bytes_length, hq]; kernel_rfl) (fun j v hj => by
    rw [← he] at hj
    have hj2 : j < 32 := by
      rcases Nat.lt_or_ge j 32 with h | h
      · exact h
      · rw [List.getElem?_eq_none (by rw [List.length_take]; omega)] at hj; cases hj
    rw [List.getElem?_take_of_lt hj2, List.getElem?_drop] at hj
    exact h.cell _ _ hj)
theorem lds_hsh {W : World} {g : Nat} {T : TypeId} {q : List Int} (h : Blk W g T (bytes q)) (hq : q.length = 32) : Lds W 29 (.pointer (some ⟨g, 0, none⟩)) (.agg (bytes q).toArray) :=
  lds_ag Tryd.underlying29 rfl (by rw [bytes_length, hq]; kernel_rfl) (fun j v hj => by rw [Nat.zero_add]; exact h.cell _ _ hj)
theorem lds_h32 {W : World} {g : Nat} {T : TypeId} {q : List Int} (h : Blk W g T (bytes q)) (hq : q.length = 32) : Lds W 23 (.pointer (some ⟨g, 0, none⟩)) (.agg (bytes q).toArray) :=
  lds_ag Tryd.underlying23 rfl (by rw [bytes_length, hq]; kernel_rfl) (fun j v hj => by rw [Nat.zero_add]; exact h.cell _ _ hj)
theorem blk_over {w : World} {g : Nat} {T : TypeId} {xs ys : List Value} (h : Blk w g T xs) (hl : xs.length = ys.length) : Blk (w.setCells g 0 ys) g T ys := by
  have h1 := Blk.setCells g T [] ys [] xs w hl (by simpa using h)
  simpa using h1
end Go.Proofs.YtjcmgpiapbeodaaDoor.Sha
set_option linter.unusedVariables false
namespace Go.Proofs.YtjcmgpiapbeodaaDoor.Sha
open Go.RowKit Go.Proofs.YtjcmgpiapbeodaaDoor.Mem Go.Proofs.YtjcmgpiapbeodaaDoorW.PrintWords Go.Proofs.YtjcmgpiapbeodaaDoorW.PrintLast Go.Proofs.YtjcmgpiapbeodaaDoor.Pl Go.Proofs.YtjcmgpiapbeodaaDoor.Wk
attribute [local go_sem ↓] Go.wp_at_zero Go.wp_at_succ wp_load_hash wp_store_hash wp_load_mid23 wp_load_mid25 wp_store_mid25 wp_build_hash
attribute [local go_sem] rowAt_drew rowOk_drew midOk_drew midAt_drew rowBlock rowCells rowOff midFree_drew
theorem lds_u8 {w : World} {a : Addr} {v : Value} (h : w.cell? a = some v) : Lds w 5 (.pointer (some a)) v := by
  intro ev o x ho hx
  unfold execOp
  simp only [ho, hx]
  go_simp
theorem take_succ_iff (a b : List Int) (i : Nat) (ha : i < a.length) (hb : i < b.length) : (a.take (i + 1) = b.take (i + 1)) ↔ (a.take i = b.take i ∧ a.getD i 0 = b.getD i 0) := by
  rw [List.take_add_one, List.take_add_one]
  simp only [List.getElem?_eq_getElem ha, List.getElem?_eq_getElem hb, Option.toList_some, List.getD_eq_getElem?_getD, Option.getD_some]
  constructor
  · intro h
    have h1 := List.append_inj h (by simp; omega)
    exact ⟨h1.1, by simpa using h1.2⟩
  · rintro ⟨h1, h2⟩
    rw [h1, h2]
theorem take_lt_ne (a b : List Int) (i s : Nat) (h : i < s) (ha : i < a.length) (hb : i < b.length) (hne : a.getD i 0 ≠ b.getD i 0) : a.take s ≠ b.take s := fun h1 => by
  have h2 := congrArg (fun l : List Int => l.getD i 0) h1
  simp only [List.getD_eq_getElem?_getD, List.getElem?_take_of_lt h] at h2
  simp only [List.getD_eq_getElem?_getD] at hne
  exact hne h2
set_option maxHeartbeats 4000000 in
set_option maxRecDepth 100000 in
theorem collides_calls (k : Int) (A B : Option Addr) (c d : Nat) (a b : List Int) (w : World) (hL : Laid w) (hX : Src w (fun _ => False) A c a) (hY : Src w (fun _ => False) B d b) (ha : Byt a) (hb : Byt b) (la : a.length ≤ maxCount) (lb : b.length ≤ maxCount) :
    Calls Tryd.prog 21 #[.int .i64 k, .slice A a.length c, .slice B b.length d] w fun e w' => e = .returned (.bool (decide (collP (strength k) a b))) ∧ Fr (fun _ => False) w w' := by
  have hca := conv_src hX
  have hcb := conv_src hY
  have h3 := strOf_iff ha hb
  generalize strOfNums a = sA at hca h3
  generalize strOfNums b = sB at hcb h3
  have HE : Kp ((sA.toList == sB.toList) = decide (a = b)) := ⟨by
    have e : (sA.toList == sB.toList) = decide (sA = sB) := by
      by_cases h : sA = sB
      · subst h; simp
      · rw [decide_eq_false h]
        simp only [ByteArray.toList_eq, beq_eq_false_iff_ne, ne_eq]
        exact fun e => h (ByteArray.ext (Array.toList_inj.1 e))
    rw [e]
    exact decide_eq_decide.2 (iff_of_eq h3)⟩
  have CA : Kp (∀ W, Fr (fun _ => False) w W → Calls Tryd.prog 12 #[.slice A a.length c] W fun e w' => e = .returned (.agg (bytes (hash false a)).toArray) ∧ Fr (fun _ => False) W w') :=
    ⟨fun W hf => (F32.hash_calls A c a W (hL.fr hf (fun _ h => h.elim)) (hX.fr hf) la).mono fun _ _ h => ⟨h.1, Fr.of_below h.2 _⟩⟩
  have CB : Kp (∀ W, Fr (fun _ => False) w W → Calls Tryd.prog 12 #[.slice B b.length d] W fun e w' => e = .returned (.agg (bytes (hash false b)).toArray) ∧ Fr (fun _ => False) W w') :=
    ⟨fun W hf => (F32.hash_calls B d b W (hL.fr hf (fun _ h => h.elim)) (hY.fr hf) lb).mono fun _ _ h => ⟨h.1, Fr.of_below h.2 _⟩⟩
  have hP : Kp (collP (strength k) a b = (a ≠ b ∧ (hash false a).take (strength k) = (hash false b).take (strength k))) := ⟨rfl⟩
  have Hha32 := Kp.mk (hlen a)
  have Hhb32 := Kp.mk (hlen b)
  generalize hash false a = ha' at CA hP Hha32
  generalize hash false b = hb' at CB hP Hhb32
  obtain ⟨PP, hPP⟩ : ∃ PP, PP = decide (collP (strength k) a b) := ⟨_, rfl⟩
  rw [← hPP]
  obtain ⟨s, hs⟩ : ∃ s, s = strength k := ⟨_, rfl⟩
  have HPP : Kp (PP = decide (a ≠ b ∧ ha'.take s = hb'.take s)) := ⟨by rw [hPP, hs]; exact decide_eq_decide.2 (iff_of_eq hP.out)⟩
  have hs32 : s ≤ 32 := by rw [hs]; exact strength_le k
  have CK : Kp (∀ W, Calls Tryd.prog 13 #[.int .i64 k] W fun e w' => e = .returned (.int .i64 (s : Int)) ∧ w' = W) := ⟨fun W => by rw [hs]; exact kept_calls k W⟩
  generalize a.length = n at CA hca ⊢
  generalize b.length = m at CB hcb ⊢
  clear hP hPP hs h3 hL hX hY ha hb la lb
  go_enter Tryd.func21, Tryd.ntmps21
  by_cases hab : a = b
  · have he : (sA.toList == sB.toList) = true := by rw [HE.out, decide_eq_true hab]
    have hp : PP = false := by rw [HPP.out, decide_eq_false (fun h => h.1 hab)]
    have HP := Kp.mk hp
    clear hab hp hs32
    go_wp2_with (fail)
    go_ret
    exact ⟨by rw [HP.out]; rfl, Fr.refl _ _⟩
  · have he : (sA.toList == sB.toList) = false := by rw [HE.out, decide_eq_false hab]
    have HPQ : Kp (PP = decide (ha'.take s = hb'.take s)) := ⟨by
      rw [HPP.out]
      exact decide_eq_decide.2 ⟨fun h => h.2, fun h => ⟨hab, h⟩⟩⟩
    have HS := Kp.mk hs32
    clear hab HPP HE
    go_wp2_with (fail)
    refine (CA.out w (Fr.refl _ _)).mono ?_
    rintro e W5 ⟨rfl, hf⟩
    have HF5 := Kp.mk hf
    have HNEW5 : Kp (Blk (W5.alloc (.cells #[.int .u8 0, .int .u8 0, .int .u8 0, .int .u8 0, .int .u8 0, .int .u8 0, .int .u8 0, .int .u8 0, .int .u8 0, .int .u8 0, .int .u8 0, .int .u8 0, .int .u8 0, .int .u8 0, .int .u8 0, .int .u8 0, .int .u8 0, .int .u8 0, .int .u8 0, .int .u8 0, .int .u8 0, .int .u8 0, .int .u8 0, .int .u8 0, .int .u8 0, .int .u8 0, .int .u8 0, .int .u8 0, .int .u8 0, .int .u8 0, .int .u8 0, .int .u8 0] 29)) W5.heap.size 29 [.int .u8 0, .int .u8 0, .int .u8 0, .int .u8 0, .int .u8 0, .int .u8 0, .int .u8 0, .int .u8 0, .int .u8 0, .int .u8 0, .int .u8 0, .int .u8 0, .int .u8 0, .int .u8 0, .int .u8 0, .int .u8 0, .int .u8 0, .int .u8 0, .int .u8 0, .int .u8 0, .int .u8 0, .int .u8 0, .int .u8 0, .int .u8 0, .int .u8 0, .int .u8 0, .int .u8 0, .int .u8 0, .int .u8 0, .int .u8 0, .int .u8 0, .int .u8 0]) := ⟨Blk.new W5 _ _⟩
    clear hf CA
    go_upto_region 4 with (refine wpList_storeH rfl rfl (Operand.tmp 7) (Operand.tmp 16) rfl W5.heap.size _ _ ha' rfl rfl HNEW5.out rfl Hha32.out ?_)
    obtain ⟨g7, hg7⟩ : ∃ g7, g7 = W5.heap.size := ⟨_, rfl⟩
    obtain ⟨W6, hW6⟩ : ∃ W6, W6 = (W5.alloc (.cells #[.int .u8 0, .int .u8 0, .int .u8 0, .int .u8 0, .int .u8 0, .int .u8 0, .int .u8 0, .int .u8 0, .int .u8 0, .int .u8 0, .int .u8 0, .int .u8 0, .int .u8 0, .int .u8 0, .int .u8 0, .int .u8 0, .int .u8 0, .int .u8 0, .int .u8 0, .int .u8 0, .int .u8 0, .int .u8 0, .int .u8 0, .int .u8 0, .int .u8 0, .int .u8 0, .int .u8 0, .int .u8 0, .int .u8 0, .int .u8 0, .int .u8 0, .int .u8 0] 29)).setRow W5.heap.size (bytes ha').toArray := ⟨_, rfl⟩
    have hfr := fr_row (Fr.refl (fun _ => False) W5) (.cells #[.int .u8 0, .int .u8 0, .int .u8 0, .int .u8 0, .int .u8 0, .int .u8 0, .int .u8 0, .int .u8 0, .int .u8 0, .int .u8 0, .int .u8 0, .int .u8 0, .int .u8 0, .int .u8 0, .int .u8 0, .int .u8 0, .int .u8 0, .int .u8 0, .int .u8 0, .int .u8 0, .int .u8 0, .int .u8 0, .int .u8 0, .int .u8 0, .int .u8 0, .int .u8 0, .int .u8 0, .int .u8 0, .int .u8 0, .int .u8 0, .int .u8 0, .int .u8 0] 29) (bytes ha').toArray
    rw [← hW6] at hfr
    have H76 : Kp (Blk W6 g7 29 (bytes ha')) := ⟨by rw [hW6, hg7]; exact blk_row W5 _ _ _⟩
    have HF6 := Kp.mk (HF5.out.trans hfr (fun _ _ h => h))
    rw [← hW6, ← hg7]
    clear hW6 hg7 hfr HNEW5 HF5
    go_wp2_with (fail)
    refine (CB.out W6 HF6.out).mono ?_
    rintro e W7 ⟨rfl, hf⟩
    have HF7 := Kp.mk (HF6.out.trans hf (fun _ _ h => h))
    have H77 := Kp.mk (H76.out.fr hf (fun h => h))
    have HNEW7 : Kp (Blk (W7.alloc (.cells #[.int .u8 0, .int .u8 0, .int .u8 0, .int .u8 0, .int .u8 0, .int .u8 0, .int .u8 0, .int .u8 0, .int .u8 0, .int .u8 0, .int .u8 0, .int .u8 0, .int .u8 0, .int .u8 0, .int .u8 0, .int .u8 0, .int .u8 0, .int .u8 0, .int .u8 0, .int .u8 0, .int .u8 0, .int .u8 0, .int .u8 0, .int .u8 0, .int .u8 0, .int .u8 0, .int .u8 0, .int .u8 0, .int .u8 0, .int .u8 0, .int .u8 0, .int .u8 0] 29)) W7.heap.size 29 [.int .u8 0, .int .u8 0, .int .u8 0, .int .u8 0, .int .u8 0, .int .u8 0, .int .u8 0, .int .u8 0, .int .u8 0, .int .u8 0, .int .u8 0, .int .u8 0, .int .u8 0, .int .u8 0, .int .u8 0, .int .u8 0, .int .u8 0, .int .u8 0, .int .u8 0, .int .u8 0, .int .u8 0, .int .u8 0, .int .u8 0, .int .u8 0, .int .u8 0, .int .u8 0, .int .u8 0, .int .u8 0, .int .u8 0, .int .u8 0, .int .u8 0, .int .u8 0]) := ⟨Blk.new W7 _ _⟩
    clear hf CB HF6 H76
    go_upto_region 5 with (refine wpList_storeH rfl rfl (Operand.tmp 8) (Operand.tmp 18) rfl W7.heap.size _ _ hb' rfl rfl HNEW7.out rfl Hhb32.out ?_)
    obtain ⟨g8, hg8⟩ : ∃ g8, g8 = W7.heap.size := ⟨_, rfl⟩
    obtain ⟨W8, hW8⟩ : ∃ W8, W8 = (W7.alloc (.cells #[.int .u8 0, .int .u8 0, .int .u8 0, .int .u8 0, .int .u8 0, .int .u8 0, .int .u8 0, .int .u8 0, .int .u8 0, .int .u8 0, .int .u8 0, .int .u8 0, .int .u8 0, .int .u8 0, .int .u8 0, .int .u8 0, .int .u8 0, .int .u8 0, .int .u8 0, .int .u8 0, .int .u8 0, .int .u8 0, .int .u8 0, .int .u8 0, .int .u8 0, .int .u8 0, .int .u8 0, .int .u8 0, .int .u8 0, .int .u8 0, .int .u8 0, .int .u8 0] 29)).setRow W7.heap.size (bytes hb').toArray := ⟨_, rfl⟩
    have hfr := fr_row (Fr.refl (fun _ => False) W7) (.cells #[.int .u8 0, .int .u8 0, .int .u8 0, .int .u8 0, .int .u8 0, .int .u8 0, .int .u8 0, .int .u8 0, .int .u8 0, .int .u8 0, .int .u8 0, .int .u8 0, .int .u8 0, .int .u8 0, .int .u8 0, .int .u8 0, .int .u8 0, .int .u8 0, .int .u8 0, .int .u8 0, .int .u8 0, .int .u8 0, .int .u8 0, .int .u8 0, .int .u8 0, .int .u8 0, .int .u8 0, .int .u8 0, .int .u8 0, .int .u8 0, .int .u8 0, .int .u8 0] 29) (bytes hb').toArray
    rw [← hW8] at hfr
    have H8 : Kp (Blk W8 g8 29 (bytes hb')) := ⟨by rw [hW8, hg8]; exact blk_row W7 _ _ _⟩
    have H7 : Kp (Blk W8 g7 29 (bytes ha')) := ⟨H77.out.fr hfr (fun h => h)⟩
    have HF8 := Kp.mk (HF7.out.trans hfr (fun _ _ h => h))
    rw [← hW8, ← hg8]
    clear hW8 hg8 hfr HNEW7 HF7 H77 hca hcb he
    go_wp2_with (fail)
    go_loopw [9] (fun v wr => ∃ (i : Nat), v = .int .i64 (i : Int) ∧ Kp (i ≤ s) ∧ Kp (ha'.take i = hb'.take i) ∧ Kp (Blk wr g7 29 (bytes ha')) ∧ Kp (Blk wr g8 29 (bytes hb')) ∧ Kp (Fr (fun _ => False) w wr)) (fun v _ => 32 - (intOf v).toNat)
    case atStart => exact ⟨0, rfl, ⟨Nat.zero_le _⟩, ⟨by rw [List.take_zero, List.take_zero]⟩, H7, H8, HF8⟩
    case round =>
      clear H7 H8 HF8
      obtain ⟨i, rfl, hi, HT, H7, H8, HF⟩ := hrel
      have hi' := hi.out
      have hs' := HS.out
      go_wp2_with (fail)
      refine (CK.out wr).mono ?_
      rintro e wz ⟨rfl, rfl⟩
      by_cases hlt : i < s
      · obtain ⟨xa, hxa⟩ : ∃ x, x = ha'.getD i 0 := ⟨_, rfl⟩
        obtain ⟨xb, hxb⟩ : ∃ x, x = hb'.getD i 0 := ⟨_, rfl⟩
        have c7 : wz.drew.cell? ⟨g7, i, none⟩ = some (.int .u8 xa) := by rw [hxa]; exact H7.out.drew.cell i _ (bytes_get _ i (by rw [Hha32.out]; omega))
        have c8 : wz.drew.cell? ⟨g8, i, none⟩ = some (.int .u8 xb) := by rw [hxb]; exact H8.out.drew.cell i _ (bytes_get _ i (by rw [Hhb32.out]; omega))
        have Hlt := Kp.mk hlt
        have HXA := Kp.mk (And.intro hxa hxb)
        clear hxa hxb
        have hi32 : (i : Int) < 32 := by omega
        go_upto_region 8 with (fail)
        refine start_ (n := 7) (S := fun w' => Lds w' 5 (.pointer (some ⟨g7, i, none⟩)) (.int .u8 xa) ∧ Lds w' 5 (.pointer (some ⟨g8, i, none⟩)) (.int .u8 xb)) (ds := []) #[false, false, false, false, false, false, false] (by kernel_rfl) rfl rfl ⟨lds_u8 (w := wz.drew) c7, lds_u8 (w := wz.drew) c8⟩ (fun hHeld => ?_)
        refine pure_ (i := 0) (N := some 25) (v := ?_) (a' := ?_) #[true, false, false, false, false, false, false] rfl rfl (by kernel_rfl) (fun _ _ _ h => h) (Or.inl ⟨by rfl, ?_⟩) ?_ ?_
        rotate_left
        · intro w'
          go_simp
          with_reducible rfl
        rotate_left
        · simp only [Act.put, List.setIfInBounds_toArray, List.set_cons_zero, List.set_cons_succ]
          rfl
        refine pure_ (i := 1) (N := some 26) (v := ?_) (a' := ?_) #[true, true, false, false, false, false, false] rfl rfl (by kernel_rfl) (fun _ _ _ h => h) (Or.inl ⟨by rfl, ?_⟩) ?_ ?_
        rotate_left
        · intro w'
          go_simp
          with_reducible rfl
        rotate_left
        · simp only [Act.put, List.setIfInBounds_toArray, List.set_cons_zero, List.set_cons_succ]
          rfl
        refine pure_ (i := 3) (N := some 28) (v := ?_) (a' := ?_) #[true, true, false, true, false, false, false] rfl rfl (by kernel_rfl) (fun _ _ _ h => h) (Or.inl ⟨by rfl, ?_⟩) ?_ ?_
        rotate_left
        · intro w'
          go_simp
          with_reducible rfl
        rotate_left
        · simp only [Act.put, List.setIfInBounds_toArray, List.set_cons_zero, List.set_cons_succ]
          rfl
        refine pure_ (i := 4) (N := some 29) (v := ?_) (a' := ?_) #[true, true, false, true, true, false, false] rfl rfl (by kernel_rfl) (fun _ _ _ h => h) (Or.inl ⟨by rfl, ?_⟩) ?_ ?_
        rotate_left
        · intro w'
          go_simp
          with_reducible rfl
        rotate_left
        · simp only [Act.put, List.setIfInBounds_toArray, List.set_cons_zero, List.set_cons_succ]
          rfl
        refine take_ (i := 2) (N := some 27) (v := ?_) (a' := ?_) #[true, true, true, true, true, false, false] rfl rfl (by kernel_rfl) (fun _ _ _ h => h) (Or.inl ⟨by rfl, ?_⟩) hHeld ?_ ?_
        rotate_left
        · rintro w' ⟨s0, s1⟩
          refine Lds.run s0 (x := ?_) ?_ ?_
          · exact (Operand.tmp 26)
          · rfl
          · rfl
        rotate_left
        · simp only [Act.put, List.setIfInBounds_toArray, List.set_cons_zero, List.set_cons_succ]
          rfl
        refine take_ (i := 5) (N := some 30) (v := ?_) (a' := ?_) #[true, true, true, true, true, true, false] rfl rfl (by kernel_rfl) (fun _ _ _ h => h) (Or.inl ⟨by rfl, ?_⟩) hHeld ?_ ?_
        rotate_left
        · rintro w' ⟨s0, s1⟩
          refine Lds.run s1 (x := ?_) ?_ ?_
          · exact (Operand.tmp 29)
          · rfl
          · rfl
        rotate_left
        · simp only [Act.put, List.setIfInBounds_toArray, List.set_cons_zero, List.set_cons_succ]
          rfl
        refine pure_ (i := 6) (N := some 31) (v := ?_) (a' := ?_) #[true, true, true, true, true, true, true] rfl rfl (by kernel_rfl) (fun _ _ _ h => h) (Or.inl ⟨by rfl, ?_⟩) ?_ ?_
        rotate_left
        · intro w'
          go_simp
          with_reducible rfl
        rotate_left
        · simp only [Act.put, List.setIfInBounds_toArray, List.set_cons_zero, List.set_cons_succ]
          rfl
        refine done_ (by kernel_rfl) ?_
        by_cases hx : xa = xb
        · have hx2 : (xa != xb) = false := by rw [hx]; exact bne_self_eq_false _
          have HN : Kp (ha'.take (i + 1) = hb'.take (i + 1)) := ⟨(take_succ_iff _ _ i (by rw [Hha32.out]; omega) (by rw [Hhb32.out]; omega)).2 ⟨HT.out, by rw [← HXA.out.1, ← HXA.out.2]; exact hx⟩⟩
          have HFn := Kp.mk HF.out.drew
          have H7n := Kp.mk H7.out.drew
          have H8n := Kp.mk H8.out.drew
          clear hx c7 c8 hHeld H7 H8 HF HT
          go_wp2_with (fail)
          refine ⟨⟨i + 1, by go_num, ⟨Hlt.out⟩, HN, H7n, H8n, HFn⟩, ?_⟩
          simp [intOf]; omega
        · have hx2 : (xa != xb) = true := by simpa using hx
          have HP : Kp (PP = false) := ⟨by rw [HPQ.out]; exact decide_eq_false (take_lt_ne _ _ i s Hlt.out (by rw [Hha32.out]; omega) (by rw [Hhb32.out]; omega) (by rw [← HXA.out.1, ← HXA.out.2]; exact hx))⟩
          clear hx c7 c8 hHeld
          go_wp2_with (fail)
          go_ret
          exact ⟨by rw [HP.out]; rfl, HF.out.drew⟩
      · have hie : i = s := by omega
        have HP : Kp (PP = true) := ⟨by rw [HPQ.out, ← hie]; exact decide_eq_true HT.out⟩
        clear hie hi'
        go_wp2_with (fail)
        go_ret
        exact ⟨by rw [HP.out]; rfl, HF.out⟩
end Go.Proofs.YtjcmgpiapbeodaaDoor.Sha
