/-
  The walk of TlogHashes.
-/
import Derived.Test.YtjbhaopocabfaaaDoorNode
import Derived.Test.YtjbhaopocabfaaaDoorCut
import Derived.Deep.DeepCutAuto
import Derived.Deep.CutBlock
namespace Go.Proofs.YtjbhaopocabfaaaDoor.Sha
open Go.RowKit Go.Proofs.YtjbhaopocabfaaaDoor.Mem Go.Proofs.YtjbhaopocabfaaaDoorW.PrintWords
/-- n cells from a pointer on -/
noncomputable def midAt (W : World) (n : Nat) : Value → Array Value
  | .pointer (some ⟨b, o, none⟩) => match W.heap[b]? with
    | some (.cells cs _ _) => cs.extract o (o + n)
    | _ => #[]
  | _ => #[]
noncomputable def midOk (W : World) (n : Nat) : Value → Bool
  | .pointer (some ⟨b, o, none⟩) => match W.heap[b]? with
    | some (.cells cs _ _) => decide (o + n ≤ cs.size)
    | _ => false
  | _ => false
theorem midAt_blk {W : World} {b o n : Nat} {T : TypeId} {vs : List Value} (h : Blk W b T vs) : midAt W n (.pointer (some ⟨b, o, none⟩)) = ((vs.drop o).take n).toArray := by
  unfold Blk at h
  simp only [midAt, h]
  apply Array.ext_getElem?
  intro i
  simp only [Array.getElem?_extract, List.getElem?_toArray, List.getElem?_take, List.getElem?_drop, List.size_toArray]
  by_cases hi : i < n
  · by_cases h2 : o + i < vs.length
    · rw [if_pos (by omega), if_pos hi]
    · rw [if_neg (by omega), if_pos hi, List.getElem?_eq_none (by omega)]
  · rw [if_neg (by omega), if_neg hi]
theorem midOk_blk {W : World} {b o n : Nat} {T : TypeId} {vs : List Value} (h : Blk W b T vs) (hn : o + n ≤ vs.length) : midOk W n (.pointer (some ⟨b, o, none⟩)) = true := by
  unfold Blk at h
  simp only [midOk, h]
  simpa using hn
theorem wp_load_mid23 (W : World) (a : Act) (K : Act → World → Prop) (Q : Exit → Act → World → Prop) (x : Operand) (d : Tmp) (ty : TypeId) (pos : String) (af) (gd)
    (hx : midOk W 32 (a.eval x) = true) :
    Oper.wp Tryd.prog { dst := some d, op := .load 23 x, type := ty, pos := pos, after := af, guard := gd } a W K Q = K (a.put (some d) (.agg (midAt W 32 (a.eval x)))) W := by
  obtain ⟨b, o, cs, t, fr, hv, hb, hz⟩ : ∃ b o cs t fr, a.eval x = .pointer (some ⟨b, o, none⟩) ∧ W.heap[b]? = some (.cells cs t fr) ∧ o + 32 ≤ cs.size := by
    unfold midOk at hx
    split at hx
    · rename_i b o hv
      split at hx
      · rename_i cs t fr hb
        exact ⟨b, o, cs, t, fr, hv, hb, of_decide_eq_true hx⟩
      · cases hx
    · cases hx
  have hi : (Tryd.prog.info? 23).map (·.size) = some 32 := by kernel_rfl
  have h := run_loadAt_mid (P := Tryd.prog) W b o 23 (cs.extract o (o + 32)).toList _ (World.rangeAt_of_block hb o 32) Tryd.underlying23 rfl (by rw [hi, Array.length_toList, Array.size_extract, show min (o + 32) cs.size - o = 32 by omega])
  have e : (execOp a.eval { dst := some d, op := .load 23 x, type := ty, pos := pos, after := af, guard := gd }).run Tryd.prog W = .ok (.value (.agg (cs.extract o (o + 32)))) W := by
    unfold execOp
    simp only [hv, Sem.run_bind, h, Result.andThen_ok, Sem.run_pure, Array.toArray_toList]
  have hra : midAt W 32 (a.eval x) = cs.extract o (o + 32) := by rw [hv]; simp only [midAt, hb]
  unfold Oper.wp
  rw [e, hra]
  rfl
theorem midOk_drew (W : World) (n : Nat) (v : Value) : midOk W.drew n v = midOk W n v := rfl
theorem midAt_drew (W : World) (n : Nat) (v : Value) : midAt W.drew n v = midAt W n v := rfl
theorem eq32 (M N : List Int) (h : M.length = 32) (hn : N.length = 32) (W : World) : (Op.equalIn 10000 25 (.agg (bytes M).toArray) (.agg (bytes N).toArray)).run Tryd.prog W = .ok (decide (M = N)) W :=
  run_equalIn_ints W 9998 25 5 32 .u8 Tryd.underlying25 Tryd.underlying5 size_u8 M N h hn
theorem empty_not_zero : decide (ofL 32 [] = List.replicate 32 0) = false := by decide +kernel
attribute [local go_sem ↓] Go.wp_at_zero Go.wp_at_succ wp_load_hash wp_load_mid23
attribute [local go_sem] rowAt_drew rowOk_drew midOk_drew midAt_drew
set_option maxHeartbeats 4000000 in
set_option maxRecDepth 100000 in
theorem hashes_calls (k : Int) (A : Option Addr) (c : Nat) (data l r : List Int) (hl : l.length = 32) (hr : r.length = 32) (w : World) (hL : Laid w) (hX : Src w (fun _ => False) A c data) (hd : data.length ≤ 140737488351232) :
    Calls Tryd.prog 3 #[.int .i64 k, .slice A data.length c, .agg (bytes l ++ bytes r).toArray] w fun e w' => e = .returned (.bool true) ∧ Fr (fun _ => False) w w' := by
  have HX := Kp.mk hX
  have HL := Kp.mk hL
  have HLl := Kp.mk hl
  have HRl := Kp.mk hr
  obtain ⟨n, hn⟩ : ∃ n, n = data.length := ⟨_, rfl⟩
  rw [← hn] at hd ⊢
  have HN := Kp.mk hn
  clear hL hX hl hr hn
  go_enter Tryd.func3, Tryd.ntmps3
  go_upto_region 2 with (fail)
  obtain ⟨g5, hg5⟩ : ∃ g5, g5 = w.heap.size := ⟨_, rfl⟩
  obtain ⟨W1, hW1⟩ : ∃ W1, W1 = w.alloc (.cells (bytes l ++ bytes r).toArray 24) := ⟨_, rfl⟩
  have H5 : Kp (Blk W1 g5 24 (bytes l ++ bytes r)) := ⟨by rw [hW1, hg5]; exact Blk.new w (bytes l ++ bytes r).toArray _⟩
  have HF1 : Kp (Fr (fun _ => False) w W1) := ⟨by rw [hW1]; exact (Fr.refl _ w).alloc _⟩
  have HG : Kp (w.heap.size ≤ g5) := ⟨by omega⟩
  rw [← hW1, ← hg5]
  have hb1 : g5 + 1 = W1.heap.size := by rw [hW1, hg5]; simp
  rw [hb1]
  clear hW1 hg5 hb1
  have HX1 := Kp.mk (HX.out.fr HF1.out)
  have OL0 : Kp ((W1.alloc (.cells #[.int .u8 0] 5)).ownsRow W1.heap.size 5 1 (.slice (some ⟨W1.heap.size, 0, none⟩) 1 1) ([0] : List Int).length (bytes [0])) := ⟨⟨rfl, .inr ⟨W1.heap.size, 1, #[.int .u8 0], rfl, Nat.le_refl _, Blk.new W1 #[.int .u8 0] 5, Nat.le_refl _, by decide, rfl, rfl⟩⟩⟩
  have HXa := Kp.mk (HX1.out.fr ((Fr.refl (fun _ => False) W1).alloc (.cells #[.int .u8 0] 5)))
  go_upto_region 3 with (at_builtin; refine wpList_appendS rfl _ _ rfl rfl W1.heap.size (.slice (some ⟨W1.heap.size, 0, none⟩) 1 1) [0] rfl OL0.out A n c data HN.out rfl HXa.out (by rw [← HN.out]; simp; omega) (by simp) ?_; intro v2 W2 hown hgr hat; obtain ⟨gA, cA, hv, hvv⟩ := own_form hown (by simp); subst hv; have HOA := Kp.mk hown; have HGrA := Kp.mk hgr; clear hown hgr hat hvv)
  have hla : ([0] ++ data : List Int).length = n + 1 := by rw [HN.out]; simp
  have HSL : Kp (Src W2 (fun _ => False) (some ⟨gA, 0, none⟩) cA (0 :: data)) := ⟨own_srcs HOA.out⟩
  have hga := ((Fr.refl (fun _ => False) W1).alloc (.cells #[.int .u8 0] 5)).grown HGrA.out (fun q hq h => by have h1 : W1.heap.size = q := Option.some.inj h; omega)
  have HF2 := Kp.mk (HF1.out.trans hga (fun _ _ h => h))
  have H52 := Kp.mk (H5.out.fr hga (fun h => h))
  rw [show data.length + 1 = n + 1 by rw [HN.out]]
  clear hga HGrA HOA OL0 HXa HX1 HF1 H5 hla
  go_upto_region 4 with (fail)
  have hT1 : ((bytes l ++ bytes r).drop 0).take 32 = bytes l := by rw [List.drop_zero, List.take_append_of_le_length (by rw [bytes_length, HLl.out]; exact Nat.le_refl _), List.take_of_length_le (by rw [bytes_length, HLl.out]; exact Nat.le_refl _)]
  have hT2 : ((bytes l ++ bytes r).drop 32).take 32 = bytes r := by rw [List.drop_append_of_le_length (by rw [bytes_length, HLl.out]; exact Nat.le_refl _), List.drop_of_length_le (by rw [bytes_length, HLl.out]; exact Nat.le_refl _), List.nil_append, List.take_of_length_le (by rw [bytes_length, HRl.out]; exact Nat.le_refl _)]
  have HT1 := Kp.mk hT1
  have HT2 := Kp.mk hT2
  have HM64 : Kp ((bytes l ++ bytes r).length = 64) := ⟨by rw [List.length_append, bytes_length, bytes_length, HLl.out, HRl.out]⟩
  clear hT1 hT2
  have part : ∀ (W : World) (o : Nat) (q : List Int), q.length = 32 → o + 32 ≤ 64 → ((bytes l ++ bytes r).drop o).take 32 = bytes q → Blk W g5 24 (bytes l ++ bytes r) → Src W (fun _ => False) (some ⟨g5, o, none⟩) 32 q := fun W o q hq ho he hB =>
    ⟨by omega, .inr (.inr ⟨g5, o, rfl, ⟨hB.lt, fun i hi => by
      rw [hB.cell? (o + i)]
      have h1 := bytes_get q i hi
      rw [← he, List.getElem?_take_of_lt (by omega), List.getElem?_drop] at h1
      exact h1⟩, fun h => h⟩)⟩
  have HP1 := Kp.mk (fun W => part W 0 l HLl.out (by decide) HT1.out)
  have HP2 := Kp.mk (fun W => part W 32 r HRl.out (by decide) HT2.out)
  clear part
  have OL1 : Kp ((W2.alloc (.cells #[.int .u8 1] 5)).ownsRow W2.heap.size 5 1 (.slice (some ⟨W2.heap.size, 0, none⟩) 1 1) ([1] : List Int).length (bytes [1])) := ⟨⟨rfl, .inr ⟨W2.heap.size, 1, #[.int .u8 1], rfl, Nat.le_refl _, Blk.new W2 #[.int .u8 1] 5, Nat.le_refl _, by decide, rfl, rfl⟩⟩⟩
  have hxl : Src (W2.alloc (.cells #[.int .u8 1] 5)) (fun _ => False) (some ⟨g5, 0, none⟩) 32 l := HP1.out _ (H52.out.alloc _)
  have HXl := Kp.mk hxl
  clear hxl
  go_upto_region 5 with (at_builtin; refine wpList_appendS rfl _ _ rfl rfl W2.heap.size (.slice (some ⟨W2.heap.size, 0, none⟩) 1 1) [1] rfl OL1.out (some ⟨g5, 0, none⟩) 32 32 l (by exact HLl.out.symm) rfl HXl.out (by rw [HLl.out]; decide) (by simp) ?_; intro v4 W4 hown hgr hat; obtain ⟨gB, cB, hv, hvv⟩ := own_form hown (by simp); subst hv; have HOB := Kp.mk hown; have HGrB := Kp.mk hgr; clear hown hgr hat hvv)
  rw [show l.length + 1 = 33 by rw [HLl.out]]
  have hga := ((Fr.refl (fun _ => False) W2).alloc (.cells #[.int .u8 1] 5)).grown HGrB.out (fun q hq h => by have h1 : W2.heap.size = q := Option.some.inj h; omega)
  have HF24 := Kp.mk hga
  have H54 := Kp.mk (H52.out.fr hga (fun h => h))
  have hl33 : ([1] ++ l : List Int).length = 33 := by simp [HLl.out]
  have HOB2 : Kp (W4.ownsRow W2.heap.size 5 1 (.slice (some ⟨gB, 0, none⟩) 33 cB) ([1] ++ l : List Int).length (bytes ([1] ++ l))) := ⟨by have h := HOB.out; rw [hl33] at h ⊢; exact h⟩
  have HL33 := Kp.mk hl33
  have HXr := Kp.mk (HP2.out W4 H54.out)
  have hgb : W2.heap.size ≤ gB := by
    rcases HOB.out.2 with ⟨h, _⟩ | ⟨q, cap, cur, h, hb, _⟩
    · cases h
    · cases h; exact hb
  have HGB := Kp.mk hgb
  clear hga HGrB OL1 HXl hl33 HOB hgb
  go_upto_region 6 with (at_builtin; refine wpList_appendS rfl _ _ rfl rfl W2.heap.size (.slice (some ⟨gB, 0, none⟩) 33 cB) ([1] ++ l) rfl HOB2.out (some ⟨g5, 32, none⟩) 32 32 r (by exact HRl.out.symm) rfl HXr.out (by rw [HL33.out, HRl.out]; decide) (by exact HF24.out.size) ?_; intro v5 W5 hown hgr hat; obtain ⟨gC, cC, hv, hvv⟩ := own_form hown (by simp); subst hv; have HOC := Kp.mk hown; have HGrC := Kp.mk hgr; clear hown hgr hat hvv)
  rw [show l.length + r.length + 1 = 65 by rw [HLl.out, HRl.out]]
  have hgc := (Fr.refl (fun q => q = gB) W4).grown HGrC.out (fun q hq h => by have h1 : gB = q := Option.some.inj h; exact h1.symm)
  have hgd : Fr (fun _ => False) W2 W5 := HF24.out.trans hgc (fun q hq he => by have := HGB.out; omega)
  have HSN : Kp (Src W5 (fun _ => False) (some ⟨gC, 0, none⟩) cC (1 :: (l ++ r))) := ⟨by
    have e : ([1] ++ l ++ r : List Int) = 1 :: (l ++ r) := by simp
    have h := own_srcs HOC.out
    rw [e] at h
    exact h⟩
  have HSL5 := Kp.mk (HSL.out.fr hgd)
  have H55 := Kp.mk (H52.out.fr hgd (fun h => h))
  have HF5 := Kp.mk (HF2.out.trans hgd (fun _ _ h => h))
  clear hgc hgd HGrC HOC HXr HGB HL33 HOB2 H54 HF24 HP1 HP2 H52 HF2 HSL
  go_upto_region 7 with (fail)
  obtain ⟨g9, hg9⟩ : ∃ g9, g9 = W5.heap.size := ⟨_, rfl⟩
  obtain ⟨Z0, hZ0⟩ : ∃ Z0, Z0 = List.replicate 32 (0 : Int) := ⟨_, rfl⟩
  obtain ⟨W6, hW6⟩ : ∃ W6, W6 = W5.alloc (.cells #[.int .u8 0, .int .u8 0, .int .u8 0, .int .u8 0, .int .u8 0, .int .u8 0, .int .u8 0, .int .u8 0, .int .u8 0, .int .u8 0, .int .u8 0, .int .u8 0, .int .u8 0, .int .u8 0, .int .u8 0, .int .u8 0, .int .u8 0, .int .u8 0, .int .u8 0, .int .u8 0, .int .u8 0, .int .u8 0, .int .u8 0, .int .u8 0, .int .u8 0, .int .u8 0, .int .u8 0, .int .u8 0, .int .u8 0, .int .u8 0, .int .u8 0, .int .u8 0] 25) := ⟨_, rfl⟩
  have H9 : Kp (Blk W6 g9 25 (bytes Z0)) := ⟨by rw [hW6, hg9, hZ0]; exact Blk.new W5 _ _⟩
  have hfa : Fr (fun _ => False) W5 W6 := by rw [hW6]; exact (Fr.refl _ W5).alloc _
  have HF6 := Kp.mk (HF5.out.trans hfa (fun _ _ h => h))
  have H5 := Kp.mk (H55.out.fr hfa (fun h => h))
  have HSL6 := Kp.mk (HSL5.out.fr hfa)
  have HSN6 := Kp.mk (HSN.out.fr hfa)
  have HX6 := Kp.mk (HX.out.fr HF6.out)
  rw [← hg9, ← hW6]
  clear hg9 hW6 hfa HF5 H55 HSL5 HSN HX
  have LW : ∀ W, Fr (fun _ => False) W6 W → Laid W := fun W hf => (HL.out.fr HF6.out (fun _ h => h.elim)).fr hf (fun _ h => h.elim)
  have hs1 := strength_le k
  obtain ⟨E0, hE0⟩ : ∃ E0, E0 = ofL 32 [] := ⟨_, rfl⟩
  obtain ⟨h0, hh0⟩ : ∃ h0, h0 = hash false [] := ⟨_, rfl⟩
  obtain ⟨h1, hh1⟩ : ∃ h1, h1 = hash false (0 :: data) := ⟨_, rfl⟩
  obtain ⟨h2, hh2⟩ : ∃ h2, h2 = hash false (1 :: (l ++ r)) := ⟨_, rfl⟩
  obtain ⟨Ek, hEk⟩ : ∃ Ek, Ek = ofL (strength k) [] := ⟨_, rfl⟩
  obtain ⟨Lf, hLf⟩ : ∃ Lf, Lf = leafL (strength k) data := ⟨_, rfl⟩
  obtain ⟨Nd, hNd⟩ : ∃ Nd, Nd = nodeL (strength k) l r := ⟨_, rfl⟩
  have CE0 : Kp (∀ W, Fr (fun _ => False) W6 W → Calls Tryd.prog 11 #[.int .i64 0] W fun e w' => e = .returned (.agg (bytes E0).toArray) ∧ Fr (fun _ => False) W w') := ⟨fun W hf => by rw [hE0]; exact emptyHash_calls 0 W (LW W hf)⟩
  have CEk : Kp (∀ W, Fr (fun _ => False) W6 W → Calls Tryd.prog 11 #[.int .i64 k] W fun e w' => e = .returned (.agg (bytes Ek).toArray) ∧ Fr (fun _ => False) W w') := ⟨fun W hf => by rw [hEk]; exact emptyHash_calls k W (LW W hf)⟩
  have CS : Kp (∀ W, Fr (fun _ => False) W6 W → Calls Tryd.prog 13 #[.slice none 0 0] W fun e w' => e = .returned (.agg (bytes h0).toArray) ∧ Fr (fun _ => False) W w') := ⟨fun W hf => by rw [hh0]; exact (F32.hash_calls none 0 [] W (LW W hf) ⟨Nat.le_refl _, .inl ⟨rfl, rfl, rfl⟩⟩ (by decide)).mono fun _ _ h => ⟨h.1, Fr.of_below h.2 _⟩⟩
  have CL : Kp (∀ W, Fr (fun _ => False) W6 W → Calls Tryd.prog 14 #[.int .i64 k, .slice A n c] W fun e w' => e = .returned (.agg (bytes Lf).toArray) ∧ Fr (fun _ => False) W w') := ⟨fun W hf => by rw [hLf, HN.out]; exact leafHash_calls k A c data W (LW W hf) (HX6.out.fr hf) (by rw [← HN.out]; exact hd)⟩
  have CN : Kp (∀ W, Fr (fun _ => False) W6 W → Calls Tryd.prog 15 #[.int .i64 k, .agg (bytes l).toArray, .agg (bytes r).toArray] W fun e w' => e = .returned (.agg (bytes Nd).toArray) ∧ Fr (fun _ => False) W w') := ⟨fun W hf => by rw [hNd]; exact nodeHash_calls k l r HLl.out HRl.out W (LW W hf)⟩
  have hl1 : (0 :: data : List Int).length = n + 1 := by rw [HN.out]; rfl
  have hl2 : (1 :: (l ++ r) : List Int).length = 65 := by simp [HLl.out, HRl.out]
  have CS1 : Kp (∀ W, Fr (fun _ => False) W6 W → Calls Tryd.prog 13 #[.slice (some ⟨gA, 0, none⟩) (n + 1) cA] W fun e w' => e = .returned (.agg (bytes h1).toArray) ∧ Fr (fun _ => False) W w') := ⟨fun W hf => by rw [hh1, ← hl1]; exact (F32.hash_calls (some ⟨gA, 0, none⟩) cA (0 :: data) W (LW W hf) (HSL6.out.fr hf) (by rw [hl1]; unfold maxCount; omega)).mono fun _ _ h => ⟨h.1, Fr.of_below h.2 _⟩⟩
  have CS2 : Kp (∀ W, Fr (fun _ => False) W6 W → Calls Tryd.prog 13 #[.slice (some ⟨gC, 0, none⟩) 65 cC] W fun e w' => e = .returned (.agg (bytes h2).toArray) ∧ Fr (fun _ => False) W w') := ⟨fun W hf => by rw [hh2, ← hl2]; exact (F32.hash_calls (some ⟨gC, 0, none⟩) cC (1 :: (l ++ r)) W (LW W hf) (HSN6.out.fr hf) (by rw [hl2]; decide)).mono fun _ _ h => ⟨h.1, Fr.of_below h.2 _⟩⟩
  have CC0 : Kp (∀ W, Calls Tryd.prog 12 #[.int .i64 k, .agg (bytes h0).toArray] W fun e w' => e = .returned (.agg (bytes Ek).toArray) ∧ Fr (fun _ => False) W w') := ⟨fun W => by rw [hEk, hh0]; exact cut_calls k _ (hlen _) W⟩
  have CC1 : Kp (∀ W, Calls Tryd.prog 12 #[.int .i64 k, .agg (bytes h1).toArray] W fun e w' => e = .returned (.agg (bytes Lf).toArray) ∧ Fr (fun _ => False) W w') := ⟨fun W => by rw [hLf, hh1]; exact cut_calls k _ (hlen _) W⟩
  have CC2 : Kp (∀ W, Calls Tryd.prog 12 #[.int .i64 k, .agg (bytes h2).toArray] W fun e w' => e = .returned (.agg (bytes Nd).toArray) ∧ Fr (fun _ => False) W w') := ⟨fun W => by rw [hNd, hh2]; exact cut_calls k _ (hlen _) W⟩
  have s0 : ∀ W, (Op.equalIn 10000 25 (.agg (bytes E0).toArray) (.agg (bytes Z0).toArray)).run Tryd.prog W = .ok false W := fun W => by
    rw [hZ0]
    have h := eq32 E0 (List.replicate 32 0) (by rw [hE0]; exact ofL_len 32 [] (Nat.le_refl _)) rfl W
    rw [hE0, empty_not_zero] at h
    rw [hE0]; exact h
  have s1 : ∀ W, (Op.equalIn 10000 25 (.agg (bytes Ek).toArray) (.agg (bytes Ek).toArray)).run Tryd.prog W = .ok true W := fun W => by
    have h := eq32 Ek Ek (by rw [hEk]; exact ofL_len _ _ hs1) (by rw [hEk]; exact ofL_len _ _ hs1) W
    rw [decide_eq_true rfl] at h; exact h
  have s2 : ∀ W, (Op.equalIn 10000 25 (.agg (bytes Lf).toArray) (.agg (bytes Lf).toArray)).run Tryd.prog W = .ok true W := fun W => by
    have h := eq32 Lf Lf (by rw [hLf]; exact ofL_len _ _ hs1) (by rw [hLf]; exact ofL_len _ _ hs1) W
    rw [decide_eq_true rfl] at h; exact h
  have s3 : ∀ W, (Op.equalIn 10000 25 (.agg (bytes Nd).toArray) (.agg (bytes Nd).toArray)).run Tryd.prog W = .ok true W := fun W => by
    have h := eq32 Nd Nd (by rw [hNd]; exact ofL_len _ _ hs1) (by rw [hNd]; exact ofL_len _ _ hs1) W
    rw [decide_eq_true rfl] at h; exact h
  have Z9 : Kp ((Tryd.prog.info? 25).map (·.size) = some (bytes Z0).length) := ⟨by rw [hZ0, bytes_length, List.length_replicate]; kernel_rfl⟩
  clear hZ0 hE0 hh0 hh1 hh2 hEk hLf hNd LW hl1 hl2 hs1 HL HX6 HSL6 HSN6 HN HLl HRl
  have ok9 := rowOk_blk H9.out Z9.out
  have at9 := rowAt_blk H9.out
  go_region_with (first
    | (go_at_call 11; (refine (CE0.out _ (by exact (Fr.refl (fun _ => False) W6).drew)).mono ?_); rintro e' a1 ⟨rfl, hq⟩; have Fa1 := Kp.mk ((Fr.refl (fun _ => False) W6).drew.trans hq (fun _ _ h => h)); have Za1 := Kp.mk (H9.out.fr Fa1.out (fun h => h)); have oka1 := rowOk_blk Za1.out Z9.out; have ata1 := rowAt_blk Za1.out; clear hq)
    | (go_at_call 11; (refine (CEk.out a1 Fa1.out).mono ?_); rintro e' a2 ⟨rfl, hq⟩; have Fa2 := Kp.mk (Fa1.out.trans hq (fun _ _ h => h)); clear hq)
    | (go_at_call 13; (refine (CS.out a2 Fa2.out).mono ?_); rintro e' a3 ⟨rfl, hq⟩; have Fa3 := Kp.mk (Fa2.out.trans hq (fun _ _ h => h)); clear hq)
    | (go_at_call 12; (refine (CC0.out a3).mono ?_); rintro e' a4 ⟨rfl, hq⟩; have Fa4 := Kp.mk (Fa3.out.trans hq (fun _ _ h => h)); clear hq))
  all_goals (
    go_wp2_with (fail)
    refine (CL.out _ Fa4.out).mono ?_
    rintro e' b1 ⟨rfl, hq⟩
    have Fb1 := Kp.mk (Fa4.out.trans hq (fun _ _ h => h))
    clear hq
    go_wp2_with (fail)
    refine (CS1.out _ Fb1.out).mono ?_
    rintro e' b2 ⟨rfl, hq⟩
    have Fb2 := Kp.mk (Fb1.out.trans hq (fun _ _ h => h))
    clear hq
    go_wp2_with (fail)
    refine (CC1.out _).mono ?_
    rintro e' b3 ⟨rfl, hq⟩
    have Fb3 := Kp.mk (Fb2.out.trans hq (fun _ _ h => h))
    have Mb3 := Kp.mk (H5.out.fr Fb3.out (fun h => h))
    have mkb3 := midOk_blk (o := 0) (n := 32) Mb3.out (by rw [HM64.out]; decide)
    have mlb3 := midOk_blk (o := 32) (n := 32) Mb3.out (by rw [HM64.out]; decide)
    have mab3 := midAt_blk (o := 0) (n := 32) Mb3.out
    have mbb3 := midAt_blk (o := 32) (n := 32) Mb3.out
    rw [HT1.out] at mab3
    rw [HT2.out] at mbb3
    clear hq
    go_wp2_with (fail)
    refine (CN.out _ Fb3.out).mono ?_
    rintro e' b4 ⟨rfl, hq⟩
    have Fb4 := Kp.mk (Fb3.out.trans hq (fun _ _ h => h))
    clear hq
    go_wp2_with (fail)
    refine (CS2.out _ Fb4.out).mono ?_
    rintro e' b5 ⟨rfl, hq⟩
    have Fb5 := Kp.mk (Fb4.out.trans hq (fun _ _ h => h))
    clear hq
    go_wp2_with (fail)
    refine (CC2.out _).mono ?_
    rintro e' b6 ⟨rfl, hq⟩
    have Fb6 := Kp.mk (Fb5.out.trans hq (fun _ _ h => h))
    clear hq
    go_wp2_with (fail)
    go_ret
    exact ⟨rfl, HF6.out.trans Fb6.out (fun _ _ h => h)⟩)
theorem hashes_calls2 (k : Int) (A : Option Addr) (c : Nat) (data l r : List Int) (hl : l.length = 32) (hr : r.length = 32) (w : World) (hL : Laid w) (hX : Src w (fun _ => False) A c data) (hd : data.length ≤ 140737488351232) :
    Calls Tryd.prog 3 #[.int .i64 k, .slice A data.length c, .agg (bytes l ++ bytes r).toArray] w fun e w' => e = .returned (.bool true) ∧ Below w.heap.size w w' :=
  (hashes_calls k A c data l r hl hr w hL hX hd).mono fun _ _ h => ⟨h.1, h.2.below (fun _ _ h => h)⟩
end Go.Proofs.YtjbhaopocabfaaaDoor.Sha
