/-
  The walk of ProofParts.
-/
import Derived.Test.YtjcmgpiapbeodaaDoorHides
import Derived.Test.YtjcmgpiapbeodaaDoorColY
import Derived.Test.YtjcmgpiapbeodaaDoorHashs
set_option linter.unusedSimpArgs false
set_option linter.unusedVariables false
namespace Go.Proofs.YtjcmgpiapbeodaaDoor.Sha
open Go.Proofs.YtjcmgpiapbeodaaDoor.Pf Go.Proofs.YtjcmgpiapbeodaaDoor.Len Go.Proofs.YtjcmgpiapbeodaaDoor.PProofTakes
open Go.RowKit Go.Proofs.YtjcmgpiapbeodaaDoor.Mem Go.Proofs.YtjcmgpiapbeodaaDoorW.PrintWords Go.Proofs.YtjcmgpiapbeodaaDoorW.PrintLast Go.Proofs.YtjcmgpiapbeodaaDoor.Pl Go.Proofs.YtjcmgpiapbeodaaDoor.Wk
attribute [local go_sem ↓] Go.wp_at_zero Go.wp_at_succ wp_load_hash wp_store_hash wp_load_mid23 wp_load_mid25 wp_store_mid25 wp_build_hash
attribute [local go_sem] rowAt_drew rowOk_drew midOk_drew midAt_drew rowBlock rowCells rowOff midFree_drew
theorem lds_rws {w : World} {a : Addr} {v : Value} (h : w.cell? a = some v) : Lds w 24 (.pointer (some a)) v := by
  intro ev o x ho hx
  unfold execOp
  simp only [ho, hx]
  go_simp
theorem col_own (s : Nat) : colR s 1 0 [1] [] [1] [] = 92 := by
  have hr : recOk 1 0 := by unfold recOk; omega
  have hw : ([] : List (List Int)).length = (way (0 : Int).toNat (1 : Int).toNat).length := by decide +kernel
  unfold colR
  rw [if_neg (by simp), climbR_yes hr hw, if_neg (by simp), if_neg (by simp), if_neg (by simp), if_pos rfl]
theorem own_calls (k : Int) (w : World) (hL : Laid w) (g h : Nat) (h1 : Src w (fun _ => False) (some ⟨g, 0, none⟩) 1 [1]) (h2 : Src w (fun _ => False) (some ⟨h, 0, none⟩) 1 [1]) :
    Calls Tryd.prog 22 #[.int .i64 k, .int .i64 1, .int .i64 0, .slice (some ⟨g, 0, none⟩) 1 1, .slice none 0 0, .slice (some ⟨h, 0, none⟩) 1 1, .slice none 0 0] w fun e w' => e = .returned (.tuple #[.agg #[.slice none 0 0, .slice none 0 0], .int .i64 92]) ∧ Fr (fun _ => False) w w' := by
  have hn : HRow w (fun _ => False) none 0 [] := ⟨by simp, Nat.le_refl _, .inl ⟨rfl, rfl, rfl⟩⟩
  have hb : Byt [1] := fun b hb => by rw [List.mem_singleton.1 hb]; omega
  have q := CollideRecords_not k 1 0 _ 1 [1] none 0 [] _ 1 [1] none 0 [] w hL h1 hn h2 hn hb hb (by decide) (by decide) (by rw [col_own]; decide)
  rw [col_own] at q
  exact q
theorem pair_len {s : Nat} (hs : s ≤ 32) (w : List Pf.St) (pa pb : List (List Int)) (a b : List Int) (h3 : ∀ x ∈ pa, x.length = 32) (h4 : ∀ x ∈ pb, x.length = 32) {P1 P2 : List Int}
    (hp : IsPair (nodeL s) (0 :: a) (0 :: b) (nodes (.giv (leafL s a)) w pa) (nodes (.giv (leafL s b)) w pb) (P1, P2)) : P1.length ≤ a.length + 66 ∧ P2.length ≤ b.length + 66 := by
  obtain ⟨j, x, y, hx, hy, _, _, h⟩ := hp
  rcases h with ⟨_, he⟩ | ⟨_, he⟩
  · obtain ⟨e1, e2⟩ := Prod.mk.inj he
    rw [e1, e2, List.length_cons, List.length_cons]
    omega
  · have nx := nodes_ok w pa (.giv (leafL s a)) (ofL_len _ _ hs) h3 x (List.mem_of_getElem? hx)
    have ny := nodes_ok w pb (.giv (leafL s b)) (ofL_len _ _ hs) h4 y (List.mem_of_getElem? hy)
    cases x with
    | giv _ => simp [parts] at he
    | join xl xr =>
    cases y with
    | giv _ => simp [parts] at he
    | join yl yr =>
    simp only [parts] at he
    split at he
    · cases he
    · obtain ⟨e1, e2⟩ := Prod.mk.inj (Option.some.inj he)
      have l1 := Pf.sum_len (nodeL s) (fun l r => ofL_len s _ hs) nx.1
      have l2 := Pf.sum_len (nodeL s) (fun l r => ofL_len s _ hs) nx.2
      have l3 := Pf.sum_len (nodeL s) (fun l r => ofL_len s _ hs) ny.1
      have l4 := Pf.sum_len (nodeL s) (fun l r => ofL_len s _ hs) ny.2
      rw [← e1, ← e2]
      simp only [List.length_cons, List.length_append]
      omega
theorem wp_load_pair2 (W : World) (a : Act) (K : Act → World → Prop) (Q : Exit → Act → World → Prop) (x : Operand) (d : Tmp) (ty : TypeId) (pos : String) (af) (gd)
    (hx : midOk W 2 (a.eval x) = true) :
    Oper.wp Tryd.prog { dst := some d, op := .load 36 x, type := ty, pos := pos, after := af, guard := gd } a W K Q = K (a.put (some d) (.agg (midAt W 2 (a.eval x)))) W := by
  obtain ⟨b, o, cs, t, fr, hv, hb, hz⟩ : ∃ b o cs t fr, a.eval x = .pointer (some ⟨b, o, none⟩) ∧ W.heap[b]? = some (.cells cs t fr) ∧ o + 2 ≤ cs.size := by
    unfold midOk at hx
    split at hx
    · rename_i b o hv
      split at hx
      · rename_i cs t fr hb
        exact ⟨b, o, cs, t, fr, hv, hb, of_decide_eq_true hx⟩
      · cases hx
    · cases hx
  have hi : (Tryd.prog.info? 36).map (·.size) = some 2 := by kernel_rfl
  have h := run_loadAt_mid (P := Tryd.prog) W b o 36 (cs.extract o (o + 2)).toList _ (World.rangeAt_of_block hb o 2) Tryd.underlying36 rfl (by rw [hi, Array.length_toList, Array.size_extract, show min (o + 2) cs.size - o = 2 by omega])
  have e : (execOp a.eval { dst := some d, op := .load 36 x, type := ty, pos := pos, after := af, guard := gd }).run Tryd.prog W = .ok (.value (.agg (cs.extract o (o + 2)))) W := by
    unfold execOp
    simp only [hv, Sem.run_bind, h, Result.andThen_ok, Sem.run_pure, Array.toArray_toList]
  have hra : midAt W 2 (a.eval x) = cs.extract o (o + 2) := by rw [hv]; simp only [midAt, hb]
  unfold Oper.wp
  rw [e, hra]
  rfl
theorem mid_pair {w : World} {b : Nat} {x y : Value} (h : Blk w b 36 [x, y]) : midOk w 2 (.pointer (some ⟨b, 0, none⟩)) = true ∧ midAt w 2 (.pointer (some ⟨b, 0, none⟩)) = #[x, y] := by
  refine ⟨midOk_blk (o := 0) (n := 2) h (by simp), ?_⟩
  have h2 := midAt_blk (o := 0) (n := 2) h
  rwa [List.drop_zero, List.take_of_length_le (by simp)] at h2
attribute [local go_sem ↓] wp_load_pair2
set_option maxHeartbeats 4000000 in
set_option maxRecDepth 100000 in
theorem proofParts_calls (k n i : Int) (A B PA PB : Option Addr) (c d cA cB : Nat) (a b : List Int) (pa pb : List (List Int)) (cells : List Value) (w : World)
    (hk : cells[0]? = some (.int .i64 k) ∧ cells[1]? = some (.int .i64 n) ∧ cells[3]? = some (.int .i64 i) ∧ cells[4]? = some (.slice A a.length c) ∧ cells[5]? = some (.slice B b.length d) ∧ cells[70]? = some (.slice PA pa.length cA) ∧ cells[71]? = some (.slice PB pb.length cB))
    (hX : Src w (fun _ => False) A c a) (hY : Src w (fun _ => False) B d b) (hP : HRow w (fun _ => False) PA cA pa) (hQ : HRow w (fun _ => False) PB cB pb) (ha : Byt a) (hb : Byt b) (hpa : ∀ x ∈ pa, Byt x) (hpb : ∀ x ∈ pb, Byt x)
    (la0 : a.length ≤ 140737488351232) (lb0 : b.length ≤ 140737488351232) (lpa : pa.length * 32 ≤ 140737488351232) (lpb : pb.length * 32 ≤ 140737488351232) (hL : Laid w) :
    Calls Tryd.prog 5 #[.agg cells.toArray] w fun e w' => e = .returned (.bool true) ∧ Fr (fun _ => False) w w' := by
  have HL := Kp.mk hL
  have hs := strength_le k
  have la32 : (leafL (strength k) a).length = 32 := ofL_len _ _ hs
  have lb32 : (leafL (strength k) b).length = 32 := ofL_len _ _ hs
  have CHa : Kp (∀ W, Fr (fun _ => False) w W → Calls Tryd.prog 18 #[.slice PA pa.length cA] W fun e w' => ∃ v, e = .returned v ∧ HOwn w' W.heap.size v pa ∧ Fr (fun _ => False) W w') := ⟨fun W hf => hashes9_calls PA cA pa W (hP.fr hf) (by omega)⟩
  have CHb : Kp (∀ W, Fr (fun _ => False) w W → Calls Tryd.prog 18 #[.slice PB pb.length cB] W fun e w' => ∃ v, e = .returned v ∧ HOwn w' W.heap.size v pb ∧ Fr (fun _ => False) W w') := ⟨fun W hf => hashes9_calls PB cB pb W (hQ.fr hf) (by omega)⟩
  have CLa : Kp (a.length ≤ 1024 → ∀ W, Fr (fun _ => False) w W → Calls Tryd.prog 14 #[.int .i64 k, .slice A a.length c] W fun e w' => e = .returned (.agg (bytes (leafL (strength k) a)).toArray) ∧ Fr (fun _ => False) W w') := ⟨fun hl W hf => leafHash_calls k A c a W (hL.fr hf (fun _ h => h.elim)) (hX.fr hf) (by omega)⟩
  have CLb : Kp (b.length ≤ 1024 → ∀ W, Fr (fun _ => False) w W → Calls Tryd.prog 14 #[.int .i64 k, .slice B b.length d] W fun e w' => e = .returned (.agg (bytes (leafL (strength k) b)).toArray) ∧ Fr (fun _ => False) W w') := ⟨fun hl W hf => leafHash_calls k B d b W (hL.fr hf (fun _ h => h.elim)) (hY.fr hf) (by omega)⟩
  have hM32 := climbR_32 (s := strength k) hs (n := n) (i := i) hP.1 la32
  have CR : Kp (∀ (W : World) (v : Value) (b0 : Nat), Fr (fun _ => False) w W → HOwn W b0 v pa → Calls Tryd.prog 23 #[.int .i64 k, v, .int .i64 n, .int .i64 i, .agg (bytes (leafL (strength k) a)).toArray] W fun e w' =>
      e = .returned (.tuple #[.agg (bytes (climbR (strength k) n i pa (leafL (strength k) a)).1).toArray, .int .i64 (climbR (strength k) n i pa (leafL (strength k) a)).2]) ∧ Fr (fun _ => False) W w') := ⟨fun W v b0 hf hv => by
    obtain ⟨A', c', rfl, hr⟩ := hv.row (fun _ => False) (fun _ _ h => h)
    exact ClimbRecord_calls k A' c' pa n i _ W (hL.fr hf (fun _ h => h.elim)) hr la32⟩
  have CK1 : Kp ((climbR (strength k) n i pa (leafL (strength k) a)).2 = 0 → ∀ (W : World) (v : Value) (b0 : Nat), Fr (fun _ => False) w W → HOwn W b0 v pa → Calls Tryd.prog 24 #[.int .i64 k, v, .int .i64 n, .agg (bytes (climbR (strength k) n i pa (leafL (strength k) a)).1).toArray, .int .i64 i, .agg (bytes (leafL (strength k) a)).toArray] W fun e w' =>
      e = .returned (.int .i64 0) ∧ Fr (fun _ => False) W w') := ⟨fun hc W v b0 hf hv => by
    obtain ⟨A', c', rfl, hr⟩ := hv.row (fun _ => False) (fun _ _ h => h)
    have q := CheckRecord_calls k A' c' pa n i (climbR (strength k) n i pa (leafL (strength k) a)).1 _ W (hL.fr hf (fun _ h => h.elim)) hr hM32 la32
    rw [show checkR (strength k) n i pa (climbR (strength k) n i pa (leafL (strength k) a)).1 (leafL (strength k) a) = 0 by unfold checkR; rw [if_pos hc, if_pos rfl]] at q
    exact q⟩
  have CK2 : Kp (∀ (W : World) (v : Value) (b0 : Nat), Fr (fun _ => False) w W → HOwn W b0 v pb → Calls Tryd.prog 24 #[.int .i64 k, v, .int .i64 n, .agg (bytes (climbR (strength k) n i pa (leafL (strength k) a)).1).toArray, .int .i64 i, .agg (bytes (leafL (strength k) b)).toArray] W fun e w' =>
      e = .returned (.int .i64 (checkR (strength k) n i pb (climbR (strength k) n i pa (leafL (strength k) a)).1 (leafL (strength k) b))) ∧ Fr (fun _ => False) W w') := ⟨fun W v b0 hf hv => by
    obtain ⟨A', c', rfl, hr⟩ := hv.row (fun _ => False) (fun _ _ h => h)
    exact CheckRecord_calls k A' c' pb n i _ _ W (hL.fr hf (fun _ h => h.elim)) hr hM32 lb32⟩
  have CN : Kp (colR (strength k) n i a pa b pb ≠ 0 → ∀ (W : World) (v1 v2 : Value) (b1 b2 : Nat), Fr (fun _ => False) w W → HOwn W b1 v1 pa → HOwn W b2 v2 pb → Calls Tryd.prog 22 #[.int .i64 k, .int .i64 n, .int .i64 i, .slice A a.length c, v1, .slice B b.length d, v2] W fun e w' =>
      e = .returned (.tuple #[.agg #[.slice none 0 0, .slice none 0 0], .int .i64 (colR (strength k) n i a pa b pb)]) ∧ Fr (fun _ => False) W w') := ⟨fun hc W v1 v2 b1 b2 hf h1 h2 => by
    obtain ⟨A1, c1, rfl, r1⟩ := h1.row (fun _ => False) (fun _ _ h => h)
    obtain ⟨A2, c2, rfl, r2⟩ := h2.row (fun _ => False) (fun _ _ h => h)
    exact CollideRecords_not k n i A c a A1 c1 pa B d b A2 c2 pb W (hL.fr hf (fun _ h => h.elim)) (hX.fr hf) r1 (hY.fr hf) r2 ha hb la0 lb0 hc⟩
  have CY : Kp ((climbR (strength k) n i pa (leafL (strength k) a)).2 = 0 → checkR (strength k) n i pb (climbR (strength k) n i pa (leafL (strength k) a)).1 (leafL (strength k) b) = 0 → a ≠ b → a.length ≤ 1024 → b.length ≤ 1024 →
      ∀ (W : World) (v1 v2 : Value) (b1 b2 : Nat), Fr (fun _ => False) w W → HOwn W b1 v1 pa → HOwn W b2 v2 pb → Calls Tryd.prog 22 #[.int .i64 k, .int .i64 n, .int .i64 i, .slice A a.length c, v1, .slice B b.length d, v2] W fun e w' =>
      ∃ P1 P2 A1 c1 A2 c2, e = .returned (.tuple #[.agg #[.slice A1 P1.length c1, .slice A2 P2.length c2], .int .i64 0]) ∧ (Src w' (fun _ => False) A1 c1 P1 ∧ Src w' (fun _ => False) A2 c2 P2 ∧ Byt P1 ∧ Byt P2 ∧ collP (strength k) P1 P2 ∧ P1.length ≤ 1090 ∧ P2.length ≤ 1090) ∧ Fr (fun _ => False) W w') := ⟨fun hc1 hc2 hab hla hlb W v1 v2 b1 b2 hf h1 h2 => by
    obtain ⟨A1, c1, rfl, r1⟩ := h1.row (fun _ => False) (fun _ _ h => h)
    obtain ⟨A2, c2, rfl, r2⟩ := h2.row (fun _ => False) (fun _ _ h => h)
    have hro : recOk n i := by
      by_cases h : recOk n i
      · exact h
      · rw [climbR_arg h] at hc1; cases hc1
    have hl1 : pa.length = (way i.toNat n.toNat).length := by
      by_cases h : pa.length = (way i.toNat n.toNat).length
      · exact h
      · rw [climbR_len hro h] at hc1; cases hc1
    have hl2 : pb.length = (way i.toNat n.toNat).length := by
      by_cases h : pb.length = (way i.toNat n.toNat).length
      · exact h
      · unfold checkR at hc2
        rw [climbR_len hro h, if_neg (by decide)] at hc2; cases hc2
    have hM : ((top (.giv (leafL (strength k) a)) (way i.toNat n.toNat) pa).sum (nodeL (strength k))) = ((top (.giv (leafL (strength k) b)) (way i.toNat n.toNat) pb).sum (nodeL (strength k))) := by
      unfold checkR at hc2
      rw [climbR_yes hro hl1, climbR_yes hro hl2, if_pos rfl] at hc2
      by_cases h : ((top (.giv (leafL (strength k) b)) (way i.toNat n.toNat) pb).sum (nodeL (strength k))) = ((top (.giv (leafL (strength k) a)) (way i.toNat n.toNat) pa).sum (nodeL (strength k)))
      · exact h.symm
      · rw [if_neg h] at hc2; cases hc2
    have hro2 := hro
    unfold recOk at hro2
    have q := CollideRecords_yes k n.toNat i.toNat (by omega) (by omega) A c a A1 c1 pa B d b A2 c2 pb W (hL.fr hf (fun _ h => h.elim)) (hX.fr hf) r1 (hY.fr hf) r2 ha hb hla hlb hl1 hl2 hM hab
    rw [show ((n.toNat : Nat) : Int) = n by omega, show ((i.toNat : Nat) : Int) = i by omega] at q
    refine q.mono ?_
    rintro e w' ⟨P1, P2, A1, c1, A2, c2, he, s1, s2, hip, hfr⟩
    obtain ⟨y1, y2⟩ := pair_byt _ pa pb a b ha hb hpa hpb hip
    obtain ⟨l1, l2⟩ := pair_len hs _ pa pb a b hP.1 hQ.1 hip
    exact ⟨P1, P2, A1, c1, A2, c2, he, ⟨s1, s2, y1, y2, pair_coll hs _ pa pb a b hP.1 hQ.1 hl1.symm hl2.symm hab hip, by omega, by omega⟩, hfr⟩⟩
  have HLONG : Kp ((1024 < a.length ∨ 1024 < b.length) → colR (strength k) n i a pa b pb = 2) := ⟨fun h => by unfold colR; rw [if_pos h]⟩
  have HNOT : Kp ((climbR (strength k) n i pa (leafL (strength k) a)).2 = 0 → ¬ (checkR (strength k) n i pb (climbR (strength k) n i pa (leafL (strength k) a)).1 (leafL (strength k) b) = 0 ∧ a ≠ b) → colR (strength k) n i a pa b pb ≠ 0) := ⟨fun h1 h2 => by
    unfold colR
    split
    · decide
    · rw [if_neg (by rw [h1]; simp)]
      split
      · assumption
      · rename_i h3 h4
        have h4 : (climbR (strength k) n i pb (leafL (strength k) b)).2 = 0 := by simpa using h4
        split
        · decide
        · rename_i h5
          have h5 := Classical.not_not.1 h5
          by_cases hab : a = b
          · rw [if_pos hab]; decide
          · exact absurd ⟨by unfold checkR; rw [if_pos h4, if_pos h5.symm], hab⟩ h2⟩
  have hcode := climbR_code (s := strength k) (n := n) (i := i) (p := pa) (leaf := leafL (strength k) a)
  have HCA : Kp (∀ W, Fr (fun _ => False) w W → (convert 22 9 (.slice A a.length c)).run Tryd.prog W = .ok (.string (strOfNums a)) W) := ⟨fun W hf => conv_src (hX.fr hf)⟩
  have HCB : Kp (∀ W, Fr (fun _ => False) w W → (convert 22 9 (.slice B b.length d)).run Tryd.prog W = .ok (.string (strOfNums b)) W) := ⟨fun W hf => conv_src (hY.fr hf)⟩
  have h3 := strOf_iff ha hb
  generalize strOfNums a = sA at HCA h3
  generalize strOfNums b = sB at HCB h3
  have HE : Kp ((sA.toList == sB.toList) = decide (a = b)) := ⟨by
    have e : (sA.toList == sB.toList) = decide (sA = sB) := by
      by_cases h : sA = sB
      · subst h; simp
      · rw [decide_eq_false h]
        simp only [ByteArray.toList_eq, beq_eq_false_iff_ne, ne_eq]
        exact fun e => h (ByteArray.ext (Array.toList_inj.1 e))
    rw [e]
    exact decide_eq_decide.2 (iff_of_eq h3)⟩
  have CO : Kp (∀ (W : World) (A1 A2 : Option Addr) (c1 c2 : Nat) (P1 P2 : List Int), Fr (fun _ => False) w W → Src W (fun _ => False) A1 c1 P1 ∧ Src W (fun _ => False) A2 c2 P2 ∧ Byt P1 ∧ Byt P2 ∧ collP (strength k) P1 P2 ∧ P1.length ≤ 1090 ∧ P2.length ≤ 1090 →
      Calls Tryd.prog 21 #[.int .i64 k, .slice A1 P1.length c1, .slice A2 P2.length c2] W fun e w' => e = .returned (.bool true) ∧ Fr (fun _ => False) W w') := ⟨fun W A1 A2 c1 c2 P1 P2 hf h => by
    obtain ⟨s1, s2, y1, y2, hcp, l1, l2⟩ := h
    have q := collides_calls k A1 A2 c1 c2 P1 P2 W (hL.fr hf (fun _ h => h.elim)) s1 s2 y1 y2 (Nat.le_trans l1 (by decide)) (Nat.le_trans l2 (by decide))
    rw [decide_eq_true hcp] at q
    exact q⟩
  have CO2 : Kp (∀ (W : World) (A1 A2 : Option Addr) (c1 c2 : Nat) (P1 P2 : List Int), Fr (fun _ => False) w W → Src W (fun _ => False) A1 c1 P1 ∧ Src W (fun _ => False) A2 c2 P2 ∧ Byt P1 ∧ Byt P2 ∧ collP (strength k) P1 P2 ∧ P1.length ≤ 1090 ∧ P2.length ≤ 1090 →
      Calls Tryd.prog 16 #[.int .i64 k, .agg #[.slice A1 P1.length c1, .slice A2 P2.length c2]] W fun e w' => e = .returned (.bool true) ∧ Fr (fun _ => False) W w') := ⟨fun W A1 A2 c1 c2 P1 P2 hf h => by
    obtain ⟨s1, s2, y1, y2, hcp, l1, l2⟩ := h
    have q := Collides_calls k A1 A2 c1 c2 P1 P2 W (hL.fr hf (fun _ h => h.elim)) s1 s2 y1 y2 (Nat.le_trans l1 (by decide)) (Nat.le_trans l2 (by decide))
    rw [decide_eq_true hcp] at q
    exact q⟩
  have HLA32 := Kp.mk la32
  have HLB32 := Kp.mk lb32
  have HM32 := Kp.mk hM32
  generalize checkR (strength k) n i pb (climbR (strength k) n i pa (leafL (strength k) a)).1 (leafL (strength k) b) = ck at CK2 CY HNOT
  generalize colR (strength k) n i a pa b pb = col at CN HLONG HNOT
  generalize (climbR (strength k) n i pa (leafL (strength k) a)).1 = M at CR CK1 CK2 HM32
  generalize (climbR (strength k) n i pa (leafL (strength k) a)).2 = cc at CR CK1 CY HNOT hcode
  generalize leafL (strength k) a = LA at CLa CR CK1 HLA32
  generalize leafL (strength k) b = LB at CLb CK2 HLB32
  obtain ⟨hab, hhab⟩ : ∃ q, q = decide (a = b) := ⟨_, rfl⟩
  have HAB := Kp.mk hhab
  have HPA := Kp.mk (show pa.length ≤ 4398046511104 by omega)
  obtain ⟨na, hna⟩ : ∃ m, m = a.length := ⟨_, rfl⟩
  obtain ⟨nb, hnb⟩ : ∃ m, m = b.length := ⟨_, rfl⟩
  obtain ⟨qa, hqa⟩ : ∃ m, m = pa.length := ⟨_, rfl⟩
  obtain ⟨qb, hqb⟩ : ∃ m, m = pb.length := ⟨_, rfl⟩
  rw [← hna] at CLa CN CY HLONG HCA hk
  rw [← hnb] at CLb CN CY HLONG HCB hk
  rw [← hqa] at CHa hk
  rw [← hqb] at CHb hk
  have HCODE := Kp.mk hcode
  have HK := Kp.mk hk
  clear la0 lb0 hk hL hX hY hP hQ ha hb hpa hpb lpa lpb la32 lb32 hM32 h3 hna hnb hqa hqb hcode hs hhab
  go_enter Tryd.func5, Tryd.ntmps5
  go_upto_region 1 with (fail)
  obtain ⟨g1, hg1⟩ : ∃ g1, g1 = w.heap.size := ⟨_, rfl⟩
  obtain ⟨W1, hW1⟩ : ∃ W1, W1 = w.alloc (.cells cells.toArray 26) := ⟨_, rfl⟩
  have H1 : Kp (Blk W1 g1 26 cells) := ⟨by rw [hW1, hg1]; exact Blk.new w _ _⟩
  have HF1 : Kp (Fr (fun _ => False) w W1) := ⟨by rw [hW1]; exact (Fr.refl _ w).alloc _⟩
  rw [← hg1, ← hW1]
  clear hW1 hg1
  refine start_ (n := 9) (S := fun w' => Lds w' 3 (.pointer (some ⟨g1, 0, none⟩)) (.int .i64 k) ∧ Lds w' 3 (.pointer (some ⟨g1, 1, none⟩)) (.int .i64 n) ∧ Lds w' 3 (.pointer (some ⟨g1, 3, none⟩)) (.int .i64 i)) (ds := []) #[false, false, false, false, false, false, false, false, false] (by kernel_rfl) rfl rfl ⟨lds_nat (w := W1.drew) (H1.out.drew.cell 0 _ HK.out.1), lds_nat (w := W1.drew) (H1.out.drew.cell 1 _ HK.out.2.1), lds_nat (w := W1.drew) (H1.out.drew.cell 3 _ HK.out.2.2.1)⟩ (fun hHeld => ?_)
  refine pure_ (i := 0) (N := some 21) (v := ?_) (a' := ?_) #[true, false, false, false, false, false, false, false, false] rfl rfl (by kernel_rfl) (fun _ _ _ h => h) (Or.inl ⟨by rfl, ?_⟩) ?_ ?_
  rotate_left
  · intro w'
    go_simp
    with_reducible rfl
  rotate_left
  · simp only [Act.put, List.setIfInBounds_toArray, List.set_cons_zero, List.set_cons_succ]
    rfl
  refine pure_ (i := 2) (N := some 23) (v := ?_) (a' := ?_) #[true, false, true, false, false, false, false, false, false] rfl rfl (by kernel_rfl) (fun _ _ _ h => h) (Or.inl ⟨by rfl, ?_⟩) ?_ ?_
  rotate_left
  · intro w'
    go_simp
    with_reducible rfl
  rotate_left
  · simp only [Act.put, List.setIfInBounds_toArray, List.set_cons_zero, List.set_cons_succ]
    rfl
  refine pure_ (i := 4) (N := some 25) (v := ?_) (a' := ?_) #[true, false, true, false, true, false, false, false, false] rfl rfl (by kernel_rfl) (fun _ _ _ h => h) (Or.inl ⟨by rfl, ?_⟩) ?_ ?_
  rotate_left
  · intro w'
    go_simp
    with_reducible rfl
  rotate_left
  · simp only [Act.put, List.setIfInBounds_toArray, List.set_cons_zero, List.set_cons_succ]
    rfl
  refine take_ (i := 1) (N := some 22) (v := ?_) (a' := ?_) #[true, true, true, false, true, false, false, false, false] rfl rfl (by kernel_rfl) (fun _ _ _ h => h) (Or.inl ⟨by rfl, ?_⟩) hHeld ?_ ?_
  rotate_left
  · rintro w' ⟨s0, s1, s2⟩
    refine Lds.run s0 (x := ?_) ?_ ?_
    · exact (Operand.tmp 21)
    · rfl
    · rfl
  rotate_left
  · simp only [Act.put, List.setIfInBounds_toArray, List.set_cons_zero, List.set_cons_succ]
    rfl
  refine pure_ (i := 6) (N := some 3) (v := ?_) (a' := ?_) #[true, true, true, false, true, false, true, false, false] rfl rfl (by kernel_rfl) (fun _ _ _ h => h) (Or.inl ⟨by rfl, ?_⟩) ?_ ?_
  rotate_left
  · intro w'
    go_simp
    with_reducible rfl
  rotate_left
  · simp only [Act.put, List.setIfInBounds_toArray, List.set_cons_zero, List.set_cons_succ]
    rfl
  refine take_ (i := 3) (N := some 24) (v := ?_) (a' := ?_) #[true, true, true, true, true, false, true, false, false] rfl rfl (by kernel_rfl) (fun _ _ _ h => h) (Or.inl ⟨by rfl, ?_⟩) hHeld ?_ ?_
  rotate_left
  · rintro w' ⟨s0, s1, s2⟩
    refine Lds.run s1 (x := ?_) ?_ ?_
    · exact (Operand.tmp 23)
    · rfl
    · rfl
  rotate_left
  · simp only [Act.put, List.setIfInBounds_toArray, List.set_cons_zero, List.set_cons_succ]
    rfl
  refine pure_ (i := 7) (N := some 4) (v := ?_) (a' := ?_) #[true, true, true, true, true, false, true, true, false] rfl rfl (by kernel_rfl) (fun _ _ _ h => h) (Or.inl ⟨by rfl, ?_⟩) ?_ ?_
  rotate_left
  · intro w'
    go_simp
    with_reducible rfl
  rotate_left
  · simp only [Act.put, List.setIfInBounds_toArray, List.set_cons_zero, List.set_cons_succ]
    rfl
  refine take_ (i := 5) (N := some 26) (v := ?_) (a' := ?_) #[true, true, true, true, true, true, true, true, false] rfl rfl (by kernel_rfl) (fun _ _ _ h => h) (Or.inl ⟨by rfl, ?_⟩) hHeld ?_ ?_
  rotate_left
  · rintro w' ⟨s0, s1, s2⟩
    refine Lds.run s2 (x := ?_) ?_ ?_
    · exact (Operand.tmp 25)
    · rfl
    · rfl
  rotate_left
  · simp only [Act.put, List.setIfInBounds_toArray, List.set_cons_zero, List.set_cons_succ]
    rfl
  refine pure_ (i := 8) (N := some 5) (v := ?_) (a' := ?_) #[true, true, true, true, true, true, true, true, true] rfl rfl (by kernel_rfl) (fun _ _ _ h => h) (Or.inl ⟨by rfl, ?_⟩) ?_ ?_
  rotate_left
  · intro w'
    go_simp
    with_reducible rfl
  rotate_left
  · simp only [Act.put, List.setIfInBounds_toArray, List.set_cons_zero, List.set_cons_succ]
    rfl
  refine done_ (by kernel_rfl) ?_
  have HF2 := Kp.mk (HF1.out.drew)
  have H2 := Kp.mk (H1.out.drew)
  clear hHeld
  go_upto_region 2 with (fail)
  generalize W1.drew = W2 at HF2 H2 ⊢
  refine start_ (n := 6) (S := fun w' => Lds w' 22 (.pointer (some ⟨g1, 4, none⟩)) (.slice A na c) ∧ Lds w' 22 (.pointer (some ⟨g1, 5, none⟩)) (.slice B nb d)) (ds := []) #[false, false, false, false, false, false] (by kernel_rfl) rfl rfl ⟨lds_bytes (w := W2.drew) (H2.out.drew.cell 4 _ HK.out.2.2.2.1), lds_bytes (w := W2.drew) (H2.out.drew.cell 5 _ HK.out.2.2.2.2.1)⟩ (fun hHeld => ?_)
  refine pure_ (i := 0) (N := some 27) (v := ?_) (a' := ?_) #[true, false, false, false, false, false] rfl rfl (by kernel_rfl) (fun _ _ _ h => h) (Or.inl ⟨by rfl, ?_⟩) ?_ ?_
  rotate_left
  · intro w'
    go_simp
    with_reducible rfl
  rotate_left
  · simp only [Act.put, List.setIfInBounds_toArray, List.set_cons_zero, List.set_cons_succ]
    rfl
  refine pure_ (i := 2) (N := some 29) (v := ?_) (a' := ?_) #[true, false, true, false, false, false] rfl rfl (by kernel_rfl) (fun _ _ _ h => h) (Or.inl ⟨by rfl, ?_⟩) ?_ ?_
  rotate_left
  · intro w'
    go_simp
    with_reducible rfl
  rotate_left
  · simp only [Act.put, List.setIfInBounds_toArray, List.set_cons_zero, List.set_cons_succ]
    rfl
  refine take_ (i := 1) (N := some 28) (v := ?_) (a' := ?_) #[true, true, true, false, false, false] rfl rfl (by kernel_rfl) (fun _ _ _ h => h) (Or.inl ⟨by rfl, ?_⟩) hHeld ?_ ?_
  rotate_left
  · rintro w' ⟨s0, s1⟩
    refine Lds.run s0 (x := ?_) ?_ ?_
    · exact (Operand.tmp 27)
    · rfl
    · rfl
  rotate_left
  · simp only [Act.put, List.setIfInBounds_toArray, List.set_cons_zero, List.set_cons_succ]
    rfl
  refine pure_ (i := 4) (N := some 6) (v := ?_) (a' := ?_) #[true, true, true, false, true, false] rfl rfl (by kernel_rfl) (fun _ _ _ h => h) (Or.inl ⟨by rfl, ?_⟩) ?_ ?_
  rotate_left
  · intro w'
    go_simp
    with_reducible rfl
  rotate_left
  · simp only [Act.put, List.setIfInBounds_toArray, List.set_cons_zero, List.set_cons_succ]
    rfl
  refine take_ (i := 3) (N := some 30) (v := ?_) (a' := ?_) #[true, true, true, true, true, false] rfl rfl (by kernel_rfl) (fun _ _ _ h => h) (Or.inl ⟨by rfl, ?_⟩) hHeld ?_ ?_
  rotate_left
  · rintro w' ⟨s0, s1⟩
    refine Lds.run s1 (x := ?_) ?_ ?_
    · exact (Operand.tmp 29)
    · rfl
    · rfl
  rotate_left
  · simp only [Act.put, List.setIfInBounds_toArray, List.set_cons_zero, List.set_cons_succ]
    rfl
  refine pure_ (i := 5) (N := some 7) (v := ?_) (a' := ?_) #[true, true, true, true, true, true] rfl rfl (by kernel_rfl) (fun _ _ _ h => h) (Or.inl ⟨by rfl, ?_⟩) ?_ ?_
  rotate_left
  · intro w'
    go_simp
    with_reducible rfl
  rotate_left
  · simp only [Act.put, List.setIfInBounds_toArray, List.set_cons_zero, List.set_cons_succ]
    rfl
  refine done_ (by kernel_rfl) ?_
  have HF3 := Kp.mk (HF2.out.drew)
  have H3 := Kp.mk (H2.out.drew)
  clear hHeld
  go_upto_region 3 with (fail)
  generalize W2.drew = W3 at HF3 H3 ⊢
  refine start_ (n := 6) (S := fun w' => Lds w' 24 (.pointer (some ⟨g1, 70, none⟩)) (.slice PA qa cA) ∧ Lds w' 24 (.pointer (some ⟨g1, 71, none⟩)) (.slice PB qb cB)) (ds := []) #[false, false, false, false, false, false] (by kernel_rfl) rfl rfl ⟨lds_rws (w := W3.drew) (H3.out.drew.cell 70 _ HK.out.2.2.2.2.2.1), lds_rws (w := W3.drew) (H3.out.drew.cell 71 _ HK.out.2.2.2.2.2.2)⟩ (fun hHeld => ?_)
  refine pure_ (i := 0) (N := some 31) (v := ?_) (a' := ?_) #[true, false, false, false, false, false] rfl rfl (by kernel_rfl) (fun _ _ _ h => h) (Or.inl ⟨by rfl, ?_⟩) ?_ ?_
  rotate_left
  · intro w'
    go_simp
    with_reducible rfl
  rotate_left
  · simp only [Act.put, List.setIfInBounds_toArray, List.set_cons_zero, List.set_cons_succ]
    rfl
  refine pure_ (i := 2) (N := some 33) (v := ?_) (a' := ?_) #[true, false, true, false, false, false] rfl rfl (by kernel_rfl) (fun _ _ _ h => h) (Or.inl ⟨by rfl, ?_⟩) ?_ ?_
  rotate_left
  · intro w'
    go_simp
    with_reducible rfl
  rotate_left
  · simp only [Act.put, List.setIfInBounds_toArray, List.set_cons_zero, List.set_cons_succ]
    rfl
  refine take_ (i := 1) (N := some 32) (v := ?_) (a' := ?_) #[true, true, true, false, false, false] rfl rfl (by kernel_rfl) (fun _ _ _ h => h) (Or.inl ⟨by rfl, ?_⟩) hHeld ?_ ?_
  rotate_left
  · rintro w' ⟨s0, s1⟩
    refine Lds.run s0 (x := ?_) ?_ ?_
    · exact (Operand.tmp 31)
    · rfl
    · rfl
  rotate_left
  · simp only [Act.put, List.setIfInBounds_toArray, List.set_cons_zero, List.set_cons_succ]
    rfl
  refine pure_ (i := 4) (N := some 8) (v := ?_) (a' := ?_) #[true, true, true, false, true, false] rfl rfl (by kernel_rfl) (fun _ _ _ h => h) (Or.inl ⟨by rfl, ?_⟩) ?_ ?_
  rotate_left
  · intro w'
    go_simp
    with_reducible rfl
  rotate_left
  · simp only [Act.put, List.setIfInBounds_toArray, List.set_cons_zero, List.set_cons_succ]
    rfl
  refine take_ (i := 3) (N := some 34) (v := ?_) (a' := ?_) #[true, true, true, true, true, false] rfl rfl (by kernel_rfl) (fun _ _ _ h => h) (Or.inl ⟨by rfl, ?_⟩) hHeld ?_ ?_
  rotate_left
  · rintro w' ⟨s0, s1⟩
    refine Lds.run s1 (x := ?_) ?_ ?_
    · exact (Operand.tmp 33)
    · rfl
    · rfl
  rotate_left
  · simp only [Act.put, List.setIfInBounds_toArray, List.set_cons_zero, List.set_cons_succ]
    rfl
  refine pure_ (i := 5) (N := some 9) (v := ?_) (a' := ?_) #[true, true, true, true, true, true] rfl rfl (by kernel_rfl) (fun _ _ _ h => h) (Or.inl ⟨by rfl, ?_⟩) ?_ ?_
  rotate_left
  · intro w'
    go_simp
    with_reducible rfl
  rotate_left
  · simp only [Act.put, List.setIfInBounds_toArray, List.set_cons_zero, List.set_cons_succ]
    rfl
  refine done_ (by kernel_rfl) ?_
  have HF4 := Kp.mk (HF3.out.drew)
  clear hHeld H1 H2 H3 HF1 HF2 HF3
  go_upto_region 4 with (fail)
  generalize W3.drew = W4 at HF4 ⊢
  go_wp2_with (fail)
  have hfa : Fr (fun _ => False) W4 ((W4.alloc (.cells #[.int .u8 1] 5)).alloc (.cells #[.int .u8 1] 5)) := ((Fr.refl _ W4).alloc _).alloc _
  have hs1 : Src ((W4.alloc (.cells #[.int .u8 1] 5)).alloc (.cells #[.int .u8 1] 5)) (fun _ => False) (some ⟨W4.heap.size, 0, none⟩) 1 [1] := (src_new W4 [1] 5 1 (Nat.le_refl _)).fr ((Fr.refl _ _).alloc _)
  have hs2 : Src ((W4.alloc (.cells #[.int .u8 1] 5)).alloc (.cells #[.int .u8 1] 5)) (fun _ => False) (some ⟨W4.heap.size + 1, 0, none⟩) 1 [1] := by
    have h := src_new (W4.alloc (.cells #[.int .u8 1] 5)) [1] 5 1 (Nat.le_refl _)
    rw [show (W4.alloc (.cells #[.int .u8 1] 5)).heap.size = W4.heap.size + 1 by simp] at h
    exact h
  have HF5 := Kp.mk (HF4.out.trans hfa (fun _ _ h => h))
  refine (own_calls k _ (HL.out.fr HF5.out (fun _ h => h.elim)) _ _ hs1 hs2).mono ?_
  rintro e W6 ⟨rfl, hf⟩
  have HF6 := Kp.mk (HF5.out.trans hf (fun _ _ h => h))
  clear hfa hs1 hs2 hf HF5 HF4
  go_upto_region 5 with (fail)
  obtain ⟨g10, hg10⟩ : ∃ g, g = W6.heap.size := ⟨_, rfl⟩
  obtain ⟨W7, hW7⟩ : ∃ W, W = W6.alloc (.cells #[.slice none 0 0, .slice none 0 0] 36) := ⟨_, rfl⟩
  have H10 : Kp (Blk W7 g10 36 [.slice none 0 0, .slice none 0 0]) := ⟨by rw [hW7, hg10]; exact Blk.new W6 _ _⟩
  have HF7 : Kp (Fr (fun _ => False) w W7) := ⟨by rw [hW7]; exact HF6.out.alloc _⟩
  rw [← hg10, ← hW7]
  have c100 : W7.cell? ⟨g10, 0, none⟩ = some (.slice none 0 0) := H10.out.cell 0 _ rfl
  have c101 : W7.cell? ⟨g10, 1, none⟩ = some (.slice none 0 0) := H10.out.cell 1 _ rfl
  clear hW7 hg10 HF6
  go_upto_region 7 with (fail)
  by_cases hl1 : 1024 < na
  · have hd1 : decide ((1024 : Int) < (na : Int)) = true := decide_eq_true (by omega)
    have hcol : col = 2 := HLONG.out (.inl hl1)
    subst hcol
    go_upto_region 8 with (fail)
    go_wp2_with (fail)
    refine (CHa.out W7 HF7.out).mono ?_
    rintro e W7x ⟨v1, rfl, ho1, hf⟩
    have HF7x := Kp.mk (HF7.out.trans hf (fun _ _ h => h))
    have HO1 := Kp.mk ho1
    clear hf ho1
    go_wp2_with (fail)
    refine (CHb.out W7x HF7x.out).mono ?_
    rintro e W7y ⟨v2, rfl, ho2, hf⟩
    have HF7y := Kp.mk (HF7x.out.trans hf (fun _ _ h => h))
    have HO1y := Kp.mk (HO1.out.keep hf (fun _ _ h => h))
    have HO2 := Kp.mk ho2
    clear hf ho2 HO1
    go_wp2_with (fail)
    refine (CN.out (by decide) W7y v1 v2 _ _ HF7y.out HO1y.out HO2.out).mono ?_
    rintro e W7z ⟨rfl, hf⟩
    have HF7z := Kp.mk (HF7y.out.trans hf (fun _ _ h => h))
    clear hf HO1y HO2
    go_upto_region 9 with (fail)
    obtain ⟨g12, hgn⟩ : ∃ g, g = W7z.heap.size := ⟨_, rfl⟩
    obtain ⟨W11, hW⟩ : ∃ W, W = W7z.alloc (.cells #[.slice none 0 0, .slice none 0 0] 36) := ⟨_, rfl⟩
    have hbk : Blk W11 g12 36 [.slice none 0 0, .slice none 0 0] := by rw [hW, hgn]; exact Blk.new W7z _ _
    have HF11 : Kp (Fr (fun _ => False) w W11) := ⟨by rw [hW]; exact HF7z.out.alloc _⟩
    rw [← hgn, ← hW]
    have cn0 : W11.cell? ⟨g12, 0, none⟩ = some (.slice none 0 0) := hbk.cell 0 _ rfl
    have cn1 : W11.cell? ⟨g12, 1, none⟩ = some (.slice none 0 0) := hbk.cell 1 _ rfl
    clear hgn hW hbk
    go_wp2_with (fail)
    go_ret
    exact ⟨rfl, HF11.out⟩
  · by_cases hl2 : 1024 < nb
    · have hd1 : decide ((1024 : Int) < (na : Int)) = false := decide_eq_false (by omega)
      have hd2 : decide ((1024 : Int) < (nb : Int)) = true := decide_eq_true (by omega)
      have hcol : col = 2 := HLONG.out (.inr hl2)
      subst hcol
      go_upto_region 8 with (fail)
      go_wp2_with (fail)
      refine (CHa.out W7 HF7.out).mono ?_
      rintro e W7x ⟨v1, rfl, ho1, hf⟩
      have HF7x := Kp.mk (HF7.out.trans hf (fun _ _ h => h))
      have HO1 := Kp.mk ho1
      clear hf ho1
      go_wp2_with (fail)
      refine (CHb.out W7x HF7x.out).mono ?_
      rintro e W7y ⟨v2, rfl, ho2, hf⟩
      have HF7y := Kp.mk (HF7x.out.trans hf (fun _ _ h => h))
      have HO1y := Kp.mk (HO1.out.keep hf (fun _ _ h => h))
      have HO2 := Kp.mk ho2
      clear hf ho2 HO1
      go_wp2_with (fail)
      refine (CN.out (by decide) W7y v1 v2 _ _ HF7y.out HO1y.out HO2.out).mono ?_
      rintro e W7z ⟨rfl, hf⟩
      have HF7z := Kp.mk (HF7y.out.trans hf (fun _ _ h => h))
      clear hf HO1y HO2
      go_upto_region 9 with (fail)
      obtain ⟨g12, hgn⟩ : ∃ g, g = W7z.heap.size := ⟨_, rfl⟩
      obtain ⟨W11, hW⟩ : ∃ W, W = W7z.alloc (.cells #[.slice none 0 0, .slice none 0 0] 36) := ⟨_, rfl⟩
      have hbk : Blk W11 g12 36 [.slice none 0 0, .slice none 0 0] := by rw [hW, hgn]; exact Blk.new W7z _ _
      have HF11 : Kp (Fr (fun _ => False) w W11) := ⟨by rw [hW]; exact HF7z.out.alloc _⟩
      rw [← hgn, ← hW]
      have cn0 : W11.cell? ⟨g12, 0, none⟩ = some (.slice none 0 0) := hbk.cell 0 _ rfl
      have cn1 : W11.cell? ⟨g12, 1, none⟩ = some (.slice none 0 0) := hbk.cell 1 _ rfl
      clear hgn hW hbk
      go_wp2_with (fail)
      go_ret
      exact ⟨rfl, HF11.out⟩
    · skip
      have hna : na ≤ 1024 := by omega
      have hnb : nb ≤ 1024 := by omega
      have hd1 : decide ((1024 : Int) < (na : Int)) = false := decide_eq_false (by omega)
      have hd2 : decide ((1024 : Int) < (nb : Int)) = false := decide_eq_false (by omega)
      go_upto_region 10 with (fail)
      go_wp2_with (fail)
      refine (CLa.out hna W7 HF7.out).mono ?_
      rintro e W8 ⟨rfl, hf⟩
      have HF8 := Kp.mk (HF7.out.trans hf (fun _ _ h => h))
      clear hf
      have HNEW : Kp (Blk (W8.alloc (.cells #[.int .u8 0, .int .u8 0, .int .u8 0, .int .u8 0, .int .u8 0, .int .u8 0, .int .u8 0, .int .u8 0, .int .u8 0, .int .u8 0, .int .u8 0, .int .u8 0, .int .u8 0, .int .u8 0, .int .u8 0, .int .u8 0, .int .u8 0, .int .u8 0, .int .u8 0, .int .u8 0, .int .u8 0, .int .u8 0, .int .u8 0, .int .u8 0, .int .u8 0, .int .u8 0, .int .u8 0, .int .u8 0, .int .u8 0, .int .u8 0, .int .u8 0, .int .u8 0] 29)) W8.heap.size 29 [.int .u8 0, .int .u8 0, .int .u8 0, .int .u8 0, .int .u8 0, .int .u8 0, .int .u8 0, .int .u8 0, .int .u8 0, .int .u8 0, .int .u8 0, .int .u8 0, .int .u8 0, .int .u8 0, .int .u8 0, .int .u8 0, .int .u8 0, .int .u8 0, .int .u8 0, .int .u8 0, .int .u8 0, .int .u8 0, .int .u8 0, .int .u8 0, .int .u8 0, .int .u8 0, .int .u8 0, .int .u8 0, .int .u8 0, .int .u8 0, .int .u8 0, .int .u8 0]) := ⟨Blk.new W8 _ _⟩
      go_upto_region 11 with (refine wpList_storeH rfl rfl (Operand.tmp 14) (Operand.tmp 93) rfl W8.heap.size _ _ LA rfl rfl HNEW.out rfl HLA32.out ?_)
      obtain ⟨g14, hg⟩ : ∃ g, g = W8.heap.size := ⟨_, rfl⟩
      obtain ⟨W9, hW⟩ : ∃ W, W = (W8.alloc (.cells #[.int .u8 0, .int .u8 0, .int .u8 0, .int .u8 0, .int .u8 0, .int .u8 0, .int .u8 0, .int .u8 0, .int .u8 0, .int .u8 0, .int .u8 0, .int .u8 0, .int .u8 0, .int .u8 0, .int .u8 0, .int .u8 0, .int .u8 0, .int .u8 0, .int .u8 0, .int .u8 0, .int .u8 0, .int .u8 0, .int .u8 0, .int .u8 0, .int .u8 0, .int .u8 0, .int .u8 0, .int .u8 0, .int .u8 0, .int .u8 0, .int .u8 0, .int .u8 0] 29)).setRow W8.heap.size (bytes LA).toArray := ⟨_, rfl⟩
      have hfr := fr_row (Fr.refl (fun _ => False) W8) (.cells #[.int .u8 0, .int .u8 0, .int .u8 0, .int .u8 0, .int .u8 0, .int .u8 0, .int .u8 0, .int .u8 0, .int .u8 0, .int .u8 0, .int .u8 0, .int .u8 0, .int .u8 0, .int .u8 0, .int .u8 0, .int .u8 0, .int .u8 0, .int .u8 0, .int .u8 0, .int .u8 0, .int .u8 0, .int .u8 0, .int .u8 0, .int .u8 0, .int .u8 0, .int .u8 0, .int .u8 0, .int .u8 0, .int .u8 0, .int .u8 0, .int .u8 0, .int .u8 0] 29) (bytes LA).toArray
      rw [← hW] at hfr
      have Hg14 : Kp (Blk W9 g14 29 (bytes LA)) := ⟨by rw [hW, hg]; exact blk_row W8 _ _ _⟩
      have HF9 := Kp.mk (HF8.out.trans hfr (fun _ _ h => h))
      rw [← hW, ← hg]
      clear hg hW hfr HNEW
      go_wp2_with (fail)
      refine (CLb.out hnb W9 HF9.out).mono ?_
      rintro e W9b ⟨rfl, hf⟩
      have HF9b := Kp.mk (HF9.out.trans hf (fun _ _ h => h))
      have H14b := Kp.mk (Hg14.out.fr hf (fun h => h))
      clear hf Hg14
      have HNEW : Kp (Blk (W9b.alloc (.cells #[.int .u8 0, .int .u8 0, .int .u8 0, .int .u8 0, .int .u8 0, .int .u8 0, .int .u8 0, .int .u8 0, .int .u8 0, .int .u8 0, .int .u8 0, .int .u8 0, .int .u8 0, .int .u8 0, .int .u8 0, .int .u8 0, .int .u8 0, .int .u8 0, .int .u8 0, .int .u8 0, .int .u8 0, .int .u8 0, .int .u8 0, .int .u8 0, .int .u8 0, .int .u8 0, .int .u8 0, .int .u8 0, .int .u8 0, .int .u8 0, .int .u8 0, .int .u8 0] 29)) W9b.heap.size 29 [.int .u8 0, .int .u8 0, .int .u8 0, .int .u8 0, .int .u8 0, .int .u8 0, .int .u8 0, .int .u8 0, .int .u8 0, .int .u8 0, .int .u8 0, .int .u8 0, .int .u8 0, .int .u8 0, .int .u8 0, .int .u8 0, .int .u8 0, .int .u8 0, .int .u8 0, .int .u8 0, .int .u8 0, .int .u8 0, .int .u8 0, .int .u8 0, .int .u8 0, .int .u8 0, .int .u8 0, .int .u8 0, .int .u8 0, .int .u8 0, .int .u8 0, .int .u8 0]) := ⟨Blk.new W9b _ _⟩
      go_upto_region 12 with (refine wpList_storeH rfl rfl (Operand.tmp 15) (Operand.tmp 96) rfl W9b.heap.size _ _ LB rfl rfl HNEW.out rfl HLB32.out ?_)
      obtain ⟨g15, hg⟩ : ∃ g, g = W9b.heap.size := ⟨_, rfl⟩
      obtain ⟨W10, hW⟩ : ∃ W, W = (W9b.alloc (.cells #[.int .u8 0, .int .u8 0, .int .u8 0, .int .u8 0, .int .u8 0, .int .u8 0, .int .u8 0, .int .u8 0, .int .u8 0, .int .u8 0, .int .u8 0, .int .u8 0, .int .u8 0, .int .u8 0, .int .u8 0, .int .u8 0, .int .u8 0, .int .u8 0, .int .u8 0, .int .u8 0, .int .u8 0, .int .u8 0, .int .u8 0, .int .u8 0, .int .u8 0, .int .u8 0, .int .u8 0, .int .u8 0, .int .u8 0, .int .u8 0, .int .u8 0, .int .u8 0] 29)).setRow W9b.heap.size (bytes LB).toArray := ⟨_, rfl⟩
      have hfr := fr_row (Fr.refl (fun _ => False) W9b) (.cells #[.int .u8 0, .int .u8 0, .int .u8 0, .int .u8 0, .int .u8 0, .int .u8 0, .int .u8 0, .int .u8 0, .int .u8 0, .int .u8 0, .int .u8 0, .int .u8 0, .int .u8 0, .int .u8 0, .int .u8 0, .int .u8 0, .int .u8 0, .int .u8 0, .int .u8 0, .int .u8 0, .int .u8 0, .int .u8 0, .int .u8 0, .int .u8 0, .int .u8 0, .int .u8 0, .int .u8 0, .int .u8 0, .int .u8 0, .int .u8 0, .int .u8 0, .int .u8 0] 29) (bytes LB).toArray
      rw [← hW] at hfr
      have Hg15 : Kp (Blk W10 g15 29 (bytes LB)) := ⟨by rw [hW, hg]; exact blk_row W9b _ _ _⟩
      have HF10 := Kp.mk (HF9b.out.trans hfr (fun _ _ h => h))
      have H14 := Kp.mk (H14b.out.fr hfr (fun h => h))
      rw [← hW, ← hg]
      clear hg hW hfr HNEW
      clear H14b
      have LD14 : Kp (∀ W, Fr (fun _ => False) W10 W → Lds W 29 (.pointer (some ⟨g14, 0, none⟩)) (.agg (bytes LA).toArray)) := ⟨fun W hf => lds_hsh (H14.out.fr hf (fun h => h)) HLA32.out⟩
      have CHX : Kp (∀ W, Fr (fun _ => False) W10 W → Calls Tryd.prog 18 #[.slice PA qa cA] W fun e w' => ∃ v, e = .returned v ∧ HOwn w' W10.heap.size v pa ∧ Fr (fun _ => False) W w') :=
        ⟨fun W hf => (CHa.out W (HF10.out.trans hf (fun _ _ h => h))).mono fun e w' h => by
          obtain ⟨v, he, ho, hfr⟩ := h
          exact ⟨v, he, ho.low hf.size, hfr⟩⟩
      refine start_ (n := 13) (S := fun w' => Fr (fun _ => False) W10 w') (ds := []) #[false, false, false, false, false, false, false, false, false, false, false, false, false] (by kernel_rfl) rfl rfl ((Fr.refl (fun _ => False) W10).drew) (fun hHeld => ?_)
      refine pure_ (i := 0) (N := some 98) (v := ?_) (a' := ?_) #[true, false, false, false, false, false, false, false, false, false, false, false, false] rfl rfl (by kernel_rfl) (fun _ _ _ h => h) (Or.inl ⟨by rfl, ?_⟩) ?_ ?_
      rotate_left
      · intro w'
        go_simp
        with_reducible rfl
      rotate_left
      · simp only [Act.put, List.setIfInBounds_toArray, List.set_cons_zero, List.set_cons_succ]
        rfl
      refine pure_ (i := 1) (N := some 99) (v := ?_) (a' := ?_) #[true, true, false, false, false, false, false, false, false, false, false, false, false] rfl rfl (by kernel_rfl) (fun _ _ _ h => h) (Or.inl ⟨by rfl, ?_⟩) ?_ ?_
      rotate_left
      · intro w'
        go_simp
        with_reducible rfl
      rotate_left
      · simp only [Act.put, List.setIfInBounds_toArray, List.set_cons_zero, List.set_cons_succ]
        rfl
      refine pure_ (i := 3) (N := some 101) (v := ?_) (a' := ?_) #[true, true, false, true, false, false, false, false, false, false, false, false, false] rfl rfl (by kernel_rfl) (fun _ _ _ h => h) (Or.inl ⟨by rfl, ?_⟩) ?_ ?_
      rotate_left
      · intro w'
        go_simp
        with_reducible rfl
      rotate_left
      · simp only [Act.put, List.setIfInBounds_toArray, List.set_cons_zero, List.set_cons_succ]
        rfl
      refine pure_ (i := 4) (N := some 102) (v := ?_) (a' := ?_) #[true, true, false, true, true, false, false, false, false, false, false, false, false] rfl rfl (by kernel_rfl) (fun _ _ _ h => h) (Or.inl ⟨by rfl, ?_⟩) ?_ ?_
      rotate_left
      · intro w'
        go_simp
        with_reducible rfl
      rotate_left
      · simp only [Act.put, List.setIfInBounds_toArray, List.set_cons_zero, List.set_cons_succ]
        rfl
      refine take_ (i := 5) (N := some 103) (v := ?_) (a' := ?_) #[true, true, false, true, true, true, false, false, false, false, false, false, false] rfl rfl (by kernel_rfl) (fun _ _ _ h => h) (Or.inl ⟨by rfl, ?_⟩) hHeld ?_ ?_
      rotate_left
      · intro w' s0
        refine Lds.run (LD14.out w' s0) (x := ?_) ?_ ?_
        · exact (Operand.tmp 14)
        · rfl
        · rfl
      rotate_left
      · simp only [Act.put, List.setIfInBounds_toArray, List.set_cons_zero, List.set_cons_succ]
        rfl
      refine join_ (σ := Nat × Value) 0 #[true, true, true, true, true, true, true, true, true, true, true, true, true] (fun (s : Nat × Value) => match s with | (g16, vh) => show List (Tmp × Value) from [(98, .int .i64 k), (99, .slice PA qa cA), (100, vh), (101, .int .i64 n), (102, .int .i64 i), (103, .agg (bytes LA).toArray), (104, .tuple #[.agg (bytes M).toArray, .int .i64 cc]), (97, .tuple #[.agg (bytes M).toArray, .int .i64 cc]), (105, .agg (bytes M).toArray), (106, .int .i64 cc), (16, .pointer (some ⟨g16, 0, none⟩)), (17, .int .i64 cc)]) (fun (s : Nat × Value) w' => match s with | (g16, vh) => Fr (fun _ => False) W10 w' ∧ Blk w' g16 29 (bytes M) ∧ W10.heap.size ≤ g16) ?_ ?_
      rotate_left
      intro hD0
      refine join_ (σ := Nat × Value) 2 #[true, true, true, true, true, true, true, true, true, true, true, false, false] (fun (s : Nat × Value) => match s with | (g16, vh) => show List (Tmp × Value) from [(98, .int .i64 k), (99, .slice PA qa cA), (100, vh), (101, .int .i64 n), (102, .int .i64 i), (103, .agg (bytes LA).toArray), (104, .tuple #[.agg (bytes M).toArray, .int .i64 cc]), (97, .tuple #[.agg (bytes M).toArray, .int .i64 cc]), (105, .agg (bytes M).toArray), (106, .int .i64 cc), (16, .pointer (some ⟨g16, 0, none⟩))]) (fun (s : Nat × Value) w' => match s with | (g16, vh) => Fr (fun _ => False) W10 w' ∧ Blk w' g16 29 (bytes zr32) ∧ W10.heap.size ≤ g16) ?_ ?_
      rotate_left
      intro hD1
      refine join_ (σ := Value) 3 #[true, true, true, true, true, true, true, true, true, true, false, false, false] (fun (vh : Value) => show List (Tmp × Value) from [(98, .int .i64 k), (99, .slice PA qa cA), (100, vh), (101, .int .i64 n), (102, .int .i64 i), (103, .agg (bytes LA).toArray), (104, .tuple #[.agg (bytes M).toArray, .int .i64 cc]), (97, .tuple #[.agg (bytes M).toArray, .int .i64 cc]), (105, .agg (bytes M).toArray), (106, .int .i64 cc)]) (fun (vh : Value) w' => Fr (fun _ => False) W10 w') ?_ ?_
      rotate_left
      intro hD2
      refine join_ (σ := Nat × Value) 6 #[true, true, true, true, true, true, false, false, false, false, true, false, false] (fun (s : Nat × Value) => match s with | (g16, vh) => show List (Tmp × Value) from [(98, .int .i64 k), (99, .slice PA qa cA), (100, vh), (101, .int .i64 n), (102, .int .i64 i), (103, .agg (bytes LA).toArray), (16, .pointer (some ⟨g16, 0, none⟩))]) (fun (s : Nat × Value) w' => match s with | (g16, vh) => Fr (fun _ => False) W10 w' ∧ Blk w' g16 29 (bytes zr32) ∧ W10.heap.size ≤ g16 ∧ HOwn w' W10.heap.size vh pa) ?_ ?_
      rotate_left
      intro hD3
      refine join_ (σ := Value) 7 #[true, true, true, true, true, true, false, false, false, false, false, false, false] (fun (vh : Value) => show List (Tmp × Value) from [(98, .int .i64 k), (99, .slice PA qa cA), (100, vh), (101, .int .i64 n), (102, .int .i64 i), (103, .agg (bytes LA).toArray)]) (fun (vh : Value) w' => Fr (fun _ => False) W10 w' ∧ HOwn w' W10.heap.size vh pa) ?_ ?_
      rotate_left
      intro hD4
      refine join_ (σ := Nat) 7 #[true, true, false, true, true, true, false, false, false, false, true, false, false] (fun (g16 : Nat) => show List (Tmp × Value) from [(98, .int .i64 k), (99, .slice PA qa cA), (101, .int .i64 n), (102, .int .i64 i), (103, .agg (bytes LA).toArray), (16, .pointer (some ⟨g16, 0, none⟩))]) (fun (g16 : Nat) w' => Fr (fun _ => False) W10 w' ∧ Blk w' g16 29 (bytes zr32) ∧ W10.heap.size ≤ g16) ?_ ?_
      rotate_left
      intro hD5
      · skip
        refine two_ (i := 2) (j := 10) (Ni := some 100) (Nj := some 16) #[true, true, true, true, true, true, false, false, false, false, false, false, false] #[true, true, false, true, true, true, false, false, false, false, true, false, false] rfl rfl rfl rfl (by kernel_rfl) (by decide) (by decide) (fun K hK => ?_) (fun K hK => ?_)
        · skip
          refine goes_ Tryd.func18 (by kernel_rfl) rfl #[.slice PA qa cA] (by rfl) rfl rfl (by simp only [List.map_toArray, List.map_cons, List.map_nil]; rfl) ?_
          with_reducible refine (CHX.out _ hHeld).mono ?_
          rintro e wy ⟨vh, rfl, Xyvh, hq⟩
          refine ⟨_, rfl, ?_⟩
          have Fy : Fr (fun _ => False) W10 wy := hHeld.trans hq (fun _ _ h => h)
          refine hK.out _ _ Fy (fun _ => ?_)
          clear hK K
          refine norm_ (a' := ?_) ?_ ?_
          rotate_left
          · show Act.put _ (some 100) _ = _
            simp only [Act.put, List.setIfInBounds_toArray, List.set_cons_zero, List.set_cons_succ]
            rfl
          refine norm_ ?_ (hD4 vh _ ⟨Fy, Xyvh⟩)
          simp only [putAll, Act.put, List.setIfInBounds_toArray, List.set_cons_zero, List.set_cons_succ]
        · skip
          refine value_ (by rfl) rfl (al_hash _ _ _ rfl) ?_
          have hal : Fr (fun _ => False) W10.drew (W10.drew.alloc (.cells (bytes zr32).toArray 29)) := (Fr.refl _ W10.drew).alloc _
          have Fy : Fr (fun _ => False) W10 (W10.drew.alloc (.cells (bytes zr32).toArray 29)) := hHeld.trans hal (fun _ _ h => h)
          have Byg16 : Blk (W10.drew.alloc (.cells (bytes zr32).toArray 29)) W10.drew.heap.size 29 (bytes zr32) := Blk.new W10.drew _ _
          have Gyg16 : W10.heap.size ≤ W10.drew.heap.size := hHeld.size
          refine hK.out _ _ Fy (fun _ => ?_)
          clear hK K
          refine norm_ (a' := ?_) ?_ ?_
          rotate_left
          · show Act.put _ (some 16) _ = _
            simp only [Act.put, List.setIfInBounds_toArray, List.set_cons_zero, List.set_cons_succ]
            rfl
          refine norm_ ?_ (hD5 W10.drew.heap.size _ ⟨Fy, Byg16, Gyg16⟩)
          simp only [putAll, Act.put, List.setIfInBounds_toArray, List.set_cons_zero, List.set_cons_succ]
      rotate_left
      · skip
        rintro ⟨g16, vh⟩ wx ⟨Fx, Bg16, Gg16⟩
        refine norm_ (a' := ?_) ?_ ?_
        rotate_left
        · simp only [putAll, Act.put, List.setIfInBounds_toArray, List.set_cons_zero, List.set_cons_succ]
          rfl
        refine one_ (i := 11) (N := none) #[true, true, true, true, true, true, true, true, true, true, true, true, false] rfl rfl (by kernel_rfl) (by decide) (fun K hK => ?_)
        refine skip_ (by rfl) rfl (st_hash _ _ (Operand.tmp 16) (Operand.tmp 105) wx g16 _ _ M rfl rfl rfl Bg16 rfl HM32.out) ?_
        have hst : Fr (fun q => q = g16) wx (wx.setRow g16 (bytes M).toArray) := ⟨rfl, rfl, rfl, by simp [World.setRow], fun q _ hq => setRow_other _ _ q _ hq⟩
        have Fy : Fr (fun _ => False) W10 (wx.setRow g16 (bytes M).toArray) := Fx.trans (S := fun _ => False) hst (fun q hq e => by have := Gg16; omega)
        have Byg16 : Blk (wx.setRow g16 (bytes M).toArray) g16 29 (bytes M) := setRow_heap _ g16 _ _ _ _ Bg16
        refine hK.out _ _ Fy (fun _ => ?_)
        clear hK K
        refine pure_ (i := 12) (N := some 17) (v := ?_) (a' := ?_) #[true, true, true, true, true, true, true, true, true, true, true, true, true] rfl rfl (by kernel_rfl) (fun _ _ _ h => h) (Or.inl ⟨by rfl, ?_⟩) ?_ ?_
        rotate_left
        · intro w'
          go_simp
          with_reducible rfl
        rotate_left
        · simp only [Act.put, List.setIfInBounds_toArray, List.set_cons_zero, List.set_cons_succ]
          rfl
        refine norm_ ?_ (hD0 (g16, vh) _ ⟨Fy, Byg16, Gg16⟩)
        simp only [putAll, Act.put, List.setIfInBounds_toArray, List.set_cons_zero, List.set_cons_succ]
      · skip
        rintro vh wx Fx
        refine norm_ (a' := ?_) ?_ ?_
        rotate_left
        · simp only [putAll, Act.put, List.setIfInBounds_toArray, List.set_cons_zero, List.set_cons_succ]
          rfl
        refine one_ (i := 10) (N := some 16) #[true, true, true, true, true, true, true, true, true, true, true, false, false] rfl rfl (by kernel_rfl) (by decide) (fun K hK => ?_)
        refine value_ (by rfl) rfl (al_hash _ _ _ rfl) ?_
        have hal : Fr (fun _ => False) wx (wx.alloc (.cells (bytes zr32).toArray 29)) := (Fr.refl _ wx).alloc _
        have Fy : Fr (fun _ => False) W10 (wx.alloc (.cells (bytes zr32).toArray 29)) := Fx.trans hal (fun _ _ h => h)
        have Byg16 : Blk (wx.alloc (.cells (bytes zr32).toArray 29)) wx.heap.size 29 (bytes zr32) := Blk.new wx _ _
        have Gyg16 : W10.heap.size ≤ wx.heap.size := Fx.size
        refine hK.out _ _ Fy (fun _ => ?_)
        clear hK K
        refine norm_ (a' := ?_) ?_ ?_
        rotate_left
        · show Act.put _ (some 16) _ = _
          simp only [Act.put, List.setIfInBounds_toArray, List.set_cons_zero, List.set_cons_succ]
          rfl
        refine norm_ ?_ (hD1 (wx.heap.size, vh) _ ⟨Fy, Byg16, Gyg16⟩)
        simp only [putAll, Act.put, List.setIfInBounds_toArray, List.set_cons_zero, List.set_cons_succ]
      · skip
        rintro ⟨g16, vh⟩ wx ⟨Fx, Bg16, Gg16, Xvh⟩
        refine norm_ (a' := ?_) ?_ ?_
        rotate_left
        · simp only [putAll, Act.put, List.setIfInBounds_toArray, List.set_cons_zero, List.set_cons_succ]
          rfl
        refine one_ (i := 6) (N := some 104) #[true, true, true, true, true, true, true, false, false, false, true, false, false] rfl rfl (by kernel_rfl) (by decide) (fun K hK => ?_)
        refine goes_ Tryd.func23 (by kernel_rfl) rfl #[.int .i64 k, vh, .int .i64 n, .int .i64 i, .agg (bytes LA).toArray] (by rfl) rfl rfl (by simp only [List.map_toArray, List.map_cons, List.map_nil]; rfl) ?_
        with_reducible refine (CR.out _ vh _ (HF10.out.trans Fx (fun _ _ h => h)) Xvh).mono ?_
        rintro e wy ⟨rfl, hq⟩
        refine ⟨_, rfl, ?_⟩
        have Fy : Fr (fun _ => False) W10 wy := Fx.trans hq (fun _ _ h => h)
        have Byg16 := Bg16.fr hq (fun h => h)
        refine hK.out _ _ Fy (fun _ => ?_)
        clear hK K
        refine norm_ (a' := ?_) ?_ ?_
        rotate_left
        · show Act.put _ (some 104) _ = _
          simp only [Act.put, List.setIfInBounds_toArray, List.set_cons_zero, List.set_cons_succ]
          rfl
        refine pure_ (i := 7) (N := some 97) (v := ?_) (a' := ?_) #[true, true, true, true, true, true, true, true, false, false, true, false, false] rfl rfl (by kernel_rfl) (fun _ _ _ h => h) (Or.inl ⟨by rfl, ?_⟩) ?_ ?_
        rotate_left
        · intro w'
          go_simp
          with_reducible rfl
        rotate_left
        · simp only [Act.put, List.setIfInBounds_toArray, List.set_cons_zero, List.set_cons_succ]
          rfl
        refine pure_ (i := 8) (N := some 105) (v := ?_) (a' := ?_) #[true, true, true, true, true, true, true, true, true, false, true, false, false] rfl rfl (by kernel_rfl) (fun _ _ _ h => h) (Or.inl ⟨by rfl, ?_⟩) ?_ ?_
        rotate_left
        · intro w'
          go_simp
          with_reducible rfl
        rotate_left
        · simp only [Act.put, List.setIfInBounds_toArray, List.set_cons_zero, List.set_cons_succ]
          rfl
        refine pure_ (i := 9) (N := some 106) (v := ?_) (a' := ?_) #[true, true, true, true, true, true, true, true, true, true, true, false, false] rfl rfl (by kernel_rfl) (fun _ _ _ h => h) (Or.inl ⟨by rfl, ?_⟩) ?_ ?_
        rotate_left
        · intro w'
          go_simp
          with_reducible rfl
        rotate_left
        · simp only [Act.put, List.setIfInBounds_toArray, List.set_cons_zero, List.set_cons_succ]
          rfl
        refine norm_ ?_ (hD1 (g16, vh) _ ⟨Fy, Byg16, Gg16⟩)
        simp only [putAll, Act.put, List.setIfInBounds_toArray, List.set_cons_zero, List.set_cons_succ]
      · skip
        rintro vh wx ⟨Fx, Xvh⟩
        refine norm_ (a' := ?_) ?_ ?_
        rotate_left
        · simp only [putAll, Act.put, List.setIfInBounds_toArray, List.set_cons_zero, List.set_cons_succ]
          rfl
        refine two_ (i := 6) (j := 10) (Ni := some 104) (Nj := some 16) #[true, true, true, true, true, true, true, false, false, false, false, false, false] #[true, true, true, true, true, true, false, false, false, false, true, false, false] rfl rfl rfl rfl (by kernel_rfl) (by decide) (by decide) (fun K hK => ?_) (fun K hK => ?_)
        · skip
          refine goes_ Tryd.func23 (by kernel_rfl) rfl #[.int .i64 k, vh, .int .i64 n, .int .i64 i, .agg (bytes LA).toArray] (by rfl) rfl rfl (by simp only [List.map_toArray, List.map_cons, List.map_nil]; rfl) ?_
          with_reducible refine (CR.out _ vh _ (HF10.out.trans Fx (fun _ _ h => h)) Xvh).mono ?_
          rintro e wy ⟨rfl, hq⟩
          refine ⟨_, rfl, ?_⟩
          have Fy : Fr (fun _ => False) W10 wy := Fx.trans hq (fun _ _ h => h)
          refine hK.out _ _ Fy (fun _ => ?_)
          clear hK K
          refine norm_ (a' := ?_) ?_ ?_
          rotate_left
          · show Act.put _ (some 104) _ = _
            simp only [Act.put, List.setIfInBounds_toArray, List.set_cons_zero, List.set_cons_succ]
            rfl
          refine pure_ (i := 7) (N := some 97) (v := ?_) (a' := ?_) #[true, true, true, true, true, true, true, true, false, false, false, false, false] rfl rfl (by kernel_rfl) (fun _ _ _ h => h) (Or.inl ⟨by rfl, ?_⟩) ?_ ?_
          rotate_left
          · intro w'
            go_simp
            with_reducible rfl
          rotate_left
          · simp only [Act.put, List.setIfInBounds_toArray, List.set_cons_zero, List.set_cons_succ]
            rfl
          refine pure_ (i := 8) (N := some 105) (v := ?_) (a' := ?_) #[true, true, true, true, true, true, true, true, true, false, false, false, false] rfl rfl (by kernel_rfl) (fun _ _ _ h => h) (Or.inl ⟨by rfl, ?_⟩) ?_ ?_
          rotate_left
          · intro w'
            go_simp
            with_reducible rfl
          rotate_left
          · simp only [Act.put, List.setIfInBounds_toArray, List.set_cons_zero, List.set_cons_succ]
            rfl
          refine pure_ (i := 9) (N := some 106) (v := ?_) (a' := ?_) #[true, true, true, true, true, true, true, true, true, true, false, false, false] rfl rfl (by kernel_rfl) (fun _ _ _ h => h) (Or.inl ⟨by rfl, ?_⟩) ?_ ?_
          rotate_left
          · intro w'
            go_simp
            with_reducible rfl
          rotate_left
          · simp only [Act.put, List.setIfInBounds_toArray, List.set_cons_zero, List.set_cons_succ]
            rfl
          refine norm_ ?_ (hD2 vh _ Fy)
          simp only [putAll, Act.put, List.setIfInBounds_toArray, List.set_cons_zero, List.set_cons_succ]
        · skip
          refine value_ (by rfl) rfl (al_hash _ _ _ rfl) ?_
          have hal : Fr (fun _ => False) wx (wx.alloc (.cells (bytes zr32).toArray 29)) := (Fr.refl _ wx).alloc _
          have Fy : Fr (fun _ => False) W10 (wx.alloc (.cells (bytes zr32).toArray 29)) := Fx.trans hal (fun _ _ h => h)
          have Byg16 : Blk (wx.alloc (.cells (bytes zr32).toArray 29)) wx.heap.size 29 (bytes zr32) := Blk.new wx _ _
          have Gyg16 : W10.heap.size ≤ wx.heap.size := Fx.size
          have Xyvh := Xvh.keep hal (fun _ _ h => h)
          refine hK.out _ _ Fy (fun _ => ?_)
          clear hK K
          refine norm_ (a' := ?_) ?_ ?_
          rotate_left
          · show Act.put _ (some 16) _ = _
            simp only [Act.put, List.setIfInBounds_toArray, List.set_cons_zero, List.set_cons_succ]
            rfl
          refine norm_ ?_ (hD3 (wx.heap.size, vh) _ ⟨Fy, Byg16, Gyg16, Xyvh⟩)
          simp only [putAll, Act.put, List.setIfInBounds_toArray, List.set_cons_zero, List.set_cons_succ]
      · skip
        rintro g16 wx ⟨Fx, Bg16, Gg16⟩
        refine norm_ (a' := ?_) ?_ ?_
        rotate_left
        · simp only [putAll, Act.put, List.setIfInBounds_toArray, List.set_cons_zero, List.set_cons_succ]
          rfl
        refine one_ (i := 2) (N := some 100) #[true, true, true, true, true, true, false, false, false, false, true, false, false] rfl rfl (by kernel_rfl) (by decide) (fun K hK => ?_)
        refine goes_ Tryd.func18 (by kernel_rfl) rfl #[.slice PA qa cA] (by rfl) rfl rfl (by simp only [List.map_toArray, List.map_cons, List.map_nil]; rfl) ?_
        with_reducible refine (CHX.out _ Fx).mono ?_
        rintro e wy ⟨vh, rfl, Xyvh, hq⟩
        refine ⟨_, rfl, ?_⟩
        have Fy : Fr (fun _ => False) W10 wy := Fx.trans hq (fun _ _ h => h)
        have Byg16 := Bg16.fr hq (fun h => h)
        refine hK.out _ _ Fy (fun _ => ?_)
        clear hK K
        refine norm_ (a' := ?_) ?_ ?_
        rotate_left
        · show Act.put _ (some 100) _ = _
          simp only [Act.put, List.setIfInBounds_toArray, List.set_cons_zero, List.set_cons_succ]
          rfl
        refine norm_ ?_ (hD3 (g16, vh) _ ⟨Fy, Byg16, Gg16, Xyvh⟩)
        simp only [putAll, Act.put, List.setIfInBounds_toArray, List.set_cons_zero, List.set_cons_succ]
      rintro ⟨g16, vh⟩ wx ⟨Fx, Bg16, Gg16⟩
      refine norm_ (a' := ?_) ?_ ?_
      rotate_left
      · simp only [putAll, Act.put, List.setIfInBounds_toArray, List.set_cons_zero, List.set_cons_succ]
        rfl
      refine done_ (by kernel_rfl) ?_
      have HF13 := Kp.mk (HF10.out.trans Fx (fun _ _ h => h))
      have H16p := Kp.mk Bg16
      have H14p := Kp.mk (H14.out.fr Fx (fun h => h))
      have H15p := Kp.mk (Hg15.out.fr Fx (fun h => h))
      clear hHeld LD14 CHX H14 Hg15 HF10 HF9b HF9 HF8 HF7 Fx Bg16 Gg16
      generalize wx = W13 at HF13 H16p H14p H15p ⊢
      rcases HCODE.out with hcc | hcc | hcc
      case inr.inl => subst hcc; go_wp2_with (fail); go_ret; exact ⟨rfl, HF13.out⟩
      case inr.inr => subst hcc; go_wp2_with (fail); go_ret; exact ⟨rfl, HF13.out⟩
      subst hcc
      go_upto_region 15 with (fail)
      refine start_ (n := 9) (S := fun w' => Lds w' 29 (.pointer (some ⟨g16, 0, none⟩)) (.agg (bytes M).toArray) ∧ Lds w' 29 (.pointer (some ⟨g14, 0, none⟩)) (.agg (bytes LA).toArray)) (ds := []) #[false, false, false, false, false, false, false, false, false] (by kernel_rfl) rfl rfl ⟨lds_hsh (((H16p.out.drew))) HM32.out, lds_hsh (((H14p.out.drew))) HLA32.out⟩ (fun hHeld => ?_)
      refine pure_ (i := 0) (N := some 115) (v := ?_) (a' := ?_) #[true, false, false, false, false, false, false, false, false] rfl rfl (by kernel_rfl) (fun _ _ _ h => h) (Or.inl ⟨by rfl, ?_⟩) ?_ ?_
      rotate_left
      · intro w'
        go_simp
        with_reducible rfl
      rotate_left
      · simp only [Act.put, List.setIfInBounds_toArray, List.set_cons_zero, List.set_cons_succ]
        rfl
      refine pure_ (i := 1) (N := some 116) (v := ?_) (a' := ?_) #[true, true, false, false, false, false, false, false, false] rfl rfl (by kernel_rfl) (fun _ _ _ h => h) (Or.inl ⟨by rfl, ?_⟩) ?_ ?_
      rotate_left
      · intro w'
        go_simp
        with_reducible rfl
      rotate_left
      · simp only [Act.put, List.setIfInBounds_toArray, List.set_cons_zero, List.set_cons_succ]
        rfl
      refine pure_ (i := 3) (N := some 118) (v := ?_) (a' := ?_) #[true, true, false, true, false, false, false, false, false] rfl rfl (by kernel_rfl) (fun _ _ _ h => h) (Or.inl ⟨by rfl, ?_⟩) ?_ ?_
      rotate_left
      · intro w'
        go_simp
        with_reducible rfl
      rotate_left
      · simp only [Act.put, List.setIfInBounds_toArray, List.set_cons_zero, List.set_cons_succ]
        rfl
      refine pure_ (i := 5) (N := some 120) (v := ?_) (a' := ?_) #[true, true, false, true, false, true, false, false, false] rfl rfl (by kernel_rfl) (fun _ _ _ h => h) (Or.inl ⟨by rfl, ?_⟩) ?_ ?_
      rotate_left
      · intro w'
        go_simp
        with_reducible rfl
      rotate_left
      · simp only [Act.put, List.setIfInBounds_toArray, List.set_cons_zero, List.set_cons_succ]
        rfl
      refine take_ (i := 4) (N := some 119) (v := ?_) (a' := ?_) #[true, true, false, true, true, true, false, false, false] rfl rfl (by kernel_rfl) (fun _ _ _ h => h) (Or.inl ⟨by rfl, ?_⟩) hHeld ?_ ?_
      rotate_left
      · rintro w' ⟨s0, s1⟩
        refine Lds.run s0 (x := ?_) ?_ ?_
        · exact (Operand.tmp 16)
        · rfl
        · rfl
      rotate_left
      · simp only [Act.put, List.setIfInBounds_toArray, List.set_cons_zero, List.set_cons_succ]
        rfl
      refine take_ (i := 6) (N := some 121) (v := ?_) (a' := ?_) #[true, true, false, true, true, true, true, false, false] rfl rfl (by kernel_rfl) (fun _ _ _ h => h) (Or.inl ⟨by rfl, ?_⟩) hHeld ?_ ?_
      rotate_left
      · rintro w' ⟨s0, s1⟩
        refine Lds.run s1 (x := ?_) ?_ ?_
        · exact (Operand.tmp 14)
        · rfl
        · rfl
      rotate_left
      · simp only [Act.put, List.setIfInBounds_toArray, List.set_cons_zero, List.set_cons_succ]
        rfl
      refine one_ (i := 2) (N := some 117) #[true, true, true, true, true, true, true, false, false] rfl rfl (by kernel_rfl) (by decide) (fun K hK => ?_)
      refine goes_ Tryd.func18 (by kernel_rfl) rfl #[.slice PA qa cA] (by rfl) rfl rfl (by simp only [List.map_toArray, List.map_cons, List.map_nil]; rfl) ?_
      with_reducible refine (CHa.out _ (HF13.out.drew)).mono ?_
      rintro e a1 ⟨v1, rfl, ho1, hf1⟩
      refine ⟨_, rfl, ?_⟩
      refine hK.out _ _ ⟨lds_hsh (((H16p.out.drew).fr hf1 (fun h => h))) HM32.out, lds_hsh (((H14p.out.drew).fr hf1 (fun h => h))) HLA32.out⟩ (fun hHeld => ?_)
      clear hK K
      refine norm_ (a' := ?_) ?_ ?_
      rotate_left
      · show Act.put _ (some 117) _ = _
        simp only [Act.put, List.setIfInBounds_toArray, List.set_cons_zero, List.set_cons_succ]
        rfl
      refine one_ (i := 7) (N := some 122) #[true, true, true, true, true, true, true, true, false] rfl rfl (by kernel_rfl) (by decide) (fun K hK => ?_)
      refine goes_ Tryd.func24 (by kernel_rfl) rfl #[.int .i64 k, v1, .int .i64 n, .agg (bytes M).toArray, .int .i64 i, .agg (bytes LA).toArray] (by rfl) rfl rfl (by simp only [List.map_toArray, List.map_cons, List.map_nil]; rfl) ?_
      with_reducible refine (CK1.out rfl _ v1 _ ((HF13.out.drew).trans hf1 (fun _ _ h => h)) ho1).mono ?_
      rintro e a2 ⟨rfl, hf2⟩
      refine ⟨_, rfl, ?_⟩
      refine hK.out _ _ ⟨lds_hsh ((((H16p.out.drew).fr hf1 (fun h => h)).fr hf2 (fun h => h))) HM32.out, lds_hsh ((((H14p.out.drew).fr hf1 (fun h => h)).fr hf2 (fun h => h))) HLA32.out⟩ (fun hHeld => ?_)
      clear hK K
      refine norm_ (a' := ?_) ?_ ?_
      rotate_left
      · show Act.put _ (some 122) _ = _
        simp only [Act.put, List.setIfInBounds_toArray, List.set_cons_zero, List.set_cons_succ]
        rfl
      refine pure_ (i := 8) (N := some 123) (v := ?_) (a' := ?_) #[true, true, true, true, true, true, true, true, true] rfl rfl (by kernel_rfl) (fun _ _ _ h => h) (Or.inl ⟨by rfl, ?_⟩) ?_ ?_
      rotate_left
      · intro w'
        go_simp
        with_reducible rfl
      rotate_left
      · simp only [Act.put, List.setIfInBounds_toArray, List.set_cons_zero, List.set_cons_succ]
        rfl
      refine done_ (by kernel_rfl) ?_
      have HF14 := Kp.mk (((HF13.out.drew).trans hf1 (fun _ _ h => h)).trans hf2 (fun _ _ h => h))
      have H16q := Kp.mk (((H16p.out.drew).fr hf1 (fun h => h)).fr hf2 (fun h => h))
      have H15q := Kp.mk (((H15p.out.drew).fr hf1 (fun h => h)).fr hf2 (fun h => h))
      clear hHeld H16p H14p H15p HF13 hf1 hf2 ho1
      generalize a2 = W14 at HF14 H16q H15q ⊢
      go_upto_region 17 with (fail)
      by_cases hck : ck = 0
      · subst hck
        have hnn := HNOT.out rfl
        refine start_ (n := 10) (S := fun w' => Lds w' 29 (.pointer (some ⟨g16, 0, none⟩)) (.agg (bytes M).toArray) ∧ Lds w' 29 (.pointer (some ⟨g15, 0, none⟩)) (.agg (bytes LB).toArray)) (ds := []) #[false, false, false, false, false, false, false, false, false, false] (by kernel_rfl) rfl rfl ⟨lds_hsh (((H16q.out.drew))) HM32.out, lds_hsh (((H15q.out.drew))) HLB32.out⟩ (fun hHeld => ?_)
        refine pure_ (i := 0) (N := some 124) (v := ?_) (a' := ?_) #[true, false, false, false, false, false, false, false, false, false] rfl rfl (by kernel_rfl) (fun _ _ _ h => h) (Or.inl ⟨by rfl, ?_⟩) ?_ ?_
        rotate_left
        · intro w'
          go_simp
          with_reducible rfl
        rotate_left
        · simp only [Act.put, List.setIfInBounds_toArray, List.set_cons_zero, List.set_cons_succ]
          rfl
        refine pure_ (i := 1) (N := some 125) (v := ?_) (a' := ?_) #[true, true, false, false, false, false, false, false, false, false] rfl rfl (by kernel_rfl) (fun _ _ _ h => h) (Or.inl ⟨by rfl, ?_⟩) ?_ ?_
        rotate_left
        · intro w'
          go_simp
          with_reducible rfl
        rotate_left
        · simp only [Act.put, List.setIfInBounds_toArray, List.set_cons_zero, List.set_cons_succ]
          rfl
        refine pure_ (i := 3) (N := some 127) (v := ?_) (a' := ?_) #[true, true, false, true, false, false, false, false, false, false] rfl rfl (by kernel_rfl) (fun _ _ _ h => h) (Or.inl ⟨by rfl, ?_⟩) ?_ ?_
        rotate_left
        · intro w'
          go_simp
          with_reducible rfl
        rotate_left
        · simp only [Act.put, List.setIfInBounds_toArray, List.set_cons_zero, List.set_cons_succ]
          rfl
        refine pure_ (i := 5) (N := some 129) (v := ?_) (a' := ?_) #[true, true, false, true, false, true, false, false, false, false] rfl rfl (by kernel_rfl) (fun _ _ _ h => h) (Or.inl ⟨by rfl, ?_⟩) ?_ ?_
        rotate_left
        · intro w'
          go_simp
          with_reducible rfl
        rotate_left
        · simp only [Act.put, List.setIfInBounds_toArray, List.set_cons_zero, List.set_cons_succ]
          rfl
        refine take_ (i := 4) (N := some 128) (v := ?_) (a' := ?_) #[true, true, false, true, true, true, false, false, false, false] rfl rfl (by kernel_rfl) (fun _ _ _ h => h) (Or.inl ⟨by rfl, ?_⟩) hHeld ?_ ?_
        rotate_left
        · rintro w' ⟨s0, s1⟩
          refine Lds.run s0 (x := ?_) ?_ ?_
          · exact (Operand.tmp 16)
          · rfl
          · rfl
        rotate_left
        · simp only [Act.put, List.setIfInBounds_toArray, List.set_cons_zero, List.set_cons_succ]
          rfl
        refine take_ (i := 6) (N := some 130) (v := ?_) (a' := ?_) #[true, true, false, true, true, true, true, false, false, false] rfl rfl (by kernel_rfl) (fun _ _ _ h => h) (Or.inl ⟨by rfl, ?_⟩) hHeld ?_ ?_
        rotate_left
        · rintro w' ⟨s0, s1⟩
          refine Lds.run s1 (x := ?_) ?_ ?_
          · exact (Operand.tmp 15)
          · rfl
          · rfl
        rotate_left
        · simp only [Act.put, List.setIfInBounds_toArray, List.set_cons_zero, List.set_cons_succ]
          rfl
        refine one_ (i := 2) (N := some 126) #[true, true, true, true, true, true, true, false, false, false] rfl rfl (by kernel_rfl) (by decide) (fun K hK => ?_)
        refine goes_ Tryd.func18 (by kernel_rfl) rfl #[.slice PB qb cB] (by rfl) rfl rfl (by simp only [List.map_toArray, List.map_cons, List.map_nil]; rfl) ?_
        with_reducible refine (CHb.out _ (HF14.out.drew)).mono ?_
        rintro e a1 ⟨v1, rfl, ho1, hf1⟩
        refine ⟨_, rfl, ?_⟩
        refine hK.out _ _ ⟨lds_hsh (((H16q.out.drew).fr hf1 (fun h => h))) HM32.out, lds_hsh (((H15q.out.drew).fr hf1 (fun h => h))) HLB32.out⟩ (fun hHeld => ?_)
        clear hK K
        refine norm_ (a' := ?_) ?_ ?_
        rotate_left
        · show Act.put _ (some 126) _ = _
          simp only [Act.put, List.setIfInBounds_toArray, List.set_cons_zero, List.set_cons_succ]
          rfl
        refine one_ (i := 7) (N := some 131) #[true, true, true, true, true, true, true, true, false, false] rfl rfl (by kernel_rfl) (by decide) (fun K hK => ?_)
        refine goes_ Tryd.func24 (by kernel_rfl) rfl #[.int .i64 k, v1, .int .i64 n, .agg (bytes M).toArray, .int .i64 i, .agg (bytes LB).toArray] (by rfl) rfl rfl (by simp only [List.map_toArray, List.map_cons, List.map_nil]; rfl) ?_
        with_reducible refine (CK2.out _ v1 _ ((HF14.out.drew).trans hf1 (fun _ _ h => h)) ho1).mono ?_
        rintro e a2 ⟨rfl, hf2⟩
        refine ⟨_, rfl, ?_⟩
        refine hK.out _ _ ⟨lds_hsh ((((H16q.out.drew).fr hf1 (fun h => h)).fr hf2 (fun h => h))) HM32.out, lds_hsh ((((H15q.out.drew).fr hf1 (fun h => h)).fr hf2 (fun h => h))) HLB32.out⟩ (fun hHeld => ?_)
        clear hK K
        refine norm_ (a' := ?_) ?_ ?_
        rotate_left
        · show Act.put _ (some 131) _ = _
          simp only [Act.put, List.setIfInBounds_toArray, List.set_cons_zero, List.set_cons_succ]
          rfl
        refine pure_ (i := 8) (N := some 132) (v := ?_) (a' := ?_) #[true, true, true, true, true, true, true, true, true, false] rfl rfl (by kernel_rfl) (fun _ _ _ h => h) (Or.inl ⟨by rfl, ?_⟩) ?_ ?_
        rotate_left
        · intro w'
          go_simp
          with_reducible rfl
        rotate_left
        · simp only [Act.put, List.setIfInBounds_toArray, List.set_cons_zero, List.set_cons_succ]
          rfl
        refine pure_ (i := 9) (N := some 18) (v := ?_) (a' := ?_) #[true, true, true, true, true, true, true, true, true, true] rfl rfl (by kernel_rfl) (fun _ _ _ h => h) (Or.inl ⟨by rfl, ?_⟩) ?_ ?_
        rotate_left
        · intro w'
          go_simp
          with_reducible rfl
        rotate_left
        · simp only [Act.put, List.setIfInBounds_toArray, List.set_cons_zero, List.set_cons_succ]
          rfl
        refine done_ (by kernel_rfl) ?_
        have HF15 := Kp.mk (((HF14.out.drew).trans hf1 (fun _ _ h => h)).trans hf2 (fun _ _ h => h))
        clear hHeld H16q H15q HF14 hf1 hf2 ho1
        generalize a2 = W15 at HF15 ⊢
        go_upto_region 18 with (fail)
        by_cases hq : a = b
        · have HCOL := Kp.mk (hnn (fun h => h.2 hq))
          have he : (sA.toList == sB.toList) = true := by rw [HE.out, decide_eq_true hq]
          clear hq hnn
          go_wp2_with (fail)
          refine (CHa.out W15 HF15.out).mono ?_
          rintro e W15x ⟨v1, rfl, ho1, hf⟩
          have HF15x := Kp.mk (HF15.out.trans hf (fun _ _ h => h))
          have HO1 := Kp.mk ho1
          clear hf ho1
          go_wp2_with (fail)
          refine (CHb.out W15x HF15x.out).mono ?_
          rintro e W15y ⟨v2, rfl, ho2, hf⟩
          have HF15y := Kp.mk (HF15x.out.trans hf (fun _ _ h => h))
          have HO1y := Kp.mk (HO1.out.keep hf (fun _ _ h => h))
          have HO2 := Kp.mk ho2
          clear hf ho2 HO1
          go_wp2_with (fail)
          refine (CN.out HCOL.out W15y v1 v2 _ _ HF15y.out HO1y.out HO2.out).mono ?_
          rintro e W15z ⟨rfl, hf⟩
          have HF15z := Kp.mk (HF15y.out.trans hf (fun _ _ h => h))
          clear hf HO1y HO2
          go_upto_region 19 with (fail)
          obtain ⟨g19, hgn⟩ : ∃ g, g = W15z.heap.size := ⟨_, rfl⟩
          obtain ⟨W18, hW⟩ : ∃ W, W = W15z.alloc (.cells #[.slice none 0 0, .slice none 0 0] 36) := ⟨_, rfl⟩
          have hbk : Blk W18 g19 36 [.slice none 0 0, .slice none 0 0] := by rw [hW, hgn]; exact Blk.new W15z _ _
          have HF18 : Kp (Fr (fun _ => False) w W18) := ⟨by rw [hW]; exact HF15z.out.alloc _⟩
          rw [← hgn, ← hW]
          have cn0 : W18.cell? ⟨g19, 0, none⟩ = some (.slice none 0 0) := hbk.cell 0 _ rfl
          have cn1 : W18.cell? ⟨g19, 1, none⟩ = some (.slice none 0 0) := hbk.cell 1 _ rfl
          clear hgn hW hbk
          have hca := HCA.out W18 HF18.out
          have hcb := HCB.out W18 HF18.out
          go_upto_region 21 with (fail)
          have hcz := HCOL.out
          go_wp2_with (fail)
          go_ret
          exact ⟨by simp [hcz], HF18.out⟩
        · have hy := CY.out rfl rfl hq hna hnb
          have he : (sA.toList == sB.toList) = false := by rw [HE.out, decide_eq_false hq]
          clear hq hnn
          go_wp2_with (fail)
          refine (CHa.out W15 HF15.out).mono ?_
          rintro e W15x ⟨v1, rfl, ho1, hf⟩
          have HF15x := Kp.mk (HF15.out.trans hf (fun _ _ h => h))
          have HO1 := Kp.mk ho1
          clear hf ho1
          go_wp2_with (fail)
          refine (CHb.out W15x HF15x.out).mono ?_
          rintro e W15y ⟨v2, rfl, ho2, hf⟩
          have HF15y := Kp.mk (HF15x.out.trans hf (fun _ _ h => h))
          have HO1y := Kp.mk (HO1.out.keep hf (fun _ _ h => h))
          have HO2 := Kp.mk ho2
          clear hf ho2 HO1
          go_wp2_with (fail)
          refine (hy W15y v1 v2 _ _ HF15y.out HO1y.out HO2.out).mono ?_
          rintro e W15z ⟨P1, P2, A1, c1, A2, c2, rfl, hpr, hf⟩
          have HF15z := Kp.mk (HF15y.out.trans hf (fun _ _ h => h))
          have CO := Kp.mk (fun (W : World) (hf : Fr (fun _ => False) W15z W) => CO.out W A1 A2 c1 c2 P1 P2 (HF15z.out.trans hf (fun _ _ h => h)) ⟨hpr.1.fr hf, hpr.2.1.fr hf, hpr.2.2⟩)
          have CO2 := Kp.mk (fun (W : World) (hf : Fr (fun _ => False) W15z W) => CO2.out W A1 A2 c1 c2 P1 P2 (HF15z.out.trans hf (fun _ _ h => h)) ⟨hpr.1.fr hf, hpr.2.1.fr hf, hpr.2.2⟩)
          generalize P1.length = l1 at CO CO2 ⊢
          generalize P2.length = l2 at CO CO2 ⊢
          clear hf HO1y HO2 hpr hy
          go_upto_region 19 with (fail)
          obtain ⟨g19, hgn⟩ : ∃ g, g = W15z.heap.size := ⟨_, rfl⟩
          obtain ⟨W18, hW⟩ : ∃ W, W = W15z.alloc (.cells #[.slice A1 l1 c1, .slice A2 l2 c2] 36) := ⟨_, rfl⟩
          have H19 : Kp (Blk W18 g19 36 [.slice A1 l1 c1, .slice A2 l2 c2]) := ⟨by rw [hW, hgn]; exact Blk.new W15z _ _⟩
          have HFz : Kp (Fr (fun _ => False) W15z W18) := ⟨by rw [hW]; exact (Fr.refl _ _).alloc _⟩
          have HF18 := Kp.mk (HF15z.out.trans HFz.out (fun _ _ h => h))
          rw [← hgn, ← hW]
          have cn0 : W18.cell? ⟨g19, 0, none⟩ = some (.slice A1 l1 c1) := H19.out.cell 0 _ rfl
          have cn1 : W18.cell? ⟨g19, 1, none⟩ = some (.slice A2 l2 c2) := H19.out.cell 1 _ rfl
          have hca := HCA.out W18 HF18.out
          have hcb := HCB.out W18 HF18.out
          clear hgn hW
          go_upto_region 20 with (fail)
          clear hca hcb he
          go_wp2_with (fail)
          refine (CO.out W18 HFz.out).mono ?_
          rintro e W19 ⟨rfl, hf⟩
          have HF19 := Kp.mk (HF18.out.trans hf (fun _ _ h => h))
          have HFy := Kp.mk (HFz.out.trans hf (fun _ _ h => h))
          obtain ⟨m1, m2⟩ := mid_pair (H19.out.fr hf (fun h => h))
          clear hf cn0 cn1
          go_wp2_with (fail)
          refine (CO2.out W19 HFy.out).mono ?_
          rintro e W20 ⟨rfl, hf⟩
          have HF20 := Kp.mk (HF19.out.trans hf (fun _ _ h => h))
          clear hf m1 m2
          go_wp2_with (fail)
          go_ret
          exact ⟨rfl, HF20.out⟩
      · have hckd : (ck == 0) = false := by simp [hck]
        have HCOL := Kp.mk (HNOT.out rfl (fun h => hck h.1))
        refine start_ (n := 10) (S := fun w' => Lds w' 29 (.pointer (some ⟨g16, 0, none⟩)) (.agg (bytes M).toArray) ∧ Lds w' 29 (.pointer (some ⟨g15, 0, none⟩)) (.agg (bytes LB).toArray)) (ds := []) #[false, false, false, false, false, false, false, false, false, false] (by kernel_rfl) rfl rfl ⟨lds_hsh (((H16q.out.drew))) HM32.out, lds_hsh (((H15q.out.drew))) HLB32.out⟩ (fun hHeld => ?_)
        refine pure_ (i := 0) (N := some 124) (v := ?_) (a' := ?_) #[true, false, false, false, false, false, false, false, false, false] rfl rfl (by kernel_rfl) (fun _ _ _ h => h) (Or.inl ⟨by rfl, ?_⟩) ?_ ?_
        rotate_left
        · intro w'
          go_simp
          with_reducible rfl
        rotate_left
        · simp only [Act.put, List.setIfInBounds_toArray, List.set_cons_zero, List.set_cons_succ]
          rfl
        refine pure_ (i := 1) (N := some 125) (v := ?_) (a' := ?_) #[true, true, false, false, false, false, false, false, false, false] rfl rfl (by kernel_rfl) (fun _ _ _ h => h) (Or.inl ⟨by rfl, ?_⟩) ?_ ?_
        rotate_left
        · intro w'
          go_simp
          with_reducible rfl
        rotate_left
        · simp only [Act.put, List.setIfInBounds_toArray, List.set_cons_zero, List.set_cons_succ]
          rfl
        refine pure_ (i := 3) (N := some 127) (v := ?_) (a' := ?_) #[true, true, false, true, false, false, false, false, false, false] rfl rfl (by kernel_rfl) (fun _ _ _ h => h) (Or.inl ⟨by rfl, ?_⟩) ?_ ?_
        rotate_left
        · intro w'
          go_simp
          with_reducible rfl
        rotate_left
        · simp only [Act.put, List.setIfInBounds_toArray, List.set_cons_zero, List.set_cons_succ]
          rfl
        refine pure_ (i := 5) (N := some 129) (v := ?_) (a' := ?_) #[true, true, false, true, false, true, false, false, false, false] rfl rfl (by kernel_rfl) (fun _ _ _ h => h) (Or.inl ⟨by rfl, ?_⟩) ?_ ?_
        rotate_left
        · intro w'
          go_simp
          with_reducible rfl
        rotate_left
        · simp only [Act.put, List.setIfInBounds_toArray, List.set_cons_zero, List.set_cons_succ]
          rfl
        refine take_ (i := 4) (N := some 128) (v := ?_) (a' := ?_) #[true, true, false, true, true, true, false, false, false, false] rfl rfl (by kernel_rfl) (fun _ _ _ h => h) (Or.inl ⟨by rfl, ?_⟩) hHeld ?_ ?_
        rotate_left
        · rintro w' ⟨s0, s1⟩
          refine Lds.run s0 (x := ?_) ?_ ?_
          · exact (Operand.tmp 16)
          · rfl
          · rfl
        rotate_left
        · simp only [Act.put, List.setIfInBounds_toArray, List.set_cons_zero, List.set_cons_succ]
          rfl
        refine take_ (i := 6) (N := some 130) (v := ?_) (a' := ?_) #[true, true, false, true, true, true, true, false, false, false] rfl rfl (by kernel_rfl) (fun _ _ _ h => h) (Or.inl ⟨by rfl, ?_⟩) hHeld ?_ ?_
        rotate_left
        · rintro w' ⟨s0, s1⟩
          refine Lds.run s1 (x := ?_) ?_ ?_
          · exact (Operand.tmp 15)
          · rfl
          · rfl
        rotate_left
        · simp only [Act.put, List.setIfInBounds_toArray, List.set_cons_zero, List.set_cons_succ]
          rfl
        refine one_ (i := 2) (N := some 126) #[true, true, true, true, true, true, true, false, false, false] rfl rfl (by kernel_rfl) (by decide) (fun K hK => ?_)
        refine goes_ Tryd.func18 (by kernel_rfl) rfl #[.slice PB qb cB] (by rfl) rfl rfl (by simp only [List.map_toArray, List.map_cons, List.map_nil]; rfl) ?_
        with_reducible refine (CHb.out _ (HF14.out.drew)).mono ?_
        rintro e a1 ⟨v1, rfl, ho1, hf1⟩
        refine ⟨_, rfl, ?_⟩
        refine hK.out _ _ ⟨lds_hsh (((H16q.out.drew).fr hf1 (fun h => h))) HM32.out, lds_hsh (((H15q.out.drew).fr hf1 (fun h => h))) HLB32.out⟩ (fun hHeld => ?_)
        clear hK K
        refine norm_ (a' := ?_) ?_ ?_
        rotate_left
        · show Act.put _ (some 126) _ = _
          simp only [Act.put, List.setIfInBounds_toArray, List.set_cons_zero, List.set_cons_succ]
          rfl
        refine one_ (i := 7) (N := some 131) #[true, true, true, true, true, true, true, true, false, false] rfl rfl (by kernel_rfl) (by decide) (fun K hK => ?_)
        refine goes_ Tryd.func24 (by kernel_rfl) rfl #[.int .i64 k, v1, .int .i64 n, .agg (bytes M).toArray, .int .i64 i, .agg (bytes LB).toArray] (by rfl) rfl rfl (by simp only [List.map_toArray, List.map_cons, List.map_nil]; rfl) ?_
        with_reducible refine (CK2.out _ v1 _ ((HF14.out.drew).trans hf1 (fun _ _ h => h)) ho1).mono ?_
        rintro e a2 ⟨rfl, hf2⟩
        refine ⟨_, rfl, ?_⟩
        refine hK.out _ _ ⟨lds_hsh ((((H16q.out.drew).fr hf1 (fun h => h)).fr hf2 (fun h => h))) HM32.out, lds_hsh ((((H15q.out.drew).fr hf1 (fun h => h)).fr hf2 (fun h => h))) HLB32.out⟩ (fun hHeld => ?_)
        clear hK K
        refine norm_ (a' := ?_) ?_ ?_
        rotate_left
        · show Act.put _ (some 131) _ = _
          simp only [Act.put, List.setIfInBounds_toArray, List.set_cons_zero, List.set_cons_succ]
          rfl
        refine pure_ (i := 8) (N := some 132) (v := ?_) (a' := ?_) #[true, true, true, true, true, true, true, true, true, false] rfl rfl (by kernel_rfl) (fun _ _ _ h => h) (Or.inl ⟨by rfl, ?_⟩) ?_ ?_
        rotate_left
        · intro w'
          go_simp
          with_reducible rfl
        rotate_left
        · simp only [Act.put, List.setIfInBounds_toArray, List.set_cons_zero, List.set_cons_succ]
          rfl
        refine pure_ (i := 9) (N := some 18) (v := ?_) (a' := ?_) #[true, true, true, true, true, true, true, true, true, true] rfl rfl (by kernel_rfl) (fun _ _ _ h => h) (Or.inl ⟨by rfl, ?_⟩) ?_ ?_
        rotate_left
        · intro w'
          go_simp
          with_reducible rfl
        rotate_left
        · simp only [Act.put, List.setIfInBounds_toArray, List.set_cons_zero, List.set_cons_succ]
          rfl
        refine done_ (by kernel_rfl) ?_
        have HF15 := Kp.mk (((HF14.out.drew).trans hf1 (fun _ _ h => h)).trans hf2 (fun _ _ h => h))
        clear hHeld H16q H15q HF14 hf1 hf2 ho1
        generalize a2 = W15 at HF15 ⊢
        go_upto_region 18 with (fail)
        go_wp2_with (fail)
        refine (CHa.out W15 HF15.out).mono ?_
        rintro e W15x ⟨v1, rfl, ho1, hf⟩
        have HF15x := Kp.mk (HF15.out.trans hf (fun _ _ h => h))
        have HO1 := Kp.mk ho1
        clear hf ho1
        go_wp2_with (fail)
        refine (CHb.out W15x HF15x.out).mono ?_
        rintro e W15y ⟨v2, rfl, ho2, hf⟩
        have HF15y := Kp.mk (HF15x.out.trans hf (fun _ _ h => h))
        have HO1y := Kp.mk (HO1.out.keep hf (fun _ _ h => h))
        have HO2 := Kp.mk ho2
        clear hf ho2 HO1
        go_wp2_with (fail)
        refine (CN.out HCOL.out W15y v1 v2 _ _ HF15y.out HO1y.out HO2.out).mono ?_
        rintro e W15z ⟨rfl, hf⟩
        have HF15z := Kp.mk (HF15y.out.trans hf (fun _ _ h => h))
        clear hf HO1y HO2
        go_upto_region 19 with (fail)
        obtain ⟨g19, hgn⟩ : ∃ g, g = W15z.heap.size := ⟨_, rfl⟩
        obtain ⟨W18, hW⟩ : ∃ W, W = W15z.alloc (.cells #[.slice none 0 0, .slice none 0 0] 36) := ⟨_, rfl⟩
        have hbk : Blk W18 g19 36 [.slice none 0 0, .slice none 0 0] := by rw [hW, hgn]; exact Blk.new W15z _ _
        have HF18 : Kp (Fr (fun _ => False) w W18) := ⟨by rw [hW]; exact HF15z.out.alloc _⟩
        rw [← hgn, ← hW]
        have cn0 : W18.cell? ⟨g19, 0, none⟩ = some (.slice none 0 0) := hbk.cell 0 _ rfl
        have cn1 : W18.cell? ⟨g19, 1, none⟩ = some (.slice none 0 0) := hbk.cell 1 _ rfl
        clear hgn hW hbk
        go_upto_region 21 with (fail)
        have hcz := HCOL.out
        go_wp2_with (fail)
        go_ret
        exact ⟨by simp [hcz], HF18.out⟩
end Go.Proofs.YtjcmgpiapbeodaaDoor.Sha
