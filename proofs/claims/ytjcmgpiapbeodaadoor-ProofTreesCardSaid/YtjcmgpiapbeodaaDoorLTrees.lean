/-
  The walk of ProofTrees.
-/
import Derived.Test.YtjcmgpiapbeodaaDoorColT
import Derived.Test.YtjcmgpiapbeodaaDoorHashs
import Derived.Test.YtjcmgpiapbeodaaDoorHides
set_option linter.unusedSimpArgs false
set_option linter.unusedVariables false
namespace Go.Proofs.YtjcmgpiapbeodaaDoor.Sha
open Go.Proofs.YtjcmgpiapbeodaaDoor.Pf Go.Proofs.YtjcmgpiapbeodaaDoor.Len Go.Proofs.YtjcmgpiapbeodaaDoor.PProofTakes
open Go.RowKit Go.Proofs.YtjcmgpiapbeodaaDoor.Mem Go.Proofs.YtjcmgpiapbeodaaDoorW.PrintWords Go.Proofs.YtjcmgpiapbeodaaDoorW.PrintLast Go.Proofs.YtjcmgpiapbeodaaDoor.Pl Go.Proofs.YtjcmgpiapbeodaaDoor.Wk
attribute [local go_sem ↓] Go.wp_at_zero Go.wp_at_succ wp_load_hash wp_store_hash wp_load_mid23 wp_load_mid25 wp_store_mid25 wp_build_hash
attribute [local go_sem] rowAt_drew rowOk_drew midOk_drew midAt_drew rowBlock rowCells rowOff midFree_drew
theorem lds_rws2 {w : World} {a : Addr} {v : Value} (h : w.cell? a = some v) : Lds w 24 (.pointer (some a)) v := by
  intro ev o x ho hx
  unfold execOp
  simp only [ho, hx]
  go_simp
theorem al_pair2 (ev : Operand → Value) (o : Oper) (w : World) (ho : o.op = .alloc 36) : (execOp ev o).run Tryd.prog w = .ok (.value (.pointer (some ⟨w.heap.size, 0, none⟩))) (w.alloc (.cells #[.slice none 0 0, .slice none 0 0] 36)) := by
  unfold execOp
  simp only [ho]
  go_simp
theorem eq32r (M N : List Int) (h : M.length = 32) (hn : N.length = 32) (W : World) : (Op.equalIn 10000 23 (.agg (bytes M).toArray) (.agg (bytes N).toArray)).run Tryd.prog W = .ok (decide (M = N)) W :=
  run_equalIn_ints W 9998 23 5 32 .u8 Tryd.underlying23 Tryd.underlying5 size_u8 M N h hn
/-- a pair of texts in memory, outside of S -/
def PairAt (w : World) (S : Nat → Prop) (v1 v2 : Value) (Q : List Int → List Int → Prop) : Prop := ∃ A1 c1 P1 A2 c2 P2, v1 = .slice A1 (List.length P1) c1 ∧ v2 = .slice A2 (List.length P2) c2 ∧ Src w S A1 c1 P1 ∧ Src w S A2 c2 P2 ∧ Q P1 P2
theorem PairAt.fr {w w1 : World} {S : Nat → Prop} {v1 v2 : Value} {Q : List Int → List Int → Prop} (h : PairAt w S v1 v2 Q) (hf : Fr S w w1) : PairAt w1 S v1 v2 Q := by
  obtain ⟨A1, c1, P1, A2, c2, P2, h1, h2, h3, h4, h5⟩ := h
  exact ⟨A1, c1, P1, A2, c2, P2, h1, h2, h3.fr hf, h4.fr hf, h5⟩
theorem PairAt.mono {w : World} {S S' : Nat → Prop} {v1 v2 : Value} {Q : List Int → List Int → Prop} (h : PairAt w S v1 v2 Q) (hs : ∀ k, k < w.heap.size → S' k → S k) : PairAt w S' v1 v2 Q := by
  obtain ⟨A1, c1, P1, A2, c2, P2, h1, h2, h3, h4, h5⟩ := h
  exact ⟨A1, c1, P1, A2, c2, P2, h1, h2, h3.mono hs, h4.mono hs, h5⟩
theorem PairAt.apart {w : World} {v1 v2 : Value} {Q : List Int → List Int → Prop} (h : PairAt w (fun _ => False) v1 v2 Q) (o : Obj) : PairAt (w.alloc o) (fun q => q = w.heap.size) v1 v2 Q :=
  (h.mono (S' := fun q => q = w.heap.size) (fun k hk e => by omega)).fr ((Fr.refl _ w).alloc o)
theorem PairAt.ones {w : World} {S : Nat → Prop} {v1 v2 : Value} {Q : List Int → List Int → Prop} (h : PairAt w S v1 v2 Q) : ∀ u ∈ [v1, v2], u.oneCell' = true := by
  obtain ⟨A1, c1, P1, A2, c2, P2, rfl, rfl, _⟩ := h
  simp [Value.oneCell']
theorem pairD_len {s : Nat} (hs : s ≤ 32) {P1 P2 : List Int} : ∀ {w : List Pf.St} {x y : Nd}, x.ok → y.ok → pairD (nodeL s) x y w = some (P1, P2) → P1.length = 65 ∧ P2.length = 65
  | [], x, y, _, _, h => by simp [pairD] at h
  | t :: w, .giv _, y, _, _, h => by simp [pairD] at h
  | t :: w, .join _ _, .giv _, _, _, h => by simp [pairD] at h
  | t :: w, .join xl xr, .join yl yr, hx, hy, h => by
    cases hp : parts (nodeL s) (.join xl xr) (.join yl yr) with
    | some q =>
      rw [pairD_some _ hp] at h
      have h := Option.some.inj h
      subst h
      simp only [parts] at hp
      split at hp
      · cases hp
      · obtain ⟨e1, e2⟩ := Prod.mk.inj (Option.some.inj hp)
        have l1 := Pf.sum_len (nodeL s) (fun l r => ofL_len s _ hs) hx.1
        have l2 := Pf.sum_len (nodeL s) (fun l r => ofL_len s _ hs) hx.2
        have l3 := Pf.sum_len (nodeL s) (fun l r => ofL_len s _ hs) hy.1
        have l4 := Pf.sum_len (nodeL s) (fun l r => ofL_len s _ hs) hy.2
        rw [← e1, ← e2]
        simp only [List.length_cons, List.length_append]
        omega
    | none =>
      rw [pairD_next _ hp] at h
      by_cases hr : t.r = true
      · rw [if_pos hr] at h
        exact pairD_len hs hx.1 hy.1 h
      · rw [if_neg hr] at h
        exact pairD_len hs hx.2 hy.2 h
theorem colT_own (s : Nat) (X : List Int) : colT s 1 1 X X [] X [] = 92 := by
  have hf : from' (1 : Int).toNat (1 : Int).toNat = [] := by decide +kernel
  have hr : treOk 1 1 := by unfold treOk; omega
  have hse : seedA (1 : Int).toNat 0 (1 : Int).toNat = 0 := by decide +kernel
  have hst : stepsT (1 : Int).toNat (1 : Int).toNat = [] := by decide +kernel
  have hb : begT (1 : Int).toNat (1 : Int).toNat X [] = .giv X := by unfold begT; rw [hse]; rfl
  have hc : checkT s 1 1 [] X X = 0 := checkT_of hr (by rw [hf]; rfl) (by unfold freshN; rw [hst, hb]; rfl) (by unfold oldN; rw [hst, hb]; rfl)
  unfold colT
  rw [if_pos hr, hf, if_pos ⟨rfl, rfl⟩, if_pos ⟨hc, hc⟩, if_pos rfl]
theorem own_trees (k : Int) (X : List Int) (hX : X.length = 32) (w : World) (hL : Laid w) :
    Calls Tryd.prog 19 #[.int .i64 k, .int .i64 1, .agg (bytes X).toArray, .int .i64 1, .agg (bytes X).toArray, .slice none 0 0, .agg (bytes X).toArray, .slice none 0 0] w fun e w' => e = .returned (.tuple #[.agg #[.slice none 0 0, .slice none 0 0], .int .i64 92]) ∧ Fr (fun _ => False) w w' := by
  have hn : HRow w (fun _ => False) none 0 [] := ⟨by simp, Nat.le_refl _, .inl ⟨rfl, rfl, rfl⟩⟩
  have q := CollideTrees_calls k 1 1 none none 0 0 X X X [] [] w hL hn hn hX hX hX
  rw [colT_own] at q
  refine q.mono ?_
  rintro e w' ⟨h | h, hf⟩
  · exact ⟨h.2, hf⟩
  · exact absurd h.1 (by decide)
set_option maxHeartbeats 4000000 in
set_option maxRecDepth 100000 in
theorem proofTrees_calls (k n m : Int) (PA PB : Option Addr) (cA cB : Nat) (X Y : List Int) (pa pb : List (List Int)) (cells : List Value) (w : World)
    (hk : cells[0]? = some (.int .i64 k) ∧ cells[1]? = some (.int .i64 n) ∧ cells[2]? = some (.int .i64 m) ∧ cells[70]? = some (.slice PA pa.length cA) ∧ cells[71]? = some (.slice PB pb.length cB))
    (hcl : cells.length = 72) (eX : (cells.drop 6).take 32 = bytes X) (eY : (cells.drop 38).take 32 = bytes Y) (hX : X.length = 32) (hY : Y.length = 32) (bX : Byt X) (bY : Byt Y)
    (hP : HRow w (fun _ => False) PA cA pa) (hQ : HRow w (fun _ => False) PB cB pb) (hpa : ∀ x ∈ pa, Byt x) (hpb : ∀ x ∈ pb, Byt x) (lpa : pa.length * 32 ≤ 140737488351232) (lpb : pb.length * 32 ≤ 140737488351232) (hL : Laid w) :
    Calls Tryd.prog 4 #[.agg cells.toArray] w fun e w' => e = .returned (.bool true) ∧ Fr (fun _ => False) w w' := by
  have HL := Kp.mk hL
  have hs := strength_le k
  obtain ⟨hM132, hM232⟩ := climbT_32 (s := strength k) hs (n := n) (m := m) hP.1 hX
  obtain ⟨_, bM2⟩ := climbT_byt (s := strength k) (n := n) (m := m) bX hpa
  have CHa : Kp (∀ W, Fr (fun _ => False) w W → Calls Tryd.prog 18 #[.slice PA pa.length cA] W fun e w' => ∃ v, e = .returned v ∧ HOwn w' W.heap.size v pa ∧ Fr (fun _ => False) W w') := ⟨fun W hf => hashes9_calls PA cA pa W (hP.fr hf) (by omega)⟩
  have CHb : Kp (∀ W, Fr (fun _ => False) w W → Calls Tryd.prog 18 #[.slice PB pb.length cB] W fun e w' => ∃ v, e = .returned v ∧ HOwn w' W.heap.size v pb ∧ Fr (fun _ => False) W w') := ⟨fun W hf => hashes9_calls PB cB pb W (hQ.fr hf) (by omega)⟩
  have CT : Kp (∀ (W : World) (v : Value) (b0 : Nat), Fr (fun _ => False) w W → HOwn W b0 v pa → Calls Tryd.prog 17 #[.int .i64 k, v, .int .i64 n, .int .i64 m, .agg (bytes X).toArray] W fun e w' =>
      e = .returned (.tuple #[.agg (bytes (climbT (strength k) n m pa X).1).toArray, .agg (bytes (climbT (strength k) n m pa X).2.1).toArray, .int .i64 (climbT (strength k) n m pa X).2.2]) ∧ Fr (fun _ => False) W w') := ⟨fun W v b0 hf hv => by
    obtain ⟨A', c', rfl, hr⟩ := hv.row (fun _ => False) (fun _ _ h => h)
    exact ClimbTree_calls k A' c' pa n m X W (hL.fr hf (fun _ h => h.elim)) hr hX⟩
  have CK1 : Kp ((climbT (strength k) n m pa X).2.2 = 0 → ∀ (W : World) (v : Value) (b0 : Nat), Fr (fun _ => False) w W → HOwn W b0 v pa → Calls Tryd.prog 20 #[.int .i64 k, v, .int .i64 n, .agg (bytes (climbT (strength k) n m pa X).1).toArray, .int .i64 m, .agg (bytes (climbT (strength k) n m pa X).2.1).toArray] W fun e w' =>
      e = .returned (.int .i64 0) ∧ Fr (fun _ => False) W w') := ⟨fun hc W v b0 hf hv => by
    obtain ⟨A', c', rfl, hr⟩ := hv.row (fun _ => False) (fun _ _ h => h)
    have q := CheckTree_calls k A' c' pa n m (climbT (strength k) n m pa X).1 (climbT (strength k) n m pa X).2.1 W (hL.fr hf (fun _ h => h.elim)) hr hM132 hM232
    rw [check_again hc] at q
    exact q⟩
  have CK2 : Kp (∀ (W : World) (v : Value) (b0 : Nat), Fr (fun _ => False) w W → HOwn W b0 v pb → Calls Tryd.prog 20 #[.int .i64 k, v, .int .i64 n, .agg (bytes (climbT (strength k) n m pa X).1).toArray, .int .i64 m, .agg (bytes Y).toArray] W fun e w' =>
      e = .returned (.int .i64 (checkT (strength k) n m pb (climbT (strength k) n m pa X).1 Y)) ∧ Fr (fun _ => False) W w') := ⟨fun W v b0 hf hv => by
    obtain ⟨A', c', rfl, hr⟩ := hv.row (fun _ => False) (fun _ _ h => h)
    exact CheckTree_calls k A' c' pb n m (climbT (strength k) n m pa X).1 Y W (hL.fr hf (fun _ h => h.elim)) hr hM132 hY⟩
  obtain ⟨QQ, hQQ⟩ : ∃ QQ : List Int → List Int → Prop, QQ = fun P1 P2 => Byt P1 ∧ Byt P2 ∧ collP (strength k) P1 P2 ∧ P1.length = 65 ∧ P2.length = 65 := ⟨_, rfl⟩
  have CN : Kp (colT (strength k) n m (climbT (strength k) n m pa X).1 (climbT (strength k) n m pa X).2.1 pa Y pb ≠ 0 → ∀ (W : World) (v1 v2 : Value) (b1 b2 : Nat), Fr (fun _ => False) w W → HOwn W b1 v1 pa → HOwn W b2 v2 pb → Calls Tryd.prog 19 #[.int .i64 k, .int .i64 n, .agg (bytes (climbT (strength k) n m pa X).1).toArray, .int .i64 m, .agg (bytes (climbT (strength k) n m pa X).2.1).toArray, v1, .agg (bytes Y).toArray, v2] W fun e w' =>
      e = .returned (.tuple #[.agg #[.slice none 0 0, .slice none 0 0], .int .i64 (colT (strength k) n m (climbT (strength k) n m pa X).1 (climbT (strength k) n m pa X).2.1 pa Y pb)]) ∧ Fr (fun _ => False) W w') := ⟨fun hc W v1 v2 b1 b2 hf h1 h2 => by
    obtain ⟨A1, c1, rfl, r1⟩ := h1.row (fun _ => False) (fun _ _ h => h)
    obtain ⟨A2, c2, rfl, r2⟩ := h2.row (fun _ => False) (fun _ _ h => h)
    refine (CollideTrees_calls k n m A1 A2 c1 c2 (climbT (strength k) n m pa X).1 (climbT (strength k) n m pa X).2.1 Y pa pb W (hL.fr hf (fun _ h => h.elim)) r1 r2 hM132 hM232 hY).mono ?_
    rintro e w' ⟨h | h, hfr⟩
    · exact ⟨h.2, hfr⟩
    · exact absurd h.1 hc⟩
  have CY : Kp (colT (strength k) n m (climbT (strength k) n m pa X).1 (climbT (strength k) n m pa X).2.1 pa Y pb = 0 → ∀ (W : World) (v1 v2 : Value) (b1 b2 : Nat), Fr (fun _ => False) w W → HOwn W b1 v1 pa → HOwn W b2 v2 pb → Calls Tryd.prog 19 #[.int .i64 k, .int .i64 n, .agg (bytes (climbT (strength k) n m pa X).1).toArray, .int .i64 m, .agg (bytes (climbT (strength k) n m pa X).2.1).toArray, v1, .agg (bytes Y).toArray, v2] W fun e w' =>
      ∃ s1 s2, e = .returned (.tuple #[.agg #[s1, s2], .int .i64 0]) ∧ PairAt w' (fun q => q < W.heap.size) s1 s2 QQ ∧ Fr (fun _ => False) W w') := ⟨fun hc W v1 v2 b1 b2 hf h1 h2 => by
    obtain ⟨A1, c1, rfl, r1⟩ := h1.row (fun _ => False) (fun _ _ h => h)
    obtain ⟨A2, c2, rfl, r2⟩ := h2.row (fun _ => False) (fun _ _ h => h)
    refine (CollideTrees_calls k n m A1 A2 c1 c2 (climbT (strength k) n m pa X).1 (climbT (strength k) n m pa X).2.1 Y pa pb W (hL.fr hf (fun _ h => h.elim)) r1 r2 hM132 hM232 hY).mono ?_
    rintro e w' ⟨h | ⟨_, P1, P2, B1, d1, B2, d2, he, x1, x2, hpd⟩, hfr⟩
    · exact absurd hc h.1
    · obtain ⟨z1, z2, z3⟩ := colT_zero.1 hc
      obtain ⟨y1, y2⟩ := trees_byt bM2 bY hpa hpb hpd
      obtain ⟨_, e1, _, _⟩ := checkT_zero z1
      obtain ⟨_, e2, _, _⟩ := checkT_zero z2
      obtain ⟨l1, l2⟩ := pairD_len hs (fresh_ok hM232 hP.1 e1) (fresh_ok hY hQ.1 e2) hpd
      exact ⟨_, _, he, ⟨B1, d1, P1, B2, d2, P2, rfl, rfl, x1, x2, by rw [hQQ]; exact ⟨y1, y2, trees_coll hs hM232 hY hP.1 hQ.1 z1 z2 hpd, l1, l2⟩⟩, hfr⟩⟩
  have HYES : Kp ((climbT (strength k) n m pa X).2.2 = 0 → checkT (strength k) n m pb (climbT (strength k) n m pa X).1 Y = 0 → (climbT (strength k) n m pa X).2.1 ≠ Y → colT (strength k) n m (climbT (strength k) n m pa X).1 (climbT (strength k) n m pa X).2.1 pa Y pb = 0) := ⟨fun h1 h2 h3 => colT_zero.2 ⟨check_again h1, h2, h3⟩⟩
  have HNOT : Kp (¬ (checkT (strength k) n m pb (climbT (strength k) n m pa X).1 Y = 0 ∧ (climbT (strength k) n m pa X).2.1 ≠ Y) → colT (strength k) n m (climbT (strength k) n m pa X).1 (climbT (strength k) n m pa X).2.1 pa Y pb ≠ 0) := ⟨fun h e => h (colT_zero.1 e).2⟩
  have hcode := climbT_code (s := strength k) (n := n) (m := m) (p := pa) (old := X)
  have CO : Kp (∀ (W : World) (v1 v2 : Value), Fr (fun _ => False) w W → PairAt W (fun _ => False) v1 v2 QQ → Calls Tryd.prog 21 #[.int .i64 k, v1, v2] W fun e w' => e = .returned (.bool true) ∧ Fr (fun _ => False) W w') := ⟨fun W v1 v2 hf h => by
    obtain ⟨A1, c1, P1, A2, c2, P2, rfl, rfl, s1, s2, hq⟩ := h
    rw [hQQ] at hq
    obtain ⟨y1, y2, hcp, l1, l2⟩ := hq
    have q := collides_calls k A1 A2 c1 c2 P1 P2 W (hL.fr hf (fun _ h => h.elim)) s1 s2 y1 y2 (by rw [l1]; decide) (by rw [l2]; decide)
    rw [decide_eq_true hcp] at q
    exact q⟩
  have CW : Kp (∀ W, Fr (fun _ => False) w W → Calls Tryd.prog 19 #[.int .i64 k, .int .i64 1, .agg (bytes X).toArray, .int .i64 1, .agg (bytes X).toArray, .slice none 0 0, .agg (bytes X).toArray, .slice none 0 0] W fun e w' => e = .returned (.tuple #[.agg #[.slice none 0 0, .slice none 0 0], .int .i64 92]) ∧ Fr (fun _ => False) W w') := ⟨fun W hf => own_trees k X hX W (hL.fr hf (fun _ h => h.elim))⟩
  have hcmp : ∀ W, (Op.equalIn 10000 23 (.agg (bytes (climbT (strength k) n m pa X).2.1).toArray) (.agg (bytes Y).toArray)).run Tryd.prog W = .ok (decide ((climbT (strength k) n m pa X).2.1 = Y)) W := fun W => eq32r _ _ hM232 hY W
  have HX32 := Kp.mk hX
  have HY32 := Kp.mk hY
  have HM132 := Kp.mk hM132
  have HM232 := Kp.mk hM232
  generalize checkT (strength k) n m pb (climbT (strength k) n m pa X).1 Y = ck at CK2 HYES HNOT
  generalize colT (strength k) n m (climbT (strength k) n m pa X).1 (climbT (strength k) n m pa X).2.1 pa Y pb = col at CN CY HYES HNOT
  generalize (climbT (strength k) n m pa X).1 = M1 at CT CK1 CK2 CN CY HM132
  generalize (climbT (strength k) n m pa X).2.1 = M2 at CT CK1 CN CY HYES HNOT hcmp HM232
  generalize (climbT (strength k) n m pa X).2.2 = cc at CT CK1 HYES hcode
  obtain ⟨qa, hqa⟩ : ∃ q, q = pa.length := ⟨_, rfl⟩
  obtain ⟨qb, hqb⟩ : ∃ q, q = pb.length := ⟨_, rfl⟩
  rw [← hqa] at CHa hk
  rw [← hqb] at CHb hk
  have HCODE := Kp.mk hcode
  have HK := Kp.mk hk
  have HCMP := Kp.mk hcmp
  have HCL := Kp.mk (And.intro hcl (And.intro eX eY))
  clear hk hL hX hY bX bY hP hQ hpa hpb lpa lpb hM132 hM232 bM2 hs hcode hcmp hqa hqb hQQ hcl eX eY
  go_enter Tryd.func4, Tryd.ntmps4
  go_upto_region 1 with (fail)
  obtain ⟨g1, hg1⟩ : ∃ g1, g1 = w.heap.size := ⟨_, rfl⟩
  obtain ⟨W1, hW1⟩ : ∃ W1, W1 = w.alloc (.cells cells.toArray 26) := ⟨_, rfl⟩
  have H1 : Kp (Blk W1 g1 26 cells) := ⟨by rw [hW1, hg1]; exact Blk.new w _ _⟩
  have HF1 : Kp (Fr (fun _ => False) w W1) := ⟨by rw [hW1]; exact (Fr.refl _ w).alloc _⟩
  rw [← hg1, ← hW1]
  clear hW1 hg1
  refine start_ (n := 9) (S := fun w' => Lds w' 3 (.pointer (some ⟨g1, 0, none⟩)) (.int .i64 k) ∧ Lds w' 3 (.pointer (some ⟨g1, 1, none⟩)) (.int .i64 n) ∧ Lds w' 3 (.pointer (some ⟨g1, 2, none⟩)) (.int .i64 m)) (ds := []) #[false, false, false, false, false, false, false, false, false] (by kernel_rfl) rfl rfl ⟨lds_nat (w := W1.drew) (H1.out.drew.cell 0 _ HK.out.1), lds_nat (w := W1.drew) (H1.out.drew.cell 1 _ HK.out.2.1), lds_nat (w := W1.drew) (H1.out.drew.cell 2 _ HK.out.2.2.1)⟩ (fun hHeld => ?_)
  refine pure_ (i := 0) (N := some 18) (v := ?_) (a' := ?_) #[true, false, false, false, false, false, false, false, false] rfl rfl (by kernel_rfl) (fun _ _ _ h => h) (Or.inl ⟨by rfl, ?_⟩) ?_ ?_
  rotate_left
  · intro w'
    go_simp
    with_reducible rfl
  rotate_left
  · simp only [Act.put, List.setIfInBounds_toArray, List.set_cons_zero, List.set_cons_succ]
    rfl
  refine pure_ (i := 2) (N := some 20) (v := ?_) (a' := ?_) #[true, false, true, false, false, false, false, false, false] rfl rfl (by kernel_rfl) (fun _ _ _ h => h) (Or.inl ⟨by rfl, ?_⟩) ?_ ?_
  rotate_left
  · intro w'
    go_simp
    with_reducible rfl
  rotate_left
  · simp only [Act.put, List.setIfInBounds_toArray, List.set_cons_zero, List.set_cons_succ]
    rfl
  refine pure_ (i := 4) (N := some 22) (v := ?_) (a' := ?_) #[true, false, true, false, true, false, false, false, false] rfl rfl (by kernel_rfl) (fun _ _ _ h => h) (Or.inl ⟨by rfl, ?_⟩) ?_ ?_
  rotate_left
  · intro w'
    go_simp
    with_reducible rfl
  rotate_left
  · simp only [Act.put, List.setIfInBounds_toArray, List.set_cons_zero, List.set_cons_succ]
    rfl
  refine take_ (i := 1) (N := some 19) (v := ?_) (a' := ?_) #[true, true, true, false, true, false, false, false, false] rfl rfl (by kernel_rfl) (fun _ _ _ h => h) (Or.inl ⟨by rfl, ?_⟩) hHeld ?_ ?_
  rotate_left
  · rintro w' ⟨s0, s1, s2⟩
    refine Lds.run s0 (x := ?_) ?_ ?_
    · exact (Operand.tmp 18)
    · rfl
    · rfl
  rotate_left
  · simp only [Act.put, List.setIfInBounds_toArray, List.set_cons_zero, List.set_cons_succ]
    rfl
  refine pure_ (i := 6) (N := some 3) (v := ?_) (a' := ?_) #[true, true, true, false, true, false, true, false, false] rfl rfl (by kernel_rfl) (fun _ _ _ h => h) (Or.inl ⟨by rfl, ?_⟩) ?_ ?_
  rotate_left
  · intro w'
    go_simp
    with_reducible rfl
  rotate_left
  · simp only [Act.put, List.setIfInBounds_toArray, List.set_cons_zero, List.set_cons_succ]
    rfl
  refine take_ (i := 3) (N := some 21) (v := ?_) (a' := ?_) #[true, true, true, true, true, false, true, false, false] rfl rfl (by kernel_rfl) (fun _ _ _ h => h) (Or.inl ⟨by rfl, ?_⟩) hHeld ?_ ?_
  rotate_left
  · rintro w' ⟨s0, s1, s2⟩
    refine Lds.run s1 (x := ?_) ?_ ?_
    · exact (Operand.tmp 20)
    · rfl
    · rfl
  rotate_left
  · simp only [Act.put, List.setIfInBounds_toArray, List.set_cons_zero, List.set_cons_succ]
    rfl
  refine pure_ (i := 7) (N := some 4) (v := ?_) (a' := ?_) #[true, true, true, true, true, false, true, true, false] rfl rfl (by kernel_rfl) (fun _ _ _ h => h) (Or.inl ⟨by rfl, ?_⟩) ?_ ?_
  rotate_left
  · intro w'
    go_simp
    with_reducible rfl
  rotate_left
  · simp only [Act.put, List.setIfInBounds_toArray, List.set_cons_zero, List.set_cons_succ]
    rfl
  refine take_ (i := 5) (N := some 23) (v := ?_) (a' := ?_) #[true, true, true, true, true, true, true, true, false] rfl rfl (by kernel_rfl) (fun _ _ _ h => h) (Or.inl ⟨by rfl, ?_⟩) hHeld ?_ ?_
  rotate_left
  · rintro w' ⟨s0, s1, s2⟩
    refine Lds.run s2 (x := ?_) ?_ ?_
    · exact (Operand.tmp 22)
    · rfl
    · rfl
  rotate_left
  · simp only [Act.put, List.setIfInBounds_toArray, List.set_cons_zero, List.set_cons_succ]
    rfl
  refine pure_ (i := 8) (N := some 5) (v := ?_) (a' := ?_) #[true, true, true, true, true, true, true, true, true] rfl rfl (by kernel_rfl) (fun _ _ _ h => h) (Or.inl ⟨by rfl, ?_⟩) ?_ ?_
  rotate_left
  · intro w'
    go_simp
    with_reducible rfl
  rotate_left
  · simp only [Act.put, List.setIfInBounds_toArray, List.set_cons_zero, List.set_cons_succ]
    rfl
  refine done_ (by kernel_rfl) ?_
  have HF2 := Kp.mk (HF1.out.drew)
  have H12 := Kp.mk (H1.out.drew)
  clear hHeld H1 HF1
  go_upto_region 2 with (fail)
  generalize W1.drew = W2 at HF2 H12 ⊢
  have LX : Kp (∀ W, Fr (fun _ => False) W2 W → Lds W 23 (.pointer (some ⟨g1, 6, none⟩)) (.agg (bytes X).toArray)) := ⟨fun W hf => lds_r32 (H12.out.fr hf (fun h => h)) (by rw [HCL.out.1]; decide) HCL.out.2.1 HX32.out⟩
  have LY : Kp (∀ W, Fr (fun _ => False) W2 W → Lds W 23 (.pointer (some ⟨g1, 38, none⟩)) (.agg (bytes Y).toArray)) := ⟨fun W hf => lds_r32 (H12.out.fr hf (fun h => h)) (by rw [HCL.out.1]; decide) HCL.out.2.2 HY32.out⟩
  refine start_ (n := 8) (S := fun w' => Fr (fun _ => False) W2 w') (ds := []) #[false, false, false, false, false, false, false, false] (by kernel_rfl) rfl rfl ((Fr.refl (fun _ => False) W2).drew) (fun hHeld => ?_)
  refine pure_ (i := 0) (N := some 24) (v := ?_) (a' := ?_) #[true, false, false, false, false, false, false, false] rfl rfl (by kernel_rfl) (fun _ _ _ h => h) (Or.inl ⟨by rfl, ?_⟩) ?_ ?_
  rotate_left
  · intro w'
    go_simp
    with_reducible rfl
  rotate_left
  · simp only [Act.put, List.setIfInBounds_toArray, List.set_cons_zero, List.set_cons_succ]
    rfl
  refine take_ (i := 1) (N := some 25) (v := ?_) (a' := ?_) #[true, true, false, false, false, false, false, false] rfl rfl (by kernel_rfl) (fun _ _ _ h => h) (Or.inl ⟨by rfl, ?_⟩) hHeld ?_ ?_
  rotate_left
  · intro w' s0
    refine Lds.run (LX.out w' s0) (x := ?_) ?_ ?_
    · exact (Operand.tmp 24)
    · rfl
    · rfl
  rotate_left
  · simp only [Act.put, List.setIfInBounds_toArray, List.set_cons_zero, List.set_cons_succ]
    rfl
  refine pure_ (i := 2) (N := some 26) (v := ?_) (a' := ?_) #[true, true, true, false, false, false, false, false] rfl rfl (by kernel_rfl) (fun _ _ _ h => h) (Or.inl ⟨by rfl, ?_⟩) ?_ ?_
  rotate_left
  · intro w'
    go_simp
    with_reducible rfl
  rotate_left
  · simp only [Act.put, List.setIfInBounds_toArray, List.set_cons_zero, List.set_cons_succ]
    rfl
  refine take_ (i := 3) (N := some 27) (v := ?_) (a' := ?_) #[true, true, true, true, false, false, false, false] rfl rfl (by kernel_rfl) (fun _ _ _ h => h) (Or.inl ⟨by rfl, ?_⟩) hHeld ?_ ?_
  rotate_left
  · intro w' s0
    refine Lds.run (LY.out w' s0) (x := ?_) ?_ ?_
    · exact (Operand.tmp 26)
    · rfl
    · rfl
  rotate_left
  · simp only [Act.put, List.setIfInBounds_toArray, List.set_cons_zero, List.set_cons_succ]
    rfl
  refine join_ (σ := Nat × Nat) 0 #[true, true, true, true, true, true, true, true] (fun (s : Nat × Nat) => match s with | (g6, g7) => show List (Tmp × Value) from [(24, .pointer (some ⟨g1, 6, none⟩)), (25, .agg (bytes X).toArray), (26, .pointer (some ⟨g1, 38, none⟩)), (27, .agg (bytes Y).toArray), (6, .pointer (some ⟨g6, 0, none⟩)), (7, .pointer (some ⟨g7, 0, none⟩))]) (fun (s : Nat × Nat) w' => match s with | (g6, g7) => Fr (fun _ => False) W2 w' ∧ Blk w' g6 23 (bytes X) ∧ Blk w' g7 23 (bytes Y) ∧ W2.heap.size ≤ g6 ∧ W2.heap.size ≤ g7 ∧ g6 ≠ g7) ?_ ?_
  rotate_left
  intro hD0
  refine join_ (σ := Nat × Nat) 1 #[true, true, true, true, true, true, true, false] (fun (s : Nat × Nat) => match s with | (g6, g7) => show List (Tmp × Value) from [(24, .pointer (some ⟨g1, 6, none⟩)), (25, .agg (bytes X).toArray), (26, .pointer (some ⟨g1, 38, none⟩)), (27, .agg (bytes Y).toArray), (6, .pointer (some ⟨g6, 0, none⟩)), (7, .pointer (some ⟨g7, 0, none⟩))]) (fun (s : Nat × Nat) w' => match s with | (g6, g7) => Fr (fun _ => False) W2 w' ∧ Blk w' g6 23 (bytes X) ∧ Blk w' g7 23 (bytes zr32) ∧ W2.heap.size ≤ g6 ∧ W2.heap.size ≤ g7 ∧ g6 ≠ g7) ?_ ?_
  rotate_left
  intro hD1
  refine join_ (σ := Nat × Nat) 2 #[true, true, true, true, true, true, false, false] (fun (s : Nat × Nat) => match s with | (g6, g7) => show List (Tmp × Value) from [(24, .pointer (some ⟨g1, 6, none⟩)), (25, .agg (bytes X).toArray), (26, .pointer (some ⟨g1, 38, none⟩)), (27, .agg (bytes Y).toArray), (6, .pointer (some ⟨g6, 0, none⟩)), (7, .pointer (some ⟨g7, 0, none⟩))]) (fun (s : Nat × Nat) w' => match s with | (g6, g7) => Fr (fun _ => False) W2 w' ∧ Blk w' g6 23 (bytes zr32) ∧ Blk w' g7 23 (bytes zr32) ∧ W2.heap.size ≤ g6 ∧ W2.heap.size ≤ g7 ∧ g6 ≠ g7) ?_ ?_
  rotate_left
  intro hD2
  refine join_ (σ := Nat) 3 #[true, true, true, true, true, false, false, false] (fun (g6 : Nat) => show List (Tmp × Value) from [(24, .pointer (some ⟨g1, 6, none⟩)), (25, .agg (bytes X).toArray), (26, .pointer (some ⟨g1, 38, none⟩)), (27, .agg (bytes Y).toArray), (6, .pointer (some ⟨g6, 0, none⟩))]) (fun (g6 : Nat) w' => Fr (fun _ => False) W2 w' ∧ Blk w' g6 23 (bytes zr32) ∧ W2.heap.size ≤ g6) ?_ ?_
  rotate_left
  intro hD3
  refine join_ (σ := Nat) 3 #[true, true, true, true, false, true, false, false] (fun (g7 : Nat) => show List (Tmp × Value) from [(24, .pointer (some ⟨g1, 6, none⟩)), (25, .agg (bytes X).toArray), (26, .pointer (some ⟨g1, 38, none⟩)), (27, .agg (bytes Y).toArray), (7, .pointer (some ⟨g7, 0, none⟩))]) (fun (g7 : Nat) w' => Fr (fun _ => False) W2 w' ∧ Blk w' g7 23 (bytes zr32) ∧ W2.heap.size ≤ g7) ?_ ?_
  rotate_left
  intro hD4
  · skip
    refine two_ (i := 4) (j := 5) (Ni := some 6) (Nj := some 7) #[true, true, true, true, true, false, false, false] #[true, true, true, true, false, true, false, false] rfl rfl rfl rfl (by kernel_rfl) (by decide) (by decide) (fun K hK => ?_) (fun K hK => ?_)
    · skip
      refine value_ (by rfl) rfl (al_row _ _ _ rfl) ?_
      have hal : Fr (fun _ => False) W2.drew (W2.drew.alloc (.cells (bytes zr32).toArray 23)) := (Fr.refl _ W2.drew).alloc _
      have Fy : Fr (fun _ => False) W2 (W2.drew.alloc (.cells (bytes zr32).toArray 23)) := hHeld.trans hal (fun _ _ h => h)
      have Byg6 : Blk (W2.drew.alloc (.cells (bytes zr32).toArray 23)) W2.drew.heap.size 23 (bytes zr32) := Blk.new W2.drew _ _
      have Gyg6 : W2.heap.size ≤ W2.drew.heap.size := hHeld.size
      refine hK.out _ _ Fy (fun _ => ?_)
      clear hK K
      refine norm_ (a' := ?_) ?_ ?_
      rotate_left
      · show Act.put _ (some 6) _ = _
        simp only [Act.put, List.setIfInBounds_toArray, List.set_cons_zero, List.set_cons_succ]
        rfl
      refine norm_ ?_ (hD3 W2.drew.heap.size _ ⟨Fy, Byg6, Gyg6⟩)
      simp only [putAll, Act.put, List.setIfInBounds_toArray, List.set_cons_zero, List.set_cons_succ]
    · skip
      refine value_ (by rfl) rfl (al_row _ _ _ rfl) ?_
      have hal : Fr (fun _ => False) W2.drew (W2.drew.alloc (.cells (bytes zr32).toArray 23)) := (Fr.refl _ W2.drew).alloc _
      have Fy : Fr (fun _ => False) W2 (W2.drew.alloc (.cells (bytes zr32).toArray 23)) := hHeld.trans hal (fun _ _ h => h)
      have Byg7 : Blk (W2.drew.alloc (.cells (bytes zr32).toArray 23)) W2.drew.heap.size 23 (bytes zr32) := Blk.new W2.drew _ _
      have Gyg7 : W2.heap.size ≤ W2.drew.heap.size := hHeld.size
      refine hK.out _ _ Fy (fun _ => ?_)
      clear hK K
      refine norm_ (a' := ?_) ?_ ?_
      rotate_left
      · show Act.put _ (some 7) _ = _
        simp only [Act.put, List.setIfInBounds_toArray, List.set_cons_zero, List.set_cons_succ]
        rfl
      refine norm_ ?_ (hD4 W2.drew.heap.size _ ⟨Fy, Byg7, Gyg7⟩)
      simp only [putAll, Act.put, List.setIfInBounds_toArray, List.set_cons_zero, List.set_cons_succ]
  rotate_left
  · skip
    rintro ⟨g6, g7⟩ wx ⟨Fx, Bg6, Bg7, Gg6, Gg7, NEg6g7⟩
    refine norm_ (a' := ?_) ?_ ?_
    rotate_left
    · simp only [putAll, Act.put, List.setIfInBounds_toArray, List.set_cons_zero, List.set_cons_succ]
      rfl
    refine one_ (i := 7) (N := none) #[true, true, true, true, true, true, true, true] rfl rfl (by kernel_rfl) (by decide) (fun K hK => ?_)
    refine skip_ (by rfl) rfl (st_ag _ _ (Operand.tmp 7) (Operand.tmp 27) wx 23 g7 0 (bytes Y) rfl rfl rfl (blk_there Bg7 0 _ (by rw [bytes_length, HY32.out]; exact Nat.le_refl 32)) (by rw [bytes_length, HY32.out]; kernel_rfl) (bytes_all1 Y)) ?_
    have hst : Fr (fun q => q = g7) wx (wx.setCells g7 0 (bytes Y)) := fr_setCells g7 (bytes Y) 0 _
    have Fy : Fr (fun _ => False) W2 (wx.setCells g7 0 (bytes Y)) := Fx.trans (S := fun _ => False) hst (fun q hq e => by have := Gg7; omega)
    have Byg7 : Blk (wx.setCells g7 0 (bytes Y)) g7 23 (bytes Y) := blk_over Bg7 (by rw [bytes_length, bytes_length, HY32.out]; rfl)
    have Byg6 := Bg6.fr hst (NEg6g7)
    refine hK.out _ _ Fy (fun _ => ?_)
    clear hK K
    refine norm_ ?_ (hD0 (g6, g7) _ ⟨Fy, Byg6, Byg7, Gg6, Gg7, NEg6g7⟩)
    simp only [putAll, Act.put, List.setIfInBounds_toArray, List.set_cons_zero, List.set_cons_succ]
  · skip
    rintro ⟨g6, g7⟩ wx ⟨Fx, Bg6, Bg7, Gg6, Gg7, NEg6g7⟩
    refine norm_ (a' := ?_) ?_ ?_
    rotate_left
    · simp only [putAll, Act.put, List.setIfInBounds_toArray, List.set_cons_zero, List.set_cons_succ]
      rfl
    refine one_ (i := 6) (N := none) #[true, true, true, true, true, true, true, false] rfl rfl (by kernel_rfl) (by decide) (fun K hK => ?_)
    refine skip_ (by rfl) rfl (st_ag _ _ (Operand.tmp 6) (Operand.tmp 25) wx 23 g6 0 (bytes X) rfl rfl rfl (blk_there Bg6 0 _ (by rw [bytes_length, HX32.out]; exact Nat.le_refl 32)) (by rw [bytes_length, HX32.out]; kernel_rfl) (bytes_all1 X)) ?_
    have hst : Fr (fun q => q = g6) wx (wx.setCells g6 0 (bytes X)) := fr_setCells g6 (bytes X) 0 _
    have Fy : Fr (fun _ => False) W2 (wx.setCells g6 0 (bytes X)) := Fx.trans (S := fun _ => False) hst (fun q hq e => by have := Gg6; omega)
    have Byg6 : Blk (wx.setCells g6 0 (bytes X)) g6 23 (bytes X) := blk_over Bg6 (by rw [bytes_length, bytes_length, HX32.out]; rfl)
    have Byg7 := Bg7.fr hst (NEg6g7.symm)
    refine hK.out _ _ Fy (fun _ => ?_)
    clear hK K
    refine norm_ ?_ (hD1 (g6, g7) _ ⟨Fy, Byg6, Byg7, Gg6, Gg7, NEg6g7⟩)
    simp only [putAll, Act.put, List.setIfInBounds_toArray, List.set_cons_zero, List.set_cons_succ]
  · skip
    rintro g6 wx ⟨Fx, Bg6, Gg6⟩
    refine norm_ (a' := ?_) ?_ ?_
    rotate_left
    · simp only [putAll, Act.put, List.setIfInBounds_toArray, List.set_cons_zero, List.set_cons_succ]
      rfl
    refine one_ (i := 5) (N := some 7) #[true, true, true, true, true, true, false, false] rfl rfl (by kernel_rfl) (by decide) (fun K hK => ?_)
    refine value_ (by rfl) rfl (al_row _ _ _ rfl) ?_
    have hal : Fr (fun _ => False) wx (wx.alloc (.cells (bytes zr32).toArray 23)) := (Fr.refl _ wx).alloc _
    have Fy : Fr (fun _ => False) W2 (wx.alloc (.cells (bytes zr32).toArray 23)) := Fx.trans hal (fun _ _ h => h)
    have Byg7 : Blk (wx.alloc (.cells (bytes zr32).toArray 23)) wx.heap.size 23 (bytes zr32) := Blk.new wx _ _
    have Gyg7 : W2.heap.size ≤ wx.heap.size := Fx.size
    have Byg6 := Bg6.fr hal (fun h => h)
    have NEyg6 : g6 ≠ wx.heap.size := Nat.ne_of_lt Bg6.lt
    refine hK.out _ _ Fy (fun _ => ?_)
    clear hK K
    refine norm_ (a' := ?_) ?_ ?_
    rotate_left
    · show Act.put _ (some 7) _ = _
      simp only [Act.put, List.setIfInBounds_toArray, List.set_cons_zero, List.set_cons_succ]
      rfl
    refine norm_ ?_ (hD2 (g6, wx.heap.size) _ ⟨Fy, Byg6, Byg7, Gg6, Gyg7, NEyg6⟩)
    simp only [putAll, Act.put, List.setIfInBounds_toArray, List.set_cons_zero, List.set_cons_succ]
  · skip
    rintro g7 wx ⟨Fx, Bg7, Gg7⟩
    refine norm_ (a' := ?_) ?_ ?_
    rotate_left
    · simp only [putAll, Act.put, List.setIfInBounds_toArray, List.set_cons_zero, List.set_cons_succ]
      rfl
    refine one_ (i := 4) (N := some 6) #[true, true, true, true, true, true, false, false] rfl rfl (by kernel_rfl) (by decide) (fun K hK => ?_)
    refine value_ (by rfl) rfl (al_row _ _ _ rfl) ?_
    have hal : Fr (fun _ => False) wx (wx.alloc (.cells (bytes zr32).toArray 23)) := (Fr.refl _ wx).alloc _
    have Fy : Fr (fun _ => False) W2 (wx.alloc (.cells (bytes zr32).toArray 23)) := Fx.trans hal (fun _ _ h => h)
    have Byg6 : Blk (wx.alloc (.cells (bytes zr32).toArray 23)) wx.heap.size 23 (bytes zr32) := Blk.new wx _ _
    have Gyg6 : W2.heap.size ≤ wx.heap.size := Fx.size
    have Byg7 := Bg7.fr hal (fun h => h)
    have NEyg7 : g7 ≠ wx.heap.size := Nat.ne_of_lt Bg7.lt
    refine hK.out _ _ Fy (fun _ => ?_)
    clear hK K
    refine norm_ (a' := ?_) ?_ ?_
    rotate_left
    · show Act.put _ (some 6) _ = _
      simp only [Act.put, List.setIfInBounds_toArray, List.set_cons_zero, List.set_cons_succ]
      rfl
    refine norm_ ?_ (hD2 (wx.heap.size, g7) _ ⟨Fy, Byg6, Byg7, Gyg6, Gg7, NEyg7.symm⟩)
    simp only [putAll, Act.put, List.setIfInBounds_toArray, List.set_cons_zero, List.set_cons_succ]
  rintro ⟨g6, g7⟩ wx ⟨Fx, Bg6, Bg7, Gg6, Gg7, NEg6g7⟩
  refine norm_ (a' := ?_) ?_ ?_
  rotate_left
  · simp only [putAll, Act.put, List.setIfInBounds_toArray, List.set_cons_zero, List.set_cons_succ]
    rfl
  refine done_ (by kernel_rfl) ?_
  have HF3 := Kp.mk (HF2.out.trans Fx (fun _ _ h => h))
  have H13 := Kp.mk (H12.out.fr Fx (fun h => h))
  have H63 := Kp.mk Bg6
  have H73 := Kp.mk Bg7
  clear hHeld LX LY HF2 H12 Fx Bg6 Bg7 Gg6 Gg7 NEg6g7
  go_upto_region 3 with (fail)
  generalize wx = W3 at HF3 H13 H63 H73 ⊢
  refine start_ (n := 6) (S := fun w' => Lds w' 24 (.pointer (some ⟨g1, 70, none⟩)) (.slice PA qa cA) ∧ Lds w' 24 (.pointer (some ⟨g1, 71, none⟩)) (.slice PB qb cB)) (ds := []) #[false, false, false, false, false, false] (by kernel_rfl) rfl rfl ⟨lds_rws2 (w := W3.drew) (H13.out.drew.cell 70 _ HK.out.2.2.2.1), lds_rws2 (w := W3.drew) (H13.out.drew.cell 71 _ HK.out.2.2.2.2)⟩ (fun hHeld => ?_)
  refine pure_ (i := 0) (N := some 28) (v := ?_) (a' := ?_) #[true, false, false, false, false, false] rfl rfl (by kernel_rfl) (fun _ _ _ h => h) (Or.inl ⟨by rfl, ?_⟩) ?_ ?_
  rotate_left
  · intro w'
    go_simp
    with_reducible rfl
  rotate_left
  · simp only [Act.put, List.setIfInBounds_toArray, List.set_cons_zero, List.set_cons_succ]
    rfl
  refine pure_ (i := 2) (N := some 30) (v := ?_) (a' := ?_) #[true, false, true, false, false, false] rfl rfl (by kernel_rfl) (fun _ _ _ h => h) (Or.inl ⟨by rfl, ?_⟩) ?_ ?_
  rotate_left
  · intro w'
    go_simp
    with_reducible rfl
  rotate_left
  · simp only [Act.put, List.setIfInBounds_toArray, List.set_cons_zero, List.set_cons_succ]
    rfl
  refine take_ (i := 1) (N := some 29) (v := ?_) (a' := ?_) #[true, true, true, false, false, false] rfl rfl (by kernel_rfl) (fun _ _ _ h => h) (Or.inl ⟨by rfl, ?_⟩) hHeld ?_ ?_
  rotate_left
  · rintro w' ⟨s0, s1⟩
    refine Lds.run s0 (x := ?_) ?_ ?_
    · exact (Operand.tmp 28)
    · rfl
    · rfl
  rotate_left
  · simp only [Act.put, List.setIfInBounds_toArray, List.set_cons_zero, List.set_cons_succ]
    rfl
  refine pure_ (i := 4) (N := some 8) (v := ?_) (a' := ?_) #[true, true, true, false, true, false] rfl rfl (by kernel_rfl) (fun _ _ _ h => h) (Or.inl ⟨by rfl, ?_⟩) ?_ ?_
  rotate_left
  · intro w'
    go_simp
    with_reducible rfl
  rotate_left
  · simp only [Act.put, List.setIfInBounds_toArray, List.set_cons_zero, List.set_cons_succ]
    rfl
  refine take_ (i := 3) (N := some 31) (v := ?_) (a' := ?_) #[true, true, true, true, true, false] rfl rfl (by kernel_rfl) (fun _ _ _ h => h) (Or.inl ⟨by rfl, ?_⟩) hHeld ?_ ?_
  rotate_left
  · rintro w' ⟨s0, s1⟩
    refine Lds.run s1 (x := ?_) ?_ ?_
    · exact (Operand.tmp 30)
    · rfl
    · rfl
  rotate_left
  · simp only [Act.put, List.setIfInBounds_toArray, List.set_cons_zero, List.set_cons_succ]
    rfl
  refine pure_ (i := 5) (N := some 9) (v := ?_) (a' := ?_) #[true, true, true, true, true, true] rfl rfl (by kernel_rfl) (fun _ _ _ h => h) (Or.inl ⟨by rfl, ?_⟩) ?_ ?_
  rotate_left
  · intro w'
    go_simp
    with_reducible rfl
  rotate_left
  · simp only [Act.put, List.setIfInBounds_toArray, List.set_cons_zero, List.set_cons_succ]
    rfl
  refine done_ (by kernel_rfl) ?_
  have HF4 := Kp.mk (HF3.out.drew)
  have H64 := Kp.mk (H63.out.drew)
  have H74 := Kp.mk (H73.out.drew)
  clear hHeld H13 HF3 H63 H73
  go_upto_region 4 with (fail)
  generalize W3.drew = W4 at HF4 H64 H74 ⊢
  have LD6 : Kp (∀ W, Fr (fun _ => False) W4 W → Lds W 23 (.pointer (some ⟨g6, 0, none⟩)) (.agg (bytes X).toArray)) := ⟨fun W hf => lds_h32 (H64.out.fr hf (fun h => h)) HX32.out⟩
  have CHX : Kp (∀ W, Fr (fun _ => False) W4 W → Calls Tryd.prog 18 #[.slice PA qa cA] W fun e w' => ∃ v, e = .returned v ∧ HOwn w' W4.heap.size v pa ∧ Fr (fun _ => False) W w') :=
    ⟨fun W hf => (CHa.out W (HF4.out.trans hf (fun _ _ h => h))).mono fun e w' h => by
      obtain ⟨v, he, ho, hfr⟩ := h
      exact ⟨v, he, ho.low hf.size, hfr⟩⟩
  refine start_ (n := 16) (S := fun w' => Fr (fun _ => False) W4 w') (ds := []) #[false, false, false, false, false, false, false, false, false, false, false, false, false, false, false, false] (by kernel_rfl) rfl rfl ((Fr.refl (fun _ => False) W4).drew) (fun hHeld => ?_)
  refine pure_ (i := 0) (N := some 33) (v := ?_) (a' := ?_) #[true, false, false, false, false, false, false, false, false, false, false, false, false, false, false, false] rfl rfl (by kernel_rfl) (fun _ _ _ h => h) (Or.inl ⟨by rfl, ?_⟩) ?_ ?_
  rotate_left
  · intro w'
    go_simp
    with_reducible rfl
  rotate_left
  · simp only [Act.put, List.setIfInBounds_toArray, List.set_cons_zero, List.set_cons_succ]
    rfl
  refine pure_ (i := 1) (N := some 34) (v := ?_) (a' := ?_) #[true, true, false, false, false, false, false, false, false, false, false, false, false, false, false, false] rfl rfl (by kernel_rfl) (fun _ _ _ h => h) (Or.inl ⟨by rfl, ?_⟩) ?_ ?_
  rotate_left
  · intro w'
    go_simp
    with_reducible rfl
  rotate_left
  · simp only [Act.put, List.setIfInBounds_toArray, List.set_cons_zero, List.set_cons_succ]
    rfl
  refine pure_ (i := 3) (N := some 36) (v := ?_) (a' := ?_) #[true, true, false, true, false, false, false, false, false, false, false, false, false, false, false, false] rfl rfl (by kernel_rfl) (fun _ _ _ h => h) (Or.inl ⟨by rfl, ?_⟩) ?_ ?_
  rotate_left
  · intro w'
    go_simp
    with_reducible rfl
  rotate_left
  · simp only [Act.put, List.setIfInBounds_toArray, List.set_cons_zero, List.set_cons_succ]
    rfl
  refine pure_ (i := 4) (N := some 37) (v := ?_) (a' := ?_) #[true, true, false, true, true, false, false, false, false, false, false, false, false, false, false, false] rfl rfl (by kernel_rfl) (fun _ _ _ h => h) (Or.inl ⟨by rfl, ?_⟩) ?_ ?_
  rotate_left
  · intro w'
    go_simp
    with_reducible rfl
  rotate_left
  · simp only [Act.put, List.setIfInBounds_toArray, List.set_cons_zero, List.set_cons_succ]
    rfl
  refine take_ (i := 5) (N := some 38) (v := ?_) (a' := ?_) #[true, true, false, true, true, true, false, false, false, false, false, false, false, false, false, false] rfl rfl (by kernel_rfl) (fun _ _ _ h => h) (Or.inl ⟨by rfl, ?_⟩) hHeld ?_ ?_
  rotate_left
  · intro w' s0
    refine Lds.run (LD6.out w' s0) (x := ?_) ?_ ?_
    · exact (Operand.tmp 6)
    · rfl
    · rfl
  rotate_left
  · simp only [Act.put, List.setIfInBounds_toArray, List.set_cons_zero, List.set_cons_succ]
    rfl
  refine join_ (σ := Nat × Nat × Value) 0 #[true, true, true, true, true, true, true, true, true, true, true, true, true, true, true, true] (fun (s : Nat × Nat × Value) => match s with | (g10, g11, vh) => show List (Tmp × Value) from [(33, .int .i64 k), (34, .slice PA qa cA), (35, vh), (36, .int .i64 n), (37, .int .i64 m), (38, .agg (bytes X).toArray), (39, .tuple #[.agg (bytes M1).toArray, .agg (bytes M2).toArray, .int .i64 cc]), (32, .tuple #[.agg (bytes M1).toArray, .agg (bytes M2).toArray, .int .i64 cc]), (40, .agg (bytes M1).toArray), (41, .agg (bytes M2).toArray), (42, .int .i64 cc), (10, .pointer (some ⟨g10, 0, none⟩)), (11, .pointer (some ⟨g11, 0, none⟩)), (12, .int .i64 cc)]) (fun (s : Nat × Nat × Value) w' => match s with | (g10, g11, vh) => Fr (fun _ => False) W4 w' ∧ Blk w' g10 29 (bytes M1) ∧ Blk w' g11 29 (bytes M2) ∧ W4.heap.size ≤ g10 ∧ W4.heap.size ≤ g11 ∧ g10 ≠ g11) ?_ ?_
  rotate_left
  intro hD0
  refine join_ (σ := Nat × Nat × Value) 2 #[true, true, true, true, true, true, true, true, true, true, true, true, true, true, false, false] (fun (s : Nat × Nat × Value) => match s with | (g10, g11, vh) => show List (Tmp × Value) from [(33, .int .i64 k), (34, .slice PA qa cA), (35, vh), (36, .int .i64 n), (37, .int .i64 m), (38, .agg (bytes X).toArray), (39, .tuple #[.agg (bytes M1).toArray, .agg (bytes M2).toArray, .int .i64 cc]), (32, .tuple #[.agg (bytes M1).toArray, .agg (bytes M2).toArray, .int .i64 cc]), (40, .agg (bytes M1).toArray), (41, .agg (bytes M2).toArray), (42, .int .i64 cc), (10, .pointer (some ⟨g10, 0, none⟩)), (11, .pointer (some ⟨g11, 0, none⟩))]) (fun (s : Nat × Nat × Value) w' => match s with | (g10, g11, vh) => Fr (fun _ => False) W4 w' ∧ Blk w' g10 29 (bytes M1) ∧ Blk w' g11 29 (bytes zr32) ∧ W4.heap.size ≤ g10 ∧ W4.heap.size ≤ g11 ∧ g10 ≠ g11) ?_ ?_
  rotate_left
  intro hD1
  refine join_ (σ := Nat × Nat × Value) 3 #[true, true, true, true, true, true, true, true, true, true, true, true, true, false, false, false] (fun (s : Nat × Nat × Value) => match s with | (g10, g11, vh) => show List (Tmp × Value) from [(33, .int .i64 k), (34, .slice PA qa cA), (35, vh), (36, .int .i64 n), (37, .int .i64 m), (38, .agg (bytes X).toArray), (39, .tuple #[.agg (bytes M1).toArray, .agg (bytes M2).toArray, .int .i64 cc]), (32, .tuple #[.agg (bytes M1).toArray, .agg (bytes M2).toArray, .int .i64 cc]), (40, .agg (bytes M1).toArray), (41, .agg (bytes M2).toArray), (42, .int .i64 cc), (10, .pointer (some ⟨g10, 0, none⟩)), (11, .pointer (some ⟨g11, 0, none⟩))]) (fun (s : Nat × Nat × Value) w' => match s with | (g10, g11, vh) => Fr (fun _ => False) W4 w' ∧ Blk w' g10 29 (bytes zr32) ∧ Blk w' g11 29 (bytes zr32) ∧ W4.heap.size ≤ g10 ∧ W4.heap.size ≤ g11 ∧ g10 ≠ g11) ?_ ?_
  rotate_left
  intro hD2
  refine join_ (σ := Nat × Value) 4 #[true, true, true, true, true, true, true, true, true, true, true, true, false, false, false, false] (fun (s : Nat × Value) => match s with | (g10, vh) => show List (Tmp × Value) from [(33, .int .i64 k), (34, .slice PA qa cA), (35, vh), (36, .int .i64 n), (37, .int .i64 m), (38, .agg (bytes X).toArray), (39, .tuple #[.agg (bytes M1).toArray, .agg (bytes M2).toArray, .int .i64 cc]), (32, .tuple #[.agg (bytes M1).toArray, .agg (bytes M2).toArray, .int .i64 cc]), (40, .agg (bytes M1).toArray), (41, .agg (bytes M2).toArray), (42, .int .i64 cc), (10, .pointer (some ⟨g10, 0, none⟩))]) (fun (s : Nat × Value) w' => match s with | (g10, vh) => Fr (fun _ => False) W4 w' ∧ Blk w' g10 29 (bytes zr32) ∧ W4.heap.size ≤ g10) ?_ ?_
  rotate_left
  intro hD3
  refine join_ (σ := Nat × Value) 4 #[true, true, true, true, true, true, true, true, true, true, true, false, true, false, false, false] (fun (s : Nat × Value) => match s with | (g11, vh) => show List (Tmp × Value) from [(33, .int .i64 k), (34, .slice PA qa cA), (35, vh), (36, .int .i64 n), (37, .int .i64 m), (38, .agg (bytes X).toArray), (39, .tuple #[.agg (bytes M1).toArray, .agg (bytes M2).toArray, .int .i64 cc]), (32, .tuple #[.agg (bytes M1).toArray, .agg (bytes M2).toArray, .int .i64 cc]), (40, .agg (bytes M1).toArray), (41, .agg (bytes M2).toArray), (42, .int .i64 cc), (11, .pointer (some ⟨g11, 0, none⟩))]) (fun (s : Nat × Value) w' => match s with | (g11, vh) => Fr (fun _ => False) W4 w' ∧ Blk w' g11 29 (bytes zr32) ∧ W4.heap.size ≤ g11) ?_ ?_
  rotate_left
  intro hD4
  refine join_ (σ := Value) 5 #[true, true, true, true, true, true, true, true, true, true, true, false, false, false, false, false] (fun (vh : Value) => show List (Tmp × Value) from [(33, .int .i64 k), (34, .slice PA qa cA), (35, vh), (36, .int .i64 n), (37, .int .i64 m), (38, .agg (bytes X).toArray), (39, .tuple #[.agg (bytes M1).toArray, .agg (bytes M2).toArray, .int .i64 cc]), (32, .tuple #[.agg (bytes M1).toArray, .agg (bytes M2).toArray, .int .i64 cc]), (40, .agg (bytes M1).toArray), (41, .agg (bytes M2).toArray), (42, .int .i64 cc)]) (fun (vh : Value) w' => Fr (fun _ => False) W4 w') ?_ ?_
  rotate_left
  intro hD5
  refine join_ (σ := Nat × Nat × Value) 8 #[true, true, true, true, true, true, false, false, false, false, false, true, true, false, false, false] (fun (s : Nat × Nat × Value) => match s with | (g10, g11, vh) => show List (Tmp × Value) from [(33, .int .i64 k), (34, .slice PA qa cA), (35, vh), (36, .int .i64 n), (37, .int .i64 m), (38, .agg (bytes X).toArray), (10, .pointer (some ⟨g10, 0, none⟩)), (11, .pointer (some ⟨g11, 0, none⟩))]) (fun (s : Nat × Nat × Value) w' => match s with | (g10, g11, vh) => Fr (fun _ => False) W4 w' ∧ Blk w' g10 29 (bytes zr32) ∧ Blk w' g11 29 (bytes zr32) ∧ W4.heap.size ≤ g10 ∧ W4.heap.size ≤ g11 ∧ g10 ≠ g11 ∧ HOwn w' W4.heap.size vh pa) ?_ ?_
  rotate_left
  intro hD6
  refine join_ (σ := Nat × Value) 9 #[true, true, true, true, true, true, false, false, false, false, false, true, false, false, false, false] (fun (s : Nat × Value) => match s with | (g10, vh) => show List (Tmp × Value) from [(33, .int .i64 k), (34, .slice PA qa cA), (35, vh), (36, .int .i64 n), (37, .int .i64 m), (38, .agg (bytes X).toArray), (10, .pointer (some ⟨g10, 0, none⟩))]) (fun (s : Nat × Value) w' => match s with | (g10, vh) => Fr (fun _ => False) W4 w' ∧ Blk w' g10 29 (bytes zr32) ∧ W4.heap.size ≤ g10 ∧ HOwn w' W4.heap.size vh pa) ?_ ?_
  rotate_left
  intro hD7
  refine join_ (σ := Nat × Value) 9 #[true, true, true, true, true, true, false, false, false, false, false, false, true, false, false, false] (fun (s : Nat × Value) => match s with | (g11, vh) => show List (Tmp × Value) from [(33, .int .i64 k), (34, .slice PA qa cA), (35, vh), (36, .int .i64 n), (37, .int .i64 m), (38, .agg (bytes X).toArray), (11, .pointer (some ⟨g11, 0, none⟩))]) (fun (s : Nat × Value) w' => match s with | (g11, vh) => Fr (fun _ => False) W4 w' ∧ Blk w' g11 29 (bytes zr32) ∧ W4.heap.size ≤ g11 ∧ HOwn w' W4.heap.size vh pa) ?_ ?_
  rotate_left
  intro hD8
  refine join_ (σ := Nat × Nat) 9 #[true, true, false, true, true, true, false, false, false, false, false, true, true, false, false, false] (fun (s : Nat × Nat) => match s with | (g10, g11) => show List (Tmp × Value) from [(33, .int .i64 k), (34, .slice PA qa cA), (36, .int .i64 n), (37, .int .i64 m), (38, .agg (bytes X).toArray), (10, .pointer (some ⟨g10, 0, none⟩)), (11, .pointer (some ⟨g11, 0, none⟩))]) (fun (s : Nat × Nat) w' => match s with | (g10, g11) => Fr (fun _ => False) W4 w' ∧ Blk w' g10 29 (bytes zr32) ∧ Blk w' g11 29 (bytes zr32) ∧ W4.heap.size ≤ g10 ∧ W4.heap.size ≤ g11 ∧ g10 ≠ g11) ?_ ?_
  rotate_left
  intro hD9
  refine join_ (σ := Value) 10 #[true, true, true, true, true, true, false, false, false, false, false, false, false, false, false, false] (fun (vh : Value) => show List (Tmp × Value) from [(33, .int .i64 k), (34, .slice PA qa cA), (35, vh), (36, .int .i64 n), (37, .int .i64 m), (38, .agg (bytes X).toArray)]) (fun (vh : Value) w' => Fr (fun _ => False) W4 w' ∧ HOwn w' W4.heap.size vh pa) ?_ ?_
  rotate_left
  intro hD10
  refine join_ (σ := Nat) 10 #[true, true, false, true, true, true, false, false, false, false, false, true, false, false, false, false] (fun (g10 : Nat) => show List (Tmp × Value) from [(33, .int .i64 k), (34, .slice PA qa cA), (36, .int .i64 n), (37, .int .i64 m), (38, .agg (bytes X).toArray), (10, .pointer (some ⟨g10, 0, none⟩))]) (fun (g10 : Nat) w' => Fr (fun _ => False) W4 w' ∧ Blk w' g10 29 (bytes zr32) ∧ W4.heap.size ≤ g10) ?_ ?_
  rotate_left
  intro hD11
  refine join_ (σ := Nat) 10 #[true, true, false, true, true, true, false, false, false, false, false, false, true, false, false, false] (fun (g11 : Nat) => show List (Tmp × Value) from [(33, .int .i64 k), (34, .slice PA qa cA), (36, .int .i64 n), (37, .int .i64 m), (38, .agg (bytes X).toArray), (11, .pointer (some ⟨g11, 0, none⟩))]) (fun (g11 : Nat) w' => Fr (fun _ => False) W4 w' ∧ Blk w' g11 29 (bytes zr32) ∧ W4.heap.size ≤ g11) ?_ ?_
  rotate_left
  intro hD12
  · skip
    refine three_ (i := 2) (j := 11) (k := 12) (Ni := some 35) (Nj := some 10) (Nk := some 11) #[true, true, true, true, true, true, false, false, false, false, false, false, false, false, false, false] #[true, true, false, true, true, true, false, false, false, false, false, true, false, false, false, false] #[true, true, false, true, true, true, false, false, false, false, false, false, true, false, false, false] rfl rfl rfl rfl rfl rfl (by kernel_rfl) (by decide) (by decide) (by decide) (fun K hK => ?_) (fun K hK => ?_) (fun K hK => ?_)
    · skip
      refine goes_ Tryd.func18 (by kernel_rfl) rfl #[.slice PA qa cA] (by rfl) rfl rfl (by simp only [List.map_toArray, List.map_cons, List.map_nil]; rfl) ?_
      with_reducible refine (CHX.out _ hHeld).mono ?_
      rintro e wy ⟨vh, rfl, Xyvh, hq⟩
      refine ⟨_, rfl, ?_⟩
      have Fy : Fr (fun _ => False) W4 wy := hHeld.trans hq (fun _ _ h => h)
      refine hK.out _ _ Fy (fun _ => ?_)
      clear hK K
      refine norm_ (a' := ?_) ?_ ?_
      rotate_left
      · show Act.put _ (some 35) _ = _
        simp only [Act.put, List.setIfInBounds_toArray, List.set_cons_zero, List.set_cons_succ]
        rfl
      refine norm_ ?_ (hD10 vh _ ⟨Fy, Xyvh⟩)
      simp only [putAll, Act.put, List.setIfInBounds_toArray, List.set_cons_zero, List.set_cons_succ]
    · skip
      refine value_ (by rfl) rfl (al_hash _ _ _ rfl) ?_
      have hal : Fr (fun _ => False) W4.drew (W4.drew.alloc (.cells (bytes zr32).toArray 29)) := (Fr.refl _ W4.drew).alloc _
      have Fy : Fr (fun _ => False) W4 (W4.drew.alloc (.cells (bytes zr32).toArray 29)) := hHeld.trans hal (fun _ _ h => h)
      have Byg10 : Blk (W4.drew.alloc (.cells (bytes zr32).toArray 29)) W4.drew.heap.size 29 (bytes zr32) := Blk.new W4.drew _ _
      have Gyg10 : W4.heap.size ≤ W4.drew.heap.size := hHeld.size
      refine hK.out _ _ Fy (fun _ => ?_)
      clear hK K
      refine norm_ (a' := ?_) ?_ ?_
      rotate_left
      · show Act.put _ (some 10) _ = _
        simp only [Act.put, List.setIfInBounds_toArray, List.set_cons_zero, List.set_cons_succ]
        rfl
      refine norm_ ?_ (hD11 W4.drew.heap.size _ ⟨Fy, Byg10, Gyg10⟩)
      simp only [putAll, Act.put, List.setIfInBounds_toArray, List.set_cons_zero, List.set_cons_succ]
    · skip
      refine value_ (by rfl) rfl (al_hash _ _ _ rfl) ?_
      have hal : Fr (fun _ => False) W4.drew (W4.drew.alloc (.cells (bytes zr32).toArray 29)) := (Fr.refl _ W4.drew).alloc _
      have Fy : Fr (fun _ => False) W4 (W4.drew.alloc (.cells (bytes zr32).toArray 29)) := hHeld.trans hal (fun _ _ h => h)
      have Byg11 : Blk (W4.drew.alloc (.cells (bytes zr32).toArray 29)) W4.drew.heap.size 29 (bytes zr32) := Blk.new W4.drew _ _
      have Gyg11 : W4.heap.size ≤ W4.drew.heap.size := hHeld.size
      refine hK.out _ _ Fy (fun _ => ?_)
      clear hK K
      refine norm_ (a' := ?_) ?_ ?_
      rotate_left
      · show Act.put _ (some 11) _ = _
        simp only [Act.put, List.setIfInBounds_toArray, List.set_cons_zero, List.set_cons_succ]
        rfl
      refine norm_ ?_ (hD12 W4.drew.heap.size _ ⟨Fy, Byg11, Gyg11⟩)
      simp only [putAll, Act.put, List.setIfInBounds_toArray, List.set_cons_zero, List.set_cons_succ]
  rotate_left
  · skip
    rintro ⟨g10, g11, vh⟩ wx ⟨Fx, Bg10, Bg11, Gg10, Gg11, NEg10g11⟩
    refine norm_ (a' := ?_) ?_ ?_
    rotate_left
    · simp only [putAll, Act.put, List.setIfInBounds_toArray, List.set_cons_zero, List.set_cons_succ]
      rfl
    refine one_ (i := 14) (N := none) #[true, true, true, true, true, true, true, true, true, true, true, true, true, true, true, false] rfl rfl (by kernel_rfl) (by decide) (fun K hK => ?_)
    refine skip_ (by rfl) rfl (st_hash _ _ (Operand.tmp 11) (Operand.tmp 41) wx g11 _ _ M2 rfl rfl rfl Bg11 rfl HM232.out) ?_
    have hst : Fr (fun q => q = g11) wx (wx.setRow g11 (bytes M2).toArray) := ⟨rfl, rfl, rfl, by simp [World.setRow], fun q _ hq => setRow_other _ _ q _ hq⟩
    have Fy : Fr (fun _ => False) W4 (wx.setRow g11 (bytes M2).toArray) := Fx.trans (S := fun _ => False) hst (fun q hq e => by have := Gg11; omega)
    have Byg11 : Blk (wx.setRow g11 (bytes M2).toArray) g11 29 (bytes M2) := setRow_heap _ g11 _ _ _ _ Bg11
    have Byg10 := Bg10.fr hst (NEg10g11)
    refine hK.out _ _ Fy (fun _ => ?_)
    clear hK K
    refine pure_ (i := 15) (N := some 12) (v := ?_) (a' := ?_) #[true, true, true, true, true, true, true, true, true, true, true, true, true, true, true, true] rfl rfl (by kernel_rfl) (fun _ _ _ h => h) (Or.inl ⟨by rfl, ?_⟩) ?_ ?_
    rotate_left
    · intro w'
      go_simp
      with_reducible rfl
    rotate_left
    · simp only [Act.put, List.setIfInBounds_toArray, List.set_cons_zero, List.set_cons_succ]
      rfl
    refine norm_ ?_ (hD0 (g10, g11, vh) _ ⟨Fy, Byg10, Byg11, Gg10, Gg11, NEg10g11⟩)
    simp only [putAll, Act.put, List.setIfInBounds_toArray, List.set_cons_zero, List.set_cons_succ]
  · skip
    rintro ⟨g10, g11, vh⟩ wx ⟨Fx, Bg10, Bg11, Gg10, Gg11, NEg10g11⟩
    refine norm_ (a' := ?_) ?_ ?_
    rotate_left
    · simp only [putAll, Act.put, List.setIfInBounds_toArray, List.set_cons_zero, List.set_cons_succ]
      rfl
    refine one_ (i := 13) (N := none) #[true, true, true, true, true, true, true, true, true, true, true, true, true, true, false, false] rfl rfl (by kernel_rfl) (by decide) (fun K hK => ?_)
    refine skip_ (by rfl) rfl (st_hash _ _ (Operand.tmp 10) (Operand.tmp 40) wx g10 _ _ M1 rfl rfl rfl Bg10 rfl HM132.out) ?_
    have hst : Fr (fun q => q = g10) wx (wx.setRow g10 (bytes M1).toArray) := ⟨rfl, rfl, rfl, by simp [World.setRow], fun q _ hq => setRow_other _ _ q _ hq⟩
    have Fy : Fr (fun _ => False) W4 (wx.setRow g10 (bytes M1).toArray) := Fx.trans (S := fun _ => False) hst (fun q hq e => by have := Gg10; omega)
    have Byg10 : Blk (wx.setRow g10 (bytes M1).toArray) g10 29 (bytes M1) := setRow_heap _ g10 _ _ _ _ Bg10
    have Byg11 := Bg11.fr hst (NEg10g11.symm)
    refine hK.out _ _ Fy (fun _ => ?_)
    clear hK K
    refine norm_ ?_ (hD1 (g10, g11, vh) _ ⟨Fy, Byg10, Byg11, Gg10, Gg11, NEg10g11⟩)
    simp only [putAll, Act.put, List.setIfInBounds_toArray, List.set_cons_zero, List.set_cons_succ]
  · skip
    rintro ⟨g10, vh⟩ wx ⟨Fx, Bg10, Gg10⟩
    refine norm_ (a' := ?_) ?_ ?_
    rotate_left
    · simp only [putAll, Act.put, List.setIfInBounds_toArray, List.set_cons_zero, List.set_cons_succ]
      rfl
    refine one_ (i := 12) (N := some 11) #[true, true, true, true, true, true, true, true, true, true, true, true, true, false, false, false] rfl rfl (by kernel_rfl) (by decide) (fun K hK => ?_)
    refine value_ (by rfl) rfl (al_hash _ _ _ rfl) ?_
    have hal : Fr (fun _ => False) wx (wx.alloc (.cells (bytes zr32).toArray 29)) := (Fr.refl _ wx).alloc _
    have Fy : Fr (fun _ => False) W4 (wx.alloc (.cells (bytes zr32).toArray 29)) := Fx.trans hal (fun _ _ h => h)
    have Byg11 : Blk (wx.alloc (.cells (bytes zr32).toArray 29)) wx.heap.size 29 (bytes zr32) := Blk.new wx _ _
    have Gyg11 : W4.heap.size ≤ wx.heap.size := Fx.size
    have Byg10 := Bg10.fr hal (fun h => h)
    have NEyg10 : g10 ≠ wx.heap.size := Nat.ne_of_lt Bg10.lt
    refine hK.out _ _ Fy (fun _ => ?_)
    clear hK K
    refine norm_ (a' := ?_) ?_ ?_
    rotate_left
    · show Act.put _ (some 11) _ = _
      simp only [Act.put, List.setIfInBounds_toArray, List.set_cons_zero, List.set_cons_succ]
      rfl
    refine norm_ ?_ (hD2 (g10, wx.heap.size, vh) _ ⟨Fy, Byg10, Byg11, Gg10, Gyg11, NEyg10⟩)
    simp only [putAll, Act.put, List.setIfInBounds_toArray, List.set_cons_zero, List.set_cons_succ]
  · skip
    rintro ⟨g11, vh⟩ wx ⟨Fx, Bg11, Gg11⟩
    refine norm_ (a' := ?_) ?_ ?_
    rotate_left
    · simp only [putAll, Act.put, List.setIfInBounds_toArray, List.set_cons_zero, List.set_cons_succ]
      rfl
    refine one_ (i := 11) (N := some 10) #[true, true, true, true, true, true, true, true, true, true, true, true, true, false, false, false] rfl rfl (by kernel_rfl) (by decide) (fun K hK => ?_)
    refine value_ (by rfl) rfl (al_hash _ _ _ rfl) ?_
    have hal : Fr (fun _ => False) wx (wx.alloc (.cells (bytes zr32).toArray 29)) := (Fr.refl _ wx).alloc _
    have Fy : Fr (fun _ => False) W4 (wx.alloc (.cells (bytes zr32).toArray 29)) := Fx.trans hal (fun _ _ h => h)
    have Byg10 : Blk (wx.alloc (.cells (bytes zr32).toArray 29)) wx.heap.size 29 (bytes zr32) := Blk.new wx _ _
    have Gyg10 : W4.heap.size ≤ wx.heap.size := Fx.size
    have Byg11 := Bg11.fr hal (fun h => h)
    have NEyg11 : g11 ≠ wx.heap.size := Nat.ne_of_lt Bg11.lt
    refine hK.out _ _ Fy (fun _ => ?_)
    clear hK K
    refine norm_ (a' := ?_) ?_ ?_
    rotate_left
    · show Act.put _ (some 10) _ = _
      simp only [Act.put, List.setIfInBounds_toArray, List.set_cons_zero, List.set_cons_succ]
      rfl
    refine norm_ ?_ (hD2 (wx.heap.size, g11, vh) _ ⟨Fy, Byg10, Byg11, Gyg10, Gg11, NEyg11.symm⟩)
    simp only [putAll, Act.put, List.setIfInBounds_toArray, List.set_cons_zero, List.set_cons_succ]
  · skip
    rintro vh wx Fx
    refine norm_ (a' := ?_) ?_ ?_
    rotate_left
    · simp only [putAll, Act.put, List.setIfInBounds_toArray, List.set_cons_zero, List.set_cons_succ]
      rfl
    refine two_ (i := 11) (j := 12) (Ni := some 10) (Nj := some 11) #[true, true, true, true, true, true, true, true, true, true, true, true, false, false, false, false] #[true, true, true, true, true, true, true, true, true, true, true, false, true, false, false, false] rfl rfl rfl rfl (by kernel_rfl) (by decide) (by decide) (fun K hK => ?_) (fun K hK => ?_)
    · skip
      refine value_ (by rfl) rfl (al_hash _ _ _ rfl) ?_
      have hal : Fr (fun _ => False) wx (wx.alloc (.cells (bytes zr32).toArray 29)) := (Fr.refl _ wx).alloc _
      have Fy : Fr (fun _ => False) W4 (wx.alloc (.cells (bytes zr32).toArray 29)) := Fx.trans hal (fun _ _ h => h)
      have Byg10 : Blk (wx.alloc (.cells (bytes zr32).toArray 29)) wx.heap.size 29 (bytes zr32) := Blk.new wx _ _
      have Gyg10 : W4.heap.size ≤ wx.heap.size := Fx.size
      refine hK.out _ _ Fy (fun _ => ?_)
      clear hK K
      refine norm_ (a' := ?_) ?_ ?_
      rotate_left
      · show Act.put _ (some 10) _ = _
        simp only [Act.put, List.setIfInBounds_toArray, List.set_cons_zero, List.set_cons_succ]
        rfl
      refine norm_ ?_ (hD3 (wx.heap.size, vh) _ ⟨Fy, Byg10, Gyg10⟩)
      simp only [putAll, Act.put, List.setIfInBounds_toArray, List.set_cons_zero, List.set_cons_succ]
    · skip
      refine value_ (by rfl) rfl (al_hash _ _ _ rfl) ?_
      have hal : Fr (fun _ => False) wx (wx.alloc (.cells (bytes zr32).toArray 29)) := (Fr.refl _ wx).alloc _
      have Fy : Fr (fun _ => False) W4 (wx.alloc (.cells (bytes zr32).toArray 29)) := Fx.trans hal (fun _ _ h => h)
      have Byg11 : Blk (wx.alloc (.cells (bytes zr32).toArray 29)) wx.heap.size 29 (bytes zr32) := Blk.new wx _ _
      have Gyg11 : W4.heap.size ≤ wx.heap.size := Fx.size
      refine hK.out _ _ Fy (fun _ => ?_)
      clear hK K
      refine norm_ (a' := ?_) ?_ ?_
      rotate_left
      · show Act.put _ (some 11) _ = _
        simp only [Act.put, List.setIfInBounds_toArray, List.set_cons_zero, List.set_cons_succ]
        rfl
      refine norm_ ?_ (hD4 (wx.heap.size, vh) _ ⟨Fy, Byg11, Gyg11⟩)
      simp only [putAll, Act.put, List.setIfInBounds_toArray, List.set_cons_zero, List.set_cons_succ]
  · skip
    rintro ⟨g10, g11, vh⟩ wx ⟨Fx, Bg10, Bg11, Gg10, Gg11, NEg10g11, Xvh⟩
    refine norm_ (a' := ?_) ?_ ?_
    rotate_left
    · simp only [putAll, Act.put, List.setIfInBounds_toArray, List.set_cons_zero, List.set_cons_succ]
      rfl
    refine one_ (i := 6) (N := some 39) #[true, true, true, true, true, true, true, false, false, false, false, true, true, false, false, false] rfl rfl (by kernel_rfl) (by decide) (fun K hK => ?_)
    refine goes_ Tryd.func17 (by kernel_rfl) rfl #[.int .i64 k, vh, .int .i64 n, .int .i64 m, .agg (bytes X).toArray] (by rfl) rfl rfl (by simp only [List.map_toArray, List.map_cons, List.map_nil]; rfl) ?_
    with_reducible refine (CT.out _ vh _ (HF4.out.trans Fx (fun _ _ h => h)) Xvh).mono ?_
    rintro e wy ⟨rfl, hq⟩
    refine ⟨_, rfl, ?_⟩
    have Fy : Fr (fun _ => False) W4 wy := Fx.trans hq (fun _ _ h => h)
    have Byg10 := Bg10.fr hq (fun h => h)
    have Byg11 := Bg11.fr hq (fun h => h)
    refine hK.out _ _ Fy (fun _ => ?_)
    clear hK K
    refine norm_ (a' := ?_) ?_ ?_
    rotate_left
    · show Act.put _ (some 39) _ = _
      simp only [Act.put, List.setIfInBounds_toArray, List.set_cons_zero, List.set_cons_succ]
      rfl
    refine pure_ (i := 7) (N := some 32) (v := ?_) (a' := ?_) #[true, true, true, true, true, true, true, true, false, false, false, true, true, false, false, false] rfl rfl (by kernel_rfl) (fun _ _ _ h => h) (Or.inl ⟨by rfl, ?_⟩) ?_ ?_
    rotate_left
    · intro w'
      go_simp
      with_reducible rfl
    rotate_left
    · simp only [Act.put, List.setIfInBounds_toArray, List.set_cons_zero, List.set_cons_succ]
      rfl
    refine pure_ (i := 8) (N := some 40) (v := ?_) (a' := ?_) #[true, true, true, true, true, true, true, true, true, false, false, true, true, false, false, false] rfl rfl (by kernel_rfl) (fun _ _ _ h => h) (Or.inl ⟨by rfl, ?_⟩) ?_ ?_
    rotate_left
    · intro w'
      go_simp
      with_reducible rfl
    rotate_left
    · simp only [Act.put, List.setIfInBounds_toArray, List.set_cons_zero, List.set_cons_succ]
      rfl
    refine pure_ (i := 9) (N := some 41) (v := ?_) (a' := ?_) #[true, true, true, true, true, true, true, true, true, true, false, true, true, false, false, false] rfl rfl (by kernel_rfl) (fun _ _ _ h => h) (Or.inl ⟨by rfl, ?_⟩) ?_ ?_
    rotate_left
    · intro w'
      go_simp
      with_reducible rfl
    rotate_left
    · simp only [Act.put, List.setIfInBounds_toArray, List.set_cons_zero, List.set_cons_succ]
      rfl
    refine pure_ (i := 10) (N := some 42) (v := ?_) (a' := ?_) #[true, true, true, true, true, true, true, true, true, true, true, true, true, false, false, false] rfl rfl (by kernel_rfl) (fun _ _ _ h => h) (Or.inl ⟨by rfl, ?_⟩) ?_ ?_
    rotate_left
    · intro w'
      go_simp
      with_reducible rfl
    rotate_left
    · simp only [Act.put, List.setIfInBounds_toArray, List.set_cons_zero, List.set_cons_succ]
      rfl
    refine norm_ ?_ (hD2 (g10, g11, vh) _ ⟨Fy, Byg10, Byg11, Gg10, Gg11, NEg10g11⟩)
    simp only [putAll, Act.put, List.setIfInBounds_toArray, List.set_cons_zero, List.set_cons_succ]
  · skip
    rintro ⟨g10, vh⟩ wx ⟨Fx, Bg10, Gg10, Xvh⟩
    refine norm_ (a' := ?_) ?_ ?_
    rotate_left
    · simp only [putAll, Act.put, List.setIfInBounds_toArray, List.set_cons_zero, List.set_cons_succ]
      rfl
    refine two_ (i := 6) (j := 12) (Ni := some 39) (Nj := some 11) #[true, true, true, true, true, true, true, false, false, false, false, true, false, false, false, false] #[true, true, true, true, true, true, false, false, false, false, false, true, true, false, false, false] rfl rfl rfl rfl (by kernel_rfl) (by decide) (by decide) (fun K hK => ?_) (fun K hK => ?_)
    · skip
      refine goes_ Tryd.func17 (by kernel_rfl) rfl #[.int .i64 k, vh, .int .i64 n, .int .i64 m, .agg (bytes X).toArray] (by rfl) rfl rfl (by simp only [List.map_toArray, List.map_cons, List.map_nil]; rfl) ?_
      with_reducible refine (CT.out _ vh _ (HF4.out.trans Fx (fun _ _ h => h)) Xvh).mono ?_
      rintro e wy ⟨rfl, hq⟩
      refine ⟨_, rfl, ?_⟩
      have Fy : Fr (fun _ => False) W4 wy := Fx.trans hq (fun _ _ h => h)
      have Byg10 := Bg10.fr hq (fun h => h)
      refine hK.out _ _ Fy (fun _ => ?_)
      clear hK K
      refine norm_ (a' := ?_) ?_ ?_
      rotate_left
      · show Act.put _ (some 39) _ = _
        simp only [Act.put, List.setIfInBounds_toArray, List.set_cons_zero, List.set_cons_succ]
        rfl
      refine pure_ (i := 7) (N := some 32) (v := ?_) (a' := ?_) #[true, true, true, true, true, true, true, true, false, false, false, true, false, false, false, false] rfl rfl (by kernel_rfl) (fun _ _ _ h => h) (Or.inl ⟨by rfl, ?_⟩) ?_ ?_
      rotate_left
      · intro w'
        go_simp
        with_reducible rfl
      rotate_left
      · simp only [Act.put, List.setIfInBounds_toArray, List.set_cons_zero, List.set_cons_succ]
        rfl
      refine pure_ (i := 8) (N := some 40) (v := ?_) (a' := ?_) #[true, true, true, true, true, true, true, true, true, false, false, true, false, false, false, false] rfl rfl (by kernel_rfl) (fun _ _ _ h => h) (Or.inl ⟨by rfl, ?_⟩) ?_ ?_
      rotate_left
      · intro w'
        go_simp
        with_reducible rfl
      rotate_left
      · simp only [Act.put, List.setIfInBounds_toArray, List.set_cons_zero, List.set_cons_succ]
        rfl
      refine pure_ (i := 9) (N := some 41) (v := ?_) (a' := ?_) #[true, true, true, true, true, true, true, true, true, true, false, true, false, false, false, false] rfl rfl (by kernel_rfl) (fun _ _ _ h => h) (Or.inl ⟨by rfl, ?_⟩) ?_ ?_
      rotate_left
      · intro w'
        go_simp
        with_reducible rfl
      rotate_left
      · simp only [Act.put, List.setIfInBounds_toArray, List.set_cons_zero, List.set_cons_succ]
        rfl
      refine pure_ (i := 10) (N := some 42) (v := ?_) (a' := ?_) #[true, true, true, true, true, true, true, true, true, true, true, true, false, false, false, false] rfl rfl (by kernel_rfl) (fun _ _ _ h => h) (Or.inl ⟨by rfl, ?_⟩) ?_ ?_
      rotate_left
      · intro w'
        go_simp
        with_reducible rfl
      rotate_left
      · simp only [Act.put, List.setIfInBounds_toArray, List.set_cons_zero, List.set_cons_succ]
        rfl
      refine norm_ ?_ (hD3 (g10, vh) _ ⟨Fy, Byg10, Gg10⟩)
      simp only [putAll, Act.put, List.setIfInBounds_toArray, List.set_cons_zero, List.set_cons_succ]
    · skip
      refine value_ (by rfl) rfl (al_hash _ _ _ rfl) ?_
      have hal : Fr (fun _ => False) wx (wx.alloc (.cells (bytes zr32).toArray 29)) := (Fr.refl _ wx).alloc _
      have Fy : Fr (fun _ => False) W4 (wx.alloc (.cells (bytes zr32).toArray 29)) := Fx.trans hal (fun _ _ h => h)
      have Byg11 : Blk (wx.alloc (.cells (bytes zr32).toArray 29)) wx.heap.size 29 (bytes zr32) := Blk.new wx _ _
      have Gyg11 : W4.heap.size ≤ wx.heap.size := Fx.size
      have Byg10 := Bg10.fr hal (fun h => h)
      have NEyg10 : g10 ≠ wx.heap.size := Nat.ne_of_lt Bg10.lt
      have Xyvh := Xvh.keep hal (fun _ _ h => h)
      refine hK.out _ _ Fy (fun _ => ?_)
      clear hK K
      refine norm_ (a' := ?_) ?_ ?_
      rotate_left
      · show Act.put _ (some 11) _ = _
        simp only [Act.put, List.setIfInBounds_toArray, List.set_cons_zero, List.set_cons_succ]
        rfl
      refine norm_ ?_ (hD6 (g10, wx.heap.size, vh) _ ⟨Fy, Byg10, Byg11, Gg10, Gyg11, NEyg10, Xyvh⟩)
      simp only [putAll, Act.put, List.setIfInBounds_toArray, List.set_cons_zero, List.set_cons_succ]
  · skip
    rintro ⟨g11, vh⟩ wx ⟨Fx, Bg11, Gg11, Xvh⟩
    refine norm_ (a' := ?_) ?_ ?_
    rotate_left
    · simp only [putAll, Act.put, List.setIfInBounds_toArray, List.set_cons_zero, List.set_cons_succ]
      rfl
    refine two_ (i := 6) (j := 11) (Ni := some 39) (Nj := some 10) #[true, true, true, true, true, true, true, false, false, false, false, false, true, false, false, false] #[true, true, true, true, true, true, false, false, false, false, false, true, true, false, false, false] rfl rfl rfl rfl (by kernel_rfl) (by decide) (by decide) (fun K hK => ?_) (fun K hK => ?_)
    · skip
      refine goes_ Tryd.func17 (by kernel_rfl) rfl #[.int .i64 k, vh, .int .i64 n, .int .i64 m, .agg (bytes X).toArray] (by rfl) rfl rfl (by simp only [List.map_toArray, List.map_cons, List.map_nil]; rfl) ?_
      with_reducible refine (CT.out _ vh _ (HF4.out.trans Fx (fun _ _ h => h)) Xvh).mono ?_
      rintro e wy ⟨rfl, hq⟩
      refine ⟨_, rfl, ?_⟩
      have Fy : Fr (fun _ => False) W4 wy := Fx.trans hq (fun _ _ h => h)
      have Byg11 := Bg11.fr hq (fun h => h)
      refine hK.out _ _ Fy (fun _ => ?_)
      clear hK K
      refine norm_ (a' := ?_) ?_ ?_
      rotate_left
      · show Act.put _ (some 39) _ = _
        simp only [Act.put, List.setIfInBounds_toArray, List.set_cons_zero, List.set_cons_succ]
        rfl
      refine pure_ (i := 7) (N := some 32) (v := ?_) (a' := ?_) #[true, true, true, true, true, true, true, true, false, false, false, false, true, false, false, false] rfl rfl (by kernel_rfl) (fun _ _ _ h => h) (Or.inl ⟨by rfl, ?_⟩) ?_ ?_
      rotate_left
      · intro w'
        go_simp
        with_reducible rfl
      rotate_left
      · simp only [Act.put, List.setIfInBounds_toArray, List.set_cons_zero, List.set_cons_succ]
        rfl
      refine pure_ (i := 8) (N := some 40) (v := ?_) (a' := ?_) #[true, true, true, true, true, true, true, true, true, false, false, false, true, false, false, false] rfl rfl (by kernel_rfl) (fun _ _ _ h => h) (Or.inl ⟨by rfl, ?_⟩) ?_ ?_
      rotate_left
      · intro w'
        go_simp
        with_reducible rfl
      rotate_left
      · simp only [Act.put, List.setIfInBounds_toArray, List.set_cons_zero, List.set_cons_succ]
        rfl
      refine pure_ (i := 9) (N := some 41) (v := ?_) (a' := ?_) #[true, true, true, true, true, true, true, true, true, true, false, false, true, false, false, false] rfl rfl (by kernel_rfl) (fun _ _ _ h => h) (Or.inl ⟨by rfl, ?_⟩) ?_ ?_
      rotate_left
      · intro w'
        go_simp
        with_reducible rfl
      rotate_left
      · simp only [Act.put, List.setIfInBounds_toArray, List.set_cons_zero, List.set_cons_succ]
        rfl
      refine pure_ (i := 10) (N := some 42) (v := ?_) (a' := ?_) #[true, true, true, true, true, true, true, true, true, true, true, false, true, false, false, false] rfl rfl (by kernel_rfl) (fun _ _ _ h => h) (Or.inl ⟨by rfl, ?_⟩) ?_ ?_
      rotate_left
      · intro w'
        go_simp
        with_reducible rfl
      rotate_left
      · simp only [Act.put, List.setIfInBounds_toArray, List.set_cons_zero, List.set_cons_succ]
        rfl
      refine norm_ ?_ (hD4 (g11, vh) _ ⟨Fy, Byg11, Gg11⟩)
      simp only [putAll, Act.put, List.setIfInBounds_toArray, List.set_cons_zero, List.set_cons_succ]
    · skip
      refine value_ (by rfl) rfl (al_hash _ _ _ rfl) ?_
      have hal : Fr (fun _ => False) wx (wx.alloc (.cells (bytes zr32).toArray 29)) := (Fr.refl _ wx).alloc _
      have Fy : Fr (fun _ => False) W4 (wx.alloc (.cells (bytes zr32).toArray 29)) := Fx.trans hal (fun _ _ h => h)
      have Byg10 : Blk (wx.alloc (.cells (bytes zr32).toArray 29)) wx.heap.size 29 (bytes zr32) := Blk.new wx _ _
      have Gyg10 : W4.heap.size ≤ wx.heap.size := Fx.size
      have Byg11 := Bg11.fr hal (fun h => h)
      have NEyg11 : g11 ≠ wx.heap.size := Nat.ne_of_lt Bg11.lt
      have Xyvh := Xvh.keep hal (fun _ _ h => h)
      refine hK.out _ _ Fy (fun _ => ?_)
      clear hK K
      refine norm_ (a' := ?_) ?_ ?_
      rotate_left
      · show Act.put _ (some 10) _ = _
        simp only [Act.put, List.setIfInBounds_toArray, List.set_cons_zero, List.set_cons_succ]
        rfl
      refine norm_ ?_ (hD6 (wx.heap.size, g11, vh) _ ⟨Fy, Byg10, Byg11, Gyg10, Gg11, NEyg11.symm, Xyvh⟩)
      simp only [putAll, Act.put, List.setIfInBounds_toArray, List.set_cons_zero, List.set_cons_succ]
  · skip
    rintro ⟨g10, g11⟩ wx ⟨Fx, Bg10, Bg11, Gg10, Gg11, NEg10g11⟩
    refine norm_ (a' := ?_) ?_ ?_
    rotate_left
    · simp only [putAll, Act.put, List.setIfInBounds_toArray, List.set_cons_zero, List.set_cons_succ]
      rfl
    refine one_ (i := 2) (N := some 35) #[true, true, true, true, true, true, false, false, false, false, false, true, true, false, false, false] rfl rfl (by kernel_rfl) (by decide) (fun K hK => ?_)
    refine goes_ Tryd.func18 (by kernel_rfl) rfl #[.slice PA qa cA] (by rfl) rfl rfl (by simp only [List.map_toArray, List.map_cons, List.map_nil]; rfl) ?_
    with_reducible refine (CHX.out _ Fx).mono ?_
    rintro e wy ⟨vh, rfl, Xyvh, hq⟩
    refine ⟨_, rfl, ?_⟩
    have Fy : Fr (fun _ => False) W4 wy := Fx.trans hq (fun _ _ h => h)
    have Byg10 := Bg10.fr hq (fun h => h)
    have Byg11 := Bg11.fr hq (fun h => h)
    refine hK.out _ _ Fy (fun _ => ?_)
    clear hK K
    refine norm_ (a' := ?_) ?_ ?_
    rotate_left
    · show Act.put _ (some 35) _ = _
      simp only [Act.put, List.setIfInBounds_toArray, List.set_cons_zero, List.set_cons_succ]
      rfl
    refine norm_ ?_ (hD6 (g10, g11, vh) _ ⟨Fy, Byg10, Byg11, Gg10, Gg11, NEg10g11, Xyvh⟩)
    simp only [putAll, Act.put, List.setIfInBounds_toArray, List.set_cons_zero, List.set_cons_succ]
  · skip
    rintro vh wx ⟨Fx, Xvh⟩
    refine norm_ (a' := ?_) ?_ ?_
    rotate_left
    · simp only [putAll, Act.put, List.setIfInBounds_toArray, List.set_cons_zero, List.set_cons_succ]
      rfl
    refine three_ (i := 6) (j := 11) (k := 12) (Ni := some 39) (Nj := some 10) (Nk := some 11) #[true, true, true, true, true, true, true, false, false, false, false, false, false, false, false, false] #[true, true, true, true, true, true, false, false, false, false, false, true, false, false, false, false] #[true, true, true, true, true, true, false, false, false, false, false, false, true, false, false, false] rfl rfl rfl rfl rfl rfl (by kernel_rfl) (by decide) (by decide) (by decide) (fun K hK => ?_) (fun K hK => ?_) (fun K hK => ?_)
    · skip
      refine goes_ Tryd.func17 (by kernel_rfl) rfl #[.int .i64 k, vh, .int .i64 n, .int .i64 m, .agg (bytes X).toArray] (by rfl) rfl rfl (by simp only [List.map_toArray, List.map_cons, List.map_nil]; rfl) ?_
      with_reducible refine (CT.out _ vh _ (HF4.out.trans Fx (fun _ _ h => h)) Xvh).mono ?_
      rintro e wy ⟨rfl, hq⟩
      refine ⟨_, rfl, ?_⟩
      have Fy : Fr (fun _ => False) W4 wy := Fx.trans hq (fun _ _ h => h)
      refine hK.out _ _ Fy (fun _ => ?_)
      clear hK K
      refine norm_ (a' := ?_) ?_ ?_
      rotate_left
      · show Act.put _ (some 39) _ = _
        simp only [Act.put, List.setIfInBounds_toArray, List.set_cons_zero, List.set_cons_succ]
        rfl
      refine pure_ (i := 7) (N := some 32) (v := ?_) (a' := ?_) #[true, true, true, true, true, true, true, true, false, false, false, false, false, false, false, false] rfl rfl (by kernel_rfl) (fun _ _ _ h => h) (Or.inl ⟨by rfl, ?_⟩) ?_ ?_
      rotate_left
      · intro w'
        go_simp
        with_reducible rfl
      rotate_left
      · simp only [Act.put, List.setIfInBounds_toArray, List.set_cons_zero, List.set_cons_succ]
        rfl
      refine pure_ (i := 8) (N := some 40) (v := ?_) (a' := ?_) #[true, true, true, true, true, true, true, true, true, false, false, false, false, false, false, false] rfl rfl (by kernel_rfl) (fun _ _ _ h => h) (Or.inl ⟨by rfl, ?_⟩) ?_ ?_
      rotate_left
      · intro w'
        go_simp
        with_reducible rfl
      rotate_left
      · simp only [Act.put, List.setIfInBounds_toArray, List.set_cons_zero, List.set_cons_succ]
        rfl
      refine pure_ (i := 9) (N := some 41) (v := ?_) (a' := ?_) #[true, true, true, true, true, true, true, true, true, true, false, false, false, false, false, false] rfl rfl (by kernel_rfl) (fun _ _ _ h => h) (Or.inl ⟨by rfl, ?_⟩) ?_ ?_
      rotate_left
      · intro w'
        go_simp
        with_reducible rfl
      rotate_left
      · simp only [Act.put, List.setIfInBounds_toArray, List.set_cons_zero, List.set_cons_succ]
        rfl
      refine pure_ (i := 10) (N := some 42) (v := ?_) (a' := ?_) #[true, true, true, true, true, true, true, true, true, true, true, false, false, false, false, false] rfl rfl (by kernel_rfl) (fun _ _ _ h => h) (Or.inl ⟨by rfl, ?_⟩) ?_ ?_
      rotate_left
      · intro w'
        go_simp
        with_reducible rfl
      rotate_left
      · simp only [Act.put, List.setIfInBounds_toArray, List.set_cons_zero, List.set_cons_succ]
        rfl
      refine norm_ ?_ (hD5 vh _ Fy)
      simp only [putAll, Act.put, List.setIfInBounds_toArray, List.set_cons_zero, List.set_cons_succ]
    · skip
      refine value_ (by rfl) rfl (al_hash _ _ _ rfl) ?_
      have hal : Fr (fun _ => False) wx (wx.alloc (.cells (bytes zr32).toArray 29)) := (Fr.refl _ wx).alloc _
      have Fy : Fr (fun _ => False) W4 (wx.alloc (.cells (bytes zr32).toArray 29)) := Fx.trans hal (fun _ _ h => h)
      have Byg10 : Blk (wx.alloc (.cells (bytes zr32).toArray 29)) wx.heap.size 29 (bytes zr32) := Blk.new wx _ _
      have Gyg10 : W4.heap.size ≤ wx.heap.size := Fx.size
      have Xyvh := Xvh.keep hal (fun _ _ h => h)
      refine hK.out _ _ Fy (fun _ => ?_)
      clear hK K
      refine norm_ (a' := ?_) ?_ ?_
      rotate_left
      · show Act.put _ (some 10) _ = _
        simp only [Act.put, List.setIfInBounds_toArray, List.set_cons_zero, List.set_cons_succ]
        rfl
      refine norm_ ?_ (hD7 (wx.heap.size, vh) _ ⟨Fy, Byg10, Gyg10, Xyvh⟩)
      simp only [putAll, Act.put, List.setIfInBounds_toArray, List.set_cons_zero, List.set_cons_succ]
    · skip
      refine value_ (by rfl) rfl (al_hash _ _ _ rfl) ?_
      have hal : Fr (fun _ => False) wx (wx.alloc (.cells (bytes zr32).toArray 29)) := (Fr.refl _ wx).alloc _
      have Fy : Fr (fun _ => False) W4 (wx.alloc (.cells (bytes zr32).toArray 29)) := Fx.trans hal (fun _ _ h => h)
      have Byg11 : Blk (wx.alloc (.cells (bytes zr32).toArray 29)) wx.heap.size 29 (bytes zr32) := Blk.new wx _ _
      have Gyg11 : W4.heap.size ≤ wx.heap.size := Fx.size
      have Xyvh := Xvh.keep hal (fun _ _ h => h)
      refine hK.out _ _ Fy (fun _ => ?_)
      clear hK K
      refine norm_ (a' := ?_) ?_ ?_
      rotate_left
      · show Act.put _ (some 11) _ = _
        simp only [Act.put, List.setIfInBounds_toArray, List.set_cons_zero, List.set_cons_succ]
        rfl
      refine norm_ ?_ (hD8 (wx.heap.size, vh) _ ⟨Fy, Byg11, Gyg11, Xyvh⟩)
      simp only [putAll, Act.put, List.setIfInBounds_toArray, List.set_cons_zero, List.set_cons_succ]
  · skip
    rintro g10 wx ⟨Fx, Bg10, Gg10⟩
    refine norm_ (a' := ?_) ?_ ?_
    rotate_left
    · simp only [putAll, Act.put, List.setIfInBounds_toArray, List.set_cons_zero, List.set_cons_succ]
      rfl
    refine two_ (i := 2) (j := 12) (Ni := some 35) (Nj := some 11) #[true, true, true, true, true, true, false, false, false, false, false, true, false, false, false, false] #[true, true, false, true, true, true, false, false, false, false, false, true, true, false, false, false] rfl rfl rfl rfl (by kernel_rfl) (by decide) (by decide) (fun K hK => ?_) (fun K hK => ?_)
    · skip
      refine goes_ Tryd.func18 (by kernel_rfl) rfl #[.slice PA qa cA] (by rfl) rfl rfl (by simp only [List.map_toArray, List.map_cons, List.map_nil]; rfl) ?_
      with_reducible refine (CHX.out _ Fx).mono ?_
      rintro e wy ⟨vh, rfl, Xyvh, hq⟩
      refine ⟨_, rfl, ?_⟩
      have Fy : Fr (fun _ => False) W4 wy := Fx.trans hq (fun _ _ h => h)
      have Byg10 := Bg10.fr hq (fun h => h)
      refine hK.out _ _ Fy (fun _ => ?_)
      clear hK K
      refine norm_ (a' := ?_) ?_ ?_
      rotate_left
      · show Act.put _ (some 35) _ = _
        simp only [Act.put, List.setIfInBounds_toArray, List.set_cons_zero, List.set_cons_succ]
        rfl
      refine norm_ ?_ (hD7 (g10, vh) _ ⟨Fy, Byg10, Gg10, Xyvh⟩)
      simp only [putAll, Act.put, List.setIfInBounds_toArray, List.set_cons_zero, List.set_cons_succ]
    · skip
      refine value_ (by rfl) rfl (al_hash _ _ _ rfl) ?_
      have hal : Fr (fun _ => False) wx (wx.alloc (.cells (bytes zr32).toArray 29)) := (Fr.refl _ wx).alloc _
      have Fy : Fr (fun _ => False) W4 (wx.alloc (.cells (bytes zr32).toArray 29)) := Fx.trans hal (fun _ _ h => h)
      have Byg11 : Blk (wx.alloc (.cells (bytes zr32).toArray 29)) wx.heap.size 29 (bytes zr32) := Blk.new wx _ _
      have Gyg11 : W4.heap.size ≤ wx.heap.size := Fx.size
      have Byg10 := Bg10.fr hal (fun h => h)
      have NEyg10 : g10 ≠ wx.heap.size := Nat.ne_of_lt Bg10.lt
      refine hK.out _ _ Fy (fun _ => ?_)
      clear hK K
      refine norm_ (a' := ?_) ?_ ?_
      rotate_left
      · show Act.put _ (some 11) _ = _
        simp only [Act.put, List.setIfInBounds_toArray, List.set_cons_zero, List.set_cons_succ]
        rfl
      refine norm_ ?_ (hD9 (g10, wx.heap.size) _ ⟨Fy, Byg10, Byg11, Gg10, Gyg11, NEyg10⟩)
      simp only [putAll, Act.put, List.setIfInBounds_toArray, List.set_cons_zero, List.set_cons_succ]
  · skip
    rintro g11 wx ⟨Fx, Bg11, Gg11⟩
    refine norm_ (a' := ?_) ?_ ?_
    rotate_left
    · simp only [putAll, Act.put, List.setIfInBounds_toArray, List.set_cons_zero, List.set_cons_succ]
      rfl
    refine two_ (i := 2) (j := 11) (Ni := some 35) (Nj := some 10) #[true, true, true, true, true, true, false, false, false, false, false, false, true, false, false, false] #[true, true, false, true, true, true, false, false, false, false, false, true, true, false, false, false] rfl rfl rfl rfl (by kernel_rfl) (by decide) (by decide) (fun K hK => ?_) (fun K hK => ?_)
    · skip
      refine goes_ Tryd.func18 (by kernel_rfl) rfl #[.slice PA qa cA] (by rfl) rfl rfl (by simp only [List.map_toArray, List.map_cons, List.map_nil]; rfl) ?_
      with_reducible refine (CHX.out _ Fx).mono ?_
      rintro e wy ⟨vh, rfl, Xyvh, hq⟩
      refine ⟨_, rfl, ?_⟩
      have Fy : Fr (fun _ => False) W4 wy := Fx.trans hq (fun _ _ h => h)
      have Byg11 := Bg11.fr hq (fun h => h)
      refine hK.out _ _ Fy (fun _ => ?_)
      clear hK K
      refine norm_ (a' := ?_) ?_ ?_
      rotate_left
      · show Act.put _ (some 35) _ = _
        simp only [Act.put, List.setIfInBounds_toArray, List.set_cons_zero, List.set_cons_succ]
        rfl
      refine norm_ ?_ (hD8 (g11, vh) _ ⟨Fy, Byg11, Gg11, Xyvh⟩)
      simp only [putAll, Act.put, List.setIfInBounds_toArray, List.set_cons_zero, List.set_cons_succ]
    · skip
      refine value_ (by rfl) rfl (al_hash _ _ _ rfl) ?_
      have hal : Fr (fun _ => False) wx (wx.alloc (.cells (bytes zr32).toArray 29)) := (Fr.refl _ wx).alloc _
      have Fy : Fr (fun _ => False) W4 (wx.alloc (.cells (bytes zr32).toArray 29)) := Fx.trans hal (fun _ _ h => h)
      have Byg10 : Blk (wx.alloc (.cells (bytes zr32).toArray 29)) wx.heap.size 29 (bytes zr32) := Blk.new wx _ _
      have Gyg10 : W4.heap.size ≤ wx.heap.size := Fx.size
      have Byg11 := Bg11.fr hal (fun h => h)
      have NEyg11 : g11 ≠ wx.heap.size := Nat.ne_of_lt Bg11.lt
      refine hK.out _ _ Fy (fun _ => ?_)
      clear hK K
      refine norm_ (a' := ?_) ?_ ?_
      rotate_left
      · show Act.put _ (some 10) _ = _
        simp only [Act.put, List.setIfInBounds_toArray, List.set_cons_zero, List.set_cons_succ]
        rfl
      refine norm_ ?_ (hD9 (wx.heap.size, g11) _ ⟨Fy, Byg10, Byg11, Gyg10, Gg11, NEyg11.symm⟩)
      simp only [putAll, Act.put, List.setIfInBounds_toArray, List.set_cons_zero, List.set_cons_succ]
  rintro ⟨g10, g11, vh⟩ wx ⟨Fx, Bg10, Bg11, Gg10, Gg11, NEg10g11⟩
  refine norm_ (a' := ?_) ?_ ?_
  rotate_left
  · simp only [putAll, Act.put, List.setIfInBounds_toArray, List.set_cons_zero, List.set_cons_succ]
    rfl
  refine done_ (by kernel_rfl) ?_
  have HF5 := Kp.mk (HF4.out.trans Fx (fun _ _ h => h))
  have H65 := Kp.mk (H64.out.fr Fx (fun h => h))
  have H75 := Kp.mk (H74.out.fr Fx (fun h => h))
  have H10_5 := Kp.mk Bg10
  have H11_5 := Kp.mk Bg11
  clear hHeld LD6 CHX HF4 H64 H74 Fx Bg10 Bg11 Gg10 Gg11 NEg10g11
  go_upto_region 5 with (fail)
  generalize wx = W5 at HF5 H65 H75 H10_5 H11_5 ⊢
  obtain ⟨mo6, ma6⟩ := mid_b H65.out HX32.out
  go_wp2_with (fail)
  refine (CW.out W5 HF5.out).mono ?_
  rintro e W6 ⟨rfl, hf⟩
  have HF6 := Kp.mk (HF5.out.trans hf (fun _ _ h => h))
  have H76 := Kp.mk (H75.out.fr hf (fun h => h))
  have H10_6 := Kp.mk (H10_5.out.fr hf (fun h => h))
  have H11_6 := Kp.mk (H11_5.out.fr hf (fun h => h))
  clear hf HF5 H65 H75 H10_5 H11_5 mo6 ma6 CW
  go_upto_region 6 with (fail)
  obtain ⟨g13, hg13⟩ : ∃ g, g = W6.heap.size := ⟨_, rfl⟩
  obtain ⟨W7, hW7⟩ : ∃ W, W = W6.alloc (.cells #[.slice none 0 0, .slice none 0 0] 36) := ⟨_, rfl⟩
  have hf : Fr (fun _ => False) W6 W7 := by rw [hW7]; exact (Fr.refl _ _).alloc _
  have hb13 : Blk W7 g13 36 [.slice none 0 0, .slice none 0 0] := by rw [hW7, hg13]; exact Blk.new W6 _ _
  rw [← hg13, ← hW7]
  have c130 : W7.cell? ⟨g13, 0, none⟩ = some (.slice none 0 0) := hb13.cell 0 _ rfl
  have HF_a := Kp.mk (HF6.out.trans hf (fun _ _ h => h))
  have H7_a := Kp.mk (H76.out.fr hf (fun h => h))
  have H10_a := Kp.mk (H10_6.out.fr hf (fun h => h))
  have H11_a := Kp.mk (H11_6.out.fr hf (fun h => h))
  clear hf hb13 hg13 hW7 HF6 H76 H10_6 H11_6
  go_upto_region 8 with (fail)
  clear c130
  rcases HCODE.out with hcc | hcc | hcc
  case inr.inl => subst hcc; go_wp2_with (fail); go_ret; exact ⟨rfl, HF_a.out⟩
  case inr.inr => subst hcc; go_wp2_with (fail); go_ret; exact ⟨rfl, HF_a.out⟩
  have hcol := fun h2 h3 => HYES.out hcc h2 h3
  have HYES2 := Kp.mk hcol
  clear hcol HYES
  subst hcc
  go_upto_region 10 with (fail)
  refine start_ (n := 9) (S := fun w' => Lds w' 29 (.pointer (some ⟨g10, 0, none⟩)) (.agg (bytes M1).toArray) ∧ Lds w' 29 (.pointer (some ⟨g11, 0, none⟩)) (.agg (bytes M2).toArray)) (ds := []) #[false, false, false, false, false, false, false, false, false] (by kernel_rfl) rfl rfl ⟨lds_hsh (H10_a.out.drew) HM132.out, lds_hsh (H11_a.out.drew) HM232.out⟩ (fun hHeld => ?_)
  refine pure_ (i := 0) (N := some 67) (v := ?_) (a' := ?_) #[true, false, false, false, false, false, false, false, false] rfl rfl (by kernel_rfl) (fun _ _ _ h => h) (Or.inl ⟨by rfl, ?_⟩) ?_ ?_
  rotate_left
  · intro w'
    go_simp
    with_reducible rfl
  rotate_left
  · simp only [Act.put, List.setIfInBounds_toArray, List.set_cons_zero, List.set_cons_succ]
    rfl
  refine pure_ (i := 1) (N := some 68) (v := ?_) (a' := ?_) #[true, true, false, false, false, false, false, false, false] rfl rfl (by kernel_rfl) (fun _ _ _ h => h) (Or.inl ⟨by rfl, ?_⟩) ?_ ?_
  rotate_left
  · intro w'
    go_simp
    with_reducible rfl
  rotate_left
  · simp only [Act.put, List.setIfInBounds_toArray, List.set_cons_zero, List.set_cons_succ]
    rfl
  refine pure_ (i := 3) (N := some 70) (v := ?_) (a' := ?_) #[true, true, false, true, false, false, false, false, false] rfl rfl (by kernel_rfl) (fun _ _ _ h => h) (Or.inl ⟨by rfl, ?_⟩) ?_ ?_
  rotate_left
  · intro w'
    go_simp
    with_reducible rfl
  rotate_left
  · simp only [Act.put, List.setIfInBounds_toArray, List.set_cons_zero, List.set_cons_succ]
    rfl
  refine pure_ (i := 5) (N := some 72) (v := ?_) (a' := ?_) #[true, true, false, true, false, true, false, false, false] rfl rfl (by kernel_rfl) (fun _ _ _ h => h) (Or.inl ⟨by rfl, ?_⟩) ?_ ?_
  rotate_left
  · intro w'
    go_simp
    with_reducible rfl
  rotate_left
  · simp only [Act.put, List.setIfInBounds_toArray, List.set_cons_zero, List.set_cons_succ]
    rfl
  refine take_ (i := 4) (N := some 71) (v := ?_) (a' := ?_) #[true, true, false, true, true, true, false, false, false] rfl rfl (by kernel_rfl) (fun _ _ _ h => h) (Or.inl ⟨by rfl, ?_⟩) hHeld ?_ ?_
  rotate_left
  · rintro w' ⟨s0, s1⟩
    refine Lds.run s0 (x := ?_) ?_ ?_
    · exact (Operand.tmp 10)
    · rfl
    · rfl
  rotate_left
  · simp only [Act.put, List.setIfInBounds_toArray, List.set_cons_zero, List.set_cons_succ]
    rfl
  refine take_ (i := 6) (N := some 73) (v := ?_) (a' := ?_) #[true, true, false, true, true, true, true, false, false] rfl rfl (by kernel_rfl) (fun _ _ _ h => h) (Or.inl ⟨by rfl, ?_⟩) hHeld ?_ ?_
  rotate_left
  · rintro w' ⟨s0, s1⟩
    refine Lds.run s1 (x := ?_) ?_ ?_
    · exact (Operand.tmp 11)
    · rfl
    · rfl
  rotate_left
  · simp only [Act.put, List.setIfInBounds_toArray, List.set_cons_zero, List.set_cons_succ]
    rfl
  refine one_ (i := 2) (N := some 69) #[true, true, true, true, true, true, true, false, false] rfl rfl (by kernel_rfl) (by decide) (fun K hK => ?_)
  refine goes_ Tryd.func18 (by kernel_rfl) rfl #[.slice PA qa cA] (by rfl) rfl rfl (by simp only [List.map_toArray, List.map_cons, List.map_nil]; rfl) ?_
  with_reducible refine (CHa.out _ HF_a.out.drew).mono ?_
  rintro e a1 ⟨v1, rfl, ho1, hf1⟩
  refine ⟨_, rfl, ?_⟩
  refine hK.out _ _ ⟨lds_hsh (H10_a.out.drew.fr hf1 (fun h => h)) HM132.out, lds_hsh (H11_a.out.drew.fr hf1 (fun h => h)) HM232.out⟩ (fun hHeld => ?_)
  clear hK K
  refine norm_ (a' := ?_) ?_ ?_
  rotate_left
  · show Act.put _ (some 69) _ = _
    simp only [Act.put, List.setIfInBounds_toArray, List.set_cons_zero, List.set_cons_succ]
    rfl
  refine one_ (i := 7) (N := some 74) #[true, true, true, true, true, true, true, true, false] rfl rfl (by kernel_rfl) (by decide) (fun K hK => ?_)
  refine goes_ Tryd.func20 (by kernel_rfl) rfl #[.int .i64 k, v1, .int .i64 n, .agg (bytes M1).toArray, .int .i64 m, .agg (bytes M2).toArray] (by rfl) rfl rfl (by simp only [List.map_toArray, List.map_cons, List.map_nil]; rfl) ?_
  with_reducible refine (CK1.out rfl _ v1 _ (HF_a.out.drew.trans hf1 (fun _ _ h => h)) ho1).mono ?_
  rintro e a2 ⟨rfl, hf2⟩
  refine ⟨_, rfl, ?_⟩
  refine hK.out _ _ ⟨lds_hsh ((H10_a.out.drew.fr hf1 (fun h => h)).fr hf2 (fun h => h)) HM132.out, lds_hsh ((H11_a.out.drew.fr hf1 (fun h => h)).fr hf2 (fun h => h)) HM232.out⟩ (fun hHeld => ?_)
  clear hK K
  refine norm_ (a' := ?_) ?_ ?_
  rotate_left
  · show Act.put _ (some 74) _ = _
    simp only [Act.put, List.setIfInBounds_toArray, List.set_cons_zero, List.set_cons_succ]
    rfl
  refine pure_ (i := 8) (N := some 75) (v := ?_) (a' := ?_) #[true, true, true, true, true, true, true, true, true] rfl rfl (by kernel_rfl) (fun _ _ _ h => h) (Or.inl ⟨by rfl, ?_⟩) ?_ ?_
  rotate_left
  · intro w'
    go_simp
    with_reducible rfl
  rotate_left
  · simp only [Act.put, List.setIfInBounds_toArray, List.set_cons_zero, List.set_cons_succ]
    rfl
  refine done_ (by kernel_rfl) ?_
  have HF_b := Kp.mk ((HF_a.out.drew.trans hf1 (fun _ _ h => h)).trans hf2 (fun _ _ h => h))
  have H7_b := Kp.mk ((H7_a.out.drew.fr hf1 (fun h => h)).fr hf2 (fun h => h))
  have H10_b := Kp.mk ((H10_a.out.drew.fr hf1 (fun h => h)).fr hf2 (fun h => h))
  have H11_b := Kp.mk ((H11_a.out.drew.fr hf1 (fun h => h)).fr hf2 (fun h => h))
  clear hHeld HF_a H7_a H10_a H11_a hf1 hf2 ho1
  have HF_a := HF_b
  have H7_a := H7_b
  have H10_a := H10_b
  have H11_a := H11_b
  clear HF_b H7_b H10_b H11_b
  generalize a2 = W8 at HF_a H7_a H10_a H11_a ⊢
  go_upto_region 12 with (fail)
  by_cases hyy : ck = 0 ∧ M2 ≠ Y
  · obtain ⟨hck, hq⟩ := hyy
    have hcol0 : col = 0 := HYES2.out hck hq
    subst hck
    refine start_ (n := 10) (S := fun w' => Lds w' 29 (.pointer (some ⟨g10, 0, none⟩)) (.agg (bytes M1).toArray) ∧ Lds w' 23 (.pointer (some ⟨g7, 0, none⟩)) (.agg (bytes Y).toArray)) (ds := []) #[false, false, false, false, false, false, false, false, false, false] (by kernel_rfl) rfl rfl ⟨lds_hsh (H10_a.out.drew) HM132.out, lds_h32 (H7_a.out.drew) HY32.out⟩ (fun hHeld => ?_)
    refine pure_ (i := 0) (N := some 76) (v := ?_) (a' := ?_) #[true, false, false, false, false, false, false, false, false, false] rfl rfl (by kernel_rfl) (fun _ _ _ h => h) (Or.inl ⟨by rfl, ?_⟩) ?_ ?_
    rotate_left
    · intro w'
      go_simp
      with_reducible rfl
    rotate_left
    · simp only [Act.put, List.setIfInBounds_toArray, List.set_cons_zero, List.set_cons_succ]
      rfl
    refine pure_ (i := 1) (N := some 77) (v := ?_) (a' := ?_) #[true, true, false, false, false, false, false, false, false, false] rfl rfl (by kernel_rfl) (fun _ _ _ h => h) (Or.inl ⟨by rfl, ?_⟩) ?_ ?_
    rotate_left
    · intro w'
      go_simp
      with_reducible rfl
    rotate_left
    · simp only [Act.put, List.setIfInBounds_toArray, List.set_cons_zero, List.set_cons_succ]
      rfl
    refine pure_ (i := 3) (N := some 79) (v := ?_) (a' := ?_) #[true, true, false, true, false, false, false, false, false, false] rfl rfl (by kernel_rfl) (fun _ _ _ h => h) (Or.inl ⟨by rfl, ?_⟩) ?_ ?_
    rotate_left
    · intro w'
      go_simp
      with_reducible rfl
    rotate_left
    · simp only [Act.put, List.setIfInBounds_toArray, List.set_cons_zero, List.set_cons_succ]
      rfl
    refine pure_ (i := 5) (N := some 81) (v := ?_) (a' := ?_) #[true, true, false, true, false, true, false, false, false, false] rfl rfl (by kernel_rfl) (fun _ _ _ h => h) (Or.inl ⟨by rfl, ?_⟩) ?_ ?_
    rotate_left
    · intro w'
      go_simp
      with_reducible rfl
    rotate_left
    · simp only [Act.put, List.setIfInBounds_toArray, List.set_cons_zero, List.set_cons_succ]
      rfl
    refine take_ (i := 4) (N := some 80) (v := ?_) (a' := ?_) #[true, true, false, true, true, true, false, false, false, false] rfl rfl (by kernel_rfl) (fun _ _ _ h => h) (Or.inl ⟨by rfl, ?_⟩) hHeld ?_ ?_
    rotate_left
    · rintro w' ⟨s0, s1⟩
      refine Lds.run s0 (x := ?_) ?_ ?_
      · exact (Operand.tmp 10)
      · rfl
      · rfl
    rotate_left
    · simp only [Act.put, List.setIfInBounds_toArray, List.set_cons_zero, List.set_cons_succ]
      rfl
    refine take_ (i := 6) (N := some 82) (v := ?_) (a' := ?_) #[true, true, false, true, true, true, true, false, false, false] rfl rfl (by kernel_rfl) (fun _ _ _ h => h) (Or.inl ⟨by rfl, ?_⟩) hHeld ?_ ?_
    rotate_left
    · rintro w' ⟨s0, s1⟩
      refine Lds.run s1 (x := ?_) ?_ ?_
      · exact (Operand.tmp 7)
      · rfl
      · rfl
    rotate_left
    · simp only [Act.put, List.setIfInBounds_toArray, List.set_cons_zero, List.set_cons_succ]
      rfl
    refine one_ (i := 2) (N := some 78) #[true, true, true, true, true, true, true, false, false, false] rfl rfl (by kernel_rfl) (by decide) (fun K hK => ?_)
    refine goes_ Tryd.func18 (by kernel_rfl) rfl #[.slice PB qb cB] (by rfl) rfl rfl (by simp only [List.map_toArray, List.map_cons, List.map_nil]; rfl) ?_
    with_reducible refine (CHb.out _ HF_a.out.drew).mono ?_
    rintro e a1 ⟨v1, rfl, ho1, hf1⟩
    refine ⟨_, rfl, ?_⟩
    refine hK.out _ _ ⟨lds_hsh (H10_a.out.drew.fr hf1 (fun h => h)) HM132.out, lds_h32 (H7_a.out.drew.fr hf1 (fun h => h)) HY32.out⟩ (fun hHeld => ?_)
    clear hK K
    refine norm_ (a' := ?_) ?_ ?_
    rotate_left
    · show Act.put _ (some 78) _ = _
      simp only [Act.put, List.setIfInBounds_toArray, List.set_cons_zero, List.set_cons_succ]
      rfl
    refine one_ (i := 7) (N := some 83) #[true, true, true, true, true, true, true, true, false, false] rfl rfl (by kernel_rfl) (by decide) (fun K hK => ?_)
    refine goes_ Tryd.func20 (by kernel_rfl) rfl #[.int .i64 k, v1, .int .i64 n, .agg (bytes M1).toArray, .int .i64 m, .agg (bytes Y).toArray] (by rfl) rfl rfl (by simp only [List.map_toArray, List.map_cons, List.map_nil]; rfl) ?_
    with_reducible refine (CK2.out _ v1 _ (HF_a.out.drew.trans hf1 (fun _ _ h => h)) ho1).mono ?_
    rintro e a2 ⟨rfl, hf2⟩
    refine ⟨_, rfl, ?_⟩
    refine hK.out _ _ ⟨lds_hsh ((H10_a.out.drew.fr hf1 (fun h => h)).fr hf2 (fun h => h)) HM132.out, lds_h32 ((H7_a.out.drew.fr hf1 (fun h => h)).fr hf2 (fun h => h)) HY32.out⟩ (fun hHeld => ?_)
    clear hK K
    refine norm_ (a' := ?_) ?_ ?_
    rotate_left
    · show Act.put _ (some 83) _ = _
      simp only [Act.put, List.setIfInBounds_toArray, List.set_cons_zero, List.set_cons_succ]
      rfl
    refine pure_ (i := 8) (N := some 84) (v := ?_) (a' := ?_) #[true, true, true, true, true, true, true, true, true, false] rfl rfl (by kernel_rfl) (fun _ _ _ h => h) (Or.inl ⟨by rfl, ?_⟩) ?_ ?_
    rotate_left
    · intro w'
      go_simp
      with_reducible rfl
    rotate_left
    · simp only [Act.put, List.setIfInBounds_toArray, List.set_cons_zero, List.set_cons_succ]
      rfl
    refine pure_ (i := 9) (N := some 15) (v := ?_) (a' := ?_) #[true, true, true, true, true, true, true, true, true, true] rfl rfl (by kernel_rfl) (fun _ _ _ h => h) (Or.inl ⟨by rfl, ?_⟩) ?_ ?_
    rotate_left
    · intro w'
      go_simp
      with_reducible rfl
    rotate_left
    · simp only [Act.put, List.setIfInBounds_toArray, List.set_cons_zero, List.set_cons_succ]
      rfl
    refine done_ (by kernel_rfl) ?_
    have HF13 := Kp.mk ((HF_a.out.drew.trans hf1 (fun _ _ h => h)).trans hf2 (fun _ _ h => h))
    have H713 := Kp.mk ((H7_a.out.drew.fr hf1 (fun h => h)).fr hf2 (fun h => h))
    have H1013 := Kp.mk ((H10_a.out.drew.fr hf1 (fun h => h)).fr hf2 (fun h => h))
    have H1113 := Kp.mk ((H11_a.out.drew.fr hf1 (fun h => h)).fr hf2 (fun h => h))
    clear hHeld HF_a H7_a H10_a H11_a hf1 hf2 ho1
    generalize a2 = W13 at HF13 H713 H1013 H1113 ⊢
    go_upto_region 13 with (fail)
    have LD10 : Kp (∀ W, Fr (fun _ => False) W13 W → Lds W 29 (.pointer (some ⟨g10, 0, none⟩)) (.agg (bytes M1).toArray)) := ⟨fun W hf => lds_hsh (H1013.out.fr hf (fun h => h)) HM132.out⟩
    have LD11 : Kp (∀ W, Fr (fun _ => False) W13 W → Lds W 29 (.pointer (some ⟨g11, 0, none⟩)) (.agg (bytes M2).toArray)) := ⟨fun W hf => lds_hsh (H1113.out.fr hf (fun h => h)) HM232.out⟩
    have LD7 : Kp (∀ W, Fr (fun _ => False) W13 W → Lds W 23 (.pointer (some ⟨g7, 0, none⟩)) (.agg (bytes Y).toArray)) := ⟨fun W hf => lds_h32 (H713.out.fr hf (fun h => h)) HY32.out⟩
    have CHXa : Kp (∀ W, Fr (fun _ => False) W13 W → Calls Tryd.prog 18 #[.slice PA qa cA] W fun e w' => ∃ v, e = .returned v ∧ HOwn w' W13.heap.size v pa ∧ Fr (fun _ => False) W w') :=
      ⟨fun W hf => (CHa.out W (HF13.out.trans hf (fun _ _ h => h))).mono fun e w' h => by
        obtain ⟨v, he, ho, hfr⟩ := h
        exact ⟨v, he, ho.low hf.size, hfr⟩⟩
    have CHXb : Kp (∀ W, Fr (fun _ => False) W13 W → Calls Tryd.prog 18 #[.slice PB qb cB] W fun e w' => ∃ v, e = .returned v ∧ HOwn w' W13.heap.size v pb ∧ Fr (fun _ => False) W w') :=
      ⟨fun W hf => (CHb.out W (HF13.out.trans hf (fun _ _ h => h))).mono fun e w' h => by
        obtain ⟨v, he, ho, hfr⟩ := h
        exact ⟨v, he, ho.low hf.size, hfr⟩⟩
    skip
    · have hcmp := HCMP.out
      have hd : decide (M2 = Y) = false := decide_eq_false hq
      simp only [hd] at hcmp
      clear hd hq
      have CY := Kp.mk (CY.out hcol0)
      clear CN hcol0
      refine start_ (n := 17) (S := fun w' => Fr (fun _ => False) W13 w') (ds := []) #[false, false, false, false, false, false, false, false, false, false, false, false, false, false, false, false, false] (by kernel_rfl) rfl rfl ((Fr.refl (fun _ => False) W13).drew) (fun hHeld => ?_)
      refine pure_ (i := 0) (N := some 86) (v := ?_) (a' := ?_) #[true, false, false, false, false, false, false, false, false, false, false, false, false, false, false, false, false] rfl rfl (by kernel_rfl) (fun _ _ _ h => h) (Or.inl ⟨by rfl, ?_⟩) ?_ ?_
      rotate_left
      · intro w'
        go_simp
        with_reducible rfl
      rotate_left
      · simp only [Act.put, List.setIfInBounds_toArray, List.set_cons_zero, List.set_cons_succ]
        rfl
      refine pure_ (i := 1) (N := some 87) (v := ?_) (a' := ?_) #[true, true, false, false, false, false, false, false, false, false, false, false, false, false, false, false, false] rfl rfl (by kernel_rfl) (fun _ _ _ h => h) (Or.inl ⟨by rfl, ?_⟩) ?_ ?_
      rotate_left
      · intro w'
        go_simp
        with_reducible rfl
      rotate_left
      · simp only [Act.put, List.setIfInBounds_toArray, List.set_cons_zero, List.set_cons_succ]
        rfl
      refine take_ (i := 2) (N := some 88) (v := ?_) (a' := ?_) #[true, true, true, false, false, false, false, false, false, false, false, false, false, false, false, false, false] rfl rfl (by kernel_rfl) (fun _ _ _ h => h) (Or.inl ⟨by rfl, ?_⟩) hHeld ?_ ?_
      rotate_left
      · intro w' s0
        refine Lds.run (LD10.out w' s0) (x := ?_) ?_ ?_
        · exact (Operand.tmp 10)
        · rfl
        · rfl
      rotate_left
      · simp only [Act.put, List.setIfInBounds_toArray, List.set_cons_zero, List.set_cons_succ]
        rfl
      refine pure_ (i := 3) (N := some 89) (v := ?_) (a' := ?_) #[true, true, true, true, false, false, false, false, false, false, false, false, false, false, false, false, false] rfl rfl (by kernel_rfl) (fun _ _ _ h => h) (Or.inl ⟨by rfl, ?_⟩) ?_ ?_
      rotate_left
      · intro w'
        go_simp
        with_reducible rfl
      rotate_left
      · simp only [Act.put, List.setIfInBounds_toArray, List.set_cons_zero, List.set_cons_succ]
        rfl
      refine take_ (i := 4) (N := some 90) (v := ?_) (a' := ?_) #[true, true, true, true, true, false, false, false, false, false, false, false, false, false, false, false, false] rfl rfl (by kernel_rfl) (fun _ _ _ h => h) (Or.inl ⟨by rfl, ?_⟩) hHeld ?_ ?_
      rotate_left
      · intro w' s0
        refine Lds.run (LD11.out w' s0) (x := ?_) ?_ ?_
        · exact (Operand.tmp 11)
        · rfl
        · rfl
      rotate_left
      · simp only [Act.put, List.setIfInBounds_toArray, List.set_cons_zero, List.set_cons_succ]
        rfl
      refine pure_ (i := 5) (N := some 91) (v := ?_) (a' := ?_) #[true, true, true, true, true, true, false, false, false, false, false, false, false, false, false, false, false] rfl rfl (by kernel_rfl) (fun _ _ _ h => h) (Or.inl ⟨by rfl, ?_⟩) ?_ ?_
      rotate_left
      · intro w'
        go_simp
        with_reducible rfl
      rotate_left
      · simp only [Act.put, List.setIfInBounds_toArray, List.set_cons_zero, List.set_cons_succ]
        rfl
      refine take_ (i := 7) (N := some 93) (v := ?_) (a' := ?_) #[true, true, true, true, true, true, false, true, false, false, false, false, false, false, false, false, false] rfl rfl (by kernel_rfl) (fun _ _ _ h => h) (Or.inl ⟨by rfl, ?_⟩) hHeld ?_ ?_
      rotate_left
      · intro w' s0
        refine Lds.run (LD7.out w' s0) (x := ?_) ?_ ?_
        · exact (Operand.tmp 7)
        · rfl
        · rfl
      rotate_left
      · simp only [Act.put, List.setIfInBounds_toArray, List.set_cons_zero, List.set_cons_succ]
        rfl
      refine pure_ (i := 8) (N := some 94) (v := ?_) (a' := ?_) #[true, true, true, true, true, true, false, true, true, false, false, false, false, false, false, false, false] rfl rfl (by kernel_rfl) (fun _ _ _ h => h) (Or.inl ⟨by rfl, ?_⟩) ?_ ?_
      rotate_left
      · intro w'
        go_simp
        with_reducible rfl
      rotate_left
      · simp only [Act.put, List.setIfInBounds_toArray, List.set_cons_zero, List.set_cons_succ]
        rfl
      refine join_ (σ := Nat × Value × Value × Value × Value) 0 #[true, true, true, true, true, true, true, true, true, true, true, true, true, true, true, true, true] (fun (s : Nat × Value × Value × Value × Value) => match s with | (g16, va, vb, s1, s2) => show List (Tmp × Value) from [(86, .int .i64 k), (87, .int .i64 n), (88, .agg (bytes M1).toArray), (89, .int .i64 m), (90, .agg (bytes M2).toArray), (91, .slice PA qa cA), (92, va), (93, .agg (bytes Y).toArray), (94, .slice PB qb cB), (95, vb), (96, .tuple #[.agg #[s1, s2], .int .i64 0]), (85, .tuple #[.agg #[s1, s2], .int .i64 0]), (97, .agg #[s1, s2]), (98, .int .i64 0), (16, .pointer (some ⟨g16, 0, none⟩)), (17, .int .i64 0)]) (fun (s : Nat × Value × Value × Value × Value) w' => match s with | (g16, va, vb, s1, s2) => Fr (fun _ => False) W13 w' ∧ Blk w' g16 36 [s1, s2] ∧ W13.heap.size ≤ g16 ∧ PairAt w' (fun q => q = g16) s1 s2 QQ) ?_ ?_
      rotate_left
      intro hD0
      refine join_ (σ := Nat × Value × Value × Value × Value) 2 #[true, true, true, true, true, true, true, true, true, true, true, true, true, true, true, false, false] (fun (s : Nat × Value × Value × Value × Value) => match s with | (g16, va, vb, s1, s2) => show List (Tmp × Value) from [(86, .int .i64 k), (87, .int .i64 n), (88, .agg (bytes M1).toArray), (89, .int .i64 m), (90, .agg (bytes M2).toArray), (91, .slice PA qa cA), (92, va), (93, .agg (bytes Y).toArray), (94, .slice PB qb cB), (95, vb), (96, .tuple #[.agg #[s1, s2], .int .i64 0]), (85, .tuple #[.agg #[s1, s2], .int .i64 0]), (97, .agg #[s1, s2]), (98, .int .i64 0), (16, .pointer (some ⟨g16, 0, none⟩))]) (fun (s : Nat × Value × Value × Value × Value) w' => match s with | (g16, va, vb, s1, s2) => Fr (fun _ => False) W13 w' ∧ Blk w' g16 36 [.slice none 0 0, .slice none 0 0] ∧ W13.heap.size ≤ g16 ∧ PairAt w' (fun q => q = g16) s1 s2 QQ) ?_ ?_
      rotate_left
      intro hD1
      refine join_ (σ := Value × Value × Value × Value) 3 #[true, true, true, true, true, true, true, true, true, true, true, true, true, true, false, false, false] (fun (s : Value × Value × Value × Value) => match s with | (va, vb, s1, s2) => show List (Tmp × Value) from [(86, .int .i64 k), (87, .int .i64 n), (88, .agg (bytes M1).toArray), (89, .int .i64 m), (90, .agg (bytes M2).toArray), (91, .slice PA qa cA), (92, va), (93, .agg (bytes Y).toArray), (94, .slice PB qb cB), (95, vb), (96, .tuple #[.agg #[s1, s2], .int .i64 0]), (85, .tuple #[.agg #[s1, s2], .int .i64 0]), (97, .agg #[s1, s2]), (98, .int .i64 0)]) (fun (s : Value × Value × Value × Value) w' => match s with | (va, vb, s1, s2) => Fr (fun _ => False) W13 w' ∧ PairAt w' (fun _ => False) s1 s2 QQ) ?_ ?_
      rotate_left
      intro hD2
      refine join_ (σ := Nat × Value × Value) 6 #[true, true, true, true, true, true, true, true, true, true, false, false, false, false, true, false, false] (fun (s : Nat × Value × Value) => match s with | (g16, va, vb) => show List (Tmp × Value) from [(86, .int .i64 k), (87, .int .i64 n), (88, .agg (bytes M1).toArray), (89, .int .i64 m), (90, .agg (bytes M2).toArray), (91, .slice PA qa cA), (92, va), (93, .agg (bytes Y).toArray), (94, .slice PB qb cB), (95, vb), (16, .pointer (some ⟨g16, 0, none⟩))]) (fun (s : Nat × Value × Value) w' => match s with | (g16, va, vb) => Fr (fun _ => False) W13 w' ∧ Blk w' g16 36 [.slice none 0 0, .slice none 0 0] ∧ W13.heap.size ≤ g16 ∧ HOwn w' W13.heap.size va pa ∧ HOwn w' W13.heap.size vb pb) ?_ ?_
      rotate_left
      intro hD3
      refine join_ (σ := Value × Value) 7 #[true, true, true, true, true, true, true, true, true, true, false, false, false, false, false, false, false] (fun (s : Value × Value) => match s with | (va, vb) => show List (Tmp × Value) from [(86, .int .i64 k), (87, .int .i64 n), (88, .agg (bytes M1).toArray), (89, .int .i64 m), (90, .agg (bytes M2).toArray), (91, .slice PA qa cA), (92, va), (93, .agg (bytes Y).toArray), (94, .slice PB qb cB), (95, vb)]) (fun (s : Value × Value) w' => match s with | (va, vb) => Fr (fun _ => False) W13 w' ∧ HOwn w' W13.heap.size va pa ∧ HOwn w' W13.heap.size vb pb) ?_ ?_
      rotate_left
      intro hD4
      refine join_ (σ := Nat × Value) 7 #[true, true, true, true, true, true, true, true, true, false, false, false, false, false, true, false, false] (fun (s : Nat × Value) => match s with | (g16, va) => show List (Tmp × Value) from [(86, .int .i64 k), (87, .int .i64 n), (88, .agg (bytes M1).toArray), (89, .int .i64 m), (90, .agg (bytes M2).toArray), (91, .slice PA qa cA), (92, va), (93, .agg (bytes Y).toArray), (94, .slice PB qb cB), (16, .pointer (some ⟨g16, 0, none⟩))]) (fun (s : Nat × Value) w' => match s with | (g16, va) => Fr (fun _ => False) W13 w' ∧ Blk w' g16 36 [.slice none 0 0, .slice none 0 0] ∧ W13.heap.size ≤ g16 ∧ HOwn w' W13.heap.size va pa) ?_ ?_
      rotate_left
      intro hD5
      refine join_ (σ := Value) 8 #[true, true, true, true, true, true, true, true, true, false, false, false, false, false, false, false, false] (fun (va : Value) => show List (Tmp × Value) from [(86, .int .i64 k), (87, .int .i64 n), (88, .agg (bytes M1).toArray), (89, .int .i64 m), (90, .agg (bytes M2).toArray), (91, .slice PA qa cA), (92, va), (93, .agg (bytes Y).toArray), (94, .slice PB qb cB)]) (fun (va : Value) w' => Fr (fun _ => False) W13 w' ∧ HOwn w' W13.heap.size va pa) ?_ ?_
      rotate_left
      intro hD6
      refine join_ (σ := Nat) 8 #[true, true, true, true, true, true, false, true, true, false, false, false, false, false, true, false, false] (fun (g16 : Nat) => show List (Tmp × Value) from [(86, .int .i64 k), (87, .int .i64 n), (88, .agg (bytes M1).toArray), (89, .int .i64 m), (90, .agg (bytes M2).toArray), (91, .slice PA qa cA), (93, .agg (bytes Y).toArray), (94, .slice PB qb cB), (16, .pointer (some ⟨g16, 0, none⟩))]) (fun (g16 : Nat) w' => Fr (fun _ => False) W13 w' ∧ Blk w' g16 36 [.slice none 0 0, .slice none 0 0] ∧ W13.heap.size ≤ g16) ?_ ?_
      rotate_left
      intro hD7
      · skip
        refine two_ (i := 6) (j := 14) (Ni := some 92) (Nj := some 16) #[true, true, true, true, true, true, true, true, true, false, false, false, false, false, false, false, false] #[true, true, true, true, true, true, false, true, true, false, false, false, false, false, true, false, false] rfl rfl rfl rfl (by kernel_rfl) (by decide) (by decide) (fun K hK => ?_) (fun K hK => ?_)
        · skip
          refine goes_ Tryd.func18 (by kernel_rfl) rfl #[.slice PA qa cA] (by rfl) rfl rfl (by simp only [List.map_toArray, List.map_cons, List.map_nil]; rfl) ?_
          with_reducible refine (CHXa.out _ hHeld).mono ?_
          rintro e wy ⟨va, rfl, Xyva, hq⟩
          refine ⟨_, rfl, ?_⟩
          have Fy : Fr (fun _ => False) W13 wy := hHeld.trans hq (fun _ _ h => h)
          refine hK.out _ _ Fy (fun _ => ?_)
          clear hK K
          refine norm_ (a' := ?_) ?_ ?_
          rotate_left
          · show Act.put _ (some 92) _ = _
            simp only [Act.put, List.setIfInBounds_toArray, List.set_cons_zero, List.set_cons_succ]
            rfl
          refine norm_ ?_ (hD6 va _ ⟨Fy, Xyva⟩)
          simp only [putAll, Act.put, List.setIfInBounds_toArray, List.set_cons_zero, List.set_cons_succ]
        · skip
          refine value_ (by rfl) rfl (al_pair2 _ _ _ rfl) ?_
          have hal : Fr (fun _ => False) W13.drew (W13.drew.alloc (.cells [.slice none 0 0, .slice none 0 0].toArray 36)) := (Fr.refl _ W13.drew).alloc _
          have Fy : Fr (fun _ => False) W13 (W13.drew.alloc (.cells [.slice none 0 0, .slice none 0 0].toArray 36)) := hHeld.trans hal (fun _ _ h => h)
          have Byg16 : Blk (W13.drew.alloc (.cells [.slice none 0 0, .slice none 0 0].toArray 36)) W13.drew.heap.size 36 [.slice none 0 0, .slice none 0 0] := Blk.new W13.drew _ _
          have Gyg16 : W13.heap.size ≤ W13.drew.heap.size := hHeld.size
          refine hK.out _ _ Fy (fun _ => ?_)
          clear hK K
          refine norm_ (a' := ?_) ?_ ?_
          rotate_left
          · show Act.put _ (some 16) _ = _
            simp only [Act.put, List.setIfInBounds_toArray, List.set_cons_zero, List.set_cons_succ]
            rfl
          refine norm_ ?_ (hD7 W13.drew.heap.size _ ⟨Fy, Byg16, Gyg16⟩)
          simp only [putAll, Act.put, List.setIfInBounds_toArray, List.set_cons_zero, List.set_cons_succ]
      rotate_left
      · skip
        rintro ⟨g16, va, vb, s1, s2⟩ wx ⟨Fx, Bg16, Gg16, Xs1s2⟩
        refine norm_ (a' := ?_) ?_ ?_
        rotate_left
        · simp only [putAll, Act.put, List.setIfInBounds_toArray, List.set_cons_zero, List.set_cons_succ]
          rfl
        refine one_ (i := 15) (N := none) #[true, true, true, true, true, true, true, true, true, true, true, true, true, true, true, true, false] rfl rfl (by kernel_rfl) (by decide) (fun K hK => ?_)
        refine skip_ (by rfl) rfl (st_ag _ _ (Operand.tmp 16) (Operand.tmp 97) wx 36 g16 0 [s1, s2] rfl rfl rfl (blk_there Bg16 0 _ (Nat.le_refl 2)) (by kernel_rfl) (PairAt.ones Xs1s2)) ?_
        have hst : Fr (fun q => q = g16) wx (wx.setCells g16 0 [s1, s2]) := fr_setCells g16 [s1, s2] 0 _
        have Fy : Fr (fun _ => False) W13 (wx.setCells g16 0 [s1, s2]) := Fx.trans (S := fun _ => False) hst (fun q hq e => by have := Gg16; omega)
        have Byg16 : Blk (wx.setCells g16 0 [s1, s2]) g16 36 [s1, s2] := blk_put Bg16 (ys := [s1, s2]) rfl
        have Xys1s2 := Xs1s2.fr hst
        refine hK.out _ _ Fy (fun _ => ?_)
        clear hK K
        refine pure_ (i := 16) (N := some 17) (v := ?_) (a' := ?_) #[true, true, true, true, true, true, true, true, true, true, true, true, true, true, true, true, true] rfl rfl (by kernel_rfl) (fun _ _ _ h => h) (Or.inl ⟨by rfl, ?_⟩) ?_ ?_
        rotate_left
        · intro w'
          go_simp
          with_reducible rfl
        rotate_left
        · simp only [Act.put, List.setIfInBounds_toArray, List.set_cons_zero, List.set_cons_succ]
          rfl
        refine norm_ ?_ (hD0 (g16, va, vb, s1, s2) _ ⟨Fy, Byg16, Gg16, Xys1s2⟩)
        simp only [putAll, Act.put, List.setIfInBounds_toArray, List.set_cons_zero, List.set_cons_succ]
      · skip
        rintro ⟨va, vb, s1, s2⟩ wx ⟨Fx, Xs1s2⟩
        refine norm_ (a' := ?_) ?_ ?_
        rotate_left
        · simp only [putAll, Act.put, List.setIfInBounds_toArray, List.set_cons_zero, List.set_cons_succ]
          rfl
        refine one_ (i := 14) (N := some 16) #[true, true, true, true, true, true, true, true, true, true, true, true, true, true, true, false, false] rfl rfl (by kernel_rfl) (by decide) (fun K hK => ?_)
        refine value_ (by rfl) rfl (al_pair2 _ _ _ rfl) ?_
        have hal : Fr (fun _ => False) wx (wx.alloc (.cells [.slice none 0 0, .slice none 0 0].toArray 36)) := (Fr.refl _ wx).alloc _
        have Fy : Fr (fun _ => False) W13 (wx.alloc (.cells [.slice none 0 0, .slice none 0 0].toArray 36)) := Fx.trans hal (fun _ _ h => h)
        have Byg16 : Blk (wx.alloc (.cells [.slice none 0 0, .slice none 0 0].toArray 36)) wx.heap.size 36 [.slice none 0 0, .slice none 0 0] := Blk.new wx _ _
        have Gyg16 : W13.heap.size ≤ wx.heap.size := Fx.size
        have Xys1s2 := Xs1s2.apart (.cells [.slice none 0 0, .slice none 0 0].toArray 36)
        refine hK.out _ _ Fy (fun _ => ?_)
        clear hK K
        refine norm_ (a' := ?_) ?_ ?_
        rotate_left
        · show Act.put _ (some 16) _ = _
          simp only [Act.put, List.setIfInBounds_toArray, List.set_cons_zero, List.set_cons_succ]
          rfl
        refine norm_ ?_ (hD1 (wx.heap.size, va, vb, s1, s2) _ ⟨Fy, Byg16, Gyg16, Xys1s2⟩)
        simp only [putAll, Act.put, List.setIfInBounds_toArray, List.set_cons_zero, List.set_cons_succ]
      · skip
        rintro ⟨g16, va, vb⟩ wx ⟨Fx, Bg16, Gg16, Xva, Xvb⟩
        refine norm_ (a' := ?_) ?_ ?_
        rotate_left
        · simp only [putAll, Act.put, List.setIfInBounds_toArray, List.set_cons_zero, List.set_cons_succ]
          rfl
        refine one_ (i := 10) (N := some 96) #[true, true, true, true, true, true, true, true, true, true, true, false, false, false, true, false, false] rfl rfl (by kernel_rfl) (by decide) (fun K hK => ?_)
        refine goes_ Tryd.func19 (by kernel_rfl) rfl #[.int .i64 k, .int .i64 n, .agg (bytes M1).toArray, .int .i64 m, .agg (bytes M2).toArray, va, .agg (bytes Y).toArray, vb] (by rfl) rfl rfl (by simp only [List.map_toArray, List.map_cons, List.map_nil]; rfl) ?_
        with_reducible refine (CY.out _ va vb _ _ (HF13.out.trans Fx (fun _ _ h => h)) Xva Xvb).mono ?_
        rintro e wy ⟨s1, s2, rfl, Xrs1s2, hq⟩
        refine ⟨_, rfl, ?_⟩
        have Fy : Fr (fun _ => False) W13 wy := Fx.trans hq (fun _ _ h => h)
        have Xys1s2 := Xrs1s2.mono (S' := fun q => q = g16) (fun q _ e => by have := Bg16.lt; omega)
        have Byg16 := Bg16.fr hq (fun h => h)
        refine hK.out _ _ Fy (fun _ => ?_)
        clear hK K
        refine norm_ (a' := ?_) ?_ ?_
        rotate_left
        · show Act.put _ (some 96) _ = _
          simp only [Act.put, List.setIfInBounds_toArray, List.set_cons_zero, List.set_cons_succ]
          rfl
        refine pure_ (i := 11) (N := some 85) (v := ?_) (a' := ?_) #[true, true, true, true, true, true, true, true, true, true, true, true, false, false, true, false, false] rfl rfl (by kernel_rfl) (fun _ _ _ h => h) (Or.inl ⟨by rfl, ?_⟩) ?_ ?_
        rotate_left
        · intro w'
          go_simp
          with_reducible rfl
        rotate_left
        · simp only [Act.put, List.setIfInBounds_toArray, List.set_cons_zero, List.set_cons_succ]
          rfl
        refine pure_ (i := 12) (N := some 97) (v := ?_) (a' := ?_) #[true, true, true, true, true, true, true, true, true, true, true, true, true, false, true, false, false] rfl rfl (by kernel_rfl) (fun _ _ _ h => h) (Or.inl ⟨by rfl, ?_⟩) ?_ ?_
        rotate_left
        · intro w'
          go_simp
          with_reducible rfl
        rotate_left
        · simp only [Act.put, List.setIfInBounds_toArray, List.set_cons_zero, List.set_cons_succ]
          rfl
        refine pure_ (i := 13) (N := some 98) (v := ?_) (a' := ?_) #[true, true, true, true, true, true, true, true, true, true, true, true, true, true, true, false, false] rfl rfl (by kernel_rfl) (fun _ _ _ h => h) (Or.inl ⟨by rfl, ?_⟩) ?_ ?_
        rotate_left
        · intro w'
          go_simp
          with_reducible rfl
        rotate_left
        · simp only [Act.put, List.setIfInBounds_toArray, List.set_cons_zero, List.set_cons_succ]
          rfl
        refine norm_ ?_ (hD1 (g16, va, vb, s1, s2) _ ⟨Fy, Byg16, Gg16, Xys1s2⟩)
        simp only [putAll, Act.put, List.setIfInBounds_toArray, List.set_cons_zero, List.set_cons_succ]
      · skip
        rintro ⟨va, vb⟩ wx ⟨Fx, Xva, Xvb⟩
        refine norm_ (a' := ?_) ?_ ?_
        rotate_left
        · simp only [putAll, Act.put, List.setIfInBounds_toArray, List.set_cons_zero, List.set_cons_succ]
          rfl
        refine two_ (i := 10) (j := 14) (Ni := some 96) (Nj := some 16) #[true, true, true, true, true, true, true, true, true, true, true, false, false, false, false, false, false] #[true, true, true, true, true, true, true, true, true, true, false, false, false, false, true, false, false] rfl rfl rfl rfl (by kernel_rfl) (by decide) (by decide) (fun K hK => ?_) (fun K hK => ?_)
        · skip
          refine goes_ Tryd.func19 (by kernel_rfl) rfl #[.int .i64 k, .int .i64 n, .agg (bytes M1).toArray, .int .i64 m, .agg (bytes M2).toArray, va, .agg (bytes Y).toArray, vb] (by rfl) rfl rfl (by simp only [List.map_toArray, List.map_cons, List.map_nil]; rfl) ?_
          with_reducible refine (CY.out _ va vb _ _ (HF13.out.trans Fx (fun _ _ h => h)) Xva Xvb).mono ?_
          rintro e wy ⟨s1, s2, rfl, Xrs1s2, hq⟩
          refine ⟨_, rfl, ?_⟩
          have Fy : Fr (fun _ => False) W13 wy := Fx.trans hq (fun _ _ h => h)
          have Xys1s2 := Xrs1s2.mono (S' := (fun _ => False)) (fun _ _ h => h.elim)
          refine hK.out _ _ Fy (fun _ => ?_)
          clear hK K
          refine norm_ (a' := ?_) ?_ ?_
          rotate_left
          · show Act.put _ (some 96) _ = _
            simp only [Act.put, List.setIfInBounds_toArray, List.set_cons_zero, List.set_cons_succ]
            rfl
          refine pure_ (i := 11) (N := some 85) (v := ?_) (a' := ?_) #[true, true, true, true, true, true, true, true, true, true, true, true, false, false, false, false, false] rfl rfl (by kernel_rfl) (fun _ _ _ h => h) (Or.inl ⟨by rfl, ?_⟩) ?_ ?_
          rotate_left
          · intro w'
            go_simp
            with_reducible rfl
          rotate_left
          · simp only [Act.put, List.setIfInBounds_toArray, List.set_cons_zero, List.set_cons_succ]
            rfl
          refine pure_ (i := 12) (N := some 97) (v := ?_) (a' := ?_) #[true, true, true, true, true, true, true, true, true, true, true, true, true, false, false, false, false] rfl rfl (by kernel_rfl) (fun _ _ _ h => h) (Or.inl ⟨by rfl, ?_⟩) ?_ ?_
          rotate_left
          · intro w'
            go_simp
            with_reducible rfl
          rotate_left
          · simp only [Act.put, List.setIfInBounds_toArray, List.set_cons_zero, List.set_cons_succ]
            rfl
          refine pure_ (i := 13) (N := some 98) (v := ?_) (a' := ?_) #[true, true, true, true, true, true, true, true, true, true, true, true, true, true, false, false, false] rfl rfl (by kernel_rfl) (fun _ _ _ h => h) (Or.inl ⟨by rfl, ?_⟩) ?_ ?_
          rotate_left
          · intro w'
            go_simp
            with_reducible rfl
          rotate_left
          · simp only [Act.put, List.setIfInBounds_toArray, List.set_cons_zero, List.set_cons_succ]
            rfl
          refine norm_ ?_ (hD2 (va, vb, s1, s2) _ ⟨Fy, Xys1s2⟩)
          simp only [putAll, Act.put, List.setIfInBounds_toArray, List.set_cons_zero, List.set_cons_succ]
        · skip
          refine value_ (by rfl) rfl (al_pair2 _ _ _ rfl) ?_
          have hal : Fr (fun _ => False) wx (wx.alloc (.cells [.slice none 0 0, .slice none 0 0].toArray 36)) := (Fr.refl _ wx).alloc _
          have Fy : Fr (fun _ => False) W13 (wx.alloc (.cells [.slice none 0 0, .slice none 0 0].toArray 36)) := Fx.trans hal (fun _ _ h => h)
          have Byg16 : Blk (wx.alloc (.cells [.slice none 0 0, .slice none 0 0].toArray 36)) wx.heap.size 36 [.slice none 0 0, .slice none 0 0] := Blk.new wx _ _
          have Gyg16 : W13.heap.size ≤ wx.heap.size := Fx.size
          have Xyva := Xva.keep hal (fun _ _ h => h)
          have Xyvb := Xvb.keep hal (fun _ _ h => h)
          refine hK.out _ _ Fy (fun _ => ?_)
          clear hK K
          refine norm_ (a' := ?_) ?_ ?_
          rotate_left
          · show Act.put _ (some 16) _ = _
            simp only [Act.put, List.setIfInBounds_toArray, List.set_cons_zero, List.set_cons_succ]
            rfl
          refine norm_ ?_ (hD3 (wx.heap.size, va, vb) _ ⟨Fy, Byg16, Gyg16, Xyva, Xyvb⟩)
          simp only [putAll, Act.put, List.setIfInBounds_toArray, List.set_cons_zero, List.set_cons_succ]
      · skip
        rintro ⟨g16, va⟩ wx ⟨Fx, Bg16, Gg16, Xva⟩
        refine norm_ (a' := ?_) ?_ ?_
        rotate_left
        · simp only [putAll, Act.put, List.setIfInBounds_toArray, List.set_cons_zero, List.set_cons_succ]
          rfl
        refine one_ (i := 9) (N := some 95) #[true, true, true, true, true, true, true, true, true, true, false, false, false, false, true, false, false] rfl rfl (by kernel_rfl) (by decide) (fun K hK => ?_)
        refine goes_ Tryd.func18 (by kernel_rfl) rfl #[.slice PB qb cB] (by rfl) rfl rfl (by simp only [List.map_toArray, List.map_cons, List.map_nil]; rfl) ?_
        with_reducible refine (CHXb.out _ Fx).mono ?_
        rintro e wy ⟨vb, rfl, Xyvb, hq⟩
        refine ⟨_, rfl, ?_⟩
        have Fy : Fr (fun _ => False) W13 wy := Fx.trans hq (fun _ _ h => h)
        have Byg16 := Bg16.fr hq (fun h => h)
        have Xyva := Xva.keep hq (fun _ _ h => h)
        refine hK.out _ _ Fy (fun _ => ?_)
        clear hK K
        refine norm_ (a' := ?_) ?_ ?_
        rotate_left
        · show Act.put _ (some 95) _ = _
          simp only [Act.put, List.setIfInBounds_toArray, List.set_cons_zero, List.set_cons_succ]
          rfl
        refine norm_ ?_ (hD3 (g16, va, vb) _ ⟨Fy, Byg16, Gg16, Xyva, Xyvb⟩)
        simp only [putAll, Act.put, List.setIfInBounds_toArray, List.set_cons_zero, List.set_cons_succ]
      · skip
        rintro va wx ⟨Fx, Xva⟩
        refine norm_ (a' := ?_) ?_ ?_
        rotate_left
        · simp only [putAll, Act.put, List.setIfInBounds_toArray, List.set_cons_zero, List.set_cons_succ]
          rfl
        refine two_ (i := 9) (j := 14) (Ni := some 95) (Nj := some 16) #[true, true, true, true, true, true, true, true, true, true, false, false, false, false, false, false, false] #[true, true, true, true, true, true, true, true, true, false, false, false, false, false, true, false, false] rfl rfl rfl rfl (by kernel_rfl) (by decide) (by decide) (fun K hK => ?_) (fun K hK => ?_)
        · skip
          refine goes_ Tryd.func18 (by kernel_rfl) rfl #[.slice PB qb cB] (by rfl) rfl rfl (by simp only [List.map_toArray, List.map_cons, List.map_nil]; rfl) ?_
          with_reducible refine (CHXb.out _ Fx).mono ?_
          rintro e wy ⟨vb, rfl, Xyvb, hq⟩
          refine ⟨_, rfl, ?_⟩
          have Fy : Fr (fun _ => False) W13 wy := Fx.trans hq (fun _ _ h => h)
          have Xyva := Xva.keep hq (fun _ _ h => h)
          refine hK.out _ _ Fy (fun _ => ?_)
          clear hK K
          refine norm_ (a' := ?_) ?_ ?_
          rotate_left
          · show Act.put _ (some 95) _ = _
            simp only [Act.put, List.setIfInBounds_toArray, List.set_cons_zero, List.set_cons_succ]
            rfl
          refine norm_ ?_ (hD4 (va, vb) _ ⟨Fy, Xyva, Xyvb⟩)
          simp only [putAll, Act.put, List.setIfInBounds_toArray, List.set_cons_zero, List.set_cons_succ]
        · skip
          refine value_ (by rfl) rfl (al_pair2 _ _ _ rfl) ?_
          have hal : Fr (fun _ => False) wx (wx.alloc (.cells [.slice none 0 0, .slice none 0 0].toArray 36)) := (Fr.refl _ wx).alloc _
          have Fy : Fr (fun _ => False) W13 (wx.alloc (.cells [.slice none 0 0, .slice none 0 0].toArray 36)) := Fx.trans hal (fun _ _ h => h)
          have Byg16 : Blk (wx.alloc (.cells [.slice none 0 0, .slice none 0 0].toArray 36)) wx.heap.size 36 [.slice none 0 0, .slice none 0 0] := Blk.new wx _ _
          have Gyg16 : W13.heap.size ≤ wx.heap.size := Fx.size
          have Xyva := Xva.keep hal (fun _ _ h => h)
          refine hK.out _ _ Fy (fun _ => ?_)
          clear hK K
          refine norm_ (a' := ?_) ?_ ?_
          rotate_left
          · show Act.put _ (some 16) _ = _
            simp only [Act.put, List.setIfInBounds_toArray, List.set_cons_zero, List.set_cons_succ]
            rfl
          refine norm_ ?_ (hD5 (wx.heap.size, va) _ ⟨Fy, Byg16, Gyg16, Xyva⟩)
          simp only [putAll, Act.put, List.setIfInBounds_toArray, List.set_cons_zero, List.set_cons_succ]
      · skip
        rintro g16 wx ⟨Fx, Bg16, Gg16⟩
        refine norm_ (a' := ?_) ?_ ?_
        rotate_left
        · simp only [putAll, Act.put, List.setIfInBounds_toArray, List.set_cons_zero, List.set_cons_succ]
          rfl
        refine one_ (i := 6) (N := some 92) #[true, true, true, true, true, true, true, true, true, false, false, false, false, false, true, false, false] rfl rfl (by kernel_rfl) (by decide) (fun K hK => ?_)
        refine goes_ Tryd.func18 (by kernel_rfl) rfl #[.slice PA qa cA] (by rfl) rfl rfl (by simp only [List.map_toArray, List.map_cons, List.map_nil]; rfl) ?_
        with_reducible refine (CHXa.out _ Fx).mono ?_
        rintro e wy ⟨va, rfl, Xyva, hq⟩
        refine ⟨_, rfl, ?_⟩
        have Fy : Fr (fun _ => False) W13 wy := Fx.trans hq (fun _ _ h => h)
        have Byg16 := Bg16.fr hq (fun h => h)
        refine hK.out _ _ Fy (fun _ => ?_)
        clear hK K
        refine norm_ (a' := ?_) ?_ ?_
        rotate_left
        · show Act.put _ (some 92) _ = _
          simp only [Act.put, List.setIfInBounds_toArray, List.set_cons_zero, List.set_cons_succ]
          rfl
        refine norm_ ?_ (hD5 (g16, va) _ ⟨Fy, Byg16, Gg16, Xyva⟩)
        simp only [putAll, Act.put, List.setIfInBounds_toArray, List.set_cons_zero, List.set_cons_succ]
      rintro ⟨g16, va, vb, s1, s2⟩ wx ⟨Fx, Bg16, Gg16, Xs1s2⟩
      refine norm_ (a' := ?_) ?_ ?_
      rotate_left
      · simp only [putAll, Act.put, List.setIfInBounds_toArray, List.set_cons_zero, List.set_cons_succ]
        rfl
      refine done_ (by kernel_rfl) ?_
      have HF14 := Kp.mk (HF13.out.trans Fx (fun _ _ h => h))
      have H714 := Kp.mk (H713.out.fr Fx (fun h => h))
      have H1114 := Kp.mk (H1113.out.fr Fx (fun h => h))
      have H16 := Kp.mk Bg16
      have HPR := Kp.mk (Xs1s2.mono (S' := (fun _ => False)) (fun _ _ h => h.elim))
      clear Xs1s2
      clear hHeld LD10 LD11 LD7 CHXa CHXb HF13 H713 H1013 H1113 Fx Bg16 Gg16
      go_upto_region 14 with (fail)
      generalize wx = W14 at HF14 H714 H1114 H16 HPR ⊢
      obtain ⟨mo11, ma11⟩ := mid_b H1114.out HM232.out
      obtain ⟨mo7, ma7⟩ := mid_b H714.out HY32.out
      go_upto_region 15 with (fail)
      clear hcmp mo11 ma11 mo7 ma7
      have hones := HPR.out
      obtain ⟨A1, c1, P1, A2, c2, P2, rfl, rfl, -, -, -⟩ := hones
      have cn0 : W14.cell? ⟨g16, 0, none⟩ = some (.slice A1 P1.length c1) := H16.out.cell 0 _ rfl
      have cn1 : W14.cell? ⟨g16, 1, none⟩ = some (.slice A2 P2.length c2) := H16.out.cell 1 _ rfl
      have CO2 := Kp.mk (CO.out W14 _ _ HF14.out HPR.out)
      generalize P1.length = l1 at cn0 CO2 H16 HPR ⊢
      generalize P2.length = l2 at cn1 CO2 H16 HPR ⊢
      go_wp2_with (fail)
      refine CO2.out.mono ?_
      rintro e W15 ⟨rfl, hf⟩
      have HF15 := Kp.mk (HF14.out.trans hf (fun _ _ h => h))
      clear hf cn0 cn1
      go_wp2_with (fail)
      go_ret
      exact ⟨rfl, HF15.out⟩
  · have HCOL := Kp.mk (HNOT.out hyy)
    have HYY := Kp.mk hyy
    clear hyy
    refine start_ (n := 10) (S := fun w' => Lds w' 29 (.pointer (some ⟨g10, 0, none⟩)) (.agg (bytes M1).toArray) ∧ Lds w' 23 (.pointer (some ⟨g7, 0, none⟩)) (.agg (bytes Y).toArray)) (ds := []) #[false, false, false, false, false, false, false, false, false, false] (by kernel_rfl) rfl rfl ⟨lds_hsh (H10_a.out.drew) HM132.out, lds_h32 (H7_a.out.drew) HY32.out⟩ (fun hHeld => ?_)
    refine pure_ (i := 0) (N := some 76) (v := ?_) (a' := ?_) #[true, false, false, false, false, false, false, false, false, false] rfl rfl (by kernel_rfl) (fun _ _ _ h => h) (Or.inl ⟨by rfl, ?_⟩) ?_ ?_
    rotate_left
    · intro w'
      go_simp
      with_reducible rfl
    rotate_left
    · simp only [Act.put, List.setIfInBounds_toArray, List.set_cons_zero, List.set_cons_succ]
      rfl
    refine pure_ (i := 1) (N := some 77) (v := ?_) (a' := ?_) #[true, true, false, false, false, false, false, false, false, false] rfl rfl (by kernel_rfl) (fun _ _ _ h => h) (Or.inl ⟨by rfl, ?_⟩) ?_ ?_
    rotate_left
    · intro w'
      go_simp
      with_reducible rfl
    rotate_left
    · simp only [Act.put, List.setIfInBounds_toArray, List.set_cons_zero, List.set_cons_succ]
      rfl
    refine pure_ (i := 3) (N := some 79) (v := ?_) (a' := ?_) #[true, true, false, true, false, false, false, false, false, false] rfl rfl (by kernel_rfl) (fun _ _ _ h => h) (Or.inl ⟨by rfl, ?_⟩) ?_ ?_
    rotate_left
    · intro w'
      go_simp
      with_reducible rfl
    rotate_left
    · simp only [Act.put, List.setIfInBounds_toArray, List.set_cons_zero, List.set_cons_succ]
      rfl
    refine pure_ (i := 5) (N := some 81) (v := ?_) (a' := ?_) #[true, true, false, true, false, true, false, false, false, false] rfl rfl (by kernel_rfl) (fun _ _ _ h => h) (Or.inl ⟨by rfl, ?_⟩) ?_ ?_
    rotate_left
    · intro w'
      go_simp
      with_reducible rfl
    rotate_left
    · simp only [Act.put, List.setIfInBounds_toArray, List.set_cons_zero, List.set_cons_succ]
      rfl
    refine take_ (i := 4) (N := some 80) (v := ?_) (a' := ?_) #[true, true, false, true, true, true, false, false, false, false] rfl rfl (by kernel_rfl) (fun _ _ _ h => h) (Or.inl ⟨by rfl, ?_⟩) hHeld ?_ ?_
    rotate_left
    · rintro w' ⟨s0, s1⟩
      refine Lds.run s0 (x := ?_) ?_ ?_
      · exact (Operand.tmp 10)
      · rfl
      · rfl
    rotate_left
    · simp only [Act.put, List.setIfInBounds_toArray, List.set_cons_zero, List.set_cons_succ]
      rfl
    refine take_ (i := 6) (N := some 82) (v := ?_) (a' := ?_) #[true, true, false, true, true, true, true, false, false, false] rfl rfl (by kernel_rfl) (fun _ _ _ h => h) (Or.inl ⟨by rfl, ?_⟩) hHeld ?_ ?_
    rotate_left
    · rintro w' ⟨s0, s1⟩
      refine Lds.run s1 (x := ?_) ?_ ?_
      · exact (Operand.tmp 7)
      · rfl
      · rfl
    rotate_left
    · simp only [Act.put, List.setIfInBounds_toArray, List.set_cons_zero, List.set_cons_succ]
      rfl
    refine one_ (i := 2) (N := some 78) #[true, true, true, true, true, true, true, false, false, false] rfl rfl (by kernel_rfl) (by decide) (fun K hK => ?_)
    refine goes_ Tryd.func18 (by kernel_rfl) rfl #[.slice PB qb cB] (by rfl) rfl rfl (by simp only [List.map_toArray, List.map_cons, List.map_nil]; rfl) ?_
    with_reducible refine (CHb.out _ HF_a.out.drew).mono ?_
    rintro e a1 ⟨v1, rfl, ho1, hf1⟩
    refine ⟨_, rfl, ?_⟩
    refine hK.out _ _ ⟨lds_hsh (H10_a.out.drew.fr hf1 (fun h => h)) HM132.out, lds_h32 (H7_a.out.drew.fr hf1 (fun h => h)) HY32.out⟩ (fun hHeld => ?_)
    clear hK K
    refine norm_ (a' := ?_) ?_ ?_
    rotate_left
    · show Act.put _ (some 78) _ = _
      simp only [Act.put, List.setIfInBounds_toArray, List.set_cons_zero, List.set_cons_succ]
      rfl
    refine one_ (i := 7) (N := some 83) #[true, true, true, true, true, true, true, true, false, false] rfl rfl (by kernel_rfl) (by decide) (fun K hK => ?_)
    refine goes_ Tryd.func20 (by kernel_rfl) rfl #[.int .i64 k, v1, .int .i64 n, .agg (bytes M1).toArray, .int .i64 m, .agg (bytes Y).toArray] (by rfl) rfl rfl (by simp only [List.map_toArray, List.map_cons, List.map_nil]; rfl) ?_
    with_reducible refine (CK2.out _ v1 _ (HF_a.out.drew.trans hf1 (fun _ _ h => h)) ho1).mono ?_
    rintro e a2 ⟨rfl, hf2⟩
    refine ⟨_, rfl, ?_⟩
    refine hK.out _ _ ⟨lds_hsh ((H10_a.out.drew.fr hf1 (fun h => h)).fr hf2 (fun h => h)) HM132.out, lds_h32 ((H7_a.out.drew.fr hf1 (fun h => h)).fr hf2 (fun h => h)) HY32.out⟩ (fun hHeld => ?_)
    clear hK K
    refine norm_ (a' := ?_) ?_ ?_
    rotate_left
    · show Act.put _ (some 83) _ = _
      simp only [Act.put, List.setIfInBounds_toArray, List.set_cons_zero, List.set_cons_succ]
      rfl
    refine pure_ (i := 8) (N := some 84) (v := ?_) (a' := ?_) #[true, true, true, true, true, true, true, true, true, false] rfl rfl (by kernel_rfl) (fun _ _ _ h => h) (Or.inl ⟨by rfl, ?_⟩) ?_ ?_
    rotate_left
    · intro w'
      go_simp
      with_reducible rfl
    rotate_left
    · simp only [Act.put, List.setIfInBounds_toArray, List.set_cons_zero, List.set_cons_succ]
      rfl
    refine pure_ (i := 9) (N := some 15) (v := ?_) (a' := ?_) #[true, true, true, true, true, true, true, true, true, true] rfl rfl (by kernel_rfl) (fun _ _ _ h => h) (Or.inl ⟨by rfl, ?_⟩) ?_ ?_
    rotate_left
    · intro w'
      go_simp
      with_reducible rfl
    rotate_left
    · simp only [Act.put, List.setIfInBounds_toArray, List.set_cons_zero, List.set_cons_succ]
      rfl
    refine done_ (by kernel_rfl) ?_
    have HF13 := Kp.mk ((HF_a.out.drew.trans hf1 (fun _ _ h => h)).trans hf2 (fun _ _ h => h))
    have H713 := Kp.mk ((H7_a.out.drew.fr hf1 (fun h => h)).fr hf2 (fun h => h))
    have H1013 := Kp.mk ((H10_a.out.drew.fr hf1 (fun h => h)).fr hf2 (fun h => h))
    have H1113 := Kp.mk ((H11_a.out.drew.fr hf1 (fun h => h)).fr hf2 (fun h => h))
    clear hHeld HF_a H7_a H10_a H11_a hf1 hf2 ho1
    generalize a2 = W13 at HF13 H713 H1013 H1113 ⊢
    go_upto_region 13 with (fail)
    have LD10 : Kp (∀ W, Fr (fun _ => False) W13 W → Lds W 29 (.pointer (some ⟨g10, 0, none⟩)) (.agg (bytes M1).toArray)) := ⟨fun W hf => lds_hsh (H1013.out.fr hf (fun h => h)) HM132.out⟩
    have LD11 : Kp (∀ W, Fr (fun _ => False) W13 W → Lds W 29 (.pointer (some ⟨g11, 0, none⟩)) (.agg (bytes M2).toArray)) := ⟨fun W hf => lds_hsh (H1113.out.fr hf (fun h => h)) HM232.out⟩
    have LD7 : Kp (∀ W, Fr (fun _ => False) W13 W → Lds W 23 (.pointer (some ⟨g7, 0, none⟩)) (.agg (bytes Y).toArray)) := ⟨fun W hf => lds_h32 (H713.out.fr hf (fun h => h)) HY32.out⟩
    have CHXa : Kp (∀ W, Fr (fun _ => False) W13 W → Calls Tryd.prog 18 #[.slice PA qa cA] W fun e w' => ∃ v, e = .returned v ∧ HOwn w' W13.heap.size v pa ∧ Fr (fun _ => False) W w') :=
      ⟨fun W hf => (CHa.out W (HF13.out.trans hf (fun _ _ h => h))).mono fun e w' h => by
        obtain ⟨v, he, ho, hfr⟩ := h
        exact ⟨v, he, ho.low hf.size, hfr⟩⟩
    have CHXb : Kp (∀ W, Fr (fun _ => False) W13 W → Calls Tryd.prog 18 #[.slice PB qb cB] W fun e w' => ∃ v, e = .returned v ∧ HOwn w' W13.heap.size v pb ∧ Fr (fun _ => False) W w') :=
      ⟨fun W hf => (CHb.out W (HF13.out.trans hf (fun _ _ h => h))).mono fun e w' h => by
        obtain ⟨v, he, ho, hfr⟩ := h
        exact ⟨v, he, ho.low hf.size, hfr⟩⟩
    have CN := Kp.mk (CN.out HCOL.out)
    refine start_ (n := 17) (S := fun w' => Fr (fun _ => False) W13 w') (ds := []) #[false, false, false, false, false, false, false, false, false, false, false, false, false, false, false, false, false] (by kernel_rfl) rfl rfl ((Fr.refl (fun _ => False) W13).drew) (fun hHeld => ?_)
    refine pure_ (i := 0) (N := some 86) (v := ?_) (a' := ?_) #[true, false, false, false, false, false, false, false, false, false, false, false, false, false, false, false, false] rfl rfl (by kernel_rfl) (fun _ _ _ h => h) (Or.inl ⟨by rfl, ?_⟩) ?_ ?_
    rotate_left
    · intro w'
      go_simp
      with_reducible rfl
    rotate_left
    · simp only [Act.put, List.setIfInBounds_toArray, List.set_cons_zero, List.set_cons_succ]
      rfl
    refine pure_ (i := 1) (N := some 87) (v := ?_) (a' := ?_) #[true, true, false, false, false, false, false, false, false, false, false, false, false, false, false, false, false] rfl rfl (by kernel_rfl) (fun _ _ _ h => h) (Or.inl ⟨by rfl, ?_⟩) ?_ ?_
    rotate_left
    · intro w'
      go_simp
      with_reducible rfl
    rotate_left
    · simp only [Act.put, List.setIfInBounds_toArray, List.set_cons_zero, List.set_cons_succ]
      rfl
    refine take_ (i := 2) (N := some 88) (v := ?_) (a' := ?_) #[true, true, true, false, false, false, false, false, false, false, false, false, false, false, false, false, false] rfl rfl (by kernel_rfl) (fun _ _ _ h => h) (Or.inl ⟨by rfl, ?_⟩) hHeld ?_ ?_
    rotate_left
    · intro w' s0
      refine Lds.run (LD10.out w' s0) (x := ?_) ?_ ?_
      · exact (Operand.tmp 10)
      · rfl
      · rfl
    rotate_left
    · simp only [Act.put, List.setIfInBounds_toArray, List.set_cons_zero, List.set_cons_succ]
      rfl
    refine pure_ (i := 3) (N := some 89) (v := ?_) (a' := ?_) #[true, true, true, true, false, false, false, false, false, false, false, false, false, false, false, false, false] rfl rfl (by kernel_rfl) (fun _ _ _ h => h) (Or.inl ⟨by rfl, ?_⟩) ?_ ?_
    rotate_left
    · intro w'
      go_simp
      with_reducible rfl
    rotate_left
    · simp only [Act.put, List.setIfInBounds_toArray, List.set_cons_zero, List.set_cons_succ]
      rfl
    refine take_ (i := 4) (N := some 90) (v := ?_) (a' := ?_) #[true, true, true, true, true, false, false, false, false, false, false, false, false, false, false, false, false] rfl rfl (by kernel_rfl) (fun _ _ _ h => h) (Or.inl ⟨by rfl, ?_⟩) hHeld ?_ ?_
    rotate_left
    · intro w' s0
      refine Lds.run (LD11.out w' s0) (x := ?_) ?_ ?_
      · exact (Operand.tmp 11)
      · rfl
      · rfl
    rotate_left
    · simp only [Act.put, List.setIfInBounds_toArray, List.set_cons_zero, List.set_cons_succ]
      rfl
    refine pure_ (i := 5) (N := some 91) (v := ?_) (a' := ?_) #[true, true, true, true, true, true, false, false, false, false, false, false, false, false, false, false, false] rfl rfl (by kernel_rfl) (fun _ _ _ h => h) (Or.inl ⟨by rfl, ?_⟩) ?_ ?_
    rotate_left
    · intro w'
      go_simp
      with_reducible rfl
    rotate_left
    · simp only [Act.put, List.setIfInBounds_toArray, List.set_cons_zero, List.set_cons_succ]
      rfl
    refine take_ (i := 7) (N := some 93) (v := ?_) (a' := ?_) #[true, true, true, true, true, true, false, true, false, false, false, false, false, false, false, false, false] rfl rfl (by kernel_rfl) (fun _ _ _ h => h) (Or.inl ⟨by rfl, ?_⟩) hHeld ?_ ?_
    rotate_left
    · intro w' s0
      refine Lds.run (LD7.out w' s0) (x := ?_) ?_ ?_
      · exact (Operand.tmp 7)
      · rfl
      · rfl
    rotate_left
    · simp only [Act.put, List.setIfInBounds_toArray, List.set_cons_zero, List.set_cons_succ]
      rfl
    refine pure_ (i := 8) (N := some 94) (v := ?_) (a' := ?_) #[true, true, true, true, true, true, false, true, true, false, false, false, false, false, false, false, false] rfl rfl (by kernel_rfl) (fun _ _ _ h => h) (Or.inl ⟨by rfl, ?_⟩) ?_ ?_
    rotate_left
    · intro w'
      go_simp
      with_reducible rfl
    rotate_left
    · simp only [Act.put, List.setIfInBounds_toArray, List.set_cons_zero, List.set_cons_succ]
      rfl
    refine join_ (σ := Nat × Value × Value) 0 #[true, true, true, true, true, true, true, true, true, true, true, true, true, true, true, true, true] (fun (s : Nat × Value × Value) => match s with | (g16, va, vb) => show List (Tmp × Value) from [(86, .int .i64 k), (87, .int .i64 n), (88, .agg (bytes M1).toArray), (89, .int .i64 m), (90, .agg (bytes M2).toArray), (91, .slice PA qa cA), (92, va), (93, .agg (bytes Y).toArray), (94, .slice PB qb cB), (95, vb), (96, .tuple #[.agg #[.slice none 0 0, .slice none 0 0], .int .i64 col]), (85, .tuple #[.agg #[.slice none 0 0, .slice none 0 0], .int .i64 col]), (97, .agg #[.slice none 0 0, .slice none 0 0]), (98, .int .i64 col), (16, .pointer (some ⟨g16, 0, none⟩)), (17, .int .i64 col)]) (fun (s : Nat × Value × Value) w' => match s with | (g16, va, vb) => Fr (fun _ => False) W13 w' ∧ Blk w' g16 36 [.slice none 0 0, .slice none 0 0] ∧ W13.heap.size ≤ g16) ?_ ?_
    rotate_left
    intro hD0
    refine join_ (σ := Nat × Value × Value) 2 #[true, true, true, true, true, true, true, true, true, true, true, true, true, true, true, false, false] (fun (s : Nat × Value × Value) => match s with | (g16, va, vb) => show List (Tmp × Value) from [(86, .int .i64 k), (87, .int .i64 n), (88, .agg (bytes M1).toArray), (89, .int .i64 m), (90, .agg (bytes M2).toArray), (91, .slice PA qa cA), (92, va), (93, .agg (bytes Y).toArray), (94, .slice PB qb cB), (95, vb), (96, .tuple #[.agg #[.slice none 0 0, .slice none 0 0], .int .i64 col]), (85, .tuple #[.agg #[.slice none 0 0, .slice none 0 0], .int .i64 col]), (97, .agg #[.slice none 0 0, .slice none 0 0]), (98, .int .i64 col), (16, .pointer (some ⟨g16, 0, none⟩))]) (fun (s : Nat × Value × Value) w' => match s with | (g16, va, vb) => Fr (fun _ => False) W13 w' ∧ Blk w' g16 36 [.slice none 0 0, .slice none 0 0] ∧ W13.heap.size ≤ g16) ?_ ?_
    rotate_left
    intro hD1
    refine join_ (σ := Value × Value) 3 #[true, true, true, true, true, true, true, true, true, true, true, true, true, true, false, false, false] (fun (s : Value × Value) => match s with | (va, vb) => show List (Tmp × Value) from [(86, .int .i64 k), (87, .int .i64 n), (88, .agg (bytes M1).toArray), (89, .int .i64 m), (90, .agg (bytes M2).toArray), (91, .slice PA qa cA), (92, va), (93, .agg (bytes Y).toArray), (94, .slice PB qb cB), (95, vb), (96, .tuple #[.agg #[.slice none 0 0, .slice none 0 0], .int .i64 col]), (85, .tuple #[.agg #[.slice none 0 0, .slice none 0 0], .int .i64 col]), (97, .agg #[.slice none 0 0, .slice none 0 0]), (98, .int .i64 col)]) (fun (s : Value × Value) w' => match s with | (va, vb) => Fr (fun _ => False) W13 w') ?_ ?_
    rotate_left
    intro hD2
    refine join_ (σ := Nat × Value × Value) 6 #[true, true, true, true, true, true, true, true, true, true, false, false, false, false, true, false, false] (fun (s : Nat × Value × Value) => match s with | (g16, va, vb) => show List (Tmp × Value) from [(86, .int .i64 k), (87, .int .i64 n), (88, .agg (bytes M1).toArray), (89, .int .i64 m), (90, .agg (bytes M2).toArray), (91, .slice PA qa cA), (92, va), (93, .agg (bytes Y).toArray), (94, .slice PB qb cB), (95, vb), (16, .pointer (some ⟨g16, 0, none⟩))]) (fun (s : Nat × Value × Value) w' => match s with | (g16, va, vb) => Fr (fun _ => False) W13 w' ∧ Blk w' g16 36 [.slice none 0 0, .slice none 0 0] ∧ W13.heap.size ≤ g16 ∧ HOwn w' W13.heap.size va pa ∧ HOwn w' W13.heap.size vb pb) ?_ ?_
    rotate_left
    intro hD3
    refine join_ (σ := Value × Value) 7 #[true, true, true, true, true, true, true, true, true, true, false, false, false, false, false, false, false] (fun (s : Value × Value) => match s with | (va, vb) => show List (Tmp × Value) from [(86, .int .i64 k), (87, .int .i64 n), (88, .agg (bytes M1).toArray), (89, .int .i64 m), (90, .agg (bytes M2).toArray), (91, .slice PA qa cA), (92, va), (93, .agg (bytes Y).toArray), (94, .slice PB qb cB), (95, vb)]) (fun (s : Value × Value) w' => match s with | (va, vb) => Fr (fun _ => False) W13 w' ∧ HOwn w' W13.heap.size va pa ∧ HOwn w' W13.heap.size vb pb) ?_ ?_
    rotate_left
    intro hD4
    refine join_ (σ := Nat × Value) 7 #[true, true, true, true, true, true, true, true, true, false, false, false, false, false, true, false, false] (fun (s : Nat × Value) => match s with | (g16, va) => show List (Tmp × Value) from [(86, .int .i64 k), (87, .int .i64 n), (88, .agg (bytes M1).toArray), (89, .int .i64 m), (90, .agg (bytes M2).toArray), (91, .slice PA qa cA), (92, va), (93, .agg (bytes Y).toArray), (94, .slice PB qb cB), (16, .pointer (some ⟨g16, 0, none⟩))]) (fun (s : Nat × Value) w' => match s with | (g16, va) => Fr (fun _ => False) W13 w' ∧ Blk w' g16 36 [.slice none 0 0, .slice none 0 0] ∧ W13.heap.size ≤ g16 ∧ HOwn w' W13.heap.size va pa) ?_ ?_
    rotate_left
    intro hD5
    refine join_ (σ := Value) 8 #[true, true, true, true, true, true, true, true, true, false, false, false, false, false, false, false, false] (fun (va : Value) => show List (Tmp × Value) from [(86, .int .i64 k), (87, .int .i64 n), (88, .agg (bytes M1).toArray), (89, .int .i64 m), (90, .agg (bytes M2).toArray), (91, .slice PA qa cA), (92, va), (93, .agg (bytes Y).toArray), (94, .slice PB qb cB)]) (fun (va : Value) w' => Fr (fun _ => False) W13 w' ∧ HOwn w' W13.heap.size va pa) ?_ ?_
    rotate_left
    intro hD6
    refine join_ (σ := Nat) 8 #[true, true, true, true, true, true, false, true, true, false, false, false, false, false, true, false, false] (fun (g16 : Nat) => show List (Tmp × Value) from [(86, .int .i64 k), (87, .int .i64 n), (88, .agg (bytes M1).toArray), (89, .int .i64 m), (90, .agg (bytes M2).toArray), (91, .slice PA qa cA), (93, .agg (bytes Y).toArray), (94, .slice PB qb cB), (16, .pointer (some ⟨g16, 0, none⟩))]) (fun (g16 : Nat) w' => Fr (fun _ => False) W13 w' ∧ Blk w' g16 36 [.slice none 0 0, .slice none 0 0] ∧ W13.heap.size ≤ g16) ?_ ?_
    rotate_left
    intro hD7
    · skip
      refine two_ (i := 6) (j := 14) (Ni := some 92) (Nj := some 16) #[true, true, true, true, true, true, true, true, true, false, false, false, false, false, false, false, false] #[true, true, true, true, true, true, false, true, true, false, false, false, false, false, true, false, false] rfl rfl rfl rfl (by kernel_rfl) (by decide) (by decide) (fun K hK => ?_) (fun K hK => ?_)
      · skip
        refine goes_ Tryd.func18 (by kernel_rfl) rfl #[.slice PA qa cA] (by rfl) rfl rfl (by simp only [List.map_toArray, List.map_cons, List.map_nil]; rfl) ?_
        with_reducible refine (CHXa.out _ hHeld).mono ?_
        rintro e wy ⟨va, rfl, Xyva, hq⟩
        refine ⟨_, rfl, ?_⟩
        have Fy : Fr (fun _ => False) W13 wy := hHeld.trans hq (fun _ _ h => h)
        refine hK.out _ _ Fy (fun _ => ?_)
        clear hK K
        refine norm_ (a' := ?_) ?_ ?_
        rotate_left
        · show Act.put _ (some 92) _ = _
          simp only [Act.put, List.setIfInBounds_toArray, List.set_cons_zero, List.set_cons_succ]
          rfl
        refine norm_ ?_ (hD6 va _ ⟨Fy, Xyva⟩)
        simp only [putAll, Act.put, List.setIfInBounds_toArray, List.set_cons_zero, List.set_cons_succ]
      · skip
        refine value_ (by rfl) rfl (al_pair2 _ _ _ rfl) ?_
        have hal : Fr (fun _ => False) W13.drew (W13.drew.alloc (.cells [.slice none 0 0, .slice none 0 0].toArray 36)) := (Fr.refl _ W13.drew).alloc _
        have Fy : Fr (fun _ => False) W13 (W13.drew.alloc (.cells [.slice none 0 0, .slice none 0 0].toArray 36)) := hHeld.trans hal (fun _ _ h => h)
        have Byg16 : Blk (W13.drew.alloc (.cells [.slice none 0 0, .slice none 0 0].toArray 36)) W13.drew.heap.size 36 [.slice none 0 0, .slice none 0 0] := Blk.new W13.drew _ _
        have Gyg16 : W13.heap.size ≤ W13.drew.heap.size := hHeld.size
        refine hK.out _ _ Fy (fun _ => ?_)
        clear hK K
        refine norm_ (a' := ?_) ?_ ?_
        rotate_left
        · show Act.put _ (some 16) _ = _
          simp only [Act.put, List.setIfInBounds_toArray, List.set_cons_zero, List.set_cons_succ]
          rfl
        refine norm_ ?_ (hD7 W13.drew.heap.size _ ⟨Fy, Byg16, Gyg16⟩)
        simp only [putAll, Act.put, List.setIfInBounds_toArray, List.set_cons_zero, List.set_cons_succ]
    rotate_left
    · skip
      rintro ⟨g16, va, vb⟩ wx ⟨Fx, Bg16, Gg16⟩
      refine norm_ (a' := ?_) ?_ ?_
      rotate_left
      · simp only [putAll, Act.put, List.setIfInBounds_toArray, List.set_cons_zero, List.set_cons_succ]
        rfl
      refine one_ (i := 15) (N := none) #[true, true, true, true, true, true, true, true, true, true, true, true, true, true, true, true, false] rfl rfl (by kernel_rfl) (by decide) (fun K hK => ?_)
      refine skip_ (by rfl) rfl (st_ag _ _ (Operand.tmp 16) (Operand.tmp 97) wx 36 g16 0 [.slice none 0 0, .slice none 0 0] rfl rfl rfl (blk_there Bg16 0 _ (Nat.le_refl 2)) (by kernel_rfl) (by simp [Value.oneCell'])) ?_
      have hst : Fr (fun q => q = g16) wx (wx.setCells g16 0 [.slice none 0 0, .slice none 0 0]) := fr_setCells g16 [.slice none 0 0, .slice none 0 0] 0 _
      have Fy : Fr (fun _ => False) W13 (wx.setCells g16 0 [.slice none 0 0, .slice none 0 0]) := Fx.trans (S := fun _ => False) hst (fun q hq e => by have := Gg16; omega)
      have Byg16 : Blk (wx.setCells g16 0 [.slice none 0 0, .slice none 0 0]) g16 36 [.slice none 0 0, .slice none 0 0] := blk_put Bg16 (ys := [.slice none 0 0, .slice none 0 0]) rfl
      refine hK.out _ _ Fy (fun _ => ?_)
      clear hK K
      refine pure_ (i := 16) (N := some 17) (v := ?_) (a' := ?_) #[true, true, true, true, true, true, true, true, true, true, true, true, true, true, true, true, true] rfl rfl (by kernel_rfl) (fun _ _ _ h => h) (Or.inl ⟨by rfl, ?_⟩) ?_ ?_
      rotate_left
      · intro w'
        go_simp
        with_reducible rfl
      rotate_left
      · simp only [Act.put, List.setIfInBounds_toArray, List.set_cons_zero, List.set_cons_succ]
        rfl
      refine norm_ ?_ (hD0 (g16, va, vb) _ ⟨Fy, Byg16, Gg16⟩)
      simp only [putAll, Act.put, List.setIfInBounds_toArray, List.set_cons_zero, List.set_cons_succ]
    · skip
      rintro ⟨va, vb⟩ wx Fx
      refine norm_ (a' := ?_) ?_ ?_
      rotate_left
      · simp only [putAll, Act.put, List.setIfInBounds_toArray, List.set_cons_zero, List.set_cons_succ]
        rfl
      refine one_ (i := 14) (N := some 16) #[true, true, true, true, true, true, true, true, true, true, true, true, true, true, true, false, false] rfl rfl (by kernel_rfl) (by decide) (fun K hK => ?_)
      refine value_ (by rfl) rfl (al_pair2 _ _ _ rfl) ?_
      have hal : Fr (fun _ => False) wx (wx.alloc (.cells [.slice none 0 0, .slice none 0 0].toArray 36)) := (Fr.refl _ wx).alloc _
      have Fy : Fr (fun _ => False) W13 (wx.alloc (.cells [.slice none 0 0, .slice none 0 0].toArray 36)) := Fx.trans hal (fun _ _ h => h)
      have Byg16 : Blk (wx.alloc (.cells [.slice none 0 0, .slice none 0 0].toArray 36)) wx.heap.size 36 [.slice none 0 0, .slice none 0 0] := Blk.new wx _ _
      have Gyg16 : W13.heap.size ≤ wx.heap.size := Fx.size
      refine hK.out _ _ Fy (fun _ => ?_)
      clear hK K
      refine norm_ (a' := ?_) ?_ ?_
      rotate_left
      · show Act.put _ (some 16) _ = _
        simp only [Act.put, List.setIfInBounds_toArray, List.set_cons_zero, List.set_cons_succ]
        rfl
      refine norm_ ?_ (hD1 (wx.heap.size, va, vb) _ ⟨Fy, Byg16, Gyg16⟩)
      simp only [putAll, Act.put, List.setIfInBounds_toArray, List.set_cons_zero, List.set_cons_succ]
    · skip
      rintro ⟨g16, va, vb⟩ wx ⟨Fx, Bg16, Gg16, Xva, Xvb⟩
      refine norm_ (a' := ?_) ?_ ?_
      rotate_left
      · simp only [putAll, Act.put, List.setIfInBounds_toArray, List.set_cons_zero, List.set_cons_succ]
        rfl
      refine one_ (i := 10) (N := some 96) #[true, true, true, true, true, true, true, true, true, true, true, false, false, false, true, false, false] rfl rfl (by kernel_rfl) (by decide) (fun K hK => ?_)
      refine goes_ Tryd.func19 (by kernel_rfl) rfl #[.int .i64 k, .int .i64 n, .agg (bytes M1).toArray, .int .i64 m, .agg (bytes M2).toArray, va, .agg (bytes Y).toArray, vb] (by rfl) rfl rfl (by simp only [List.map_toArray, List.map_cons, List.map_nil]; rfl) ?_
      with_reducible refine (CN.out _ va vb _ _ (HF13.out.trans Fx (fun _ _ h => h)) Xva Xvb).mono ?_
      rintro e wy ⟨rfl, hq⟩
      refine ⟨_, rfl, ?_⟩
      have Fy : Fr (fun _ => False) W13 wy := Fx.trans hq (fun _ _ h => h)
      have Byg16 := Bg16.fr hq (fun h => h)
      refine hK.out _ _ Fy (fun _ => ?_)
      clear hK K
      refine norm_ (a' := ?_) ?_ ?_
      rotate_left
      · show Act.put _ (some 96) _ = _
        simp only [Act.put, List.setIfInBounds_toArray, List.set_cons_zero, List.set_cons_succ]
        rfl
      refine pure_ (i := 11) (N := some 85) (v := ?_) (a' := ?_) #[true, true, true, true, true, true, true, true, true, true, true, true, false, false, true, false, false] rfl rfl (by kernel_rfl) (fun _ _ _ h => h) (Or.inl ⟨by rfl, ?_⟩) ?_ ?_
      rotate_left
      · intro w'
        go_simp
        with_reducible rfl
      rotate_left
      · simp only [Act.put, List.setIfInBounds_toArray, List.set_cons_zero, List.set_cons_succ]
        rfl
      refine pure_ (i := 12) (N := some 97) (v := ?_) (a' := ?_) #[true, true, true, true, true, true, true, true, true, true, true, true, true, false, true, false, false] rfl rfl (by kernel_rfl) (fun _ _ _ h => h) (Or.inl ⟨by rfl, ?_⟩) ?_ ?_
      rotate_left
      · intro w'
        go_simp
        with_reducible rfl
      rotate_left
      · simp only [Act.put, List.setIfInBounds_toArray, List.set_cons_zero, List.set_cons_succ]
        rfl
      refine pure_ (i := 13) (N := some 98) (v := ?_) (a' := ?_) #[true, true, true, true, true, true, true, true, true, true, true, true, true, true, true, false, false] rfl rfl (by kernel_rfl) (fun _ _ _ h => h) (Or.inl ⟨by rfl, ?_⟩) ?_ ?_
      rotate_left
      · intro w'
        go_simp
        with_reducible rfl
      rotate_left
      · simp only [Act.put, List.setIfInBounds_toArray, List.set_cons_zero, List.set_cons_succ]
        rfl
      refine norm_ ?_ (hD1 (g16, va, vb) _ ⟨Fy, Byg16, Gg16⟩)
      simp only [putAll, Act.put, List.setIfInBounds_toArray, List.set_cons_zero, List.set_cons_succ]
    · skip
      rintro ⟨va, vb⟩ wx ⟨Fx, Xva, Xvb⟩
      refine norm_ (a' := ?_) ?_ ?_
      rotate_left
      · simp only [putAll, Act.put, List.setIfInBounds_toArray, List.set_cons_zero, List.set_cons_succ]
        rfl
      refine two_ (i := 10) (j := 14) (Ni := some 96) (Nj := some 16) #[true, true, true, true, true, true, true, true, true, true, true, false, false, false, false, false, false] #[true, true, true, true, true, true, true, true, true, true, false, false, false, false, true, false, false] rfl rfl rfl rfl (by kernel_rfl) (by decide) (by decide) (fun K hK => ?_) (fun K hK => ?_)
      · skip
        refine goes_ Tryd.func19 (by kernel_rfl) rfl #[.int .i64 k, .int .i64 n, .agg (bytes M1).toArray, .int .i64 m, .agg (bytes M2).toArray, va, .agg (bytes Y).toArray, vb] (by rfl) rfl rfl (by simp only [List.map_toArray, List.map_cons, List.map_nil]; rfl) ?_
        with_reducible refine (CN.out _ va vb _ _ (HF13.out.trans Fx (fun _ _ h => h)) Xva Xvb).mono ?_
        rintro e wy ⟨rfl, hq⟩
        refine ⟨_, rfl, ?_⟩
        have Fy : Fr (fun _ => False) W13 wy := Fx.trans hq (fun _ _ h => h)
        refine hK.out _ _ Fy (fun _ => ?_)
        clear hK K
        refine norm_ (a' := ?_) ?_ ?_
        rotate_left
        · show Act.put _ (some 96) _ = _
          simp only [Act.put, List.setIfInBounds_toArray, List.set_cons_zero, List.set_cons_succ]
          rfl
        refine pure_ (i := 11) (N := some 85) (v := ?_) (a' := ?_) #[true, true, true, true, true, true, true, true, true, true, true, true, false, false, false, false, false] rfl rfl (by kernel_rfl) (fun _ _ _ h => h) (Or.inl ⟨by rfl, ?_⟩) ?_ ?_
        rotate_left
        · intro w'
          go_simp
          with_reducible rfl
        rotate_left
        · simp only [Act.put, List.setIfInBounds_toArray, List.set_cons_zero, List.set_cons_succ]
          rfl
        refine pure_ (i := 12) (N := some 97) (v := ?_) (a' := ?_) #[true, true, true, true, true, true, true, true, true, true, true, true, true, false, false, false, false] rfl rfl (by kernel_rfl) (fun _ _ _ h => h) (Or.inl ⟨by rfl, ?_⟩) ?_ ?_
        rotate_left
        · intro w'
          go_simp
          with_reducible rfl
        rotate_left
        · simp only [Act.put, List.setIfInBounds_toArray, List.set_cons_zero, List.set_cons_succ]
          rfl
        refine pure_ (i := 13) (N := some 98) (v := ?_) (a' := ?_) #[true, true, true, true, true, true, true, true, true, true, true, true, true, true, false, false, false] rfl rfl (by kernel_rfl) (fun _ _ _ h => h) (Or.inl ⟨by rfl, ?_⟩) ?_ ?_
        rotate_left
        · intro w'
          go_simp
          with_reducible rfl
        rotate_left
        · simp only [Act.put, List.setIfInBounds_toArray, List.set_cons_zero, List.set_cons_succ]
          rfl
        refine norm_ ?_ (hD2 (va, vb) _ Fy)
        simp only [putAll, Act.put, List.setIfInBounds_toArray, List.set_cons_zero, List.set_cons_succ]
      · skip
        refine value_ (by rfl) rfl (al_pair2 _ _ _ rfl) ?_
        have hal : Fr (fun _ => False) wx (wx.alloc (.cells [.slice none 0 0, .slice none 0 0].toArray 36)) := (Fr.refl _ wx).alloc _
        have Fy : Fr (fun _ => False) W13 (wx.alloc (.cells [.slice none 0 0, .slice none 0 0].toArray 36)) := Fx.trans hal (fun _ _ h => h)
        have Byg16 : Blk (wx.alloc (.cells [.slice none 0 0, .slice none 0 0].toArray 36)) wx.heap.size 36 [.slice none 0 0, .slice none 0 0] := Blk.new wx _ _
        have Gyg16 : W13.heap.size ≤ wx.heap.size := Fx.size
        have Xyva := Xva.keep hal (fun _ _ h => h)
        have Xyvb := Xvb.keep hal (fun _ _ h => h)
        refine hK.out _ _ Fy (fun _ => ?_)
        clear hK K
        refine norm_ (a' := ?_) ?_ ?_
        rotate_left
        · show Act.put _ (some 16) _ = _
          simp only [Act.put, List.setIfInBounds_toArray, List.set_cons_zero, List.set_cons_succ]
          rfl
        refine norm_ ?_ (hD3 (wx.heap.size, va, vb) _ ⟨Fy, Byg16, Gyg16, Xyva, Xyvb⟩)
        simp only [putAll, Act.put, List.setIfInBounds_toArray, List.set_cons_zero, List.set_cons_succ]
    · skip
      rintro ⟨g16, va⟩ wx ⟨Fx, Bg16, Gg16, Xva⟩
      refine norm_ (a' := ?_) ?_ ?_
      rotate_left
      · simp only [putAll, Act.put, List.setIfInBounds_toArray, List.set_cons_zero, List.set_cons_succ]
        rfl
      refine one_ (i := 9) (N := some 95) #[true, true, true, true, true, true, true, true, true, true, false, false, false, false, true, false, false] rfl rfl (by kernel_rfl) (by decide) (fun K hK => ?_)
      refine goes_ Tryd.func18 (by kernel_rfl) rfl #[.slice PB qb cB] (by rfl) rfl rfl (by simp only [List.map_toArray, List.map_cons, List.map_nil]; rfl) ?_
      with_reducible refine (CHXb.out _ Fx).mono ?_
      rintro e wy ⟨vb, rfl, Xyvb, hq⟩
      refine ⟨_, rfl, ?_⟩
      have Fy : Fr (fun _ => False) W13 wy := Fx.trans hq (fun _ _ h => h)
      have Byg16 := Bg16.fr hq (fun h => h)
      have Xyva := Xva.keep hq (fun _ _ h => h)
      refine hK.out _ _ Fy (fun _ => ?_)
      clear hK K
      refine norm_ (a' := ?_) ?_ ?_
      rotate_left
      · show Act.put _ (some 95) _ = _
        simp only [Act.put, List.setIfInBounds_toArray, List.set_cons_zero, List.set_cons_succ]
        rfl
      refine norm_ ?_ (hD3 (g16, va, vb) _ ⟨Fy, Byg16, Gg16, Xyva, Xyvb⟩)
      simp only [putAll, Act.put, List.setIfInBounds_toArray, List.set_cons_zero, List.set_cons_succ]
    · skip
      rintro va wx ⟨Fx, Xva⟩
      refine norm_ (a' := ?_) ?_ ?_
      rotate_left
      · simp only [putAll, Act.put, List.setIfInBounds_toArray, List.set_cons_zero, List.set_cons_succ]
        rfl
      refine two_ (i := 9) (j := 14) (Ni := some 95) (Nj := some 16) #[true, true, true, true, true, true, true, true, true, true, false, false, false, false, false, false, false] #[true, true, true, true, true, true, true, true, true, false, false, false, false, false, true, false, false] rfl rfl rfl rfl (by kernel_rfl) (by decide) (by decide) (fun K hK => ?_) (fun K hK => ?_)
      · skip
        refine goes_ Tryd.func18 (by kernel_rfl) rfl #[.slice PB qb cB] (by rfl) rfl rfl (by simp only [List.map_toArray, List.map_cons, List.map_nil]; rfl) ?_
        with_reducible refine (CHXb.out _ Fx).mono ?_
        rintro e wy ⟨vb, rfl, Xyvb, hq⟩
        refine ⟨_, rfl, ?_⟩
        have Fy : Fr (fun _ => False) W13 wy := Fx.trans hq (fun _ _ h => h)
        have Xyva := Xva.keep hq (fun _ _ h => h)
        refine hK.out _ _ Fy (fun _ => ?_)
        clear hK K
        refine norm_ (a' := ?_) ?_ ?_
        rotate_left
        · show Act.put _ (some 95) _ = _
          simp only [Act.put, List.setIfInBounds_toArray, List.set_cons_zero, List.set_cons_succ]
          rfl
        refine norm_ ?_ (hD4 (va, vb) _ ⟨Fy, Xyva, Xyvb⟩)
        simp only [putAll, Act.put, List.setIfInBounds_toArray, List.set_cons_zero, List.set_cons_succ]
      · skip
        refine value_ (by rfl) rfl (al_pair2 _ _ _ rfl) ?_
        have hal : Fr (fun _ => False) wx (wx.alloc (.cells [.slice none 0 0, .slice none 0 0].toArray 36)) := (Fr.refl _ wx).alloc _
        have Fy : Fr (fun _ => False) W13 (wx.alloc (.cells [.slice none 0 0, .slice none 0 0].toArray 36)) := Fx.trans hal (fun _ _ h => h)
        have Byg16 : Blk (wx.alloc (.cells [.slice none 0 0, .slice none 0 0].toArray 36)) wx.heap.size 36 [.slice none 0 0, .slice none 0 0] := Blk.new wx _ _
        have Gyg16 : W13.heap.size ≤ wx.heap.size := Fx.size
        have Xyva := Xva.keep hal (fun _ _ h => h)
        refine hK.out _ _ Fy (fun _ => ?_)
        clear hK K
        refine norm_ (a' := ?_) ?_ ?_
        rotate_left
        · show Act.put _ (some 16) _ = _
          simp only [Act.put, List.setIfInBounds_toArray, List.set_cons_zero, List.set_cons_succ]
          rfl
        refine norm_ ?_ (hD5 (wx.heap.size, va) _ ⟨Fy, Byg16, Gyg16, Xyva⟩)
        simp only [putAll, Act.put, List.setIfInBounds_toArray, List.set_cons_zero, List.set_cons_succ]
    · skip
      rintro g16 wx ⟨Fx, Bg16, Gg16⟩
      refine norm_ (a' := ?_) ?_ ?_
      rotate_left
      · simp only [putAll, Act.put, List.setIfInBounds_toArray, List.set_cons_zero, List.set_cons_succ]
        rfl
      refine one_ (i := 6) (N := some 92) #[true, true, true, true, true, true, true, true, true, false, false, false, false, false, true, false, false] rfl rfl (by kernel_rfl) (by decide) (fun K hK => ?_)
      refine goes_ Tryd.func18 (by kernel_rfl) rfl #[.slice PA qa cA] (by rfl) rfl rfl (by simp only [List.map_toArray, List.map_cons, List.map_nil]; rfl) ?_
      with_reducible refine (CHXa.out _ Fx).mono ?_
      rintro e wy ⟨va, rfl, Xyva, hq⟩
      refine ⟨_, rfl, ?_⟩
      have Fy : Fr (fun _ => False) W13 wy := Fx.trans hq (fun _ _ h => h)
      have Byg16 := Bg16.fr hq (fun h => h)
      refine hK.out _ _ Fy (fun _ => ?_)
      clear hK K
      refine norm_ (a' := ?_) ?_ ?_
      rotate_left
      · show Act.put _ (some 92) _ = _
        simp only [Act.put, List.setIfInBounds_toArray, List.set_cons_zero, List.set_cons_succ]
        rfl
      refine norm_ ?_ (hD5 (g16, va) _ ⟨Fy, Byg16, Gg16, Xyva⟩)
      simp only [putAll, Act.put, List.setIfInBounds_toArray, List.set_cons_zero, List.set_cons_succ]
    rintro ⟨g16, va, vb⟩ wx ⟨Fx, Bg16, Gg16⟩
    refine norm_ (a' := ?_) ?_ ?_
    rotate_left
    · simp only [putAll, Act.put, List.setIfInBounds_toArray, List.set_cons_zero, List.set_cons_succ]
      rfl
    refine done_ (by kernel_rfl) ?_
    have HF14 := Kp.mk (HF13.out.trans Fx (fun _ _ h => h))
    have H714 := Kp.mk (H713.out.fr Fx (fun h => h))
    have H1114 := Kp.mk (H1113.out.fr Fx (fun h => h))
    have H16 := Kp.mk Bg16
    clear hHeld LD10 LD11 LD7 CHXa CHXb HF13 H713 H1013 H1113 Fx Bg16 Gg16
    go_upto_region 14 with (fail)
    generalize wx = W14 at HF14 H714 H1114 H16 ⊢
    have hcz := HCOL.out
    have cn0 : W14.cell? ⟨g16, 0, none⟩ = some (.slice none 0 0) := H16.out.cell 0 _ rfl
    have cn1 : W14.cell? ⟨g16, 1, none⟩ = some (.slice none 0 0) := H16.out.cell 1 _ rfl
    by_cases hck : ck = 0
    · have hckd : (ck == 0) = true := by simp [hck]
      have hq : M2 = Y := by
        by_cases h : M2 = Y
        · exact h
        · exact absurd ⟨hck, h⟩ HYY.out
      have hcmp := HCMP.out
      have hd : decide (M2 = Y) = true := decide_eq_true hq
      simp only [hd] at hcmp
      clear hd hq hck
      obtain ⟨mo11, ma11⟩ := mid_b H1114.out HM232.out
      obtain ⟨mo7, ma7⟩ := mid_b H714.out HY32.out
      go_upto_region 16 with (fail)
      go_wp2_with (fail)
      go_ret
      exact ⟨by simp [hcz], HF14.out⟩
    · have hckd : (ck == 0) = false := by simp [hck]
      clear hck
      go_upto_region 16 with (fail)
      go_wp2_with (fail)
      go_ret
      exact ⟨by simp [hcz], HF14.out⟩
end Go.Proofs.YtjcmgpiapbeodaaDoor.Sha
