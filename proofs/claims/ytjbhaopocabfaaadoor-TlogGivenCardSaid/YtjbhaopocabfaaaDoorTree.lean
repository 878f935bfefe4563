/-
  New, Add: a tree begins, a record joins.
-/
import Derived.Test.YtjbhaopocabfaaaDoorTRoot
import Derived.Test.YtjbhaopocabfaaaDoorReg
namespace Go.Proofs.YtjbhaopocabfaaaDoor.Sha
open Go.RowKit Go.Proofs.YtjbhaopocabfaaaDoor.Mem Go.Proofs.YtjbhaopocabfaaaDoorW.PrintWords Go.Proofs.YtjbhaopocabfaaaDoorW.PrintLast Go.Proofs.YtjbhaopocabfaaaDoor.Pl Go.Proofs.YtjbhaopocabfaaaDoor.Wk
attribute [local go_sem ↓] Go.wp_at_zero Go.wp_at_succ wp_load_hash wp_store_hash wp_load_mid23 wp_load_mid25 wp_store_mid25 wp_build_hash
attribute [local go_sem] rowAt_drew rowOk_drew midOk_drew midAt_drew rowBlock rowCells rowOff midFree_drew
set_option maxHeartbeats 4000000 in
set_option maxRecDepth 100000 in
theorem New_raw (k : Int) (w : World) : Calls Tryd.prog 16 #[.int .i64 k] w fun e w' => ∃ g gk go, e = .returned (.pointer (some ⟨g, 0, none⟩)) ∧ Blk w' g 111 (treeCells gk go (strength k) (.slice none 0 0) 0) ∧ Hs w' gk go (strength k) ∧ w.heap.size ≤ g ∧ gk < g ∧ go < g ∧ w'.heap.size = g + 1 ∧ Fr (fun _ => False) w w' := by
  have CH := Kp.mk (fun W => hasherOf_calls k W)
  obtain ⟨s, hs⟩ : ∃ s, s = strength k := ⟨_, rfl⟩
  rw [← hs] at CH ⊢
  clear hs
  unfold hasherV at CH
  go_enter Tryd.func16, Tryd.ntmps16
  go_wp2_with fail
  refine (CH.out w).mono ?_
  rintro e W1 ⟨gk, go, rfl, hH, hk, ho, hf⟩
  have HH := Kp.mk hH
  have HF := Kp.mk hf
  clear hH hf hk ho CH
  go_wp2
  go_ret
  have ha := (Fr.refl (fun _ => False) W1).alloc (.cells (treeCells gk go s (.slice none 0 0) 0).toArray 111)
  exact ⟨W1.heap.size, gk, go, rfl, Blk.new W1 _ _, HH.out.fr ha (fun h => h) (fun h => h), HF.out.size, HH.out.k.lt, HH.out.o.lt, by simp, HF.out.alloc _⟩
theorem New_calls (k : Int) (w : World) : Calls Tryd.prog 16 #[.int .i64 k] w fun e w' => ∃ g, e = .returned (.pointer (some ⟨g, 0, none⟩)) ∧ Tr w' w.heap.size g (strength k) [] (fun q => q = g) ∧ Fr (fun _ => False) w w' := by
  refine (New_raw k w).mono ?_
  rintro e w' ⟨g, gk, go, rfl, h1, h2, h3, h4, h5, h6, h7⟩
  exact ⟨g, rfl, ⟨gk, go, .slice none 0 0, h1, h2, HLst.nil _ _, by simp, by simp, rfl, (fun k hk => by cases hk), (fun q hq => by rw [hq]; exact h3), by omega, by omega⟩, h7⟩
theorem and_one (m : Nat) (h : m ≤ 281474976710656) : Go.bits .and .i64 (m : Int) 1 = ((m % 2 : Nat) : Int) := by
  rw [show (1 : Int) = ((1 : Nat) : Int) from rfl, and_i64 _ _ (by omega) (by decide), Nat.and_one_is_mod]
theorem hown_cut {w : World} {base : Nat} {v : Value} {L : List (List Int)} (h : HOwn w base v L) (hL : L ≠ []) : ∃ b c, v = .slice (some ⟨b, 0, none⟩) L.length c ∧ HRow w (fun _ => False) (some ⟨b, 0, none⟩) c L := by
  obtain ⟨A, c, hv, hr⟩ := h.row (fun _ => False) (fun _ _ h => h)
  rcases h.2.2 with ⟨_, h0⟩ | ⟨g, cap, cur, hv2, _⟩
  · exact absurd (List.eq_nil_of_length_eq_zero h0) hL
  · rw [hv] at hv2
    cases hv2
    exact ⟨g, c, hv, hr⟩
/-- one hash more behind the stored ones of a tree: what the append leaves, and the tree with it -/
theorem push_step {w W : World} {B g gx gk go s id : Nat} {F : Nat → Prop} {v : Value} {L : List (List Int)} {x : List Int} (HT : Blk W g 111 (treeCells gk go s v id)) (HO : HLst W B v L) (HX : Blk W gx 25 (bytes x)) (hx : x.length = 32) (HF : Fr F w W)
    (HW : ∀ k, v.ownBlock = some k → (F k ∨ w.heap.size ≤ k) ∧ k ≠ g ∧ k ≠ gx) (hg : F g) (hgx : gx ≠ g) (hb : L.length ≤ 131072) (hB : B ≤ w.heap.size) :
    ∃ b2 c2 W2, (Builtin.append_ #[48, 48] 48 #[v, .slice (some ⟨W.heap.size, 0, none⟩) 1 1]).run Tryd.prog (W.drew.alloc (.cells (bytes x).toArray 25)) = .ok (.slice (some ⟨b2, 0, none⟩) (L.length + 1) c2) W2 ∧
      Blk W2 g 111 (treeCells gk go s v id) ∧ Blk W2 gx 25 (bytes x) ∧
      Blk (W2.setCell ⟨g, 4, none⟩ (.slice (some ⟨b2, 0, none⟩) (L.length + 1) c2)) g 111 (treeCells gk go s (.slice (some ⟨b2, 0, none⟩) (L.length + 1) c2) id) ∧
      HOwn (W2.setCell ⟨g, 4, none⟩ (.slice (some ⟨b2, 0, none⟩) (L.length + 1) c2)) B (.slice (some ⟨b2, 0, none⟩) (L.length + 1) c2) (L ++ [x]) ∧
      Blk (W2.setCell ⟨g, 4, none⟩ (.slice (some ⟨b2, 0, none⟩) (L.length + 1) c2)) gx 25 (bytes x) ∧
      Fr F w (W2.setCell ⟨g, 4, none⟩ (.slice (some ⟨b2, 0, none⟩) (L.length + 1) c2)) ∧ (F b2 ∨ w.heap.size ≤ b2) ∧ b2 ≠ g ∧ b2 ≠ gx := by
  have hsz : (W.drew.alloc (.cells (bytes x).toArray 25)).heap.size = W.heap.size + 1 := by simp
  have hfa : Fr (fun _ => False) W (W.drew.alloc (.cells (bytes x).toArray 25)) := (Fr.refl (fun _ => False) W).drew.alloc _
  have hXn : HRow (W.drew.alloc (.cells (bytes x).toArray 25)) (fun _ => False) (some ⟨W.heap.size, 0, none⟩) 1 [x] := hrow_new W.drew x hx
  obtain ⟨v2, W2, hrun, hown2, hgr2, hat2⟩ := run_appendK (W.drew.alloc (.cells (bytes x).toArray 25)) B v L (HO.keep hfa (fun _ _ h => h)) (some ⟨W.heap.size, 0, none⟩) 1 1 [x] rfl (by simp) hXn (by simp only [List.length_singleton]; omega) (by have := HF.size; omega)
  have hf2 : Fr (fun q => v.ownBlock = some q) W W2 := ((Fr.refl (fun q => v.ownBlock = some q) W).drew.alloc (.cells (bytes x).toArray 25)).grown hgr2 (fun q _ h => h)
  have hlen : (L ++ [x]).length = L.length + 1 := by simp
  obtain ⟨b2, c2, hv2, hr2⟩ := hown_cut hown2 (by simp)
  rw [hlen] at hv2
  subst hv2
  have hT2 := HT.fr hf2 (fun h => (HW g h).2.1 rfl)
  have hX2 := HX.fr hf2 (fun h => (HW gx h).2.2 rfl)
  have hb2 : (F b2 ∨ w.heap.size ≤ b2) ∧ b2 ≠ g ∧ b2 ≠ gx := by
    rcases hat2 with h | ⟨k, h, hk⟩
    · exact HW b2 h.symm
    · have h2 : b2 = k := Option.some.inj h
      have h3 := HF.size
      have h4 := HT.lt
      have h5 := HX.lt
      exact ⟨.inr (by omega), by omega, by omega⟩
  have hfs : Fr (fun q => q = g) W2 (W2.setCell ⟨g, 4, none⟩ (.slice (some ⟨b2, 0, none⟩) (L.length + 1) c2)) := Fr.set (S := fun q => q = g) (a := ⟨g, 4, none⟩) (Fr.refl _ W2) (fun _ => rfl) _
  refine ⟨b2, c2, W2, hrun, hT2, hX2, ?_, hown2.keep hfs (fun k hk => ?_), hX2.fr hfs hgx, ?_, hb2⟩
  · exact hT2.set 4 _
  · have h1 : b2 = k := Option.some.inj hk
    rw [← h1]
    exact hb2.2.1
  · refine (HF.trans hf2 (fun q hq h => ?_)).trans hfs (fun q _ h => by rw [h]; exact hg)
    rcases (HW q h).1 with h1 | h1
    · exact h1
    · omega
/-- a record joins: j nodes have been laid down behind the leaf -/
def AddAt (w wr : World) (B g gk go g7 s : Nat) (ls : List (List Int)) (x : List Int) (F : Nat → Prop) (j : Nat) (v : Value) : Prop :=
  Blk wr g 111 (treeCells gk go s v ls.length) ∧ HOwn wr B v (storedL s ls ++ laidBy (nodeL s) [] (ls ++ [x]) ls.length (j + 1)) ∧ Blk wr g7 25 (bytes (nodeAt (nodeL s) [] (ls ++ [x]) j (ls.length / 2 ^ j))) ∧ Fr F w wr ∧
    (∀ k, v.ownBlock = some k → (F k ∨ w.heap.size ≤ k) ∧ k ≠ g ∧ k ≠ g7)
theorem addAt_zero {w wr : World} {B g gk go g7 s : Nat} {ls : List (List Int)} {x : List Int} {F : Nat → Prop} {v : Value} (h1 : Blk wr g 111 (treeCells gk go s v ls.length)) (h2 : HOwn wr B v (storedL s ls ++ [x])) (h3 : Blk wr g7 25 (bytes x)) (h4 : Fr F w wr) (h5 : ∀ k, v.ownBlock = some k → (F k ∨ w.heap.size ≤ k) ∧ k ≠ g ∧ k ≠ g7) :
    AddAt w wr B g gk go g7 s ls x F 0 v := by
  have e : (ls ++ [x]).getD ls.length [] = x := by simp [List.getD]
  refine ⟨h1, ?_, ?_, h4, h5⟩
  · rw [Nat.zero_add, laidBy_one, e]; exact h2
  · rw [Nat.pow_zero, Nat.div_one, nodeAt_zero, e]; exact h3
/-- what the next node is made of -/
theorem addAt_look (s : Nat) (ls : List (List Int)) (x : List Int) (j m : Nat) (hj : j ≤ t1 ls.length) (hm : m = ls.length / 2 ^ j) (hb : m % 2 = 1) :
    cnt ((m - 1 + 1) * 2 ^ j - 1) + j < (storedL s ls ++ laidBy (nodeL s) [] (ls ++ [x]) ls.length (j + 1)).length ∧ j < t1 ls.length ∧ j ≤ 48 ∨ 281474976710656 ≤ ls.length := by
  by_cases hl : ls.length < 281474976710656
  · left
    have h1 : m * 2 ^ j ≤ ls.length := by rw [hm]; exact Nat.div_mul_le_self _ _
    have h2 := cnt_step_le (m - 1) j
    have h3 := cnt_mono (show (m - 1 + 1) * 2 ^ j ≤ ls.length by rw [show m - 1 + 1 = m by omega]; exact h1)
    have h4 := t1_le ls.length hl
    refine ⟨?_, (t1_odd_iff ls.length j hj).1 (by rw [← hm]; exact hb), by omega⟩
    rw [List.length_append, storedL_len]
    omega
  · right; omega
theorem addAt_left (s : Nat) (ls : List (List Int)) (x : List Int) (j m : Nat) (hm : m = ls.length / 2 ^ j) (hb : m % 2 = 1) :
    (storedL s ls ++ laidBy (nodeL s) [] (ls ++ [x]) ls.length (j + 1)).getD (cnt ((m - 1 + 1) * 2 ^ j - 1) + j) [] = nodeAt (nodeL s) [] (ls ++ [x]) j (m - 1) := by
  have h1 : m * 2 ^ j ≤ ls.length := by rw [hm]; exact Nat.div_mul_le_self _ _
  have h0 : (storedL s ls ++ laidBy (nodeL s) [] (ls ++ [x]) ls.length (j + 1)).take (cnt ls.length) = storedN (nodeL s) [] (ls ++ [x]) ls.length := by
    rw [List.take_append_of_le_length (by rw [storedL_len]; exact Nat.le_refl _), List.take_of_length_le (by rw [storedL_len]; exact Nat.le_refl _), storedN_append (nodeL s) [] ls [x] ls.length (Nat.le_refl _)]
    rfl
  have h2 := (look_left (nodeL s) [] (ls ++ [x]) _ ls.length h0 j m (by omega) h1).2
  rw [show m - 1 + 1 = m by omega]
  exact h2
theorem addAt_len (s : Nat) (hs : s ≤ 32) (ls : List (List Int)) (x : List Int) (hls : ∀ y ∈ ls, y.length = 32) (hx : x.length = 32) (j q : Nat) (hq : (q + 1) * 2 ^ j ≤ ls.length + 1) : (nodeAt (nodeL s) [] (ls ++ [x]) j q).length = 32 := by
  refine node_len32 s hs (ls ++ [x]) (fun y hy => ?_) j q (by rw [List.length_append, List.length_singleton]; exact hq)
  rcases List.mem_append.1 hy with h | h
  · exact hls y h
  · rw [List.mem_singleton.1 h]; exact hx
theorem addAt_next {w wr : World} {B g gk go g7 s : Nat} {ls : List (List Int)} {x M : List Int} {F : Nat → Prop} {v : Value} {j : Nat} (hj : j + 1 ≤ t1 ls.length) (hM : M = nodeL s (nodeAt (nodeL s) [] (ls ++ [x]) j (ls.length / 2 ^ j - 1)) (nodeAt (nodeL s) [] (ls ++ [x]) j (ls.length / 2 ^ j)))
    (h1 : Blk wr g 111 (treeCells gk go s v ls.length)) (h2 : HOwn wr B v ((storedL s ls ++ laidBy (nodeL s) [] (ls ++ [x]) ls.length (j + 1)) ++ [M])) (h3 : Blk wr g7 25 (bytes M)) (h4 : Fr F w wr) (h5 : ∀ k, v.ownBlock = some k → (F k ∨ w.heap.size ≤ k) ∧ k ≠ g ∧ k ≠ g7) :
    AddAt w wr B g gk go g7 s ls x F (j + 1) v := by
  have ho := (t1_odd_iff ls.length j (by omega)).2 (by omega)
  have e := node_up (nodeL s) [] (ls ++ [x]) ls.length j ho
  rw [← hM] at e
  refine ⟨h1, ?_, by rw [e]; exact h3, h4, h5⟩
  rw [laidBy_succ, e, ← List.append_assoc]
  exact h2
theorem addAt_end {w wr : World} {B g gk go g7 s : Nat} {ls : List (List Int)} {x : List Int} {F : Nat → Prop} {v : Value} {j : Nat} (hj : j ≤ t1 ls.length) (hb : ¬ ls.length / 2 ^ j % 2 = 1) (hg : F g) (h8 : ∀ q, F q → B ≤ q) (h9 : ¬ F gk) (h10 : ¬ F go) (hH : Hs wr gk go s) (hgk : gk < w.heap.size) (hgo : go < w.heap.size) (hls : ∀ y ∈ ls, y.length = 32) (hx : x.length = 32) (hl : ls.length < 65536)
    (h : AddAt w wr B g gk go g7 s ls x F j v) (hf : Blk wr g 111 (treeCells gk go s v ls.length)) :
    ∃ F', Tr (wr.setCell ⟨g, 5, none⟩ (.int .i64 ((ls.length : Int) + 1))) B g s (ls ++ [x]) F' ∧ (∀ q, F' q → F q ∨ w.heap.size ≤ q) ∧ Fr F w (wr.setCell ⟨g, 5, none⟩ (.int .i64 ((ls.length : Int) + 1))) := by
  obtain ⟨_, h2, _, h4, h5⟩ := h
  have hjt : j = t1 ls.length := by
    rcases Nat.lt_or_ge j (t1 ls.length) with h | h
    · exact absurd ((t1_odd_iff ls.length j hj).2 h) hb
    · omega
  have hfs : Fr (fun q => q = g) wr (wr.setCell ⟨g, 5, none⟩ (.int .i64 ((ls.length : Int) + 1))) := Fr.set (S := fun q => q = g) (a := ⟨g, 5, none⟩) (Fr.refl _ wr) (fun _ => rfl) _
  have hgn : g ≠ gk ∧ g ≠ go := ⟨fun e => h9 (e ▸ hg), fun e => h10 (e ▸ hg)⟩
  have hlt : ∀ k, v.ownBlock = some k → k < wr.heap.size ∧ B ≤ k := h2.lt
  refine ⟨fun q => q = g ∨ v.ownBlock = some q, ⟨gk, go, v, ?_, hH.fr hfs (fun e => hgn.1 e.symm) (fun e => hgn.2 e.symm), .inl ?_, ?_, ?_, .inl rfl, fun k hk => ⟨.inr hk, (h5 k hk).2.1⟩, ?_, ?_, ?_⟩, ?_, h4.trans hfs (fun q _ e => by rw [e]; exact hg)⟩
  · have h6 := hf.set 5 (.int .i64 ((ls.length : Int) + 1))
    rw [List.length_append, List.length_singleton]
    exact h6
  · rw [storedL_snoc, ← hjt]
    exact h2.keep hfs (fun k hk => (h5 k hk).2.1)
  · intro y hy
    rcases List.mem_append.1 hy with h | h
    · exact hls y h
    · rw [List.mem_singleton.1 h]; exact hx
  · rw [List.length_append, List.length_singleton]; omega
  · rintro q (rfl | hq)
    · exact h8 _ hg
    · exact (hlt q hq).2
  · rintro (e | hq)
    · exact hgn.1 e.symm
    · rcases (h5 gk hq).1 with h | h
      · exact h9 h
      · omega
  · rintro (e | hq)
    · exact hgn.2 e.symm
    · rcases (h5 go hq).1 with h | h
      · exact h10 h
      · omega
  · rintro q (rfl | hq)
    · exact .inl hg
    · exact (h5 q hq).1
set_option maxHeartbeats 4000000 in
set_option maxRecDepth 100000 in
theorem Add_full (x : List Int) (hx : x.length = 32) (B g s : Nat) (ls : List (List Int)) (F : Nat → Prop) (w : World) (hT : Tr w B g s ls F) (hlen : ls.length = 65536) :
    Calls Tryd.prog 20 #[.pointer (some ⟨g, 0, none⟩), .agg (bytes x).toArray] w fun e w' => e = .returned (.tuple #[.int .i64 0, .int .i64 2]) ∧ Fr (fun _ => False) w w' := by
  obtain ⟨gk, go, v0, h1, _⟩ := hT
  have HB := Kp.mk (h1.alloc (.cells (bytes x).toArray 25))
  have hx1 := hashOk_bytes x hx
  clear h1
  rw [hlen] at HB
  clear hlen hx
  have c5 : (w.alloc (.cells (bytes x).toArray 25)).cell? ⟨g, 5, none⟩ = _ := HB.out.cell 5 _ rfl
  go_enter Tryd.func20, Tryd.ntmps20
  go_wp2
  go_ret2
  exact ⟨rfl, (Fr.refl _ w).alloc _⟩
set_option maxHeartbeats 4000000 in
set_option maxRecDepth 100000 in
theorem Add_calls (x : List Int) (hx : x.length = 32) (B g s : Nat) (ls : List (List Int)) (F : Nat → Prop) (w : World) (hL : Laid w) (hB : low ≤ B) (hT : Tr w B g s ls F) (hlen : ls.length < 65536) :
    Calls Tryd.prog 20 #[.pointer (some ⟨g, 0, none⟩), .agg (bytes x).toArray] w fun e w' => e = .returned (.tuple #[.int .i64 (ls.length : Int), .int .i64 0]) ∧ ∃ F', Tr w' B g s (ls ++ [x]) F' ∧ (∀ q, F' q → F q ∨ w.heap.size ≤ q) ∧ Fr F w w' := by
  obtain ⟨gk, go, v0, h1, h2, h3, h4, h5, h6, h7, h8, h9, h10⟩ := hT
  have hs32 := h2.le
  have hB2 : B ≤ w.heap.size := Nat.le_trans (h8 g h6) (Nat.le_of_lt h1.lt)
  have CN : Kp (∀ W l r, Fr F w W → l.length = 32 → r.length = 32 → Calls Tryd.prog 81 #[.agg (bytes l).toArray, .agg (bytes r).toArray, .pointer (some ⟨go, 0, none⟩)] W fun e w' => e = .returned (.agg (bytes (nodeL s l r)).toArray) ∧ Fr (fun _ => False) W w') :=
    ⟨fun W l r hf hl hr => node_calls l r hl hr gk go s W (hL.fr hf (fun q hq => Nat.le_trans hB (h8 q hq))) (h2.fr hf h9 h10)⟩
  obtain ⟨id, hid⟩ : ∃ id, id = ls.length := ⟨_, rfl⟩
  obtain ⟨A0, c0, hv0, hr0⟩ := h3.row (fun _ => False) (fun _ _ h => h)
  have hSL := storedL_len s ls
  have hcl := cnt_le ls.length
  have HLT : Kp (∀ k, v0.ownBlock = some k → k < w.heap.size) := ⟨fun k hk => (h3.lt k hk).1⟩
  have HX32 := Kp.mk hx
  have HOw := Kp.mk h7
  have HGW : Kp (g < w.heap.size) := ⟨h1.lt⟩
  have HGK : Kp (gk < w.heap.size ∧ go < w.heap.size) := ⟨h2.k.lt, h2.o.lt⟩
  have HFg := Kp.mk h6
  have HF8 := Kp.mk h8
  have HF9 := Kp.mk h9
  have HF10 := Kp.mk h10
  have HH := Kp.mk h2
  have HS32 := Kp.mk hs32
  have HB2 := Kp.mk hB2
  have HLS := Kp.mk h4
  have HID := Kp.mk hid
  have HT0 : Kp (Blk w g 111 (treeCells gk go s v0 id)) := ⟨by rw [hid]; exact h1⟩
  have HS0 := Kp.mk h3
  have HSL : Kp ((storedL s ls).length ≤ 131071) := ⟨by omega⟩
  rw [← hid] at hlen ⊢
  obtain ⟨n0, hn0⟩ : ∃ n0, n0 = (storedL s ls).length := ⟨_, rfl⟩
  rw [← hn0] at hv0
  subst hv0
  clear h1 h2 h3 h4 h5 h6 h7 h8 h9 h10 hs32 hB2 hid hSL hr0 hcl hL hx hn0
  go_enter Tryd.func20, Tryd.ntmps20
  go_upto_region 1 with (fail)
  obtain ⟨g3, hg3⟩ : ∃ g3, g3 = w.heap.size := ⟨_, rfl⟩
  obtain ⟨W1, hW1⟩ : ∃ W1, W1 = w.alloc (.cells (bytes x).toArray 25) := ⟨_, rfl⟩
  have HX1 : Kp (Blk W1 g3 25 (bytes x)) := ⟨by rw [hW1, hg3]; exact Blk.new' w (bytes x).toArray _ rfl⟩
  have hfa : Fr (fun _ => False) w W1 := by rw [hW1]; exact (Fr.refl _ w).alloc _
  have HF1 := Kp.mk (hfa.mono (S' := F) (fun _ _ h => h.elim))
  have HT1 := Kp.mk (HT0.out.fr hfa (fun h => h))
  have HS1 := Kp.mk (HS0.out.keep hfa (fun _ _ h => h))
  have HG3 : Kp (w.heap.size = g3) := ⟨hg3.symm⟩
  rw [← hg3, ← hW1]
  clear hg3 hW1 hfa HT0 HS0
  have c5 : W1.cell? ⟨g, 5, none⟩ = some (.int .i64 (id : Int)) := HT1.out.cell 5 _ rfl
  have hid : decide ((65536 : Int) ≤ (id : Int)) = false := decide_eq_false (by omega)
  have HLEN := Kp.mk hlen
  clear hlen
  go_upto_region 4 with (fail)
  clear c5
  obtain ⟨b2, c2, W2, hrun, hT2, hX2, hT3, hO3, hX3, hF3, hb2⟩ := push_step HT1.out HS1.out HX1.out HX32.out HF1.out (fun k hk => ⟨.inl (HOw.out k hk).1, (HOw.out k hk).2, by have := HLT.out k hk; have := HG3.out; omega⟩) HFg.out (by have := HGW.out; have := HG3.out; omega) (by have := HSL.out; omega) HB2.out
  have HT2 := Kp.mk hT2
  have HX2 := Kp.mk hX2
  have HT3 := Kp.mk hT3
  have HO3 := Kp.mk hO3
  have HX3 := Kp.mk hX3
  have HF3 := Kp.mk hF3
  have HA3 := Kp.mk hb2
  clear hT2 hX2 hT3 hO3 hX3 hF3 hb2
  refine start_ (n := 11) (S := fun w' => Lds w' 48 (.pointer (some ⟨g, 4, none⟩)) (.slice A0 n0 c0) ∧ Lds w' 25 (.pointer (some ⟨g3, 0, none⟩)) (.agg (bytes x).toArray)) (ds := [10]) #[false, false, false, false, false, false, false, false, false, false, false] (by kernel_rfl) rfl rfl ⟨lds_list (HT1.out.drew.cell 4 _ rfl), lds_blk HX1.out.drew HX32.out⟩ (fun hHeld => ?_)
  refine pure_ (i := 0) (N := some 19) (v := ?_) (a' := ?_) #[true, false, false, false, false, false, false, false, false, false, false] rfl rfl (by kernel_rfl) (fun _ _ _ h => h) (Or.inl ⟨by rfl, ?_⟩) ?_ ?_
  rotate_left
  · intro w'
    go_simp
    with_reducible rfl
  rotate_left
  · simp only [Act.put, List.setIfInBounds_toArray, List.set_cons_zero, List.set_cons_succ]
    rfl
  refine pure_ (i := 1) (N := some 20) (v := ?_) (a' := ?_) #[true, true, false, false, false, false, false, false, false, false, false] rfl rfl (by kernel_rfl) (fun _ _ _ h => h) (Or.inl ⟨by rfl, ?_⟩) ?_ ?_
  rotate_left
  · intro w'
    go_simp
    with_reducible rfl
  rotate_left
  · simp only [Act.put, List.setIfInBounds_toArray, List.set_cons_zero, List.set_cons_succ]
    rfl
  refine pure_ (i := 2) (N := some 21) (v := ?_) (a' := ?_) #[true, true, true, false, false, false, false, false, false, false, false] rfl rfl (by kernel_rfl) (fun _ _ _ h => h) (Or.inl ⟨by rfl, ?_⟩) ?_ ?_
  rotate_left
  · intro w'
    go_simp
    with_reducible rfl
  rotate_left
  · simp only [Act.put, List.setIfInBounds_toArray, List.set_cons_zero, List.set_cons_succ]
    rfl
  refine pure_ (i := 3) (N := some 22) (v := ?_) (a' := ?_) #[true, true, true, true, false, false, false, false, false, false, false] rfl rfl (by kernel_rfl) (fun _ _ _ h => h) (Or.inl ⟨by rfl, ?_⟩) ?_ ?_
  rotate_left
  · intro w'
    go_simp
    with_reducible rfl
  rotate_left
  · simp only [Act.put, List.setIfInBounds_toArray, List.set_cons_zero, List.set_cons_succ]
    rfl
  refine take_ (i := 4) (N := some 23) (v := ?_) (a' := ?_) #[true, true, true, true, true, false, false, false, false, false, false] rfl rfl (by kernel_rfl) (fun _ _ _ h => h) (Or.inl ⟨by rfl, ?_⟩) hHeld ?_ ?_
  rotate_left
  · rintro w' ⟨s0, s1⟩
    refine Lds.run s0 (x := ?_) ?_ ?_
    · exact (Operand.tmp 22)
    · rfl
    · rfl
  rotate_left
  · simp only [Act.put, List.setIfInBounds_toArray, List.set_cons_zero, List.set_cons_succ]
    rfl
  refine take_ (i := 5) (N := some 24) (v := ?_) (a' := ?_) #[true, true, true, true, true, true, false, false, false, false, false] rfl rfl (by kernel_rfl) (fun _ _ _ h => h) (Or.inl ⟨by rfl, ?_⟩) hHeld ?_ ?_
  rotate_left
  · rintro w' ⟨s0, s1⟩
    refine Lds.run s1 (x := ?_) ?_ ?_
    · exact (Operand.tmp 3)
    · rfl
    · rfl
  rotate_left
  · simp only [Act.put, List.setIfInBounds_toArray, List.set_cons_zero, List.set_cons_succ]
    rfl
  refine one_ (i := 6) (N := some 25) #[true, true, true, true, true, true, true, false, false, false, false] rfl rfl (by kernel_rfl) (by decide) (fun K hK => ?_)
  refine value_ (by rfl) rfl (bs_hash _ _ (Operand.tmp 24) _ x rfl rfl HX32.out) ?_
  refine hK.out _ _ ⟨lds_list ((HT1.out.drew.alloc _).cell 4 _ rfl), lds_blk (HX1.out.drew.alloc _) HX32.out⟩ (fun hHeld => ?_)
  clear hK K
  refine norm_ (a' := ?_) ?_ ?_
  rotate_left
  · show Act.put _ (some 25) _ = _
    simp only [Act.put, List.setIfInBounds_toArray, List.set_cons_zero, List.set_cons_succ]
    rfl
  refine one_ (i := 7) (N := some 26) #[true, true, true, true, true, true, true, true, false, false, false] rfl rfl (by kernel_rfl) (by decide) (fun K hK => ?_)
  refine value_ (by rfl) rfl (ap_exec hrun (Operand.tmp 23) (Operand.tmp 25) rfl rfl rfl rfl) ?_
  refine hK.out _ _ ⟨lds_list (HT2.out.cell 4 _ rfl), lds_blk HX2.out HX32.out⟩ (fun hHeld => ?_)
  clear hK K
  refine norm_ (a' := ?_) ?_ ?_
  rotate_left
  · show Act.put _ (some 26) _ = _
    simp only [Act.put, List.setIfInBounds_toArray, List.set_cons_zero, List.set_cons_succ]
    rfl
  refine pure_ (i := 8) (N := some 27) (v := ?_) (a' := ?_) #[true, true, true, true, true, true, true, true, true, false, false] rfl rfl (by kernel_rfl) (fun _ _ _ h => h) (Or.inl ⟨by rfl, ?_⟩) ?_ ?_
  rotate_left
  · intro w'
    go_simp
    with_reducible rfl
  rotate_left
  · simp only [Act.put, List.setIfInBounds_toArray, List.set_cons_zero, List.set_cons_succ]
    rfl
  refine pure_ (i := 9) (N := some 28) (v := ?_) (a' := ?_) #[true, true, true, true, true, true, true, true, true, true, false] rfl rfl (by kernel_rfl) (fun _ _ _ h => h) (Or.inl ⟨by rfl, ?_⟩) ?_ ?_
  rotate_left
  · intro w'
    go_simp
    with_reducible rfl
  rotate_left
  · simp only [Act.put, List.setIfInBounds_toArray, List.set_cons_zero, List.set_cons_succ]
    rfl
  refine last_ (i := 10) (N := none) #[true, true, true, true, true, true, true, true, true, true, true] rfl rfl (by kernel_rfl) (by decide) (fun K hK => ?_)
  refine skip_ (by rfl) rfl (st_list _ _ (Operand.tmp 28) (Operand.tmp 26) W2 g 4 _ _ _ _ _ rfl rfl rfl HT2.out (by simp [treeCells])) ?_
  refine hK.out _ _ ?_
  clear hK K
  refine done_ (by kernel_rfl) ?_
  clear hrun HT2 HX2 HT1 HX1 HF1 HS1 HOw HLT
  obtain ⟨W3, hW3⟩ : ∃ W3, W3 = W2.setCell ⟨g, 4, none⟩ (.slice (some ⟨b2, 0, none⟩) ((storedL s ls).length + 1) c2) := ⟨_, rfl⟩
  rw [← hW3] at HT3 HO3 HX3 HF3
  rw [← hW3]
  clear hW3
  obtain ⟨n2, hn2⟩ : ∃ n2, n2 = (storedL s ls).length + 1 := ⟨_, rfl⟩
  rw [← hn2] at HT3 HO3
  rw [← hn2]
  clear hn2
  have Z3 : Kp ((Tryd.prog.info? 25).map (·.size) = some (bytes x).length) := ⟨by rw [bytes_length, HX32.out]; kernel_rfl⟩
  have ok3 := rowOk_blk HX3.out Z3.out
  have at3 := rowAt_blk HX3.out
  have hnew : Blk (W3.alloc (.cells #[.int .u8 0, .int .u8 0, .int .u8 0, .int .u8 0, .int .u8 0, .int .u8 0, .int .u8 0, .int .u8 0, .int .u8 0, .int .u8 0, .int .u8 0, .int .u8 0, .int .u8 0, .int .u8 0, .int .u8 0, .int .u8 0, .int .u8 0, .int .u8 0, .int .u8 0, .int .u8 0, .int .u8 0, .int .u8 0, .int .u8 0, .int .u8 0, .int .u8 0, .int .u8 0, .int .u8 0, .int .u8 0, .int .u8 0, .int .u8 0, .int .u8 0, .int .u8 0] 25)) W3.heap.size 25 [.int .u8 0, .int .u8 0, .int .u8 0, .int .u8 0, .int .u8 0, .int .u8 0, .int .u8 0, .int .u8 0, .int .u8 0, .int .u8 0, .int .u8 0, .int .u8 0, .int .u8 0, .int .u8 0, .int .u8 0, .int .u8 0, .int .u8 0, .int .u8 0, .int .u8 0, .int .u8 0, .int .u8 0, .int .u8 0, .int .u8 0, .int .u8 0, .int .u8 0, .int .u8 0, .int .u8 0, .int .u8 0, .int .u8 0, .int .u8 0, .int .u8 0, .int .u8 0] := Blk.new W3 _ _
  have HNEW := Kp.mk hnew
  clear hnew
  go_upto_region 6 with (refine wpList_storeH rfl rfl (Operand.tmp 7) (Operand.tmp 29) rfl W3.heap.size _ _ x rfl rfl HNEW.out rfl HX32.out ?_)
  obtain ⟨g7, hg7⟩ : ∃ g7, g7 = W3.heap.size := ⟨_, rfl⟩
  obtain ⟨W4, hW4⟩ : ∃ W4, W4 = (W3.alloc (.cells #[.int .u8 0, .int .u8 0, .int .u8 0, .int .u8 0, .int .u8 0, .int .u8 0, .int .u8 0, .int .u8 0, .int .u8 0, .int .u8 0, .int .u8 0, .int .u8 0, .int .u8 0, .int .u8 0, .int .u8 0, .int .u8 0, .int .u8 0, .int .u8 0, .int .u8 0, .int .u8 0, .int .u8 0, .int .u8 0, .int .u8 0, .int .u8 0, .int .u8 0, .int .u8 0, .int .u8 0, .int .u8 0, .int .u8 0, .int .u8 0, .int .u8 0, .int .u8 0] 25)).setRow W3.heap.size (bytes x).toArray := ⟨_, rfl⟩
  have hfr := fr_row (Fr.refl (fun _ => False) W3) (.cells #[.int .u8 0, .int .u8 0, .int .u8 0, .int .u8 0, .int .u8 0, .int .u8 0, .int .u8 0, .int .u8 0, .int .u8 0, .int .u8 0, .int .u8 0, .int .u8 0, .int .u8 0, .int .u8 0, .int .u8 0, .int .u8 0, .int .u8 0, .int .u8 0, .int .u8 0, .int .u8 0, .int .u8 0, .int .u8 0, .int .u8 0, .int .u8 0, .int .u8 0, .int .u8 0, .int .u8 0, .int .u8 0, .int .u8 0, .int .u8 0, .int .u8 0, .int .u8 0] 25) (bytes x).toArray
  rw [← hW4] at hfr
  have hX7 : Blk W4 g7 25 (bytes x) := by rw [hW4, hg7]; exact blk_row W3 _ _ _
  have hg7w : w.heap.size ≤ g7 := by have := HF3.out.size; omega
  have hb7 : b2 ≠ g7 := by have := (HO3.out.lt b2 rfl).1; omega
  have hgg7 : g ≠ g7 := by have := HGW.out; omega
  have HAD : Kp (AddAt w W4 B g gk go g7 s ls x F 0 (.slice (some ⟨b2, 0, none⟩) n2 c2)) := ⟨addAt_zero (by rw [← HID.out]; exact HT3.out.fr hfr (fun h => h)) (HO3.out.keep hfr (fun _ _ h => h)) hX7 (HF3.out.trans hfr (fun _ _ h => h.elim)) (fun k hk => by
    obtain rfl : b2 = k := Option.some.inj hk
    exact ⟨HA3.out.1, HA3.out.2.1, hb7⟩)⟩
  have HG7 : Kp (w.heap.size ≤ g7 ∧ g ≠ g7) := ⟨hg7w, hgg7⟩
  rw [← hW4, ← hg7]
  clear hW4 hg7 hfr hX7 hg7w hb7 hgg7 HT3 HO3 HX3 HF3 HA3 Z3 ok3 at3 HNEW HG3
  go_upto_region 7 with (fail)
  go_loopw [8, 9] (fun a m wr => ∃ (j : Nat) (v : Value), a = .int .i64 j ∧ m = .int .i64 ((id / 2 ^ j : Nat) : Int) ∧ Kp (j ≤ t1 id) ∧ Kp (AddAt w wr B g gk go g7 s ls x F j v)) (fun a _ _ => t1 id - (intOf a).toNat)
  case atStart => exact ⟨0, _, rfl, by rw [Nat.pow_zero, Nat.div_one], ⟨Nat.zero_le _⟩, HAD⟩
  case round =>
    clear HAD
    obtain ⟨j, v, rfl, rfl, hj, HA⟩ := hrel
    have hj48 : j ≤ 48 := Nat.le_trans hj.out (t1_le id (by have := HLEN.out; omega))
    obtain ⟨m, hm⟩ : ∃ m, m = id / 2 ^ j := ⟨_, rfl⟩
    have hml : m ≤ id := by rw [hm]; exact Nat.div_le_self _ _
    have hm48 : m ≤ 281474976710656 := by have := HLEN.out; omega
    rw [← hm]
    have HM := Kp.mk hm
    have HML : Kp (m ≤ 65535) := ⟨by have := HLEN.out; omega⟩
    clear hm
    by_cases hb : m % 2 = 1
    · have hbit : (Go.bits .and .i64 (m : Int) 1 == 1) = true := by rw [and_one m hm48, hb]; rfl
      have hid2 : m = ls.length / 2 ^ j := by rw [HM.out, HID.out]
      have hjj : j ≤ t1 ls.length := by rw [← HID.out]; exact hj.out
      obtain ⟨hT5, hO5, hX5, hF5, hw5⟩ := HA.out
      rw [← HID.out] at hT5
      rw [← hid2] at hX5
      have hlk : cnt ((m - 1 + 1) * 2 ^ j - 1) + j < (storedL s ls ++ laidBy (nodeL s) [] (ls ++ [x]) ls.length (j + 1)).length ∧ j < t1 ls.length ∧ j ≤ 48 := by
        rcases addAt_look s ls x j m hjj hid2 hb with h | h
        · exact h
        · have := HLEN.out; have := HID.out; omega
      have hlf := addAt_left s ls x j m hid2 hb
      have hm2 : (m - 1 + 1) * 2 ^ j ≤ id := by
        rw [show m - 1 + 1 = m by omega, HM.out]; exact Nat.div_mul_le_self _ _
      have hst := (t1_step ls.length j hjj).1
      rw [← hid2] at hst
      have hy32 := addAt_len s HS32.out ls x HLS.out HX32.out j (m - 1) (by have := HID.out; omega)
      have hz32 := addAt_len s HS32.out ls x HLS.out HX32.out j m (by omega)
      have CP := Kp.mk (place_calls j (m - 1) hj48 (by have := HLEN.out; omega))
      have hstl : (storedL s ls ++ laidBy (nodeL s) [] (ls ++ [x]) ls.length (j + 1)).length ≤ 131072 := by
        have h1 := cnt_succ ls.length
        have h2 := cnt_le (ls.length + 1)
        have h3 := HLEN.out
        have h4 := HID.out
        rw [List.length_append, storedL_len, laidBy_len]; omega
      obtain ⟨p, hp⟩ : ∃ p, p = cnt ((m - 1 + 1) * 2 ^ j - 1) + j := ⟨_, rfl⟩
      rw [← hp] at hlk hlf CP
      obtain ⟨ST, hST⟩ : ∃ ST, ST = storedL s ls ++ laidBy (nodeL s) [] (ls ++ [x]) ls.length (j + 1) := ⟨_, rfl⟩
      have HST := Kp.mk hST
      rw [← hST] at hlk hlf hO5 hstl
      obtain ⟨y, hy⟩ : ∃ y, y = nodeAt (nodeL s) [] (ls ++ [x]) j (m - 1) := ⟨_, rfl⟩
      obtain ⟨z, hz⟩ : ∃ z, z = nodeAt (nodeL s) [] (ls ++ [x]) j m := ⟨_, rfl⟩
      rw [← hy] at hlf hy32
      rw [← hz] at hX5 hz32
      obtain ⟨M, hM⟩ : ∃ M, M = nodeL s y z := ⟨_, rfl⟩
      have hM32 : M.length = 32 := by rw [hM]; exact ofL_len _ _ HS32.out
      have HMM : Kp (M = nodeL s (nodeAt (nodeL s) [] (ls ++ [x]) j (ls.length / 2 ^ j - 1)) (nodeAt (nodeL s) [] (ls ++ [x]) j (ls.length / 2 ^ j))) := ⟨by rw [← hid2, hM, hy, hz]⟩
      obtain ⟨b, c, hv, hr⟩ := hown_cut hO5 (List.ne_nil_of_length_pos (by omega))
      subst hv
      have hgetp : ST[p]'hlk.1 = y := by
        rw [← hlf]; simp only [List.getD, List.getElem?_eq_getElem hlk.1, Option.getD_some]
      have hldp : ∀ W, Fr (fun _ => False) wr W → Lds W 25 (.pointer (some ⟨b, p * 32, none⟩)) (.agg (bytes y).toArray) := fun W hf => by
        have h := lds_row (hr.fr hf) p hlk.1
        rw [hgetp, Nat.zero_add] at h
        exact h
      have HLD := Kp.mk hldp
      have CN1 : Kp (∀ W, Fr (fun _ => False) wr W → Calls Tryd.prog 81 #[.agg (bytes y).toArray, .agg (bytes z).toArray, .pointer (some ⟨go, 0, none⟩)] W fun e w' => e = .returned (.agg (bytes M).toArray) ∧ Fr (fun _ => False) W w') := ⟨fun W hf => by rw [hM]; exact CN.out W y z (hF5.trans hf (fun _ _ h => h.elim)) hy32 hz32⟩
      obtain ⟨sl, hsl⟩ : ∃ sl, sl = ST.length := ⟨_, rfl⟩
      have HSLE := Kp.mk hsl
      have hpn : p < sl := by rw [hsl]; exact hlk.1
      have hpi : (p : Int) < (sl : Int) := Int.ofNat_lt.2 hpn
      rw [← hsl] at hT5 hO5
      have HT5 := Kp.mk hT5
      have HO5 := Kp.mk hO5
      have HX5 := Kp.mk hX5
      have HF5 := Kp.mk hF5
      have HW5 := Kp.mk hw5
      have HZ32 := Kp.mk hz32
      have HM32 := Kp.mk hM32
      have HJ1 : Kp (j + 1 ≤ t1 ls.length) := ⟨hlk.2.1⟩
      have HSTL := Kp.mk hstl
      have HW48 : Kp ((m : Int) - 1 = ((m - 1 : Nat) : Int)) := ⟨by omega⟩
      have HW46 : Kp (IntKind.i64.wrap ((m - 1 : Nat) : Int) = ((m - 1 : Nat) : Int)) := ⟨by have := HML.out; simp [IntKind.wrap, IntKind.bits, IntKind.signed]; omega⟩
      clear hsl hid2 hjj hT5 hO5 hX5 hF5 hw5 hlk hlf hm2 hst hy32 hz32 hstl hp hST hy hz hM hM32 hr hgetp hldp HA
      go_upto_region 9 with (fail)
      refine start_ (n := 18) (S := fun w' => Lds w' 101 (.pointer (some ⟨g, 3, none⟩)) (.func (.func 81) #[] #[.pointer (some ⟨go, 0, none⟩)]) ∧ Lds w' 48 (.pointer (some ⟨g, 4, none⟩)) (.slice (some ⟨b, 0, none⟩) sl c) ∧ Lds w' 25 (.pointer (some ⟨b, p * 32, none⟩)) (.agg (bytes y).toArray) ∧ Lds w' 25 (.pointer (some ⟨g7, 0, none⟩)) (.agg (bytes z).toArray)) (ds := [17]) #[false, false, false, false, false, false, false, false, false, false, false, false, false, false, false, false, false, false] (by kernel_rfl) rfl rfl ⟨lds_node ((HT5.out.fr ((Fr.refl (fun _ => False) wr).drew) (fun h => h)).cell 3 _ rfl), lds_list ((HT5.out.fr ((Fr.refl (fun _ => False) wr).drew) (fun h => h)).cell 4 _ rfl), HLD.out _ ((Fr.refl (fun _ => False) wr).drew), lds_blk (HX5.out.fr ((Fr.refl (fun _ => False) wr).drew) (fun h => h)) HZ32.out⟩ (fun hHeld => ?_)
      refine pure_ (i := 0) (N := some 38) (v := ?_) (a' := ?_) #[true, false, false, false, false, false, false, false, false, false, false, false, false, false, false, false, false, false] rfl rfl (by kernel_rfl) (fun _ _ _ h => h) (Or.inl ⟨by rfl, ?_⟩) ?_ ?_
      rotate_left
      · intro w'
        go_simp
        with_reducible rfl
      rotate_left
      · simp only [Act.put, List.setIfInBounds_toArray, List.set_cons_zero, List.set_cons_succ]
        rfl
      refine pure_ (i := 1) (N := some 39) (v := ?_) (a' := ?_) #[true, true, false, false, false, false, false, false, false, false, false, false, false, false, false, false, false, false] rfl rfl (by kernel_rfl) (fun _ _ _ h => h) (Or.inl ⟨by rfl, ?_⟩) ?_ ?_
      rotate_left
      · intro w'
        go_simp
        with_reducible rfl
      rotate_left
      · simp only [Act.put, List.setIfInBounds_toArray, List.set_cons_zero, List.set_cons_succ]
        rfl
      refine pure_ (i := 2) (N := some 40) (v := ?_) (a' := ?_) #[true, true, true, false, false, false, false, false, false, false, false, false, false, false, false, false, false, false] rfl rfl (by kernel_rfl) (fun _ _ _ h => h) (Or.inl ⟨by rfl, ?_⟩) ?_ ?_
      rotate_left
      · intro w'
        go_simp
        with_reducible rfl
      rotate_left
      · simp only [Act.put, List.setIfInBounds_toArray, List.set_cons_zero, List.set_cons_succ]
        rfl
      refine pure_ (i := 3) (N := some 41) (v := ?_) (a' := ?_) #[true, true, true, true, false, false, false, false, false, false, false, false, false, false, false, false, false, false] rfl rfl (by kernel_rfl) (fun _ _ _ h => h) (Or.inl ⟨by rfl, ?_⟩) ?_ ?_
      rotate_left
      · intro w'
        go_simp
        with_reducible rfl
      rotate_left
      · simp only [Act.put, List.setIfInBounds_toArray, List.set_cons_zero, List.set_cons_succ]
        rfl
      refine pure_ (i := 5) (N := some 43) (v := ?_) (a' := ?_) #[true, true, true, true, false, true, false, false, false, false, false, false, false, false, false, false, false, false] rfl rfl (by kernel_rfl) (fun _ _ _ h => h) (Or.inl ⟨by rfl, ?_⟩) ?_ ?_
      rotate_left
      · intro w'
        go_simp
        with_reducible rfl
      rotate_left
      · simp only [Act.put, List.setIfInBounds_toArray, List.set_cons_zero, List.set_cons_succ]
        rfl
      refine pure_ (i := 6) (N := some 44) (v := ?_) (a' := ?_) #[true, true, true, true, false, true, true, false, false, false, false, false, false, false, false, false, false, false] rfl rfl (by kernel_rfl) (fun _ _ _ h => h) (Or.inl ⟨by rfl, ?_⟩) ?_ ?_
      rotate_left
      · intro w'
        go_simp
        with_reducible rfl
      rotate_left
      · simp only [Act.put, List.setIfInBounds_toArray, List.set_cons_zero, List.set_cons_succ]
        rfl
      refine pure_ (i := 7) (N := some 45) (v := ?_) (a' := ?_) #[true, true, true, true, false, true, true, true, false, false, false, false, false, false, false, false, false, false] rfl rfl (by kernel_rfl) (fun _ _ _ h => h) (Or.inl ⟨by rfl, ?_⟩) ?_ ?_
      rotate_left
      · intro w'
        go_simp
        with_reducible rfl
      rotate_left
      · simp only [Act.put, List.setIfInBounds_toArray, List.set_cons_zero, List.set_cons_succ]
        rfl
      refine pure_ (i := 9) (N := some 47) (v := ?_) (a' := ?_) #[true, true, true, true, false, true, true, true, false, true, false, false, false, false, false, false, false, false] rfl rfl (by kernel_rfl) (fun _ _ _ h => h) (Or.inl ⟨by rfl, ?_⟩) ?_ ?_
      rotate_left
      · intro w'
        go_simp
        with_reducible rfl
      rotate_left
      · simp only [Act.put, List.setIfInBounds_toArray, List.set_cons_zero, List.set_cons_succ]
        rfl
      refine pure_ (i := 10) (N := some 48) (v := ?_) (a' := ?_) #[true, true, true, true, false, true, true, true, false, true, true, false, false, false, false, false, false, false] rfl rfl (by kernel_rfl) (fun _ _ _ h => h) (Or.inl ⟨by rfl, ?_⟩) ?_ ?_
      rotate_left
      · intro w'
        go_simp
        with_reducible rfl
      rotate_left
      · simp only [Act.put, List.setIfInBounds_toArray, List.set_cons_zero, List.set_cons_succ]
        rfl
      refine pure_ (i := 11) (N := some 49) (v := ?_) (a' := ?_) #[true, true, true, true, false, true, true, true, false, true, true, true, false, false, false, false, false, false] rfl rfl (by kernel_rfl) (fun _ _ _ h => h) (Or.inl ⟨by rfl, ?_⟩) ?_ ?_
      rotate_left
      · intro w'
        go_simp
        with_reducible rfl
      rotate_left
      · simp only [Act.put, List.setIfInBounds_toArray, List.set_cons_zero, List.set_cons_succ, HW48.out, HW46.out]
        rfl
      refine take_ (i := 4) (N := some 42) (v := ?_) (a' := ?_) #[true, true, true, true, true, true, true, true, false, true, true, true, false, false, false, false, false, false] rfl rfl (by kernel_rfl) (fun _ _ _ h => h) (Or.inl ⟨by rfl, ?_⟩) hHeld ?_ ?_
      rotate_left
      · rintro w' ⟨s0, s1, s2, s3⟩
        refine Lds.run s0 (x := ?_) ?_ ?_
        · exact (Operand.tmp 41)
        · rfl
        · rfl
      rotate_left
      · simp only [Act.put, List.setIfInBounds_toArray, List.set_cons_zero, List.set_cons_succ]
        rfl
      refine take_ (i := 8) (N := some 46) (v := ?_) (a' := ?_) #[true, true, true, true, true, true, true, true, true, true, true, true, false, false, false, false, false, false] rfl rfl (by kernel_rfl) (fun _ _ _ h => h) (Or.inl ⟨by rfl, ?_⟩) hHeld ?_ ?_
      rotate_left
      · rintro w' ⟨s0, s1, s2, s3⟩
        refine Lds.run s1 (x := ?_) ?_ ?_
        · exact (Operand.tmp 45)
        · rfl
        · rfl
      rotate_left
      · simp only [Act.put, List.setIfInBounds_toArray, List.set_cons_zero, List.set_cons_succ]
        rfl
      refine take_ (i := 15) (N := some 53) (v := ?_) (a' := ?_) #[true, true, true, true, true, true, true, true, true, true, true, true, false, false, false, true, false, false] rfl rfl (by kernel_rfl) (fun _ _ _ h => h) (Or.inl ⟨by rfl, ?_⟩) hHeld ?_ ?_
      rotate_left
      · rintro w' ⟨s0, s1, s2, s3⟩
        refine Lds.run s3 (x := ?_) ?_ ?_
        · exact (Operand.tmp 7)
        · rfl
        · rfl
      rotate_left
      · simp only [Act.put, List.setIfInBounds_toArray, List.set_cons_zero, List.set_cons_succ]
        rfl
      refine one_ (i := 12) (N := some 50) #[true, true, true, true, true, true, true, true, true, true, true, true, true, false, false, true, false, false] rfl rfl (by kernel_rfl) (by decide) (fun K hK => ?_)
      refine goes_ Tryd.func58 (by kernel_rfl) rfl #[.int .i64 (j : Int), .int .i64 ((m - 1 : Nat) : Int)] (by rfl) rfl rfl (by simp only [List.map_toArray, List.map_cons, List.map_nil]; rfl) ?_
      with_reducible refine (CP.out _).mono ?_
      rintro e a1 ⟨rfl, hq⟩
      refine ⟨_, rfl, ?_⟩
      have Fa1 : Kp (Fr (fun _ => False) wr a1) := ⟨((Fr.refl (fun _ => False) wr).drew).trans hq (fun _ _ h => h)⟩
      clear hq
      refine hK.out _ _ ⟨lds_node ((HT5.out.fr Fa1.out (fun h => h)).cell 3 _ rfl), lds_list ((HT5.out.fr Fa1.out (fun h => h)).cell 4 _ rfl), HLD.out _ Fa1.out, lds_blk (HX5.out.fr Fa1.out (fun h => h)) HZ32.out⟩ (fun hHeld => ?_)
      clear hK K
      refine norm_ (a' := ?_) ?_ ?_
      rotate_left
      · show Act.put _ (some 50) _ = _
        simp only [Act.put, List.setIfInBounds_toArray, List.set_cons_zero, List.set_cons_succ]
        rfl
      refine pure_ (i := 13) (N := some 51) (v := ?_) (a' := ?_) #[true, true, true, true, true, true, true, true, true, true, true, true, true, true, false, true, false, false] rfl rfl (by kernel_rfl) (fun _ _ _ h => h) (Or.inl ⟨by rfl, ?_⟩) ?_ ?_
      rotate_left
      · intro w'
        go_simp
        with_reducible rfl
      rotate_left
      · simp only [Act.put, List.setIfInBounds_toArray, List.set_cons_zero, List.set_cons_succ]
        rfl
      refine take_ (i := 14) (N := some 52) (v := ?_) (a' := ?_) #[true, true, true, true, true, true, true, true, true, true, true, true, true, true, true, true, false, false] rfl rfl (by kernel_rfl) (fun _ _ _ h => h) (Or.inl ⟨by rfl, ?_⟩) hHeld ?_ ?_
      rotate_left
      · rintro w' ⟨s0, s1, s2, s3⟩
        refine Lds.run s2 (x := ?_) ?_ ?_
        · exact (Operand.tmp 51)
        · rfl
        · rfl
      rotate_left
      · simp only [Act.put, List.setIfInBounds_toArray, List.set_cons_zero, List.set_cons_succ]
        rfl
      refine one_ (i := 16) (N := some 54) #[true, true, true, true, true, true, true, true, true, true, true, true, true, true, true, true, true, false] rfl rfl (by kernel_rfl) (by decide) (fun K hK => ?_)
      refine goesC_ (Operand.tmp 42) Tryd.func81 (by kernel_rfl) rfl #[.pointer (some ⟨go, 0, none⟩)] #[.agg (bytes y).toArray, .agg (bytes z).toArray, .pointer (some ⟨go, 0, none⟩)] (by rfl) rfl rfl (by rfl) (by simp only [List.map_toArray, List.map_cons, List.map_nil]; rfl) ?_
      with_reducible refine (CN1.out _ Fa1.out).mono ?_
      rintro e a2 ⟨rfl, hq⟩
      refine ⟨_, rfl, ?_⟩
      have Fa2 : Kp (Fr (fun _ => False) wr a2) := ⟨Fa1.out.trans hq (fun _ _ h => h)⟩
      clear hq
      refine hK.out _ _ ⟨lds_node ((HT5.out.fr Fa2.out (fun h => h)).cell 3 _ rfl), lds_list ((HT5.out.fr Fa2.out (fun h => h)).cell 4 _ rfl), HLD.out _ Fa2.out, lds_blk (HX5.out.fr Fa2.out (fun h => h)) HZ32.out⟩ (fun hHeld => ?_)
      clear hK K
      refine norm_ (a' := ?_) ?_ ?_
      rotate_left
      · show Act.put _ (some 54) _ = _
        simp only [Act.put, List.setIfInBounds_toArray, List.set_cons_zero, List.set_cons_succ]
        rfl
      refine last_ (i := 17) (N := none) #[true, true, true, true, true, true, true, true, true, true, true, true, true, true, true, true, true, true] rfl rfl (by kernel_rfl) (by decide) (fun K hK => ?_)
      refine skip_ (by rfl) rfl (st_hash _ _ (Operand.tmp 7) (Operand.tmp 54) _ g7 _ _ M rfl rfl rfl (HX5.out.fr Fa2.out (fun h => h)) (by rw [bytes_length, HZ32.out]) HM32.out) ?_
      refine hK.out _ _ ?_
      clear hK K
      refine done_ (by kernel_rfl) ?_

      obtain ⟨W5, hW5⟩ : ∃ W5, W5 = a2.setRow g7 (bytes M).toArray := ⟨_, rfl⟩
      rw [← hW5]
      have hfr5 : Fr (fun q => q = g7) wr W5 := (Fa2.out.mono (S' := fun q => q = g7) (fun _ _ h => h.elim)).trans (S' := fun q => q = g7) (by rw [hW5]; exact ⟨rfl, rfl, rfl, by simp [World.setRow], fun q _ hq => setRow_other _ _ q _ hq⟩) (fun _ _ h => h)
      have HX6 : Kp (Blk W5 g7 25 (bytes M)) := ⟨by rw [hW5]; exact setRow_heap _ g7 _ _ _ _ (show a2.heap[g7]? = _ from HX5.out.fr Fa2.out (fun h => h))⟩
      have HT6 := Kp.mk (HT5.out.fr hfr5 HG7.out.2)
      have HO6 := Kp.mk (HO5.out.keep hfr5 (fun k hk => (HW5.out k hk).2.2))
      have HF6 : Kp (Fr F w W5) := ⟨HF5.out.trans hfr5 (fun q hq h => by have := HG7.out.1; omega)⟩
      clear hW5 hfr5 HX5 HT5 HO5 HF5 Fa2 Fa1 HLD CN1 CP
      rw [HSLE.out] at HT6 HO6
      obtain ⟨b6, c6, W6, hrun, hT2, hX2, hT3, hO3, hX3, hF3, hb6⟩ := push_step HT6.out (.inl HO6.out) HX6.out HM32.out HF6.out (fun k hk => HW5.out k hk) HFg.out (fun e => HG7.out.2 e.symm) HSTL.out HB2.out
      rw [← HSLE.out] at hrun hT2 hT3 hO3 hX3 hF3 HT6
      have HT2 := Kp.mk hT2
      have HX2 := Kp.mk hX2
      have HNX : Kp (AddAt w (W6.setCell ⟨g, 4, none⟩ (.slice (some ⟨b6, 0, none⟩) (sl + 1) c6)) B g gk go g7 s ls x F (j + 1) (.slice (some ⟨b6, 0, none⟩) (sl + 1) c6)) := ⟨addAt_next HJ1.out HMM.out (by rw [← HID.out]; exact hT3) (by rw [← HST.out]; exact hO3) hX3 hF3 (fun k hk => by
        obtain rfl : b6 = k := Option.some.inj hk
        exact hb6)⟩
      clear hT2 hX2 hT3 hO3 hX3 hF3 hb6 HSLE
      go_upto_region 10 with (fail)
      refine start_ (n := 11) (S := fun w' => Lds w' 48 (.pointer (some ⟨g, 4, none⟩)) (.slice (some ⟨b, 0, none⟩) sl c) ∧ Lds w' 25 (.pointer (some ⟨g7, 0, none⟩)) (.agg (bytes M).toArray)) (ds := [10]) #[false, false, false, false, false, false, false, false, false, false, false] (by kernel_rfl) rfl rfl ⟨lds_list (HT6.out.drew.cell 4 _ rfl), lds_blk HX6.out.drew HM32.out⟩ (fun hHeld => ?_)
      refine pure_ (i := 0) (N := some 55) (v := ?_) (a' := ?_) #[true, false, false, false, false, false, false, false, false, false, false] rfl rfl (by kernel_rfl) (fun _ _ _ h => h) (Or.inl ⟨by rfl, ?_⟩) ?_ ?_
      rotate_left
      · intro w'
        go_simp
        with_reducible rfl
      rotate_left
      · simp only [Act.put, List.setIfInBounds_toArray, List.set_cons_zero, List.set_cons_succ]
        rfl
      refine pure_ (i := 1) (N := some 56) (v := ?_) (a' := ?_) #[true, true, false, false, false, false, false, false, false, false, false] rfl rfl (by kernel_rfl) (fun _ _ _ h => h) (Or.inl ⟨by rfl, ?_⟩) ?_ ?_
      rotate_left
      · intro w'
        go_simp
        with_reducible rfl
      rotate_left
      · simp only [Act.put, List.setIfInBounds_toArray, List.set_cons_zero, List.set_cons_succ]
        rfl
      refine pure_ (i := 2) (N := some 57) (v := ?_) (a' := ?_) #[true, true, true, false, false, false, false, false, false, false, false] rfl rfl (by kernel_rfl) (fun _ _ _ h => h) (Or.inl ⟨by rfl, ?_⟩) ?_ ?_
      rotate_left
      · intro w'
        go_simp
        with_reducible rfl
      rotate_left
      · simp only [Act.put, List.setIfInBounds_toArray, List.set_cons_zero, List.set_cons_succ]
        rfl
      refine pure_ (i := 3) (N := some 58) (v := ?_) (a' := ?_) #[true, true, true, true, false, false, false, false, false, false, false] rfl rfl (by kernel_rfl) (fun _ _ _ h => h) (Or.inl ⟨by rfl, ?_⟩) ?_ ?_
      rotate_left
      · intro w'
        go_simp
        with_reducible rfl
      rotate_left
      · simp only [Act.put, List.setIfInBounds_toArray, List.set_cons_zero, List.set_cons_succ]
        rfl
      refine take_ (i := 4) (N := some 59) (v := ?_) (a' := ?_) #[true, true, true, true, true, false, false, false, false, false, false] rfl rfl (by kernel_rfl) (fun _ _ _ h => h) (Or.inl ⟨by rfl, ?_⟩) hHeld ?_ ?_
      rotate_left
      · rintro w' ⟨s0, s1⟩
        refine Lds.run s0 (x := ?_) ?_ ?_
        · exact (Operand.tmp 58)
        · rfl
        · rfl
      rotate_left
      · simp only [Act.put, List.setIfInBounds_toArray, List.set_cons_zero, List.set_cons_succ]
        rfl
      refine take_ (i := 5) (N := some 60) (v := ?_) (a' := ?_) #[true, true, true, true, true, true, false, false, false, false, false] rfl rfl (by kernel_rfl) (fun _ _ _ h => h) (Or.inl ⟨by rfl, ?_⟩) hHeld ?_ ?_
      rotate_left
      · rintro w' ⟨s0, s1⟩
        refine Lds.run s1 (x := ?_) ?_ ?_
        · exact (Operand.tmp 7)
        · rfl
        · rfl
      rotate_left
      · simp only [Act.put, List.setIfInBounds_toArray, List.set_cons_zero, List.set_cons_succ]
        rfl
      refine one_ (i := 6) (N := some 61) #[true, true, true, true, true, true, true, false, false, false, false] rfl rfl (by kernel_rfl) (by decide) (fun K hK => ?_)
      refine value_ (by rfl) rfl (bs_hash _ _ (Operand.tmp 60) _ M rfl rfl HM32.out) ?_
      refine hK.out _ _ ⟨lds_list ((HT6.out.drew.alloc _).cell 4 _ rfl), lds_blk (HX6.out.drew.alloc _) HM32.out⟩ (fun hHeld => ?_)
      clear hK K
      refine norm_ (a' := ?_) ?_ ?_
      rotate_left
      · show Act.put _ (some 61) _ = _
        simp only [Act.put, List.setIfInBounds_toArray, List.set_cons_zero, List.set_cons_succ]
        rfl
      refine one_ (i := 7) (N := some 62) #[true, true, true, true, true, true, true, true, false, false, false] rfl rfl (by kernel_rfl) (by decide) (fun K hK => ?_)
      refine value_ (by rfl) rfl (ap_exec hrun (Operand.tmp 59) (Operand.tmp 61) rfl rfl rfl rfl) ?_
      refine hK.out _ _ ⟨lds_list (HT2.out.cell 4 _ rfl), lds_blk HX2.out HM32.out⟩ (fun hHeld => ?_)
      clear hK K
      refine norm_ (a' := ?_) ?_ ?_
      rotate_left
      · show Act.put _ (some 62) _ = _
        simp only [Act.put, List.setIfInBounds_toArray, List.set_cons_zero, List.set_cons_succ]
        rfl
      refine pure_ (i := 8) (N := some 63) (v := ?_) (a' := ?_) #[true, true, true, true, true, true, true, true, true, false, false] rfl rfl (by kernel_rfl) (fun _ _ _ h => h) (Or.inl ⟨by rfl, ?_⟩) ?_ ?_
      rotate_left
      · intro w'
        go_simp
        with_reducible rfl
      rotate_left
      · simp only [Act.put, List.setIfInBounds_toArray, List.set_cons_zero, List.set_cons_succ]
        rfl
      refine pure_ (i := 9) (N := some 64) (v := ?_) (a' := ?_) #[true, true, true, true, true, true, true, true, true, true, false] rfl rfl (by kernel_rfl) (fun _ _ _ h => h) (Or.inl ⟨by rfl, ?_⟩) ?_ ?_
      rotate_left
      · intro w'
        go_simp
        with_reducible rfl
      rotate_left
      · simp only [Act.put, List.setIfInBounds_toArray, List.set_cons_zero, List.set_cons_succ]
        rfl
      refine last_ (i := 10) (N := none) #[true, true, true, true, true, true, true, true, true, true, true] rfl rfl (by kernel_rfl) (by decide) (fun K hK => ?_)
      refine skip_ (by rfl) rfl (st_list _ _ (Operand.tmp 64) (Operand.tmp 62) W6 g 4 _ _ _ _ _ rfl rfl rfl HT2.out (by simp [treeCells])) ?_
      refine hK.out _ _ ?_
      clear hK K
      refine done_ (by kernel_rfl) ?_
      clear hrun HT2 HX2 HT6 HX6 HO6 HF6
      have HDV : Kp ((m : Int) / 2 = ((id / 2 ^ (j + 1) : Nat) : Int)) := ⟨by rw [div_pow_succ, ← HM.out]; omega⟩
      go_wp2_with (fail)
      refine ⟨⟨j + 1, _, rfl, by rw [← HDV.out], ⟨by rw [HID.out]; exact HJ1.out⟩, HNX⟩, ?_⟩
      have h1 := HJ1.out
      rw [← HID.out] at h1
      simp only [intOf]
      omega
    · have hbit : (Go.bits .and .i64 (m : Int) 1 == 1) = false := by rw [and_one m hm48]; rw [beq_eq_false_iff_ne]; omega
      obtain ⟨hT5, hO5, hX5, hF5, hw5⟩ := HA.out
      rw [← HID.out] at hT5
      have c5 : wr.cell? ⟨g, 5, none⟩ = some (.int .i64 (id : Int)) := hT5.cell 5 _ rfl
      have f5 : wr.frozen? ⟨g, 5, none⟩ = false := hT5.free 5
      have HT5 : Kp (Blk wr g 111 (treeCells gk go s v ls.length)) := ⟨by rw [← HID.out]; exact hT5⟩
      have HF5 := Kp.mk hF5
      have hid64 : (id : Int) + 1 ≤ 65536 := by have := HLEN.out; omega
      have hnb : Kp (¬ ls.length / 2 ^ j % 2 = 1) := ⟨by rw [← HID.out, ← HM.out]; exact hb⟩
      clear hT5 hO5 hX5 hF5 hw5 hb
      go_wp2_with (fail)
      go_ret2
      have hH : Hs wr gk go s := HH.out.fr HF5.out HF9.out HF10.out
      have q := addAt_end (by rw [← HID.out]; exact hj.out) hnb.out HFg.out HF8.out HF9.out HF10.out hH HGK.out.1 HGK.out.2 HLS.out HX32.out (by rw [← HID.out]; exact HLEN.out) HA.out HT5.out
      rw [← HID.out] at q
      exact ⟨rfl, q⟩
end Go.Proofs.YtjbhaopocabfaaaDoor.Sha
