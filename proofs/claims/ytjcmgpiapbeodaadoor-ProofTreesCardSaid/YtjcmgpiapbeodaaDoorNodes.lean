/-
  walk, of steps: the way of a record, and the way from a tree. wayOf and wayFrom, of steps. What a climb passes, in memory: sum, join, children.
-/
import Derived.Test.YtjcmgpiapbeodaaDoorRev
import Derived.Test.YtjcmgpiapbeodaaDoorTreesP
set_option linter.unusedSimpArgs false
namespace Go.Proofs.YtjcmgpiapbeodaaDoor.Sha
open Go.Proofs.YtjcmgpiapbeodaaDoor.Pf Go.Proofs.YtjcmgpiapbeodaaDoor.Len Go.Proofs.YtjcmgpiapbeodaaDoor.PProofTakes
open Go.RowKit Go.Proofs.YtjcmgpiapbeodaaDoor.Mem Go.Proofs.YtjcmgpiapbeodaaDoorW.PrintWords Go.Proofs.YtjcmgpiapbeodaaDoorW.PrintLast Go.Proofs.YtjcmgpiapbeodaaDoor.Pl Go.Proofs.YtjcmgpiapbeodaaDoor.Wk
attribute [local go_sem ↓] Go.wp_at_zero Go.wp_at_succ wp_load_hash wp_store_hash wp_load_mid23 wp_load_mid25 wp_store_mid25 wp_build_hash
attribute [local go_sem] rowAt_drew rowOk_drew midOk_drew midAt_drew rowBlock rowCells rowOff midFree_drew
/-- the cells of a step -/
def stC (s : Pf.St) : List Value := [.int .i64 (s.a : Int), .int .i64 (s.b : Int), .bool s.r]
theorem stC_ok (s : Pf.St) : (stC s).length = 3 ∧ ∀ u ∈ stC s, u.oneCell' = true := by
  refine ⟨rfl, fun u hu => ?_⟩
  simp only [stC, List.mem_cons, List.not_mem_nil, or_false] at hu
  rcases hu with rfl | rfl | rfl <;> rfl
theorem results_tmp_cell {P : Program} {fn : Func} {p q : Tmp} {ty : TypeId} (h : fn.results = #[.tmp q, .cell p ty]) (tmps : Array Value) (w : World) (g : Nat) (t : TypeId) (cs : Array Value) (fr : Nat × Nat) (d : TypeDesc) (v : Value)
    (hp : tmps.getD p undef = .pointer (some ⟨g, 0, none⟩)) (hq : tmps.getD q undef = v) (hg : w.heap[g]? = some (.cells cs t fr))
    (hu : P.underlying ty = some d) (hd : (match d with | .struct _ | .array _ _ => true | _ => false) = true) (hi : (P.info? ty).map (·.size) = some cs.size) :
    (results fn tmps).run P w = .ok (.tuple #[v, .agg cs]) w := by
  have hp' : tmps[p]?.getD undef = .pointer (some ⟨g, 0, none⟩) := by simpa using hp
  have hq' : tmps[q]?.getD undef = v := by simpa using hq
  simp [results, h, hp', hq', asAddr, run_loadVar_row w g t ty cs fr d hg hu hd hi]
theorem take_map_succ {α β : Type} (f : α → β) (L : List α) (j : Nat) (x : α) (h : L[j]? = some x) : (L.take (j + 1)).map f = (L.take j).map f ++ [f x] := by
  rw [List.take_add_one, h]
  simp
theorem drop_cons {α : Type} {L : List α} {j : Nat} {x : α} {R : List α} (h : x :: R = L.drop j) : L[j]? = some x ∧ R = L.drop (j + 1) := by
  constructor
  · have := congrArg (fun l : List α => l[0]?) h
    simpa using this.symm
  · have := congrArg List.tail h
    simpa using this
set_option maxHeartbeats 4000000 in
set_option maxRecDepth 100000 in
theorem walk_step_from (m n gi : Nat) (h0 : 0 < m) (hi : m ≤ n) (hn : n ≤ 281474976710656) (w : World) (hI : Blk w gi 2 [.int .i64 (m : Int)]) :
    Calls Tryd.prog 72 #[.agg #[.int .i64 0, .int .i64 (n : Int)], .func (.func 73) #[] #[.pointer (some ⟨gi, 0, none⟩)], .func (.func 74) #[] #[.pointer (some ⟨gi, 0, none⟩)], .func (.func 45) #[] #[]] w fun e w' =>
      ∃ v, e = .returned (.tuple #[v, .agg #[.int .i64 ((seedA m 0 n : Nat) : Int), .int .i64 (m : Int)]]) ∧ (ROwn 95 3 w' w.heap.size v ((stepsT m n).map stC)) ∧ Fr (fun _ => False) w w' := by
  have HI0 := Kp.mk hI
  have HGI := Kp.mk hI.lt
  have HWL : Kp ((fromD m 0 n).length ≤ 48) := ⟨fromD_len48 hn⟩
  obtain ⟨WD, hWD⟩ : ∃ WD, WD = fromD m 0 n := ⟨_, rfl⟩
  have HW := Kp.mk hWD
  rw [← hWD] at HWL
  clear hI hWD
  go_enter Tryd.func72, Tryd.ntmps72
  go_upto_region 1 with (fail)
  obtain ⟨g4, hg4⟩ : ∃ g4, g4 = w.heap.size := ⟨_, rfl⟩
  obtain ⟨g9, hg9⟩ : ∃ g9, g9 = w.heap.size + 1 := ⟨_, rfl⟩
  rw [← hg9, ← hg4]
  obtain ⟨W1, hW1⟩ : ∃ W1, W1 = (w.alloc (.cells #[.int .i64 0, .int .i64 (n : Int)] 91)).alloc (.cells #[.int .i64 0, .int .i64 0] 91) := ⟨_, rfl⟩
  have H4 : Kp (Blk W1 g4 91 [.int .i64 ((0 : Nat) : Int), .int .i64 (n : Int)]) := ⟨by rw [hW1, hg4]; exact (Blk.new w _ _).alloc _⟩
  have H9 : Kp (Blk W1 g9 91 [.int .i64 0, .int .i64 0]) := ⟨by rw [hW1, hg9]; exact Blk.new' _ _ _ (by simp)⟩
  have HF : Kp (Fr (fun _ => False) w W1) := ⟨by rw [hW1]; exact ((Fr.refl _ w).alloc _).alloc _⟩
  have HG : Kp (w.heap.size ≤ g4 ∧ w.heap.size ≤ g9 ∧ g4 ≠ g9) := ⟨by omega⟩
  have HI := Kp.mk (HI0.out.fr HF.out (fun h => h))
  rw [← hW1]
  clear hW1 hg4 hg9 HI0
  go_wp2_with fail
  go_loopg [10] n (fun g v wr => ∃ a b j : Nat, Kp (a < m ∧ m ≤ b ∧ b ≤ n ∧ b - a ≤ g) ∧ Kp (fromD m a b = WD.drop j ∧ j ≤ WD.length ∧ seedA m a b = seedA m 0 n) ∧ Kp (Blk wr g4 91 [.int .i64 (a : Int), .int .i64 (b : Int)]) ∧ Kp (Blk wr g9 91 [.int .i64 0, .int .i64 0]) ∧ Kp (Blk wr gi 2 [.int .i64 (m : Int)]) ∧ Kp (ROwn 95 3 wr w.heap.size v ((WD.take j).map stC)) ∧ Kp (Fr (fun _ => False) w wr))
  case atStart => exact ⟨0, n, 0, ⟨h0, hi, Nat.le_refl _, by omega⟩, ⟨by rw [HW.out]; rfl, Nat.zero_le _, rfl⟩, H4, H9, HI, ⟨ROwn.nil _ _ _ _⟩, HF⟩
  case round =>
    clear H4 H9 HI HF
    obtain ⟨a, b, j, HA, HD, H4, H9, HI, HO, HF⟩ := hrel
    have ha := HA.out
    have c40 : wr.cell? ⟨g4, 0, none⟩ = some (.int .i64 (a : Int)) := H4.out.cell 0 _ rfl
    have c41 : wr.cell? ⟨g4, 1, none⟩ = some (.int .i64 (b : Int)) := H4.out.cell 1 _ rfl
    clear HA
    by_cases h2 : m < b ∧ a + 2 ≤ b
    · have CC := Kp.mk (fun W => cut_calls a b h2.2 (by omega) W)
      have HL := Kp.mk (fun h => And.intro (fromD_left (m := m) h2 h) (seedA_left (m := m) h2 h))
      have HR := Kp.mk (fun h => And.intro (fromD_right (m := m) h2 h) (seedA_right (m := m) h2 h))
      have HC := Kp.mk (And.intro (cut_gt a b) (cut_lt h2.2))
      generalize cut a b = c at CC HL HR HC
      go_wp2_with fail
      refine (fend_step_no a b m gi (by omega) _ HI.out).mono ?_
      rintro e W2 ⟨rfl, hf⟩
      have HFn := Kp.mk (HF.out.trans hf (fun _ _ h => h))
      have H4n := Kp.mk (H4.out.fr hf (fun h => h))
      have H9n := Kp.mk (H9.out.fr hf (fun h => h))
      have HIn := Kp.mk (HI.out.fr hf (fun h => h))
      have HOn := Kp.mk (HO.out.keep hf (fun _ _ h => h))
      clear hf HF H4 H9 HI HO
      have HF := HFn
      have H4 := H4n
      have H9 := H9n
      have HI := HIn
      have HO := HOn
      clear HFn H4n H9n HIn HOn
      have c40 : W2.cell? ⟨g4, 0, none⟩ = some (.int .i64 (a : Int)) := H4.out.cell 0 _ rfl
      have c41 : W2.cell? ⟨g4, 1, none⟩ = some (.int .i64 (b : Int)) := H4.out.cell 1 _ rfl
      go_wp2_with fail
      refine (CC.out _).mono ?_
      rintro e W3 ⟨rfl, hf⟩
      have HFn := Kp.mk (HF.out.trans hf (fun _ _ h => h))
      have H4n := Kp.mk (H4.out.fr hf (fun h => h))
      have H9n := Kp.mk (H9.out.fr hf (fun h => h))
      have HIn := Kp.mk (HI.out.fr hf (fun h => h))
      have HOn := Kp.mk (HO.out.keep hf (fun _ _ h => h))
      clear hf HF H4 H9 HI HO
      have HF := HFn
      have H4 := H4n
      have H9 := H9n
      have HI := HIn
      have HO := HOn
      clear HFn H4n H9n HIn HOn
      by_cases hic : m ≤ c
      · go_wp2_with fail
        refine (fleft_step_yes m c gi hic _ HI.out).mono ?_
        rintro e W4 ⟨rfl, hf⟩
        have HFn := Kp.mk (HF.out.trans hf (fun _ _ h => h))
        have H4n := Kp.mk (H4.out.fr hf (fun h => h))
        have H9n := Kp.mk (H9.out.fr hf (fun h => h))
        have HIn := Kp.mk (HI.out.fr hf (fun h => h))
        have HOn := Kp.mk (HO.out.keep hf (fun _ _ h => h))
        clear hf HF H4 H9 HI HO
        have HF := HFn
        have H4 := H4n
        have H9 := H9n
        have HI := HIn
        have HO := HOn
        clear HFn H4n H9n HIn HOn
        have c40 : W4.cell? ⟨g4, 0, none⟩ = some (.int .i64 (a : Int)) := H4.out.cell 0 _ rfl
        have c41 : W4.cell? ⟨g4, 1, none⟩ = some (.int .i64 (b : Int)) := H4.out.cell 1 _ rfl
        go_wp2_with fail
        refine (itself_calls (c : Int) (b : Int) true _).mono ?_
        rintro e W5 ⟨rfl, hf⟩
        have HFn := Kp.mk (HF.out.trans hf (fun _ _ h => h))
        have H4n := Kp.mk (H4.out.fr hf (fun h => h))
        have H9n := Kp.mk (H9.out.fr hf (fun h => h))
        have HIn := Kp.mk (HI.out.fr hf (fun h => h))
        have HOn := Kp.mk (HO.out.keep hf (fun _ _ h => h))
        clear hf HF H4 H9 HI HO
        have HF := HFn
        have H4 := H4n
        have H9 := H9n
        have HI := HIn
        have HO := HOn
        clear HFn H4n H9n HIn HOn
        go_upto_region 6 with (at_builtin; refine wpList_appendR1 el_step rfl _ _ rfl rfl w.heap.size _ _ rfl HO.out (stC ⟨c, b, true⟩) (stC_ok _) rfl (by have := HWL.out; have := HD.out.2.1; simp only [List.length_map, List.length_take]; omega) (by have := HWL.out; have := HD.out.2.1; simp only [List.length_map, List.length_take]; omega) HF.out.size ?_; intro v6 W6 hO6 hF6 hat6; have HO6 := Kp.mk hO6; have HF6 := Kp.mk hF6; clear hO6 hF6 hat6)
        have n4 : ¬ (u10.ownBlock = some g4) := fun e => by
          obtain ⟨cur, hc⟩ := HO.out.type g4 e
          exact blk_ne_type H4.out hc (by decide) rfl
        have n9 : ¬ (u10.ownBlock = some g9) := fun e => by
          obtain ⟨cur, hc⟩ := HO.out.type g9 e
          exact blk_ne_type H9.out hc (by decide) rfl
        have nI : ¬ (u10.ownBlock = some gi) := fun e => by
          obtain ⟨cur, hc⟩ := HO.out.type gi e
          exact blk_ne_type HI.out hc (by decide) rfl
        have H46 := Kp.mk (H4.out.fr HF6.out n4)
        have H96 := Kp.mk (H9.out.fr HF6.out n9)
        have HI6 := Kp.mk (HI.out.fr HF6.out nI)
        have HFr6 := Kp.mk (HF.out.trans HF6.out (fun q hq e => by have := (HO.out.lt q e).2; omega))
        clear n4 n9 nI H4 H9 HI HO HF HF6
        have c6 : W6.cell? ⟨g4, 1, none⟩ = some (.int .i64 (b : Int)) := H46.out.cell 1 _ rfl
        have f6 : W6.frozen? ⟨g4, 1, none⟩ = false := H46.out.free 1
        have hset : Fr (fun q => q = g4) W6 (W6.setCell ⟨g4, 1, none⟩ (.int .i64 (c : Int))) := Fr.set (S := fun q => q = g4) (a := ⟨g4, 1, none⟩) (Fr.refl (fun q => q = g4) W6) (fun _ => rfl) _
        have H4s : Kp (Blk (W6.setCell ⟨g4, 1, none⟩ (.int .i64 (c : Int))) g4 91 [.int .i64 (a : Int), .int .i64 (c : Int)]) := ⟨H46.out.set 1 _⟩
        have H9s := Kp.mk (H96.out.fr hset (fun e => HG.out.2.2 e.symm))
        have HIs := Kp.mk (HI6.out.fr hset (fun e => by have := HGI.out; have := HG.out.1; omega))
        have HOs := Kp.mk (HO6.out.keep hset (fun k hk e => by
          obtain ⟨cur, hc⟩ := HO6.out.type k hk
          exact blk_ne_type H46.out hc (by decide) e.symm))
        have HFs := Kp.mk (HFr6.out.trans hset (fun q hq e => by have := HG.out.1; omega))
        clear hset H46 H96 HI6 HO6 HFr6
        go_wp2
        generalize World.setCell W6 _ _ = Wn at H4s H9s HIs HOs HFs ⊢
        obtain ⟨hd1, hd2, hd5⟩ := HD.out
        rw [(HL.out hic).1] at hd1
        rw [(HL.out hic).2] at hd5
        obtain ⟨hd3, hd4⟩ := drop_cons hd1
        have hj : j < WD.length := by
          rcases Nat.lt_or_ge j WD.length with h | h
          · exact h
          · rw [List.getElem?_eq_none h] at hd3; cases hd3
        have hce := HC.out
        obtain ⟨g', rfl⟩ : ∃ g', gk = g' + 1 := ⟨gk - 1, by omega⟩
        go_roundg g'
        case measure => omega
        case rel => exact ⟨a, c, j + 1, ⟨by omega, by omega, by omega, by omega⟩, ⟨hd4, by omega, hd5⟩, H4s, H9s, HIs, ⟨by rw [take_map_succ stC WD j _ hd3]; exact HOs.out⟩, HFs⟩
      · go_wp2_with fail
        refine (fleft_step_no m c gi (by omega) _ HI.out).mono ?_
        rintro e W4 ⟨rfl, hf⟩
        have HFn := Kp.mk (HF.out.trans hf (fun _ _ h => h))
        have H4n := Kp.mk (H4.out.fr hf (fun h => h))
        have H9n := Kp.mk (H9.out.fr hf (fun h => h))
        have HIn := Kp.mk (HI.out.fr hf (fun h => h))
        have HOn := Kp.mk (HO.out.keep hf (fun _ _ h => h))
        clear hf HF H4 H9 HI HO
        have HF := HFn
        have H4 := H4n
        have H9 := H9n
        have HI := HIn
        have HO := HOn
        clear HFn H4n H9n HIn HOn
        have c40 : W4.cell? ⟨g4, 0, none⟩ = some (.int .i64 (a : Int)) := H4.out.cell 0 _ rfl
        have c41 : W4.cell? ⟨g4, 1, none⟩ = some (.int .i64 (b : Int)) := H4.out.cell 1 _ rfl
        go_wp2_with fail
        refine (itself_calls (a : Int) (c : Int) false _).mono ?_
        rintro e W5 ⟨rfl, hf⟩
        have HFn := Kp.mk (HF.out.trans hf (fun _ _ h => h))
        have H4n := Kp.mk (H4.out.fr hf (fun h => h))
        have H9n := Kp.mk (H9.out.fr hf (fun h => h))
        have HIn := Kp.mk (HI.out.fr hf (fun h => h))
        have HOn := Kp.mk (HO.out.keep hf (fun _ _ h => h))
        clear hf HF H4 H9 HI HO
        have HF := HFn
        have H4 := H4n
        have H9 := H9n
        have HI := HIn
        have HO := HOn
        clear HFn H4n H9n HIn HOn
        go_upto_region 8 with (at_builtin; refine wpList_appendR1 el_step rfl _ _ rfl rfl w.heap.size _ _ rfl HO.out (stC ⟨a, c, false⟩) (stC_ok _) rfl (by have := HWL.out; have := HD.out.2.1; simp only [List.length_map, List.length_take]; omega) (by have := HWL.out; have := HD.out.2.1; simp only [List.length_map, List.length_take]; omega) HF.out.size ?_; intro v6 W6 hO6 hF6 hat6; have HO6 := Kp.mk hO6; have HF6 := Kp.mk hF6; clear hO6 hF6 hat6)
        have n4 : ¬ (u10.ownBlock = some g4) := fun e => by
          obtain ⟨cur, hc⟩ := HO.out.type g4 e
          exact blk_ne_type H4.out hc (by decide) rfl
        have n9 : ¬ (u10.ownBlock = some g9) := fun e => by
          obtain ⟨cur, hc⟩ := HO.out.type g9 e
          exact blk_ne_type H9.out hc (by decide) rfl
        have nI : ¬ (u10.ownBlock = some gi) := fun e => by
          obtain ⟨cur, hc⟩ := HO.out.type gi e
          exact blk_ne_type HI.out hc (by decide) rfl
        have H46 := Kp.mk (H4.out.fr HF6.out n4)
        have H96 := Kp.mk (H9.out.fr HF6.out n9)
        have HI6 := Kp.mk (HI.out.fr HF6.out nI)
        have HFr6 := Kp.mk (HF.out.trans HF6.out (fun q hq e => by have := (HO.out.lt q e).2; omega))
        clear n4 n9 nI H4 H9 HI HO HF HF6
        have c6 : W6.cell? ⟨g4, 0, none⟩ = some (.int .i64 (a : Int)) := H46.out.cell 0 _ rfl
        have f6 : W6.frozen? ⟨g4, 0, none⟩ = false := H46.out.free 0
        have hset : Fr (fun q => q = g4) W6 (W6.setCell ⟨g4, 0, none⟩ (.int .i64 (c : Int))) := Fr.set (S := fun q => q = g4) (a := ⟨g4, 0, none⟩) (Fr.refl (fun q => q = g4) W6) (fun _ => rfl) _
        have H4s : Kp (Blk (W6.setCell ⟨g4, 0, none⟩ (.int .i64 (c : Int))) g4 91 [.int .i64 (c : Int), .int .i64 (b : Int)]) := ⟨H46.out.set 0 _⟩
        have H9s := Kp.mk (H96.out.fr hset (fun e => HG.out.2.2 e.symm))
        have HIs := Kp.mk (HI6.out.fr hset (fun e => by have := HGI.out; have := HG.out.1; omega))
        have HOs := Kp.mk (HO6.out.keep hset (fun k hk e => by
          obtain ⟨cur, hc⟩ := HO6.out.type k hk
          exact blk_ne_type H46.out hc (by decide) e.symm))
        have HFs := Kp.mk (HFr6.out.trans hset (fun q hq e => by have := HG.out.1; omega))
        clear hset H46 H96 HI6 HO6 HFr6
        go_wp2
        generalize World.setCell W6 _ _ = Wn at H4s H9s HIs HOs HFs ⊢
        obtain ⟨hd1, hd2, hd5⟩ := HD.out
        rw [(HR.out (by omega)).1] at hd1
        rw [(HR.out (by omega)).2] at hd5
        obtain ⟨hd3, hd4⟩ := drop_cons hd1
        have hj : j < WD.length := by
          rcases Nat.lt_or_ge j WD.length with h | h
          · exact h
          · rw [List.getElem?_eq_none h] at hd3; cases hd3
        have hce := HC.out
        obtain ⟨g', rfl⟩ : ∃ g', gk = g' + 1 := ⟨gk - 1, by omega⟩
        go_roundg g'
        case measure => omega
        case rel => exact ⟨c, b, j + 1, ⟨by omega, by omega, by omega, by omega⟩, ⟨hd4, by omega, hd5⟩, H4s, H9s, HIs, ⟨by rw [take_map_succ stC WD j _ hd3]; exact HOs.out⟩, HFs⟩
    · obtain rfl : b = m := by omega
      have hsd : a = seedA b 0 n := by have h := HD.out.2.2; rw [seedA_end h2] at h; exact h
      have HSd := Kp.mk hsd
      have hE : Kp ((WD.take j).map stC = WD.map stC) := ⟨by
        have h := HD.out.1
        rw [fromD_end h2] at h
        rw [List.take_of_length_le (List.drop_eq_nil_iff.1 h.symm)]⟩
      clear h2 hi hsd h0
      go_wp2_with fail
      refine (fend_step_yes a b b gi rfl _ HI.out).mono ?_
      rintro e W2 ⟨rfl, hf⟩
      have HFn := Kp.mk (HF.out.trans hf (fun _ _ h => h))
      have H4n := Kp.mk (H4.out.fr hf (fun h => h))
      have H9n := Kp.mk (H9.out.fr hf (fun h => h))
      have HIn := Kp.mk (HI.out.fr hf (fun h => h))
      have HOn := Kp.mk (HO.out.keep hf (fun _ _ h => h))
      clear hf HF H4 H9 HI HO
      have HF := HFn
      have H4 := H4n
      have H9 := H9n
      have HI := HIn
      have HO := HOn
      clear HFn H4n H9n HIn HOn
      have HO2 : Kp (ROwn 95 3 W2 w.heap.size u10 (WD.map stC)) := ⟨by rw [← hE.out]; exact HO.out⟩
      clear HO hE HI
      go_wp2_with fail
      refine (rev_step w.heap.size u10 (WD.map stC) (by rw [List.length_map]; have := HWL.out; omega) W2 HO2.out).mono ?_
      rintro e W3 ⟨rfl, hO, hf⟩
      have n4 : ¬ (u10.ownBlock = some g4) := fun e => by
        obtain ⟨cur, hc⟩ := HO2.out.type g4 e
        exact blk_ne_type H4.out hc (by decide) rfl
      have n9 : ¬ (u10.ownBlock = some g9) := fun e => by
        obtain ⟨cur, hc⟩ := HO2.out.type g9 e
        exact blk_ne_type H9.out hc (by decide) rfl
      have H43 := Kp.mk (H4.out.fr hf n4)
      have H93 := Kp.mk (H9.out.fr hf n9)
      have HF3 := Kp.mk (HF.out.trans hf (fun q hq e => by have := (HO2.out.lt q e).2; omega))
      have HO3 := Kp.mk hO
      have N9 := Kp.mk n9
      clear n4 n9 hO hf H4 H9 HF HO2 HD c40 c41
      go_wp2_with fail
      refine start_ (n := 4) (S := fun w' => Lds w' 91 (.pointer (some ⟨g4, 0, none⟩)) (.agg [.int .i64 (a : Int), .int .i64 (b : Int)].toArray)) (ds := [3]) #[false, false, false, false] (by kernel_rfl) rfl rfl (lds_agg Tryd.underlying91 rfl (by kernel_rfl) (blk_range H43.out.drew)) (fun hHeld => ?_)
      refine pure_ (i := 0) (N := some 47) (v := ?_) (a' := ?_) #[true, false, false, false] rfl rfl (by kernel_rfl) (fun _ _ _ h => h) (Or.inl ⟨by rfl, ?_⟩) ?_ ?_
      rotate_left
      · intro w'
        go_simp
        with_reducible rfl
      rotate_left
      · simp only [Act.put, List.setIfInBounds_toArray, List.set_cons_zero, List.set_cons_succ]
        rfl
      refine pure_ (i := 2) (N := some 8) (v := ?_) (a' := ?_) #[true, false, true, false] rfl rfl (by kernel_rfl) (fun _ _ _ h => h) (Or.inl ⟨by rfl, ?_⟩) ?_ ?_
      rotate_left
      · intro w'
        go_simp
        with_reducible rfl
      rotate_left
      · simp only [Act.put, List.setIfInBounds_toArray, List.set_cons_zero, List.set_cons_succ]
        rfl
      refine take_ (i := 1) (N := some 48) (v := ?_) (a' := ?_) #[true, true, true, false] rfl rfl (by kernel_rfl) (fun _ _ _ h => h) (Or.inl ⟨by rfl, ?_⟩) hHeld ?_ ?_
      rotate_left
      · intro w' s0
        refine Lds.run s0 (x := ?_) ?_ ?_
        · exact (Operand.tmp 4)
        · rfl
        · rfl
      rotate_left
      · simp only [Act.put, List.setIfInBounds_toArray, List.set_cons_zero, List.set_cons_succ]
        rfl
      refine last_ (i := 3) (N := none) #[true, true, true, true] rfl rfl (by kernel_rfl) (by decide) (fun K hK => ?_)
      refine skip_ (by rfl) rfl (st_agg _ _ (Operand.tmp 9) (Operand.tmp 48) _ 91 g9 0 [.int .i64 (a : Int), .int .i64 (b : Int)] rfl rfl rfl (blk_there H93.out.drew 0 2 (by decide)) (by kernel_rfl) (fun u hu => by simp only [List.mem_cons, List.not_mem_nil, or_false] at hu; rcases hu with rfl | rfl <;> rfl)) ?_
      refine hK.out _ _ ?_
      clear hK K
      refine done_ (by kernel_rfl) ?_
      have hs : Fr (fun q => q = g9) W3 (W3.drew.setCells g9 0 [.int .i64 (a : Int), .int .i64 (b : Int)]) := (Fr.refl (fun q => q = g9) W3).drew.trans (fr_setCells g9 _ _ _) (fun _ _ h => h)
      have H9z : Blk (W3.drew.setCells g9 0 [.int .i64 (a : Int), .int .i64 (b : Int)]) g9 91 [.int .i64 (a : Int), .int .i64 (b : Int)] := Blk.setCells g9 91 [] [.int .i64 (a : Int), .int .i64 (b : Int)] [] [.int .i64 0, .int .i64 0] W3.drew rfl H93.out
      have HOz := HO3.out.keep hs (fun k hk e => N9.out (by rw [← e]; exact hk))
      have HFz := HF3.out.trans hs (S := fun _ => False) (fun q hq e => by have := HG.out.2.1; omega)
      have hres : Kp ((WD.map stC).reverse = (stepsT b n).map stC) := ⟨by rw [HW.out, stepsT, List.map_reverse]⟩
      rw [hres.out] at HOz
      generalize World.setCells W3.drew g9 0 _ = Wz at H9z HOz HFz ⊢
      go_wp2_with fail
      refine bodyPost_ret (results_tmp_cell rfl _ _ g9 91 #[.int .i64 (a : Int), .int .i64 (b : Int)] (0, 0) _ u10 rfl rfl H9z Tryd.underlying91 rfl (by kernel_rfl)) rfl ?_
      exact ⟨u10, by rw [← HSd.out], HOz, HFz⟩
end Go.Proofs.YtjcmgpiapbeodaaDoor.Sha
namespace Go.Proofs.YtjcmgpiapbeodaaDoor.Sha
open Go.Proofs.YtjcmgpiapbeodaaDoor.Pf Go.Proofs.YtjcmgpiapbeodaaDoor.Len Go.Proofs.YtjcmgpiapbeodaaDoor.PProofTakes
open Go.RowKit Go.Proofs.YtjcmgpiapbeodaaDoor.Mem Go.Proofs.YtjcmgpiapbeodaaDoorW.PrintWords Go.Proofs.YtjcmgpiapbeodaaDoorW.PrintLast Go.Proofs.YtjcmgpiapbeodaaDoor.Pl Go.Proofs.YtjcmgpiapbeodaaDoor.Wk
attribute [local go_sem ↓] Go.wp_at_zero Go.wp_at_succ wp_load_hash wp_store_hash wp_load_mid23 wp_load_mid25 wp_store_mid25 wp_build_hash
attribute [local go_sem] rowAt_drew rowOk_drew midOk_drew midAt_drew rowBlock rowCells rowOff midFree_drew
theorem ROwn.flat {E : TypeId} {K : Nat} {w : World} {base g n cap : Nat} {L : List (List Value)} (h : ROwn E K w base (.slice (some ⟨g, 0, none⟩) n cap) L) (j : Nat) (u : Value) (hu : L.flatten[j]? = some u) : w.cell? ⟨g, 0 + j, none⟩ = some u := by
  have := h.2.cells (g := g) rfl j u hu
  rwa [Addr.add_lit] at this
theorem ROwn.one (w : World) (E : TypeId) (K : Nat) (r : List Value) (hr : r.length = K ∧ ∀ u ∈ r, u.oneCell' = true) (base : Nat) (hb : base ≤ w.heap.size) : ROwn E K (w.alloc (.cells r.toArray E)) base (.slice (some ⟨w.heap.size, 0, none⟩) 1 1) [r] := by
  refine ⟨fun x hx => by rw [List.mem_singleton.1 hx]; exact hr, ?_, .inr ⟨w.heap.size, 1, r.toArray, rfl, hb, Blk.new w r.toArray E, Nat.le_refl _, by unfold maxLen; omega, by rw [Nat.one_mul]; exact hr.1, ?_⟩⟩
  · rw [List.flatten_cons, List.flatten_nil, List.append_nil, hr.1, List.length_singleton, Nat.one_mul]
  · rw [List.flatten_cons, List.flatten_nil, List.append_nil, List.length_singleton, Nat.one_mul, List.take_of_length_le (by rw [← hr.1]; exact Nat.le_refl _)]
/-- append of one list that the call owns to another -/
theorem run_appendRR {T E : TypeId} {K B : Nat} (ok : El T E K B) (w : World) (base base2 : Nat) (v v2 : Value) (L M : List (List Value)) (hown : ROwn E K w base v L) (h2 : ROwn E K w base2 v2 M)
    (hb : (L.length + M.length) * B ≤ 140737488355328) (hm : L.length + M.length ≤ 140737488355328) (hbase : base ≤ w.heap.size) :
    ∃ v' w', (Builtin.append_ #[T, T] T #[v, v2]).run Tryd.prog w = .ok v' w' ∧ ROwn E K w' base v' (L ++ M) ∧ w.grownBy w' v.ownBlock ∧ (v'.ownBlock = v.ownBlock ∨ v'.ownBlock = some w.heap.size) := by
  rcases h2.2.2 with ⟨rfl, h0⟩ | ⟨g, cap, cur, rfl, _⟩
  · obtain ⟨i0, z0, hi, hz, hz0, hz1, hz2⟩ := ok.info
    obtain rfl := List.eq_nil_of_length_eq_zero h0
    rw [List.append_nil]
    exact ⟨v, w, run_append_owned_none (P := Tryd.prog) w base T T E i0 K ok.und hi v _ _ hown.2, hown, ⟨rfl, rfl, rfl, Nat.le_refl _, fun _ _ _ => rfl⟩, .inl rfl⟩
  · exact run_appendR ok w base v L hown g 0 cap M h2.1 (fun j u hu => h2.flat j u hu) hb hm hbase
theorem wpList_appendRR {ops : Array Oper} {rest : List Oper} {o : Oper} {a : Act} {w : World} {Q : Exit → Act → World → Prop} {T E : TypeId} {K B : Nat} (ok : El T E K B) (hgd : o.guard = none) (s x : Operand)
    (ho : o.op = .call { callee := .builtin .append, args := #[s, x], argTypes := #[T, T] }) (hty : o.type = T) (base base2 : Nat) (v v2 : Value) (L M : List (List Value)) (hs : a.eval s = v) (hx : a.eval x = v2) (hown : ROwn E K w base v L) (h2 : ROwn E K w base2 v2 M)
    (hb : (L.length + M.length) * B ≤ 140737488355328) (hm : L.length + M.length ≤ 140737488355328) (hbase : base ≤ w.heap.size)
    (h : ∀ v' w', ROwn E K w' base v' (L ++ M) → w.grownBy w' v.ownBlock → wpList Tryd.prog ops Q rest (a.put o.dst v') w') :
    wpList Tryd.prog ops Q (o :: rest) a w := by
  obtain ⟨v', w', hr', h2', h3, _⟩ := run_appendRR ok w base base2 v v2 L M hown h2 hb hm hbase
  refine wpList_plain hgd fun _ hK => ?_
  unfold Oper.wp execOp
  simp only [ho, resolve, invoke, builtin, Sem.run_bind, Sem.run_pure, Result.andThen_ok, List.map_toArray, List.map_cons, List.map_nil, hs, hx, hty, hr']
  exact hK _ _ (h v' w' h2' h3)
set_option maxHeartbeats 4000000 in
set_option maxRecDepth 100000 in
theorem wayFrom_step (m n : Nat) (h0 : 0 < m) (hm : m ≤ n) (hn : n ≤ 281474976710656) (w : World) : Calls Tryd.prog 44 #[.int .i64 (n : Int), .int .i64 (m : Int), .func (.func 45) #[] #[]] w fun e w' =>
    ∃ v, e = .returned (.tuple #[v, .agg #[.int .i64 ((seedA m 0 n : Nat) : Int), .int .i64 (m : Int)]]) ∧ ROwn 95 3 w' w.heap.size v ((from' m n).map stC) ∧ Fr (fun _ => False) w w' := by
  have CW := Kp.mk (fun gi W hI => walk_step_from m n gi h0 hm hn W hI)
  have HL48 : Kp ((stepsT m n).length ≤ 48) := ⟨by unfold stepsT; rw [List.length_reverse]; exact fromD_len48 hn⟩
  obtain ⟨s, hs⟩ : ∃ s, s = seedA m 0 n := ⟨_, rfl⟩
  have HS := Kp.mk hs
  rw [← hs] at CW
  clear hs
  go_enter Tryd.func44, Tryd.ntmps44
  go_upto_region 1 with (fail)
  obtain ⟨gi, hgi⟩ : ∃ gi, gi = w.heap.size := ⟨_, rfl⟩
  obtain ⟨g7, hg7⟩ : ∃ g7, g7 = w.heap.size + 1 := ⟨_, rfl⟩
  rw [← hg7, ← hgi]
  obtain ⟨W1, hW1⟩ : ∃ W1, W1 = (w.alloc (.cells #[.int .i64 (m : Int)] 2)).alloc (.cells #[.int .i64 0, .int .i64 0] 91) := ⟨_, rfl⟩
  have HI : Kp (Blk W1 gi 2 [.int .i64 (m : Int)]) := ⟨by rw [hW1, hgi]; exact (Blk.new w _ _).alloc _⟩
  have H7 : Kp (Blk W1 g7 91 [.int .i64 0, .int .i64 0]) := ⟨by rw [hW1, hg7]; exact Blk.new' _ _ _ (by simp)⟩
  have HF : Kp (Fr (fun _ => False) w W1) := ⟨by rw [hW1]; exact ((Fr.refl _ w).alloc _).alloc _⟩
  have HG7 : Kp (w.heap.size ≤ g7) := ⟨by omega⟩
  rw [← hW1]
  clear hgi hW1 hg7
  go_wp2_with fail
  refine (CW.out gi W1 HI.out).mono ?_
  rintro e W2 ⟨v, rfl, hO, hf⟩
  have HO := Kp.mk (hO.low HF.out.size)
  have HF2 := Kp.mk (HF.out.trans hf (fun _ _ h => h))
  have H72 := Kp.mk (H7.out.fr hf (fun h => h))
  clear hO hf CW HI HF H7
  go_upto_region 2 with (fail)
  obtain ⟨g9, hg9⟩ : ∃ g9, g9 = W2.heap.size := ⟨_, rfl⟩
  obtain ⟨W3, hW3⟩ : ∃ W3, W3 = W2.alloc (.cells #[.int .i64 (s : Int), .int .i64 (m : Int)] 91) := ⟨_, rfl⟩
  have H9 : Kp (Blk W3 g9 91 [.int .i64 (s : Int), .int .i64 (m : Int)]) := ⟨by rw [hW3, hg9]; exact Blk.new W2 _ _⟩
  have hfa : Fr (fun _ => False) W2 W3 := by rw [hW3]; exact (Fr.refl _ W2).alloc _
  have HF3 := Kp.mk (HF2.out.trans hfa (fun _ _ h => h))
  have H73 := Kp.mk (H72.out.fr hfa (fun h => h))
  have HO3 := Kp.mk (HO.out.keep hfa (fun _ _ h => h))
  rw [← hg9, ← hW3]
  clear hg9 hW3 hfa HF2 H72 HO
  have c90 : W3.cell? ⟨g9, 0, none⟩ = some (.int .i64 (s : Int)) := H9.out.cell 0 _ rfl
  have c91 : W3.cell? ⟨g9, 1, none⟩ = some (.int .i64 (m : Int)) := H9.out.cell 1 _ rfl
  by_cases hs0 : 0 < s
  · go_wp2_with fail
    refine (itself_calls (s : Int) (m : Int) false _).mono ?_
    rintro e W4 ⟨rfl, hf⟩
    have HF4 := Kp.mk (HF3.out.trans hf (fun _ _ h => h))
    have H74 := Kp.mk (H73.out.fr hf (fun h => h))
    have H94 := Kp.mk (H9.out.fr hf (fun h => h))
    have HO4 := Kp.mk (HO3.out.keep hf (fun _ _ h => h))
    clear hf HF3 H73 H9 HO3
    have hal := (Fr.refl (fun _ => False) W4).alloc (.cells (stC ⟨s, m, false⟩).toArray 95)
    have H1n := Kp.mk (ROwn.one W4 95 3 (stC ⟨s, m, false⟩) (stC_ok _) w.heap.size HF4.out.size)
    have HO4a := Kp.mk (HO4.out.keep hal (fun _ _ h => h))
    have HSZ := Kp.mk (Nat.le_trans HF4.out.size hal.size)
    clear hal
    go_upto_region 4 with (at_builtin; refine wpList_appendRR el_step rfl _ _ rfl rfl w.heap.size w.heap.size _ _ _ _ rfl rfl H1n.out HO4a.out (by have := HL48.out; simp only [List.length_map, List.length_singleton]; omega) (by have := HL48.out; simp only [List.length_map, List.length_singleton]; omega) HSZ.out ?_; intro VV WW hOW hgW; have HOW := Kp.mk hOW; have HgW := Kp.mk hgW; clear hOW hgW)
    have hfW : Fr (fun q => q = W4.heap.size) W4 WW := ((Fr.refl (fun q => q = W4.heap.size) W4).alloc (.cells (stC ⟨s, m, false⟩).toArray 95)).grown HgW.out (fun q _ h => (Option.some.inj h).symm)
    have HF := Kp.mk (HF4.out.trans hfW (S := fun _ => False) (fun q hq h => by have := HF4.out.size; omega))
    have H7 := Kp.mk (H74.out.fr hfW (fun h => by have := H74.out.lt; omega))
    have H9 := Kp.mk (H94.out.fr hfW (fun h => by have := H94.out.lt; omega))
    have HO := HOW
    clear hfW HF4 H74 H94 HO4 HO4a H1n HSZ HgW HOW c90 c91
    refine start_ (n := 4) (S := fun w' => Lds w' 91 (.pointer (some ⟨g9, 0, none⟩)) (.agg [.int .i64 (s : Int), .int .i64 (m : Int)].toArray)) (ds := [3]) #[false, false, false, false] (by kernel_rfl) rfl rfl (lds_agg Tryd.underlying91 rfl (by kernel_rfl) (blk_range H9.out.drew)) (fun hHeld => ?_)
    refine pure_ (i := 0) (N := some 29) (v := ?_) (a' := ?_) #[true, false, false, false] rfl rfl (by kernel_rfl) (fun _ _ _ h => h) (Or.inl ⟨by rfl, ?_⟩) ?_ ?_
    rotate_left
    · intro w'
      go_simp
      with_reducible rfl
    rotate_left
    · simp only [Act.put, List.setIfInBounds_toArray, List.set_cons_zero, List.set_cons_succ]
      rfl
    refine pure_ (i := 2) (N := some 6) (v := ?_) (a' := ?_) #[true, false, true, false] rfl rfl (by kernel_rfl) (fun _ _ _ h => h) (Or.inl ⟨by rfl, ?_⟩) ?_ ?_
    rotate_left
    · intro w'
      go_simp
      with_reducible rfl
    rotate_left
    · simp only [Act.put, List.setIfInBounds_toArray, List.set_cons_zero, List.set_cons_succ]
      rfl
    refine take_ (i := 1) (N := some 30) (v := ?_) (a' := ?_) #[true, true, true, false] rfl rfl (by kernel_rfl) (fun _ _ _ h => h) (Or.inl ⟨by rfl, ?_⟩) hHeld ?_ ?_
    rotate_left
    · intro w' s0
      refine Lds.run s0 (x := ?_) ?_ ?_
      · exact (Operand.tmp 9)
      · rfl
      · rfl
    rotate_left
    · simp only [Act.put, List.setIfInBounds_toArray, List.set_cons_zero, List.set_cons_succ]
      rfl
    refine last_ (i := 3) (N := none) #[true, true, true, true] rfl rfl (by kernel_rfl) (by decide) (fun K hK => ?_)
    refine skip_ (by rfl) rfl (st_agg _ _ (Operand.tmp 7) (Operand.tmp 30) _ 91 g7 0 [.int .i64 (s : Int), .int .i64 (m : Int)] rfl rfl rfl (blk_there H7.out.drew 0 2 (by decide)) (by kernel_rfl) (fun u hu => by simp only [List.mem_cons, List.not_mem_nil, or_false] at hu; rcases hu with rfl | rfl <;> rfl)) ?_
    refine hK.out _ _ ?_
    clear hK K
    refine done_ (by kernel_rfl) ?_
    have hs : Fr (fun q => q = g7) WW (WW.drew.setCells g7 0 [.int .i64 (s : Int), .int .i64 (m : Int)]) := (Fr.refl (fun q => q = g7) WW).drew.trans (fr_setCells g7 _ _ _) (fun _ _ h => h)
    have H7z : Blk (WW.drew.setCells g7 0 [.int .i64 (s : Int), .int .i64 (m : Int)]) g7 91 [.int .i64 (s : Int), .int .i64 (m : Int)] := Blk.setCells g7 91 [] [.int .i64 (s : Int), .int .i64 (m : Int)] [] [.int .i64 0, .int .i64 0] WW.drew rfl H7.out
    have HOz := HO.out.keep hs (fun k hk e => by
      obtain ⟨cur, hc⟩ := HO.out.type k hk
      exact blk_ne_type H7.out hc (by decide) e.symm)
    have HFz := HF.out.trans hs (S := fun _ => False) (fun q hq e => by have := HG7.out; omega)
    generalize World.setCells WW.drew g7 0 _ = Wz at H7z HOz HFz ⊢
    go_wp2_with fail
    refine bodyPost_ret (results_tmp_cell rfl _ _ g7 91 #[.int .i64 (s : Int), .int .i64 (m : Int)] (0, 0) _ VV rfl rfl H7z Tryd.underlying91 rfl (by kernel_rfl)) rfl ?_
    exact ⟨VV, by rw [← HS.out], by rw [from_split, seedL, List.map_append]; rw [← HS.out]; rw [if_pos hs0]; exact HOz, HFz⟩
  · go_upto_region 4 with (fail)
    have hs1 : ¬ 0 < s := hs0
    obtain ⟨WW, hWW⟩ : ∃ WW, WW = W3 := ⟨_, rfl⟩
    obtain ⟨VV, hVV⟩ : ∃ VV, VV = v := ⟨_, rfl⟩
    have HF : Kp (Fr (fun _ => False) w WW) := ⟨by rw [hWW]; exact HF3.out⟩
    have H7 : Kp (Blk WW g7 91 [.int .i64 0, .int .i64 0]) := ⟨by rw [hWW]; exact H73.out⟩
    have H9w : Kp (Blk WW g9 91 [.int .i64 (s : Int), .int .i64 (m : Int)]) := ⟨by rw [hWW]; exact H9.out⟩
    have HO : Kp (ROwn 95 3 WW w.heap.size VV ((stepsT m n).map stC)) := ⟨by rw [hWW, hVV]; exact HO3.out⟩
    rw [← hWW, ← hVV]
    clear hWW hVV HF3 H73 H9 HO3 c90 c91
    have H9 := H9w
    clear H9w
    refine start_ (n := 4) (S := fun w' => Lds w' 91 (.pointer (some ⟨g9, 0, none⟩)) (.agg [.int .i64 (s : Int), .int .i64 (m : Int)].toArray)) (ds := [3]) #[false, false, false, false] (by kernel_rfl) rfl rfl (lds_agg Tryd.underlying91 rfl (by kernel_rfl) (blk_range H9.out.drew)) (fun hHeld => ?_)
    refine pure_ (i := 0) (N := some 29) (v := ?_) (a' := ?_) #[true, false, false, false] rfl rfl (by kernel_rfl) (fun _ _ _ h => h) (Or.inl ⟨by rfl, ?_⟩) ?_ ?_
    rotate_left
    · intro w'
      go_simp
      with_reducible rfl
    rotate_left
    · simp only [Act.put, List.setIfInBounds_toArray, List.set_cons_zero, List.set_cons_succ]
      rfl
    refine pure_ (i := 2) (N := some 6) (v := ?_) (a' := ?_) #[true, false, true, false] rfl rfl (by kernel_rfl) (fun _ _ _ h => h) (Or.inl ⟨by rfl, ?_⟩) ?_ ?_
    rotate_left
    · intro w'
      go_simp
      with_reducible rfl
    rotate_left
    · simp only [Act.put, List.setIfInBounds_toArray, List.set_cons_zero, List.set_cons_succ]
      rfl
    refine take_ (i := 1) (N := some 30) (v := ?_) (a' := ?_) #[true, true, true, false] rfl rfl (by kernel_rfl) (fun _ _ _ h => h) (Or.inl ⟨by rfl, ?_⟩) hHeld ?_ ?_
    rotate_left
    · intro w' s0
      refine Lds.run s0 (x := ?_) ?_ ?_
      · exact (Operand.tmp 9)
      · rfl
      · rfl
    rotate_left
    · simp only [Act.put, List.setIfInBounds_toArray, List.set_cons_zero, List.set_cons_succ]
      rfl
    refine last_ (i := 3) (N := none) #[true, true, true, true] rfl rfl (by kernel_rfl) (by decide) (fun K hK => ?_)
    refine skip_ (by rfl) rfl (st_agg _ _ (Operand.tmp 7) (Operand.tmp 30) _ 91 g7 0 [.int .i64 (s : Int), .int .i64 (m : Int)] rfl rfl rfl (blk_there H7.out.drew 0 2 (by decide)) (by kernel_rfl) (fun u hu => by simp only [List.mem_cons, List.not_mem_nil, or_false] at hu; rcases hu with rfl | rfl <;> rfl)) ?_
    refine hK.out _ _ ?_
    clear hK K
    refine done_ (by kernel_rfl) ?_
    have hs : Fr (fun q => q = g7) WW (WW.drew.setCells g7 0 [.int .i64 (s : Int), .int .i64 (m : Int)]) := (Fr.refl (fun q => q = g7) WW).drew.trans (fr_setCells g7 _ _ _) (fun _ _ h => h)
    have H7z : Blk (WW.drew.setCells g7 0 [.int .i64 (s : Int), .int .i64 (m : Int)]) g7 91 [.int .i64 (s : Int), .int .i64 (m : Int)] := Blk.setCells g7 91 [] [.int .i64 (s : Int), .int .i64 (m : Int)] [] [.int .i64 0, .int .i64 0] WW.drew rfl H7.out
    have HOz := HO.out.keep hs (fun k hk e => by
      obtain ⟨cur, hc⟩ := HO.out.type k hk
      exact blk_ne_type H7.out hc (by decide) e.symm)
    have HFz := HF.out.trans hs (S := fun _ => False) (fun q hq e => by have := HG7.out; omega)
    generalize World.setCells WW.drew g7 0 _ = Wz at H7z HOz HFz ⊢
    go_wp2_with fail
    refine bodyPost_ret (results_tmp_cell rfl _ _ g7 91 #[.int .i64 (s : Int), .int .i64 (m : Int)] (0, 0) _ VV rfl rfl H7z Tryd.underlying91 rfl (by kernel_rfl)) rfl ?_
    exact ⟨VV, by rw [← HS.out], by rw [from_split, seedL, List.map_append]; rw [← HS.out]; rw [if_neg hs1]; exact HOz, HFz⟩
end Go.Proofs.YtjcmgpiapbeodaaDoor.Sha
set_option linter.unusedVariables false
namespace Go.Proofs.YtjcmgpiapbeodaaDoor.Sha
open Go.Proofs.YtjcmgpiapbeodaaDoor.Pf Go.Proofs.YtjcmgpiapbeodaaDoor.Len Go.Proofs.YtjcmgpiapbeodaaDoor.PProofTakes
open Go.RowKit Go.Proofs.YtjcmgpiapbeodaaDoor.Mem Go.Proofs.YtjcmgpiapbeodaaDoorW.PrintWords Go.Proofs.YtjcmgpiapbeodaaDoorW.PrintLast Go.Proofs.YtjcmgpiapbeodaaDoor.Pl Go.Proofs.YtjcmgpiapbeodaaDoor.Wk
attribute [local go_sem ↓] Go.wp_at_zero Go.wp_at_succ wp_load_hash wp_store_hash wp_load_mid23 wp_load_mid25 wp_store_mid25 wp_build_hash
attribute [local go_sem] rowAt_drew rowOk_drew midOk_drew midAt_drew rowBlock rowCells rowOff midFree_drew
theorem built_given : ∀ l : List Value, l.length = 32 → ∀ w : World, (Instr.build 141 #[(0, .agg l.toArray)]).run Tryd.prog w = .ok (.agg l.toArray) w
  | [c0, c1, c2, c3, c4, c5, c6, c7, c8, c9, c10, c11, c12, c13, c14, c15, c16, c17, c18, c19, c20, c21, c22, c23, c24, c25, c26, c27, c28, c29, c30, c31], _ => fun w => by kernel_rfl
theorem built_joined (t1 t2 : TypeId) (u1 u2 : Value) : ∀ l : List Value, l.length = 32 → ∀ w : World, (Instr.build 145 #[(0, .iface t1 u1), (1, .iface t2 u2), (2, .agg l.toArray)]).run Tryd.prog w = .ok (.agg (.iface t1 u1 :: .iface t2 u2 :: l).toArray) w
  | [c0, c1, c2, c3, c4, c5, c6, c7, c8, c9, c10, c11, c12, c13, c14, c15, c16, c17, c18, c19, c20, c21, c22, c23, c24, c25, c26, c27, c28, c29, c30, c31], _ => fun w => by kernel_rfl
theorem meth_given (cs : Array Value) (w : World) : (method (Tryd.prog.types.size + Made.depth) 141 (.agg cs) "ledger/proof.sum").run Tryd.prog w = .ok (135, .agg cs) w := by kernel_rfl
theorem meth_joined (a : Addr) (w : World) : (method (Tryd.prog.types.size + Made.depth) 143 (.pointer (some a)) "ledger/proof.sum").run Tryd.prog w = .ok (136, .pointer (some a)) w := by kernel_rfl
theorem wpList_build {ops : Array Oper} {rest : List Oper} {o : Oper} {a : Act} {w : World} {Q : Exit → Act → World → Prop} (hg : o.guard = none) (T : TypeId) (parts : Array (Nat × Operand)) (ho : o.op = .build T parts) (ps : Array (Nat × Value)) (hps : (parts.map fun (i, x) => (i, a.eval x)) = ps) (v : Value)
    (hr : ∀ w : World, (Instr.build T ps).run Tryd.prog w = .ok v w) (h : wpList Tryd.prog ops Q rest (a.put o.dst v) w) : wpList Tryd.prog ops Q (o :: rest) a w := by
  subst hps
  refine wpList_plain hg fun _ hK => ?_
  unfold Oper.wp execOp
  simp only [ho, Sem.run_bind, hr, Result.andThen_ok, Sem.run_pure]
  exact hK _ _ h
set_option maxHeartbeats 4000000 in
set_option maxRecDepth 100000 in
theorem gsum_calls (h : List Int) (hl : h.length = 32) (w : World) : Calls Tryd.prog 135 #[.agg (bytes h).toArray] w fun e w' => e = .returned (.agg (bytes h).toArray) ∧ Fr (fun _ => False) w w' := by
  have HL := Kp.mk hl
  clear hl
  go_enter Tryd.func135, Tryd.ntmps135
  go_upto_region 1 with (fail)
  obtain ⟨g1, hg1⟩ : ∃ g1, g1 = w.heap.size := ⟨_, rfl⟩
  obtain ⟨g2, hg2⟩ : ∃ g2, g2 = w.heap.size + 1 := ⟨_, rfl⟩
  rw [← hg2, ← hg1]
  obtain ⟨W1, hW1⟩ : ∃ W1, W1 = (w.alloc (.cells (bytes h).toArray 141)).alloc (.cells #[.int .u8 0, .int .u8 0, .int .u8 0, .int .u8 0, .int .u8 0, .int .u8 0, .int .u8 0, .int .u8 0, .int .u8 0, .int .u8 0, .int .u8 0, .int .u8 0, .int .u8 0, .int .u8 0, .int .u8 0, .int .u8 0, .int .u8 0, .int .u8 0, .int .u8 0, .int .u8 0, .int .u8 0, .int .u8 0, .int .u8 0, .int .u8 0, .int .u8 0, .int .u8 0, .int .u8 0, .int .u8 0, .int .u8 0, .int .u8 0, .int .u8 0, .int .u8 0] 29) := ⟨_, rfl⟩
  have H1 : Kp (Blk W1 g1 141 (bytes h)) := ⟨by rw [hW1, hg1]; exact (Blk.new w _ _).alloc _⟩
  have H2 : Kp (Blk W1 g2 29 [.int .u8 0, .int .u8 0, .int .u8 0, .int .u8 0, .int .u8 0, .int .u8 0, .int .u8 0, .int .u8 0, .int .u8 0, .int .u8 0, .int .u8 0, .int .u8 0, .int .u8 0, .int .u8 0, .int .u8 0, .int .u8 0, .int .u8 0, .int .u8 0, .int .u8 0, .int .u8 0, .int .u8 0, .int .u8 0, .int .u8 0, .int .u8 0, .int .u8 0, .int .u8 0, .int .u8 0, .int .u8 0, .int .u8 0, .int .u8 0, .int .u8 0, .int .u8 0]) := ⟨by rw [hW1, hg2]; exact Blk.new' _ _ _ (by simp)⟩
  have HF : Kp (Fr (fun _ => False) w W1) := ⟨by rw [hW1]; exact ((Fr.refl _ w).alloc _).alloc _⟩
  have HG : Kp (w.heap.size ≤ g2) := ⟨by omega⟩
  rw [← hW1]
  clear hW1 hg1 hg2
  have hi32 : (Tryd.prog.info? 29).map (·.size) = some 32 := by kernel_rfl
  have hln : Kp ((bytes h).length = 32) := ⟨by rw [bytes_length, HL.out]⟩
  have hsz : (bytes h).toArray.size = 32 := by simp [bytes, HL.out]
  have hone := bytes_ones h
  have H2h := Kp.mk (show W1.heap[g2]? = some (.cells #[.int .u8 0, .int .u8 0, .int .u8 0, .int .u8 0, .int .u8 0, .int .u8 0, .int .u8 0, .int .u8 0, .int .u8 0, .int .u8 0, .int .u8 0, .int .u8 0, .int .u8 0, .int .u8 0, .int .u8 0, .int .u8 0, .int .u8 0, .int .u8 0, .int .u8 0, .int .u8 0, .int .u8 0, .int .u8 0, .int .u8 0, .int .u8 0, .int .u8 0, .int .u8 0, .int .u8 0, .int .u8 0, .int .u8 0, .int .u8 0, .int .u8 0, .int .u8 0] 29 (0, 0)) from H2.out)
  have H1r := Kp.mk (blk_range H1.out)
  go_wp2_with (first
    | refine wpList_load_mid rfl 29 _ rfl g1 0 rfl (bytes h) _ H1r.out Tryd.underlying29 rfl (by rw [hln.out]; exact hi32) ?_
    | refine wpList_store_row rfl 29 _ _ rfl g2 (bytes h).toArray rfl rfl 29 #[.int .u8 0, .int .u8 0, .int .u8 0, .int .u8 0, .int .u8 0, .int .u8 0, .int .u8 0, .int .u8 0, .int .u8 0, .int .u8 0, .int .u8 0, .int .u8 0, .int .u8 0, .int .u8 0, .int .u8 0, .int .u8 0, .int .u8 0, .int .u8 0, .int .u8 0, .int .u8 0, .int .u8 0, .int .u8 0, .int .u8 0, .int .u8 0, .int .u8 0, .int .u8 0, .int .u8 0, .int .u8 0, .int .u8 0, .int .u8 0, .int .u8 0, .int .u8 0] (by exact H2h.out) (by rw [hsz]; exact hi32) (by rw [hsz]; rfl) hone ?_)
  refine bodyPost_ret (results_cell_row rfl _ _ g2 29 _ (0, 0) _ rfl (setRow_heap _ g2 _ _ _ _ H2h.out) Tryd.underlying29 rfl (by rw [hsz]; exact hi32)) rfl ?_
  have hfz : Fr (fun q => q = g2) W1 (W1.setRow g2 (bytes h).toArray) := ⟨rfl, rfl, rfl, by simp [World.setRow], fun q _ hq => setRow_other _ _ q _ hq⟩
  exact ⟨rfl, HF.out.trans hfz (fun q hq he => by have := HG.out; omega)⟩
set_option maxHeartbeats 4000000 in
set_option maxRecDepth 100000 in
theorem jsum_calls (g : Nat) (x y : Value) (h : List Int) (hl : h.length = 32) (w : World) (hb : Blk w g 145 (x :: y :: bytes h)) : Calls Tryd.prog 136 #[.pointer (some ⟨g, 0, none⟩)] w fun e w' => e = .returned (.agg (bytes h).toArray) ∧ Fr (fun _ => False) w w' := by
  have HL := Kp.mk hl
  have HB := Kp.mk hb
  clear hl hb
  go_enter Tryd.func136, Tryd.ntmps136
  go_upto_region 1 with (fail)
  obtain ⟨g2, hg2⟩ : ∃ g2, g2 = w.heap.size := ⟨_, rfl⟩
  obtain ⟨W1, hW1⟩ : ∃ W1, W1 = w.alloc (.cells #[.int .u8 0, .int .u8 0, .int .u8 0, .int .u8 0, .int .u8 0, .int .u8 0, .int .u8 0, .int .u8 0, .int .u8 0, .int .u8 0, .int .u8 0, .int .u8 0, .int .u8 0, .int .u8 0, .int .u8 0, .int .u8 0, .int .u8 0, .int .u8 0, .int .u8 0, .int .u8 0, .int .u8 0, .int .u8 0, .int .u8 0, .int .u8 0, .int .u8 0, .int .u8 0, .int .u8 0, .int .u8 0, .int .u8 0, .int .u8 0, .int .u8 0, .int .u8 0] 29) := ⟨_, rfl⟩
  have H2 : Kp (Blk W1 g2 29 [.int .u8 0, .int .u8 0, .int .u8 0, .int .u8 0, .int .u8 0, .int .u8 0, .int .u8 0, .int .u8 0, .int .u8 0, .int .u8 0, .int .u8 0, .int .u8 0, .int .u8 0, .int .u8 0, .int .u8 0, .int .u8 0, .int .u8 0, .int .u8 0, .int .u8 0, .int .u8 0, .int .u8 0, .int .u8 0, .int .u8 0, .int .u8 0, .int .u8 0, .int .u8 0, .int .u8 0, .int .u8 0, .int .u8 0, .int .u8 0, .int .u8 0, .int .u8 0]) := ⟨by rw [hW1, hg2]; exact Blk.new w _ _⟩
  have HF : Kp (Fr (fun _ => False) w W1) := ⟨by rw [hW1]; exact (Fr.refl _ w).alloc _⟩
  have HG : Kp (w.heap.size ≤ g2) := ⟨by omega⟩
  have H1 := Kp.mk (HB.out.fr HF.out (fun h => h))
  rw [← hg2, ← hW1]
  clear hW1 hg2 HB
  have hi32 : (Tryd.prog.info? 29).map (·.size) = some 32 := by kernel_rfl
  have hln : Kp ((bytes h).length = 32) := ⟨by rw [bytes_length, HL.out]⟩
  have hsz : (bytes h).toArray.size = 32 := by simp [bytes, HL.out]
  have hone := bytes_ones h
  have H2h := Kp.mk (show W1.heap[g2]? = some (.cells #[.int .u8 0, .int .u8 0, .int .u8 0, .int .u8 0, .int .u8 0, .int .u8 0, .int .u8 0, .int .u8 0, .int .u8 0, .int .u8 0, .int .u8 0, .int .u8 0, .int .u8 0, .int .u8 0, .int .u8 0, .int .u8 0, .int .u8 0, .int .u8 0, .int .u8 0, .int .u8 0, .int .u8 0, .int .u8 0, .int .u8 0, .int .u8 0, .int .u8 0, .int .u8 0, .int .u8 0, .int .u8 0, .int .u8 0, .int .u8 0, .int .u8 0, .int .u8 0] 29 (0, 0)) from H2.out)
  have H1r : Kp (W1.rangeAt g 2 (bytes h)) := ⟨fun j v hj => by
    have h3 := H1.out.cell (2 + j) v
    rw [show 2 + j = j + 1 + 1 by omega] at h3 ⊢
    exact h3 hj⟩
  go_wp2_with (first
    | refine wpList_load_mid rfl 29 _ rfl g 2 rfl (bytes h) _ H1r.out Tryd.underlying29 rfl (by rw [hln.out]; exact hi32) ?_
    | refine wpList_store_row rfl 29 _ _ rfl g2 (bytes h).toArray rfl rfl 29 #[.int .u8 0, .int .u8 0, .int .u8 0, .int .u8 0, .int .u8 0, .int .u8 0, .int .u8 0, .int .u8 0, .int .u8 0, .int .u8 0, .int .u8 0, .int .u8 0, .int .u8 0, .int .u8 0, .int .u8 0, .int .u8 0, .int .u8 0, .int .u8 0, .int .u8 0, .int .u8 0, .int .u8 0, .int .u8 0, .int .u8 0, .int .u8 0, .int .u8 0, .int .u8 0, .int .u8 0, .int .u8 0, .int .u8 0, .int .u8 0, .int .u8 0, .int .u8 0] (by exact H2h.out) (by rw [hsz]; exact hi32) (by rw [hsz]; rfl) hone ?_)
  refine bodyPost_ret (results_cell_row rfl _ _ g2 29 _ (0, 0) _ rfl (setRow_heap _ g2 _ _ _ _ H2h.out) Tryd.underlying29 rfl (by rw [hsz]; exact hi32)) rfl ?_
  have hfz : Fr (fun q => q = g2) W1 (W1.setRow g2 (bytes h).toArray) := ⟨rfl, rfl, rfl, by simp [World.setRow], fun q _ hq => setRow_other _ _ q _ hq⟩
  exact ⟨rfl, HF.out.trans hfz (fun q hq he => by have := HG.out; omega)⟩
/-- a node in memory: v -/
def NdAt (w : World) (s : Nat) : Nd → Value → Prop
  | .giv h, v => h.length = 32 ∧ v = .iface 141 (.agg (bytes h).toArray)
  | .join l r, v => ∃ g vl vr, v = .iface 143 (.pointer (some ⟨g, 0, none⟩)) ∧ Blk w g 145 (vl :: vr :: bytes (Nd.sum (nodeL s) (.join l r))) ∧ NdAt w s l vl ∧ NdAt w s r vr
theorem NdAt.keep {w w1 : World} {s : Nat} {S : Nat → Prop} (hf : Fr S w w1) (hs : ∀ k cur, w.heap[k]? = some (.cells cur 145 (0, 0)) → ¬ S k) : ∀ {n : Nd} {v : Value}, NdAt w s n v → NdAt w1 s n v
  | .giv _, _, h => h
  | .join l r, _, ⟨g, vl, vr, h1, h2, h3, h4⟩ => ⟨g, vl, vr, h1, h2.fr hf (hs g _ h2), NdAt.keep hf hs h3, NdAt.keep hf hs h4⟩
theorem NdAt.kept {w w1 : World} {s : Nat} (hf : Fr (fun _ => False) w w1) {n : Nd} {v : Value} (h : NdAt w s n v) : NdAt w1 s n v := h.keep hf (fun _ _ _ h => h)
theorem NdAt.iface {w : World} {s : Nat} : ∀ {n : Nd} {v : Value}, NdAt w s n v → ∃ t u, v = .iface t u
  | .giv _, _, h => ⟨_, _, h.2⟩
  | .join _ _, _, ⟨_, _, _, h, _⟩ => ⟨_, _, h⟩
theorem NdAt.sum_len {w : World} {s : Nat} (hs : s ≤ 32) : ∀ {n : Nd} {v : Value}, NdAt w s n v → (n.sum (nodeL s)).length = 32
  | .giv _, _, h => h.1
  | .join _ _, _, _ => ofL_len _ _ hs
theorem NdAt.ok {w : World} {s : Nat} : ∀ {n : Nd} {v : Value}, NdAt w s n v → n.ok
  | .giv _, _, h => h.1
  | .join _ _, _, ⟨_, _, _, _, _, h3, h4⟩ => ⟨NdAt.ok h3, NdAt.ok h4⟩
/-- what sum answers of an interface value -/
def Sums (w : World) (v : Value) (h : List Int) : Prop :=
  ∃ f recv, (callMethod v "ledger/proof.sum" #[]).run Tryd.prog w = .ok (.enter f #[recv]) w ∧ Calls Tryd.prog f #[recv] w fun e w' => e = .returned (.agg (bytes h).toArray) ∧ Fr (fun _ => False) w w'
theorem sums_of {w : World} {s : Nat} (hs : s ≤ 32) : ∀ {n : Nd} {v : Value}, NdAt w s n v → Sums w v (n.sum (nodeL s))
  | .giv h, _, ⟨h1, rfl⟩ => by
    refine ⟨135, .agg (bytes h).toArray, ?_, gsum_calls h h1 w⟩
    have he := enters_ (P := Tryd.prog) Tryd.func135 (by kernel_rfl) rfl #[.agg (bytes h).toArray] w
    simp only [callMethod, Sem.run_bind, run_program, Result.andThen_ok, meth_given]
    exact he
  | .join l r, _, ⟨g, vl, vr, rfl, h2, _⟩ => by
    refine ⟨136, .pointer (some ⟨g, 0, none⟩), ?_, jsum_calls g vl vr _ (ofL_len _ _ hs) w h2⟩
    have he := enters_ (P := Tryd.prog) Tryd.func136 (by kernel_rfl) rfl #[.pointer (some ⟨g, 0, none⟩)] w
    simp only [callMethod, Sem.run_bind, run_program, Result.andThen_ok, meth_joined]
    exact he
theorem run_sum {w : World} {v : Value} {h : List Int} {f : FuncId} {recv : Value} (hr : (callMethod v "ledger/proof.sum" #[]).run Tryd.prog w = .ok (.enter f #[recv]) w) {ev : Operand → Value} {oi : Oper} (x : Operand) (ho : oi.op = .call { callee := .invoke x "ledger/proof.sum", args := #[], argTypes := #[] }) (hx : ev x = v) :
    (execOp ev oi).run Tryd.prog w = .ok (.enter f #[recv]) w := by
  have hr' : (callMethod v "ledger/proof.sum" (#[v].extract 1 #[v].size)).run Tryd.prog w = .ok (.enter f #[recv]) w := hr
  unfold execOp
  simp only [ho, resolve, Array.map_empty, Sem.run_bind, Sem.run_pure, Result.andThen_ok, invoke, hx, Array.append_empty]
  exact hr'
/-- a call of sum, in a plain region -/
theorem goesSum {ops : Array Oper} {Q : Exit → Act → World → Prop} {rest : List Oper} {oi : Oper} {a : Act} {w : World} (N : Option Tmp) (hd : oi.dst = N) (hg : oi.guard = none) (x : Operand) (ho : oi.op = .call { callee := .invoke x "ledger/proof.sum", args := #[], argTypes := #[] })
    (v : Value) (hx : a.eval x = v) (h : List Int) (hs : Sums w v h) (hk : ∀ w', Fr (fun _ => False) w w' → wpList Tryd.prog ops Q rest (a.put N (.agg (bytes h).toArray)) w') : wpList Tryd.prog ops Q (oi :: rest) a w := by
  obtain ⟨f, recv, hr, hc⟩ := hs
  refine wpList_plain hg fun K hK => ?_
  unfold Oper.wp
  rw [run_sum (h := h) hr x ho hx, Oper.upon_enter]
  refine hc.mono fun e w' hh => ?_
  obtain ⟨rfl, hf⟩ := hh
  subst hd
  exact hK _ _ (hk w' hf)
/-- a call of sum, in a region that draws its order -/
theorem goesSum_ {ops : Array Oper} {Q : Exit → Act → World → Prop} {oi : Oper} {N : Option Tmp} {a : Act} {w : World} {K : Act → World → Prop} (x : Operand) (hw : Region.wanted oi (yielded ops a.tmps) = true) (hN : oi.dst = N) (ho : oi.op = .call { callee := .invoke x "ledger/proof.sum", args := #[], argTypes := #[] })
    (v : Value) (hx : a.eval x = v) (h : List Int) (hs : Sums w v h) (hk : ∀ w', Fr (fun _ => False) w w' → K (a.put N (.agg (bytes h).toArray)) w') : if Region.wanted oi (yielded ops a.tmps) = true then Oper.wp Tryd.prog oi a w K Q else K (a.put N undef) w := by
  obtain ⟨f, recv, hr, hc⟩ := hs
  refine call_ f #[recv] hw hN (run_sum (h := h) hr x ho hx) ?_
  refine hc.mono fun e w' hh => ?_
  obtain ⟨rfl, hf⟩ := hh
  exact ⟨_, rfl, hk w' hf⟩
set_option maxHeartbeats 4000000 in
set_option maxRecDepth 100000 in
/-- join: the node over two -/
theorem pjoin_calls (k : Int) (l r : Nd) (vl vr : Value) (w : World) (hL : Laid w) (h1 : NdAt w (strength k) l vl) (h2 : NdAt w (strength k) r vr) : Calls Tryd.prog 75 #[.int .i64 k, vl, vr] w fun e w' =>
    ∃ v, e = .returned v ∧ NdAt w' (strength k) (.join l r) v ∧ Fr (fun _ => False) w w' := by
  have HSl := Kp.mk (fun (W : World) (hf : Fr (fun _ => False) w W) => sums_of (strength_le k) (h1.kept hf))
  have HSr := Kp.mk (fun (W : World) (hf : Fr (fun _ => False) w W) => sums_of (strength_le k) (h2.kept hf))
  have l1 := h1.sum_len (strength_le k)
  have l2 := h2.sum_len (strength_le k)
  have CN : Kp (∀ W, Fr (fun _ => False) w W → Calls Tryd.prog 15 #[.int .i64 k, .agg (bytes (l.sum (nodeL (strength k)))).toArray, .agg (bytes (r.sum (nodeL (strength k)))).toArray] W fun e w' => e = .returned (.agg (bytes (nodeL (strength k) (l.sum (nodeL (strength k))) (r.sum (nodeL (strength k))))).toArray) ∧ Fr (fun _ => False) W w') :=
    ⟨fun W hf => nodeHash_calls k _ _ l1 l2 W (hL.fr hf (fun _ h => h.elim))⟩
  have hM : Nd.sum (nodeL (strength k)) (.join l r) = nodeL (strength k) (l.sum (nodeL (strength k))) (r.sum (nodeL (strength k))) := rfl
  have hM32 := ofL_len (strength k) (1 :: (l.sum (nodeL (strength k)) ++ r.sum (nodeL (strength k)))) (strength_le k)
  have HAl := Kp.mk h1
  have HAr := Kp.mk h2
  obtain ⟨t1, u1, rfl⟩ := h1.iface
  obtain ⟨t2, u2, rfl⟩ := h2.iface
  have HM := Kp.mk hM
  have HM32 : Kp ((nodeL (strength k) (l.sum (nodeL (strength k))) (r.sum (nodeL (strength k)))).length = 32) := ⟨hM32⟩
  generalize nodeL (strength k) (l.sum (nodeL (strength k))) (r.sum (nodeL (strength k))) = M at CN HM HM32
  generalize l.sum (nodeL (strength k)) = xl at HSl CN l1
  generalize r.sum (nodeL (strength k)) = xr at HSr CN l2
  clear hM hM32 h1 h2 hL l1 l2
  go_enter Tryd.func75, Tryd.ntmps75
  have hbj := built_joined t1 t2 u1 u2 (bytes M) (by rw [bytes_length, HM32.out])
  go_wp2_with (first
    | (refine goesSum (some 11) rfl rfl (Operand.tmp 10) rfl _ rfl xl (HSl.out _ (Fr.refl _ _)) ?_; intro W1 hf1; have HF1 := Kp.mk hf1; clear hf1)
    | (refine goesSum (some 13) rfl rfl (Operand.tmp 12) rfl _ rfl xr (HSr.out _ HF1.out) ?_; intro W2 hf2; have HF2 := Kp.mk (HF1.out.trans hf2 (fun _ _ h => h)); clear hf2 HF1))
  refine (CN.out _ HF2.out).mono ?_
  rintro e W3 ⟨rfl, hf3⟩
  have HF3 := Kp.mk (HF2.out.trans hf3 (fun _ _ h => h))
  clear hf3 HF2 HSl HSr CN
  go_wp2_with (refine wpList_build rfl 145 _ rfl #[(0, .iface t1 u1), (1, .iface t2 u2), (2, .agg (bytes M).toArray)] (by simp only [List.map_toArray, List.map_cons, List.map_nil]; rfl) _ hbj ?_)
  clear hbj
  go_ret
  have ha := (Fr.refl (fun _ => False) W3).alloc (.cells (.iface t1 u1 :: .iface t2 u2 :: bytes M).toArray 145)
  have hf := HF3.out.trans ha (fun _ _ h => h)
  refine ⟨_, rfl, ⟨W3.heap.size, _, _, rfl, ?_, HAl.out.kept hf, HAr.out.kept hf⟩, hf⟩
  rw [HM.out]
  exact Blk.new W3 _ _
theorem lds_nod {w : World} {a : Addr} {v : Value} (h : w.cell? a = some v) : Lds w 98 (.pointer (some a)) v := by
  intro ev o x ho hx
  unfold execOp
  simp only [ho, hx]
  go_simp
set_option maxHeartbeats 4000000 in
set_option maxRecDepth 100000 in
theorem children_giv (h : List Int) (w : World) : Calls Tryd.prog 48 #[.iface 141 (.agg (bytes h).toArray)] w fun e w' => e = .returned (.tuple #[.nilIface, .nilIface, .bool false]) ∧ Fr (fun _ => False) w w' := by
  generalize (bytes h).toArray = cs
  have hta : ∀ w : World, (Instr.typeAssert (.iface 141 (.agg cs)) 98 143 true).run Tryd.prog w = .ok (.tuple #[.pointer none, .bool false]) w := fun _ => by kernel_rfl
  go_enter Tryd.func48, Tryd.ntmps48
  go_wp2
  go_ret3
  exact ⟨rfl, Fr.refl _ _⟩
set_option maxHeartbeats 4000000 in
set_option maxRecDepth 100000 in
theorem children_join (g : Nat) (x y : Value) (h : List Int) (w : World) (hb : Blk w g 145 (x :: y :: bytes h)) : Calls Tryd.prog 48 #[.iface 143 (.pointer (some ⟨g, 0, none⟩))] w fun e w' => e = .returned (.tuple #[x, y, .bool true]) ∧ Fr (fun _ => False) w w' := by
  have c0 := Kp.mk (hb.cell 0 x rfl)
  have c1 := Kp.mk (hb.cell 1 y rfl)
  clear hb
  have hta : ∀ w : World, (Instr.typeAssert (.iface 143 (.pointer (some ⟨g, 0, none⟩))) 98 143 true).run Tryd.prog w = .ok (.tuple #[.pointer (some ⟨g, 0, none⟩), .bool true]) w := fun _ => by kernel_rfl
  go_enter Tryd.func48, Tryd.ntmps48
  go_wp2
  refine start_ (n := 11) (S := fun w' => Lds w' 98 (.pointer (some ⟨g, 0, none⟩)) x ∧ Lds w' 98 (.pointer (some ⟨g, 1, none⟩)) y) (ds := []) #[false, false, false, false, false, false, false, false, false, false, false] (by kernel_rfl) rfl rfl ⟨lds_nod (w := w.drew) c0.out, lds_nod (w := w.drew) c1.out⟩ (fun hHeld => ?_)
  refine pure_ (i := 0) (N := some 10) (v := ?_) (a' := ?_) #[true, false, false, false, false, false, false, false, false, false, false] rfl rfl (by kernel_rfl) (fun _ _ _ h => h) (Or.inl ⟨by rfl, ?_⟩) ?_ ?_
  rotate_left
  · intro w'
    go_simp
    with_reducible rfl
  rotate_left
  · simp only [Act.put, List.setIfInBounds_toArray, List.set_cons_zero, List.set_cons_succ]
    rfl
  refine pure_ (i := 1) (N := some 11) (v := ?_) (a' := ?_) #[true, true, false, false, false, false, false, false, false, false, false] rfl rfl (by kernel_rfl) (fun _ _ _ h => h) (Or.inl ⟨by rfl, ?_⟩) ?_ ?_
  rotate_left
  · intro w'
    go_simp
    with_reducible rfl
  rotate_left
  · simp only [Act.put, List.setIfInBounds_toArray, List.set_cons_zero, List.set_cons_succ]
    rfl
  refine pure_ (i := 2) (N := some 12) (v := ?_) (a' := ?_) #[true, true, true, false, false, false, false, false, false, false, false] rfl rfl (by kernel_rfl) (fun _ _ _ h => h) (Or.inl ⟨by rfl, ?_⟩) ?_ ?_
  rotate_left
  · intro w'
    go_simp
    with_reducible rfl
  rotate_left
  · simp only [Act.put, List.setIfInBounds_toArray, List.set_cons_zero, List.set_cons_succ]
    rfl
  refine pure_ (i := 4) (N := some 14) (v := ?_) (a' := ?_) #[true, true, true, false, true, false, false, false, false, false, false] rfl rfl (by kernel_rfl) (fun _ _ _ h => h) (Or.inl ⟨by rfl, ?_⟩) ?_ ?_
  rotate_left
  · intro w'
    go_simp
    with_reducible rfl
  rotate_left
  · simp only [Act.put, List.setIfInBounds_toArray, List.set_cons_zero, List.set_cons_succ]
    rfl
  refine pure_ (i := 5) (N := some 15) (v := ?_) (a' := ?_) #[true, true, true, false, true, true, false, false, false, false, false] rfl rfl (by kernel_rfl) (fun _ _ _ h => h) (Or.inl ⟨by rfl, ?_⟩) ?_ ?_
  rotate_left
  · intro w'
    go_simp
    with_reducible rfl
  rotate_left
  · simp only [Act.put, List.setIfInBounds_toArray, List.set_cons_zero, List.set_cons_succ]
    rfl
  refine pure_ (i := 6) (N := some 16) (v := ?_) (a' := ?_) #[true, true, true, false, true, true, true, false, false, false, false] rfl rfl (by kernel_rfl) (fun _ _ _ h => h) (Or.inl ⟨by rfl, ?_⟩) ?_ ?_
  rotate_left
  · intro w'
    go_simp
    with_reducible rfl
  rotate_left
  · simp only [Act.put, List.setIfInBounds_toArray, List.set_cons_zero, List.set_cons_succ]
    rfl
  refine take_ (i := 3) (N := some 13) (v := ?_) (a' := ?_) #[true, true, true, true, true, true, true, false, false, false, false] rfl rfl (by kernel_rfl) (fun _ _ _ h => h) (Or.inl ⟨by rfl, ?_⟩) hHeld ?_ ?_
  rotate_left
  · rintro w' ⟨s0, s1⟩
    refine Lds.run s0 (x := ?_) ?_ ?_
    · exact (Operand.tmp 12)
    · rfl
    · rfl
  rotate_left
  · simp only [Act.put, List.setIfInBounds_toArray, List.set_cons_zero, List.set_cons_succ]
    rfl
  refine pure_ (i := 8) (N := some 2) (v := ?_) (a' := ?_) #[true, true, true, true, true, true, true, false, true, false, false] rfl rfl (by kernel_rfl) (fun _ _ _ h => h) (Or.inl ⟨by rfl, ?_⟩) ?_ ?_
  rotate_left
  · intro w'
    go_simp
    with_reducible rfl
  rotate_left
  · simp only [Act.put, List.setIfInBounds_toArray, List.set_cons_zero, List.set_cons_succ]
    rfl
  refine take_ (i := 7) (N := some 17) (v := ?_) (a' := ?_) #[true, true, true, true, true, true, true, true, true, false, false] rfl rfl (by kernel_rfl) (fun _ _ _ h => h) (Or.inl ⟨by rfl, ?_⟩) hHeld ?_ ?_
  rotate_left
  · rintro w' ⟨s0, s1⟩
    refine Lds.run s1 (x := ?_) ?_ ?_
    · exact (Operand.tmp 16)
    · rfl
    · rfl
  rotate_left
  · simp only [Act.put, List.setIfInBounds_toArray, List.set_cons_zero, List.set_cons_succ]
    rfl
  refine pure_ (i := 9) (N := some 3) (v := ?_) (a' := ?_) #[true, true, true, true, true, true, true, true, true, true, false] rfl rfl (by kernel_rfl) (fun _ _ _ h => h) (Or.inl ⟨by rfl, ?_⟩) ?_ ?_
  rotate_left
  · intro w'
    go_simp
    with_reducible rfl
  rotate_left
  · simp only [Act.put, List.setIfInBounds_toArray, List.set_cons_zero, List.set_cons_succ]
    rfl
  refine pure_ (i := 10) (N := some 4) (v := ?_) (a' := ?_) #[true, true, true, true, true, true, true, true, true, true, true] rfl rfl (by kernel_rfl) (fun _ _ _ h => h) (Or.inl ⟨by rfl, ?_⟩) ?_ ?_
  rotate_left
  · intro w'
    go_simp
    with_reducible rfl
  rotate_left
  · simp only [Act.put, List.setIfInBounds_toArray, List.set_cons_zero, List.set_cons_succ]
    rfl
  refine done_ (by kernel_rfl) ?_
  go_wp2
  go_ret3
  exact ⟨rfl, (Fr.refl _ w).drew⟩
end Go.Proofs.YtjcmgpiapbeodaaDoor.Sha
