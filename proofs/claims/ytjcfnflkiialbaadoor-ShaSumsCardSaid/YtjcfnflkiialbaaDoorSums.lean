/-
  The walk of ShaSums.
-/
import Derived.Test.YtjcfnflkiialbaaDoorRLent
import Derived.Test.YtjcfnflkiialbaaDoorRowOk
import Derived.Deep.DrawnRows
import Derived.Deep.RegionWith
namespace Go.Proofs.YtjcfnflkiialbaaDoor.Sha
open Go.RowKit Go.Proofs.YtjcfnflkiialbaaDoor.Mem Go.Proofs.YtjcfnflkiialbaaDoorW.PrintWords
theorem same32 (M : List Int) (h : M.length = 32) (W : World) : (Op.equalIn 10000 41 (.agg (bytes M).toArray) (.agg (bytes M).toArray)).run Tryd.prog W = .ok true W := by
  have := run_equalIn_ints W 9998 41 5 32 .u8 Tryd.underlying41 Tryd.underlying5 size_u8 M M h h
  rw [decide_eq_true rfl] at this
  exact this
theorem same64 (M : List Int) (h : M.length = 64) (W : World) : (Op.equalIn 10000 43 (.agg (bytes M).toArray) (.agg (bytes M).toArray)).run Tryd.prog W = .ok true W := by
  have := run_equalIn_ints W 9998 43 5 64 .u8 Tryd.underlying43 Tryd.underlying5 size_u8 M M h h
  rw [decide_eq_true rfl] at this
  exact this
theorem wp_load_64 (W : World) (a : Act) (K : Act → World → Prop) (Q : Exit → Act → World → Prop) (x : Operand) (d : Tmp) (ty : TypeId) (pos : String) (af) (gd)
    (hx : rowOk W 43 (a.eval x) = true) :
    Oper.wp Tryd.prog { dst := some d, op := .load 43 x, type := ty, pos := pos, after := af, guard := gd } a W K Q = K (a.put (some d) (.agg (rowAt W (a.eval x)))) W := by
  obtain ⟨b, cs, hv, hb, hz⟩ : ∃ b cs, a.eval x = .pointer (some ⟨b, 0, none⟩) ∧ W.heap[b]? = some (.cells cs 43 (0, 0)) ∧ (Tryd.prog.info? 43).map (·.size) = some cs.size := by
    unfold rowOk at hx
    split at hx
    · rename_i b hv
      split at hx
      · rename_i cs t' fr hb
        simp only [Bool.and_eq_true, beq_iff_eq] at hx
        obtain ⟨⟨rfl, rfl⟩, h3⟩ := hx
        exact ⟨b, cs, hv, hb, h3⟩
      · cases hx
    · cases hx
  have hr : W.rangeAt b 0 cs.toList := fun j v hj => by
    rw [Nat.zero_add, cell_of_row W b j cs 43 (0, 0) hb]
    simpa using hj
  have h := run_loadAt_mid (P := Tryd.prog) W b 0 43 cs.toList _ hr Tryd.underlying43 rfl (by simpa using hz)
  have e : (execOp a.eval { dst := some d, op := .load 43 x, type := ty, pos := pos, after := af, guard := gd }).run Tryd.prog W = .ok (.value (.agg cs)) W := by
    unfold execOp
    simp only [hv, Sem.run_bind, h, Result.andThen_ok, Sem.run_pure]
  have hra : rowAt W (a.eval x) = cs := by rw [hv]; simp only [rowAt, hb]
  unfold Oper.wp
  rw [e, hra]
  rfl
theorem bytes_one' (l : List Int) : (bytes l).toArray.all (fun v => v.oneCell') = true := all_oneCell_toArray (fun v hv => by
  obtain ⟨z, _, rfl⟩ := List.mem_map.1 hv
  rfl)
/-- the part of a lent list that is handed in -/
theorem lent_src {w : World} {g n c : Nat} {p : List Int} (h : OwnL w 5 1 (.slice (some ⟨g, 0, none⟩) n c) n (bytes (lentL p))) (hc : p.length ≤ c) (S : Nat → Prop) (hS : ¬ S g) : Src w S (some ⟨g, 0, none⟩) c p := by
  have h1 := h.reads.take p.length
  rw [show (lentL p).take p.length = p from by rw [lentL, List.take_left]] at h1
  exact ⟨hc, .inr (.inr ⟨g, 0, rfl, h1, hS⟩)⟩
attribute [local go_sem ↓] Go.wp_at_zero Go.wp_at_succ wp_load_hash wp_load_64
attribute [local go_sem] rowAt_drew rowOk_drew
set_option maxHeartbeats 2000000 in
set_option maxRecDepth 100000 in
theorem sums_calls (A : Option Addr) (c : Nat) (data : List Int) (w : World) (hL : Laid w) (hR : RLaid w) (hD : Src w (fun _ => False) A c data) (hb : Bs data) (hd : data.length ≤ 140737488351232) :
    Calls Tryd.prog 5 #[.slice A data.length c] w fun e w' => e = .returned (.bool true) ∧ Below w.heap.size w w' := by
  obtain ⟨H1, hH1⟩ : ∃ H1, H1 = hash false data := ⟨_, rfl⟩
  obtain ⟨H2, hH2⟩ : ∃ H2, H2 = hash true data := ⟨_, rfl⟩
  have hl1 : H1.length = 32 := by rw [hH1]; exact hash_length false data
  have hl2 : H2.length = 64 := by rw [hH2]; exact hash_length true data
  have C0 := Kp.mk (lent_calls A c data (by omega) w hD)
  have C1 : Kp (∀ g cl W, Fr (fun _ => False) w W → Src W (fun _ => False) (some ⟨g, 0, none⟩) cl data → Calls Tryd.prog 23 #[.slice (some ⟨g, 0, none⟩) data.length cl] W fun e w' => e = .returned (.agg (bytes H1).toArray) ∧ Fr (fun _ => False) W w') :=
    ⟨fun g cl W hf hs => by rw [hH1]; exact (F32.hash_calls (some ⟨g, 0, none⟩) cl data W (hL.fr hf (fun _ h => h.elim)) hs (by unfold maxCount; omega)).mono fun _ _ h => ⟨h.1, Fr.of_below h.2 _⟩⟩
  have C2 : Kp (∀ g cl W, Fr (fun _ => False) w W → Src W (fun _ => False) (some ⟨g, 0, none⟩) cl data → Calls Tryd.prog 24 #[.slice (some ⟨g, 0, none⟩) data.length cl] W fun e w' => e = .returned (.agg (bytes H2).toArray) ∧ Fr (fun _ => False) W w') :=
    ⟨fun g cl W hf hs => by rw [hH2]; exact (F64.hash_calls (some ⟨g, 0, none⟩) cl data W (hL.fr hf (fun _ h => h.elim)) hs (by unfold maxCount; omega)).mono fun _ _ h => ⟨h.1, Fr.of_below h.2 _⟩⟩
  have C3 : Kp (∀ W, Fr (fun _ => False) w W → Calls Tryd.prog 25 #[.slice A data.length c] W fun e w' => e = .returned (.agg (bytes H1).toArray) ∧ Fr (fun _ => False) W w') :=
    ⟨fun W hf => by rw [hH1]; exact rsum256_calls A c data hb (by omega) W (hR.fr hf) (hD.fr hf)⟩
  have C4 : Kp (∀ W, Fr (fun _ => False) w W → Calls Tryd.prog 26 #[.slice A data.length c] W fun e w' => e = .returned (.agg (bytes H2).toArray) ∧ Fr (fun _ => False) W w') :=
    ⟨fun W hf => by rw [hH2]; exact rsum512_calls A c data hb (by omega) W (hR.fr hf) (hD.fr hf)⟩
  have C5 : Kp (∀ g cl W, Fr (fun _ => False) w W → OwnL W 5 1 (.slice (some ⟨g, 0, none⟩) (data.length + 200) cl) (data.length + 200) (bytes (lentL data)) → Calls Tryd.prog 27 #[.slice (some ⟨g, 0, none⟩) (data.length + 200) cl, .slice A data.length c] W fun e w' => e = .returned (.bool true) ∧ Fr (fun _ => False) W w') :=
    ⟨fun g cl W hf hO => by
      have h := whole_calls (some ⟨g, 0, none⟩) A cl c (lentL data) data (by rw [lentL_len]; omega) (by omega) W (hO.src (fun _ => False) (fun _ _ h => h)).2 (hD.fr hf)
      rw [decide_eq_true rfl, lentL_len] at h
      exact h⟩
  have CS : Kp (∀ g cl n W, data.length ≤ cl → OwnL W 5 1 (.slice (some ⟨g, 0, none⟩) n cl) n (bytes (lentL data)) → Src W (fun _ => False) (some ⟨g, 0, none⟩) cl data) := ⟨fun g cl n W hc hO => lent_src hO hc _ (fun h => h)⟩
  have S1 := Kp.mk (same32 H1 hl1)
  have S2 := Kp.mk (same64 H2 hl2)
  have K1 := Kp.mk hl1
  have K2 := Kp.mk hl2
  obtain ⟨n, hn⟩ : ∃ n, n = data.length := ⟨_, rfl⟩
  rw [← hn] at C0 C1 C2 C3 C4 C5 hd ⊢
  have CS : Kp (∀ g cl m W, n ≤ cl → OwnL W 5 1 (.slice (some ⟨g, 0, none⟩) m cl) m (bytes (lentL data)) → Src W (fun _ => False) (some ⟨g, 0, none⟩) cl data) := ⟨fun g cl m W hc hO => CS.out g cl m W (by show data.length ≤ cl; omega) hO⟩
  clear hH1 hH2 hl1 hl2 hL hR hD hb hn
  go_enter Tryd.func5, Tryd.ntmps5
  go_wp2_with fail
  refine C0.out.mono ?_
  rintro e w1 ⟨g, cl, rfl, hO, hg, hc, hf⟩
  have F1 := Kp.mk hf
  have O1 := Kp.mk hO
  have G1 := Kp.mk hg
  clear hO hf hg
  have hcn : n ≤ cl := by omega
  go_wp2_with fail
  refine (C1.out g cl w1 F1.out (CS.out g cl _ w1 hcn O1.out)).mono ?_
  rintro e w2 ⟨rfl, hf⟩
  have F2 := Kp.mk (F1.out.trans hf (fun _ _ h => h))
  have O2 := Kp.mk (O1.out.fr hf (fun _ _ h => h))
  clear hf F1 O1
  have hi32 : (Tryd.prog.info? 41).map (·.size) = some 32 := by kernel_rfl
  have hi64 : (Tryd.prog.info? 43).map (·.size) = some 64 := by kernel_rfl
  have hz1 : (bytes H1).toArray.size = 32 := by simp [bytes, K1.out]
  have hz2 : (bytes H2).toArray.size = 64 := by simp [bytes, K2.out]
  have hrow : Kp ((w2.alloc (.cells #[.int .u8 0, .int .u8 0, .int .u8 0, .int .u8 0, .int .u8 0, .int .u8 0, .int .u8 0, .int .u8 0, .int .u8 0, .int .u8 0, .int .u8 0, .int .u8 0, .int .u8 0, .int .u8 0, .int .u8 0, .int .u8 0, .int .u8 0, .int .u8 0, .int .u8 0, .int .u8 0, .int .u8 0, .int .u8 0, .int .u8 0, .int .u8 0, .int .u8 0, .int .u8 0, .int .u8 0, .int .u8 0, .int .u8 0, .int .u8 0, .int .u8 0, .int .u8 0] 41)).heap[w2.heap.size]? = some (.cells #[.int .u8 0, .int .u8 0, .int .u8 0, .int .u8 0, .int .u8 0, .int .u8 0, .int .u8 0, .int .u8 0, .int .u8 0, .int .u8 0, .int .u8 0, .int .u8 0, .int .u8 0, .int .u8 0, .int .u8 0, .int .u8 0, .int .u8 0, .int .u8 0, .int .u8 0, .int .u8 0, .int .u8 0, .int .u8 0, .int .u8 0, .int .u8 0, .int .u8 0, .int .u8 0, .int .u8 0, .int .u8 0, .int .u8 0, .int .u8 0, .int .u8 0, .int .u8 0] 41 (0, 0))) := ⟨Blk.new w2 _ _⟩
  go_upto_region 3 with (refine wpList_store_row rfl 41 _ _ rfl w2.heap.size (bytes H1).toArray rfl rfl 41 #[.int .u8 0, .int .u8 0, .int .u8 0, .int .u8 0, .int .u8 0, .int .u8 0, .int .u8 0, .int .u8 0, .int .u8 0, .int .u8 0, .int .u8 0, .int .u8 0, .int .u8 0, .int .u8 0, .int .u8 0, .int .u8 0, .int .u8 0, .int .u8 0, .int .u8 0, .int .u8 0, .int .u8 0, .int .u8 0, .int .u8 0, .int .u8 0, .int .u8 0, .int .u8 0, .int .u8 0, .int .u8 0, .int .u8 0, .int .u8 0, .int .u8 0, .int .u8 0] (by exact hrow.out) (by rw [hz1]; exact hi32) (by rw [hz1]; rfl) (bytes_one' H1) ?_)
  obtain ⟨ga, hga⟩ : ∃ ga, ga = w2.heap.size := ⟨_, rfl⟩
  have BA : Kp (Blk ((w2.alloc (.cells #[.int .u8 0, .int .u8 0, .int .u8 0, .int .u8 0, .int .u8 0, .int .u8 0, .int .u8 0, .int .u8 0, .int .u8 0, .int .u8 0, .int .u8 0, .int .u8 0, .int .u8 0, .int .u8 0, .int .u8 0, .int .u8 0, .int .u8 0, .int .u8 0, .int .u8 0, .int .u8 0, .int .u8 0, .int .u8 0, .int .u8 0, .int .u8 0, .int .u8 0, .int .u8 0, .int .u8 0, .int .u8 0, .int .u8 0, .int .u8 0, .int .u8 0, .int .u8 0] 41)).setRow w2.heap.size (bytes H1).toArray) ga 41 (bytes H1)) := ⟨by rw [hga]; exact blk_row w2 _ _ _⟩
  have hz := fr_row (Fr.refl (fun _ => False) w2) (.cells #[.int .u8 0, .int .u8 0, .int .u8 0, .int .u8 0, .int .u8 0, .int .u8 0, .int .u8 0, .int .u8 0, .int .u8 0, .int .u8 0, .int .u8 0, .int .u8 0, .int .u8 0, .int .u8 0, .int .u8 0, .int .u8 0, .int .u8 0, .int .u8 0, .int .u8 0, .int .u8 0, .int .u8 0, .int .u8 0, .int .u8 0, .int .u8 0, .int .u8 0, .int .u8 0, .int .u8 0, .int .u8 0, .int .u8 0, .int .u8 0, .int .u8 0, .int .u8 0] 41) (bytes H1).toArray
  have F3 := Kp.mk (F2.out.trans hz (fun _ _ h => h))
  have O3 := Kp.mk (O2.out.fr hz (fun _ _ h => h))
  rw [← hga] at BA F3 O3 ⊢
  generalize hW3 : World.setRow _ ga _ = w3 at BA F3 O3 ⊢
  clear hz hW3 hga hrow F2 O2
  go_wp2_with fail
  refine (C2.out g cl w3 F3.out (CS.out g cl _ w3 hcn O3.out)).mono ?_
  rintro e w4 ⟨rfl, hf⟩
  have F4 := Kp.mk (F3.out.trans hf (fun _ _ h => h))
  have O4 := Kp.mk (O3.out.fr hf (fun _ _ h => h))
  have BA4 := Kp.mk (BA.out.fr hf (fun h => h))
  clear hf F3 O3 BA
  have hrow : Kp ((w4.alloc (.cells #[.int .u8 0, .int .u8 0, .int .u8 0, .int .u8 0, .int .u8 0, .int .u8 0, .int .u8 0, .int .u8 0, .int .u8 0, .int .u8 0, .int .u8 0, .int .u8 0, .int .u8 0, .int .u8 0, .int .u8 0, .int .u8 0, .int .u8 0, .int .u8 0, .int .u8 0, .int .u8 0, .int .u8 0, .int .u8 0, .int .u8 0, .int .u8 0, .int .u8 0, .int .u8 0, .int .u8 0, .int .u8 0, .int .u8 0, .int .u8 0, .int .u8 0, .int .u8 0, .int .u8 0, .int .u8 0, .int .u8 0, .int .u8 0, .int .u8 0, .int .u8 0, .int .u8 0, .int .u8 0, .int .u8 0, .int .u8 0, .int .u8 0, .int .u8 0, .int .u8 0, .int .u8 0, .int .u8 0, .int .u8 0, .int .u8 0, .int .u8 0, .int .u8 0, .int .u8 0, .int .u8 0, .int .u8 0, .int .u8 0, .int .u8 0, .int .u8 0, .int .u8 0, .int .u8 0, .int .u8 0, .int .u8 0, .int .u8 0, .int .u8 0, .int .u8 0] 43)).heap[w4.heap.size]? = some (.cells #[.int .u8 0, .int .u8 0, .int .u8 0, .int .u8 0, .int .u8 0, .int .u8 0, .int .u8 0, .int .u8 0, .int .u8 0, .int .u8 0, .int .u8 0, .int .u8 0, .int .u8 0, .int .u8 0, .int .u8 0, .int .u8 0, .int .u8 0, .int .u8 0, .int .u8 0, .int .u8 0, .int .u8 0, .int .u8 0, .int .u8 0, .int .u8 0, .int .u8 0, .int .u8 0, .int .u8 0, .int .u8 0, .int .u8 0, .int .u8 0, .int .u8 0, .int .u8 0, .int .u8 0, .int .u8 0, .int .u8 0, .int .u8 0, .int .u8 0, .int .u8 0, .int .u8 0, .int .u8 0, .int .u8 0, .int .u8 0, .int .u8 0, .int .u8 0, .int .u8 0, .int .u8 0, .int .u8 0, .int .u8 0, .int .u8 0, .int .u8 0, .int .u8 0, .int .u8 0, .int .u8 0, .int .u8 0, .int .u8 0, .int .u8 0, .int .u8 0, .int .u8 0, .int .u8 0, .int .u8 0, .int .u8 0, .int .u8 0, .int .u8 0, .int .u8 0] 43 (0, 0))) := ⟨Blk.new w4 _ _⟩
  go_upto_region 4 with (refine wpList_store_row rfl 43 _ _ rfl w4.heap.size (bytes H2).toArray rfl rfl 43 #[.int .u8 0, .int .u8 0, .int .u8 0, .int .u8 0, .int .u8 0, .int .u8 0, .int .u8 0, .int .u8 0, .int .u8 0, .int .u8 0, .int .u8 0, .int .u8 0, .int .u8 0, .int .u8 0, .int .u8 0, .int .u8 0, .int .u8 0, .int .u8 0, .int .u8 0, .int .u8 0, .int .u8 0, .int .u8 0, .int .u8 0, .int .u8 0, .int .u8 0, .int .u8 0, .int .u8 0, .int .u8 0, .int .u8 0, .int .u8 0, .int .u8 0, .int .u8 0, .int .u8 0, .int .u8 0, .int .u8 0, .int .u8 0, .int .u8 0, .int .u8 0, .int .u8 0, .int .u8 0, .int .u8 0, .int .u8 0, .int .u8 0, .int .u8 0, .int .u8 0, .int .u8 0, .int .u8 0, .int .u8 0, .int .u8 0, .int .u8 0, .int .u8 0, .int .u8 0, .int .u8 0, .int .u8 0, .int .u8 0, .int .u8 0, .int .u8 0, .int .u8 0, .int .u8 0, .int .u8 0, .int .u8 0, .int .u8 0, .int .u8 0, .int .u8 0] (by exact hrow.out) (by rw [hz2]; exact hi64) (by rw [hz2]; rfl) (bytes_one' H2) ?_)
  obtain ⟨gb, hgb⟩ : ∃ gb, gb = w4.heap.size := ⟨_, rfl⟩
  have BB : Kp (Blk ((w4.alloc (.cells #[.int .u8 0, .int .u8 0, .int .u8 0, .int .u8 0, .int .u8 0, .int .u8 0, .int .u8 0, .int .u8 0, .int .u8 0, .int .u8 0, .int .u8 0, .int .u8 0, .int .u8 0, .int .u8 0, .int .u8 0, .int .u8 0, .int .u8 0, .int .u8 0, .int .u8 0, .int .u8 0, .int .u8 0, .int .u8 0, .int .u8 0, .int .u8 0, .int .u8 0, .int .u8 0, .int .u8 0, .int .u8 0, .int .u8 0, .int .u8 0, .int .u8 0, .int .u8 0, .int .u8 0, .int .u8 0, .int .u8 0, .int .u8 0, .int .u8 0, .int .u8 0, .int .u8 0, .int .u8 0, .int .u8 0, .int .u8 0, .int .u8 0, .int .u8 0, .int .u8 0, .int .u8 0, .int .u8 0, .int .u8 0, .int .u8 0, .int .u8 0, .int .u8 0, .int .u8 0, .int .u8 0, .int .u8 0, .int .u8 0, .int .u8 0, .int .u8 0, .int .u8 0, .int .u8 0, .int .u8 0, .int .u8 0, .int .u8 0, .int .u8 0, .int .u8 0] 43)).setRow w4.heap.size (bytes H2).toArray) gb 43 (bytes H2)) := ⟨by rw [hgb]; exact blk_row w4 _ _ _⟩
  have hz := fr_row (Fr.refl (fun _ => False) w4) (.cells #[.int .u8 0, .int .u8 0, .int .u8 0, .int .u8 0, .int .u8 0, .int .u8 0, .int .u8 0, .int .u8 0, .int .u8 0, .int .u8 0, .int .u8 0, .int .u8 0, .int .u8 0, .int .u8 0, .int .u8 0, .int .u8 0, .int .u8 0, .int .u8 0, .int .u8 0, .int .u8 0, .int .u8 0, .int .u8 0, .int .u8 0, .int .u8 0, .int .u8 0, .int .u8 0, .int .u8 0, .int .u8 0, .int .u8 0, .int .u8 0, .int .u8 0, .int .u8 0, .int .u8 0, .int .u8 0, .int .u8 0, .int .u8 0, .int .u8 0, .int .u8 0, .int .u8 0, .int .u8 0, .int .u8 0, .int .u8 0, .int .u8 0, .int .u8 0, .int .u8 0, .int .u8 0, .int .u8 0, .int .u8 0, .int .u8 0, .int .u8 0, .int .u8 0, .int .u8 0, .int .u8 0, .int .u8 0, .int .u8 0, .int .u8 0, .int .u8 0, .int .u8 0, .int .u8 0, .int .u8 0, .int .u8 0, .int .u8 0, .int .u8 0, .int .u8 0] 43) (bytes H2).toArray
  have F5 := Kp.mk (F4.out.trans hz (fun _ _ h => h))
  have O5 := Kp.mk (O4.out.fr hz (fun _ _ h => h))
  have BA5 := Kp.mk (BA4.out.fr hz (fun h => h))
  rw [← hgb] at BB F5 O5 BA5 ⊢
  generalize hW5 : World.setRow _ gb _ = w5 at BB F5 O5 BA5 ⊢
  clear hz hW5 hgb hrow F4 O4 BA4 hz1 hz2 C0 C1 C2 CS
  have z1 : (Tryd.prog.info? 41).map (·.size) = some (bytes H1).length := by rw [bytes_length, K1.out]; exact hi32
  have z2 : (Tryd.prog.info? 43).map (·.size) = some (bytes H2).length := by rw [bytes_length, K2.out]; exact hi64
  have Z1 := Kp.mk z1
  have Z2 := Kp.mk z2
  clear z1 z2 hi32 hi64
  have ok1 := rowOk_blk BA5.out Z1.out
  have ok2 := rowOk_blk BB.out Z2.out
  have at1 := rowAt_blk BA5.out
  have at2 := rowAt_blk BB.out
  have s1 := S1.out
  have s2 := S2.out
  go_region_with (first
    | (go_at_call 25; (refine (C3.out _ (by exact F5.out.drew)).mono ?_); rintro e' w6 ⟨rfl, hf6⟩; have F6 := Kp.mk (F5.out.drew.trans hf6 (fun _ _ h => h)); have O6 := Kp.mk (O5.out.fr (((Fr.refl (fun _ => False) w5).drew).trans hf6 (fun _ _ h => h)) (fun _ _ h => h)); have BA6 := Kp.mk (BA5.out.drew.fr hf6 (fun h => h)); have BB6 := Kp.mk (BB.out.drew.fr hf6 (fun h => h)); have ok16 := rowOk_blk BA6.out Z1.out; have ok26 := rowOk_blk BB6.out Z2.out; have at16 := rowAt_blk BA6.out; have at26 := rowAt_blk BB6.out; clear hf6)
    | (go_at_call 26; (refine (C4.out _ (by exact F6.out)).mono ?_); rintro e' w7 ⟨rfl, hf7⟩; have F7 := Kp.mk (F6.out.trans hf7 (fun _ _ h => h)); have O7 := Kp.mk (O6.out.fr hf7 (fun _ _ h => h)); have BB7 := Kp.mk (BB6.out.fr hf7 (fun h => h)); have ok27 := rowOk_blk BB7.out Z2.out; have at27 := rowAt_blk BB7.out; clear hf7)
    | (go_at_call 27; (refine (C5.out g cl _ F7.out O7.out).mono ?_); rintro e' w8 ⟨rfl, hf8⟩; have F8 := Kp.mk (F7.out.trans hf8 (fun _ _ h => h)); clear hf8))
  all_goals
    go_wp2
    go_ret
    exact ⟨rfl, F8.out.below (fun _ _ h => h)⟩
end Go.Proofs.YtjcfnflkiialbaaDoor.Sha
