/-
  The hashes of one strength (tlog's hasher): what its closures answer.
-/
import Derived.Test.YtjbhaopocabfaaaDoorRowOk
import Derived.Lib.SliceRun
import Derived.Deep.DrawnRows
import Derived.Deep.RegionWith
namespace Go.Proofs.YtjbhaopocabfaaaDoor.Sha
open Go.RowKit Go.Proofs.YtjbhaopocabfaaaDoor.Mem Go.Proofs.YtjbhaopocabfaaaDoorW.PrintWords
/-- cut to the strength s -/
def cutL (s : Nat) (h : List Int) : List Int := h.take s ++ List.replicate (32 - s) 0
def strength (k : Int) : Nat := if 1 ≤ k ∧ k ≤ 31 then k.toNat else 32
theorem strength_one (k : Int) : 1 ≤ strength k := by unfold strength; split <;> omega
theorem strength_le (k : Int) : strength k ≤ 32 := by unfold strength; split <;> omega
theorem cutL_len (s : Nat) (h : List Int) (hl : h.length = 32) (hs : s ≤ 32) : (cutL s h).length = 32 := by simp [cutL, hl]; omega
def ofL (s : Nat) (p : List Int) : List Int := cutL s (hash false p)
def leafL (s : Nat) (p : List Int) : List Int := ofL s (0 :: p)
def nodeL (s : Nat) (l r : List Int) : List Int := ofL s (1 :: (l ++ r))
theorem hlen (p : List Int) : (hash false p).length = 32 := hash_length false p
theorem ofL_len (s : Nat) (p : List Int) (hs : s ≤ 32) : (ofL s p).length = 32 := cutL_len s _ (hlen p) hs
/-- what the closures of a hasher have captured -/
structure Hs (w : World) (gk go s : Nat) : Prop where
  k : Blk w gk 3 [.int .i64 (s : Int)]
  o : Blk w go 28 [.func (.func 79) #[] #[.pointer (some ⟨gk, 0, none⟩)]]
  one : 1 ≤ s
  le : s ≤ 32
theorem Hs.fr {w w' : World} {gk go s : Nat} {S : Nat → Prop} (h : Hs w gk go s) (hf : Fr S w w') (h1 : ¬ S gk) (h2 : ¬ S go) : Hs w' gk go s := ⟨h.k.fr hf h1, h.o.fr hf h2, h.one, h.le⟩
theorem bytes_ones (l : List Int) : (bytes l).toArray.all (fun v => v.oneCell') = true := all_oneCell_toArray (fun v hv => by
  obtain ⟨z, _, rfl⟩ := List.mem_map.1 hv
  rfl)
theorem blk_range {w : World} {b : Nat} {e : TypeId} {vs : List Value} (h : Blk w b e vs) : w.rangeAt b 0 vs := fun j v hv => by rw [Nat.zero_add]; exact h.cell j v hv
theorem Blk.setCells (b : Nat) (e : TypeId) (post : List Value) : ∀ (xs pre mid : List Value) (w : World), mid.length = xs.length → Blk w b e (pre ++ (mid ++ post)) → Blk (w.setCells b pre.length xs) b e (pre ++ (xs ++ post))
  | [], pre, [], w, _, h => h
  | [], pre, m :: mid, w, hl, h => by simp at hl
  | x :: xs, pre, [], w, hl, h => by simp at hl
  | x :: xs, pre, m :: mid, w, hl, h => by
    have h1 := h.set pre.length x
    have e1 : (pre ++ (m :: mid ++ post)).set pre.length x = (pre ++ [x]) ++ (mid ++ post) := by simp
    rw [e1] at h1
    have h2 := Blk.setCells b e post xs (pre ++ [x]) mid _ (by simpa using hl) h1
    rw [List.length_append, List.length_singleton] at h2
    rw [World.setCells]
    have e2 : pre ++ [x] ++ (xs ++ post) = pre ++ (x :: xs ++ post) := by simp
    rw [← e2]
    exact h2
theorem fr_setCells (b : Nat) : ∀ (xs : List Value) (o : Nat) (w : World), Fr (fun k => k = b) w (w.setCells b o xs)
  | [], _, w => Fr.refl _ w
  | x :: xs, o, w => by
    rw [World.setCells]
    exact (Fr.set (S := fun k => k = b) (a := ⟨b, o, none⟩) (Fr.refl _ w) (fun _ => rfl) x).trans (fr_setCells b xs (o + 1) _) (fun _ _ h => h)
theorem fr_row {w w1 : World} {S : Nat → Prop} (h : Fr S w w1) (o : Obj) (cs : Array Value) : Fr S w ((w1.alloc o).setRow w1.heap.size cs) :=
  h.trans (S' := fun _ => False) ⟨rfl, rfl, rfl, by simp [World.setRow], fun k hk _ => by rw [setRow_other _ _ k _ (by omega)]; exact Below.heap_alloc _ _ _ hk⟩ (fun _ _ hk => hk.elim)
theorem blk_row (w1 : World) (T : TypeId) (old : Array Value) (cs : List Value) : Blk ((w1.alloc (.cells old T)).setRow w1.heap.size cs.toArray) w1.heap.size T cs := setRow_heap _ _ _ _ _ _ (heap_alloc_new w1 _)
theorem blk_there {w : World} {b : Nat} {e : TypeId} {vs : List Value} (h : Blk w b e vs) (o n : Nat) (hn : o + n ≤ vs.length) : w.there b o n := fun j hj =>
  ⟨by rw [h.cell? (o + j), List.getElem?_eq_getElem (by omega)]; rfl, h.free _⟩
theorem slice_from (W : World) (g s : Nat) (hs : s < 32) : (Instr.sliceAt 25 (.pointer (some ⟨g, 0, none⟩)) (some (.int .i64 (s : Int))) none none).run Tryd.prog W = .ok (.slice (some ⟨g, s, none⟩) (32 - s) (32 - s)) W := by
  have hal : Tryd.prog.arrayLen 25 = 32 := by kernel_rfl
  have hel : Tryd.prog.elem 25 = 5 := by kernel_rfl
  rw [run_sliceAt_array_l (P := Tryd.prog) W 25 ⟨g, 0, none⟩ (by rw [hal, hel]; exact Tryd.underlying25) .i64 (s : Int) (by omega) (by rw [hal]; omega), hel, size_u8, hal]
  simp only [Result.andThen_ok, slicedAt, Int.toNat_natCast, Nat.mul_one]
  rw [if_neg (by omega), Addr.add_lit, Nat.zero_add]
theorem zero_u8 (w : World) : (zeroValue 5).run Tryd.prog w = .ok (.int .u8 0) w := by kernel_rfl
set_option maxHeartbeats 2000000 in
set_option maxRecDepth 100000 in
/-- of: the sum, cut -/
theorem of_calls (A : Option Addr) (c : Nat) (p : List Int) (gk go s : Nat) (w : World) (hL : Laid w) (hH : Hs w gk go s) (hX : Src w (fun _ => False) A c p) (hp : p.length ≤ maxCount) :
    Calls Tryd.prog 79 #[.slice A p.length c, .pointer (some ⟨gk, 0, none⟩)] w fun e w' => e = .returned (.agg (bytes (ofL s p)).toArray) ∧ Fr (fun _ => False) w w' := by
  have C0 : Kp (∀ W, Fr (fun _ => False) w W → Calls Tryd.prog 13 #[.slice A p.length c] W fun e w' => e = .returned (.agg (bytes (hash false p)).toArray) ∧ Fr (fun _ => False) W w') :=
    ⟨fun W hf => (F32.hash_calls A c p W (hL.fr hf (fun _ h => h.elim)) (hX.fr hf) hp).mono fun _ _ h => ⟨h.1, Fr.of_below h.2 _⟩⟩
  have HK := Kp.mk hH.k
  have hs1 := hH.one
  have hs2 := hH.le
  have hl := hlen p
  unfold ofL
  generalize hash false p = h at C0 hl ⊢
  have HL := Kp.mk hl
  obtain ⟨R, hR⟩ : ∃ R, R = cutL s h := ⟨_, rfl⟩
  rw [← hR]
  have HR := Kp.mk hR
  clear hR
  obtain ⟨n, hn⟩ : ∃ n, n = p.length := ⟨_, rfl⟩
  rw [← hn] at C0 ⊢
  clear hn hL hH hX hp hl
  go_enter Tryd.func79, Tryd.ntmps79
  go_upto_region 1 with (fail)
  obtain ⟨g3, hg3⟩ : ∃ g3, g3 = w.heap.size := ⟨_, rfl⟩
  rw [← hg3]
  obtain ⟨W1, hW1⟩ : ∃ W1, W1 = w.alloc (.cells #[.int .u8 0, .int .u8 0, .int .u8 0, .int .u8 0, .int .u8 0, .int .u8 0, .int .u8 0, .int .u8 0, .int .u8 0, .int .u8 0, .int .u8 0, .int .u8 0, .int .u8 0, .int .u8 0, .int .u8 0, .int .u8 0, .int .u8 0, .int .u8 0, .int .u8 0, .int .u8 0, .int .u8 0, .int .u8 0, .int .u8 0, .int .u8 0, .int .u8 0, .int .u8 0, .int .u8 0, .int .u8 0, .int .u8 0, .int .u8 0, .int .u8 0, .int .u8 0] 25) := ⟨_, rfl⟩
  have H3 : Kp (Blk W1 g3 25 [.int .u8 0, .int .u8 0, .int .u8 0, .int .u8 0, .int .u8 0, .int .u8 0, .int .u8 0, .int .u8 0, .int .u8 0, .int .u8 0, .int .u8 0, .int .u8 0, .int .u8 0, .int .u8 0, .int .u8 0, .int .u8 0, .int .u8 0, .int .u8 0, .int .u8 0, .int .u8 0, .int .u8 0, .int .u8 0, .int .u8 0, .int .u8 0, .int .u8 0, .int .u8 0, .int .u8 0, .int .u8 0, .int .u8 0, .int .u8 0, .int .u8 0, .int .u8 0]) := ⟨by rw [hW1, hg3]; exact Blk.new w _ _⟩
  have HF1 : Kp (Fr (fun _ => False) w W1) := ⟨by rw [hW1]; exact (Fr.refl _ w).alloc _⟩
  have HG : Kp (w.heap.size ≤ g3) := ⟨by omega⟩
  have HGk : Kp (gk < g3) := ⟨by rw [hg3]; exact HK.out.lt⟩
  rw [← hW1]
  clear hW1 hg3
  go_wp2_with fail
  refine (C0.out W1 HF1.out).mono ?_
  rintro e W2 ⟨rfl, hf⟩
  have HF2 := Kp.mk (HF1.out.trans hf (fun _ _ h => h))
  have H32 := Kp.mk (H3.out.fr hf (fun h => h))
  clear hf HF1 H3 C0
  have hi32 : (Tryd.prog.info? 25).map (·.size) = some 32 := by kernel_rfl
  have hsz : (bytes h).toArray.size = 32 := by simp [bytes, HL.out]
  have hrow : Kp ((W2.alloc (.cells #[.int .u8 0, .int .u8 0, .int .u8 0, .int .u8 0, .int .u8 0, .int .u8 0, .int .u8 0, .int .u8 0, .int .u8 0, .int .u8 0, .int .u8 0, .int .u8 0, .int .u8 0, .int .u8 0, .int .u8 0, .int .u8 0, .int .u8 0, .int .u8 0, .int .u8 0, .int .u8 0, .int .u8 0, .int .u8 0, .int .u8 0, .int .u8 0, .int .u8 0, .int .u8 0, .int .u8 0, .int .u8 0, .int .u8 0, .int .u8 0, .int .u8 0, .int .u8 0] 25)).heap[W2.heap.size]? = some (.cells #[.int .u8 0, .int .u8 0, .int .u8 0, .int .u8 0, .int .u8 0, .int .u8 0, .int .u8 0, .int .u8 0, .int .u8 0, .int .u8 0, .int .u8 0, .int .u8 0, .int .u8 0, .int .u8 0, .int .u8 0, .int .u8 0, .int .u8 0, .int .u8 0, .int .u8 0, .int .u8 0, .int .u8 0, .int .u8 0, .int .u8 0, .int .u8 0, .int .u8 0, .int .u8 0, .int .u8 0, .int .u8 0, .int .u8 0, .int .u8 0, .int .u8 0, .int .u8 0] 25 (0, 0))) := ⟨Blk.new W2 _ _⟩
  go_upto_region 2 with (refine wpList_store_row rfl 25 _ _ rfl W2.heap.size (bytes h).toArray rfl rfl 25 #[.int .u8 0, .int .u8 0, .int .u8 0, .int .u8 0, .int .u8 0, .int .u8 0, .int .u8 0, .int .u8 0, .int .u8 0, .int .u8 0, .int .u8 0, .int .u8 0, .int .u8 0, .int .u8 0, .int .u8 0, .int .u8 0, .int .u8 0, .int .u8 0, .int .u8 0, .int .u8 0, .int .u8 0, .int .u8 0, .int .u8 0, .int .u8 0, .int .u8 0, .int .u8 0, .int .u8 0, .int .u8 0, .int .u8 0, .int .u8 0, .int .u8 0, .int .u8 0] (by exact hrow.out) (by rw [hsz]; exact hi32) (by rw [hsz]; rfl) (bytes_ones h) ?_)
  obtain ⟨g4, hg4⟩ : ∃ g4, g4 = W2.heap.size := ⟨_, rfl⟩
  have H4 : Kp (Blk ((W2.alloc (.cells #[.int .u8 0, .int .u8 0, .int .u8 0, .int .u8 0, .int .u8 0, .int .u8 0, .int .u8 0, .int .u8 0, .int .u8 0, .int .u8 0, .int .u8 0, .int .u8 0, .int .u8 0, .int .u8 0, .int .u8 0, .int .u8 0, .int .u8 0, .int .u8 0, .int .u8 0, .int .u8 0, .int .u8 0, .int .u8 0, .int .u8 0, .int .u8 0, .int .u8 0, .int .u8 0, .int .u8 0, .int .u8 0, .int .u8 0, .int .u8 0, .int .u8 0, .int .u8 0] 25)).setRow W2.heap.size (bytes h).toArray) g4 25 (bytes h)) := ⟨by rw [hg4]; exact blk_row W2 _ _ _⟩
  have hz := fr_row (Fr.refl (fun _ => False) W2) (.cells #[.int .u8 0, .int .u8 0, .int .u8 0, .int .u8 0, .int .u8 0, .int .u8 0, .int .u8 0, .int .u8 0, .int .u8 0, .int .u8 0, .int .u8 0, .int .u8 0, .int .u8 0, .int .u8 0, .int .u8 0, .int .u8 0, .int .u8 0, .int .u8 0, .int .u8 0, .int .u8 0, .int .u8 0, .int .u8 0, .int .u8 0, .int .u8 0, .int .u8 0, .int .u8 0, .int .u8 0, .int .u8 0, .int .u8 0, .int .u8 0, .int .u8 0, .int .u8 0] 25) (bytes h).toArray
  have HF3 := Kp.mk (HF2.out.trans hz (fun _ _ h => h))
  have H33 := Kp.mk (H32.out.fr hz (fun h => h))
  have HK3 := Kp.mk (HK.out.fr HF3.out (fun h => h))
  have HG4 : Kp (w.heap.size ≤ g4 ∧ g4 ≠ g3) := ⟨by have h1 := HF2.out.size; have h2 := H32.out.lt; exact ⟨by omega, by omega⟩⟩
  rw [← hg4] at H4 HF3 H33 HK3 ⊢
  generalize hW3 : World.setRow _ g4 _ = W3 at H4 HF3 H33 HK3 ⊢
  clear hz hW3 hg4 hrow HF2 H32 HK
  have ck : W3.cell? ⟨gk, 0, none⟩ = some (.int .i64 (s : Int)) := HK3.out.cell 0 _ rfl
  by_cases hs : s = 32
  · subst hs
    have hcl : ∀ a c ty, (Builtin.clear_ #[22] ty #[.slice a 0 c]).run Tryd.prog W3 = .ok (.tuple #[]) W3 := fun a c ty => by
      cases a <;> simp [Builtin.clear_, run_underlying Tryd.underlying22]
    go_upto_region 3 with (simp only [hcl])
    have hRl : (cutL 32 h).length = 32 := cutL_len 32 h HL.out (by omega)
    have H5 : Kp (Blk W3 g4 25 (bytes (cutL 32 h))) := ⟨by
      have e : cutL 32 h = h := by simp [cutL, List.take_of_length_le (Nat.le_of_eq HL.out)]
      rw [e]; exact H4.out⟩
    have HF5 := HF3
    have H35 := H33
    clear H4 HF3 H33 HK3 hcl ck
    rw [← HR.out] at H5 hRl
    have hsz2 : (bytes R).toArray.size = 32 := by simp [bytes, hRl]
    have hln : Kp ((bytes R).length = 32) := ⟨by simp [bytes, hRl]⟩
    have hone := bytes_ones R
    have H5r := Kp.mk (blk_range H5.out)
    have H3h := Kp.mk (show W3.heap[g3]? = some (.cells #[.int .u8 0, .int .u8 0, .int .u8 0, .int .u8 0, .int .u8 0, .int .u8 0, .int .u8 0, .int .u8 0, .int .u8 0, .int .u8 0, .int .u8 0, .int .u8 0, .int .u8 0, .int .u8 0, .int .u8 0, .int .u8 0, .int .u8 0, .int .u8 0, .int .u8 0, .int .u8 0, .int .u8 0, .int .u8 0, .int .u8 0, .int .u8 0, .int .u8 0, .int .u8 0, .int .u8 0, .int .u8 0, .int .u8 0, .int .u8 0, .int .u8 0, .int .u8 0] 25 (0, 0)) from H35.out)
    clear H5 hRl hsz H35
    go_wp2_with (first
      | refine wpList_load_mid rfl 25 _ rfl g4 0 rfl (bytes R) _ H5r.out Tryd.underlying25 rfl (by rw [hln.out]; exact hi32) ?_
      | refine wpList_store_row rfl 25 _ _ rfl g3 (bytes R).toArray rfl rfl 25 #[.int .u8 0, .int .u8 0, .int .u8 0, .int .u8 0, .int .u8 0, .int .u8 0, .int .u8 0, .int .u8 0, .int .u8 0, .int .u8 0, .int .u8 0, .int .u8 0, .int .u8 0, .int .u8 0, .int .u8 0, .int .u8 0, .int .u8 0, .int .u8 0, .int .u8 0, .int .u8 0, .int .u8 0, .int .u8 0, .int .u8 0, .int .u8 0, .int .u8 0, .int .u8 0, .int .u8 0, .int .u8 0, .int .u8 0, .int .u8 0, .int .u8 0, .int .u8 0] (by exact H3h.out) (by rw [hsz2]; exact hi32) (by rw [hsz2]; rfl) hone ?_)
    refine bodyPost_ret (results_cell_row rfl _ _ g3 25 _ (0, 0) _ rfl (setRow_heap _ g3 _ _ _ _ H3h.out) Tryd.underlying25 rfl (by rw [hsz2]; exact hi32)) rfl ?_
    refine ⟨rfl, ?_⟩
    exact HF5.out.trans (S' := fun q => q = g3) ⟨rfl, rfl, rfl, by simp [World.setRow], fun q _ hq => setRow_other _ _ q _ hq⟩ (fun q hq he => by have := HG.out; omega)
  · have hlt : s < 32 := by omega
    clear hs hs2
    have hcl : ∀ ty c, (Builtin.clear_ #[22] ty #[.slice (some ⟨g4, s, none⟩) (32 - s) c]).run Tryd.prog W3 = .ok (.tuple #[]) (W3.setCells g4 s (List.replicate (32 - s) (.int .u8 0))) := fun ty c => 
      Lib.run_clear_slice W3 22 5 ty (.int .u8 0) Tryd.underlying22 zero_u8 rfl rfl g4 s (32 - s) c (by omega)
        (fun j hj => (blk_there H4.out s (32 - s) (by simp [bytes, HL.out]; omega) j hj).1) (fun j hj => (blk_there H4.out s (32 - s) (by simp [bytes, HL.out]; omega) j hj).2)
    have hR1 : (cutL s h).length = 32 := cutL_len s h HL.out (by omega)
    have H5 : Kp (Blk (W3.setCells g4 s (List.replicate (32 - s) (.int .u8 0))) g4 25 (bytes (cutL s h))) := ⟨by
      have hb := H4.out
      have e1 : bytes h = (bytes h).take s ++ ((bytes h).drop s ++ []) := by rw [List.append_nil, List.take_append_drop]
      rw [e1] at hb
      have h2 := Blk.setCells g4 25 [] (List.replicate (32 - s) (.int .u8 0)) ((bytes h).take s) ((bytes h).drop s) W3 (by simp [bytes, HL.out]) hb
      rw [show ((bytes h).take s).length = s by simp [bytes, HL.out]; omega, List.append_nil] at h2
      have e2 : bytes (cutL s h) = (bytes h).take s ++ List.replicate (32 - s) (.int .u8 0) := by simp [cutL, bytes, List.map_take]
      rw [e2]
      exact h2⟩
    have hst := fr_setCells g4 (List.replicate (32 - s) (.int .u8 0)) s W3
    have HF5 := Kp.mk (HF3.out.trans hst (fun q hq he => by have := HG4.out.1; omega))
    have H35 := Kp.mk (H33.out.fr hst (fun he => HG4.out.2 he.symm))
    have hsl := slice_from W3 g4 s hlt
    clear HF3 H33 HK3 H4 hst
    go_upto_region 3 with (first | simp only [hsl] | simp only [hcl])
    generalize World.setCells W3 g4 s _ = W5 at H5 HF5 H35 ⊢
    clear hcl ck hsl
    have hRl := hR1
    rw [← HR.out] at H5 hRl
    have hsz2 : (bytes R).toArray.size = 32 := by simp [bytes, hRl]
    have hln : Kp ((bytes R).length = 32) := ⟨by simp [bytes, hRl]⟩
    have hone := bytes_ones R
    have H5r := Kp.mk (blk_range H5.out)
    have H3h := Kp.mk (show W5.heap[g3]? = some (.cells #[.int .u8 0, .int .u8 0, .int .u8 0, .int .u8 0, .int .u8 0, .int .u8 0, .int .u8 0, .int .u8 0, .int .u8 0, .int .u8 0, .int .u8 0, .int .u8 0, .int .u8 0, .int .u8 0, .int .u8 0, .int .u8 0, .int .u8 0, .int .u8 0, .int .u8 0, .int .u8 0, .int .u8 0, .int .u8 0, .int .u8 0, .int .u8 0, .int .u8 0, .int .u8 0, .int .u8 0, .int .u8 0, .int .u8 0, .int .u8 0, .int .u8 0, .int .u8 0] 25 (0, 0)) from H35.out)
    clear H5 hRl hsz H35
    go_wp2_with (first
      | refine wpList_load_mid rfl 25 _ rfl g4 0 rfl (bytes R) _ H5r.out Tryd.underlying25 rfl (by rw [hln.out]; exact hi32) ?_
      | refine wpList_store_row rfl 25 _ _ rfl g3 (bytes R).toArray rfl rfl 25 #[.int .u8 0, .int .u8 0, .int .u8 0, .int .u8 0, .int .u8 0, .int .u8 0, .int .u8 0, .int .u8 0, .int .u8 0, .int .u8 0, .int .u8 0, .int .u8 0, .int .u8 0, .int .u8 0, .int .u8 0, .int .u8 0, .int .u8 0, .int .u8 0, .int .u8 0, .int .u8 0, .int .u8 0, .int .u8 0, .int .u8 0, .int .u8 0, .int .u8 0, .int .u8 0, .int .u8 0, .int .u8 0, .int .u8 0, .int .u8 0, .int .u8 0, .int .u8 0] (by exact H3h.out) (by rw [hsz2]; exact hi32) (by rw [hsz2]; rfl) hone ?_)
    refine bodyPost_ret (results_cell_row rfl _ _ g3 25 _ (0, 0) _ rfl (setRow_heap _ g3 _ _ _ _ H3h.out) Tryd.underlying25 rfl (by rw [hsz2]; exact hi32)) rfl ?_
    refine ⟨rfl, ?_⟩
    exact HF5.out.trans (S' := fun q => q = g3) ⟨rfl, rfl, rfl, by simp [World.setRow], fun q _ hq => setRow_other _ _ q _ hq⟩ (fun q hq he => by have := HG.out; omega)
end Go.Proofs.YtjbhaopocabfaaaDoor.Sha
