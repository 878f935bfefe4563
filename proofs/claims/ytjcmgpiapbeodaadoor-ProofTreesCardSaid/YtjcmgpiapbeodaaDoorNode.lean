/-
  The hashes of one strength (tlog's hasher): what its closures answer. leaf and node of a hasher, hasherOf, LeafHash, NodeHash, EmptyHash. hasherOf; LeafHash, NodeHash, EmptyHash. NodeHash.
-/
import Derived.Test.YtjcmgpiapbeodaaDoorRowOk
import Derived.Lib.SliceRun
import Derived.Deep.DrawnRows
import Derived.Deep.RegionWith
import Derived.Laws.EntriesVeiled
namespace Go.Proofs.YtjcmgpiapbeodaaDoor.Sha
open Go.RowKit Go.Proofs.YtjcmgpiapbeodaaDoor.Mem Go.Proofs.YtjcmgpiapbeodaaDoorW.PrintWords
/-- cut to the strength s -/
def cutL (s : Nat) (h : List Int) : List Int := h.take s ++ List.replicate (32 - s) 0
def strength (k : Int) : Nat := if 1 ≤ k ∧ k ≤ 31 then k.toNat else 32
theorem strength_one (k : Int) : 1 ≤ strength k := by unfold strength; split <;> omega
theorem strength_le (k : Int) : strength k ≤ 32 := by unfold strength; split <;> omega
theorem cutL_len (s : Nat) (h : List Int) (hl : h.length = 32) (hs : s ≤ 32) : (cutL s h).length = 32 := by simp [cutL, hl]; omega
def ofL (s : Nat) (p : List Int) : List Int := cutL s (hash false p)
def leafL (s : Nat) (p : List Int) : List Int := ofL s (0 :: p)
def nodeL (s : Nat) (l r : List Int) : List Int := ofL s (1 :: (l ++ r))
theorem hlen (p : List Int) : (hash false p).length = 32 := hash_length false p
theorem ofL_len (s : Nat) (p : List Int) (hs : s ≤ 32) : (ofL s p).length = 32 := cutL_len s _ (hlen p) hs
/-- what the closures of a hasher have captured -/
structure Hs (w : World) (gk go s : Nat) : Prop where
  k : Blk w gk 3 [.int .i64 (s : Int)]
  o : Blk w go 30 [.func (.func 69) #[] #[.pointer (some ⟨gk, 0, none⟩)]]
  one : 1 ≤ s
  le : s ≤ 32
theorem Hs.fr {w w' : World} {gk go s : Nat} {S : Nat → Prop} (h : Hs w gk go s) (hf : Fr S w w') (h1 : ¬ S gk) (h2 : ¬ S go) : Hs w' gk go s := ⟨h.k.fr hf h1, h.o.fr hf h2, h.one, h.le⟩
theorem bytes_ones (l : List Int) : (bytes l).toArray.all (fun v => v.oneCell') = true := all_oneCell_toArray (fun v hv => by
  obtain ⟨z, _, rfl⟩ := List.mem_map.1 hv
  rfl)
theorem blk_range {w : World} {b : Nat} {e : TypeId} {vs : List Value} (h : Blk w b e vs) : w.rangeAt b 0 vs := fun j v hv => by rw [Nat.zero_add]; exact h.cell j v hv
theorem Blk.setCells (b : Nat) (e : TypeId) (post : List Value) : ∀ (xs pre mid : List Value) (w : World), mid.length = xs.length → Blk w b e (pre ++ (mid ++ post)) → Blk (w.setCells b pre.length xs) b e (pre ++ (xs ++ post))
  | [], pre, [], w, _, h => h
  | [], pre, m :: mid, w, hl, h => by simp at hl
  | x :: xs, pre, [], w, hl, h => by simp at hl
  | x :: xs, pre, m :: mid, w, hl, h => by
    have h1 := h.set pre.length x
    have e1 : (pre ++ (m :: mid ++ post)).set pre.length x = (pre ++ [x]) ++ (mid ++ post) := by simp
    rw [e1] at h1
    have h2 := Blk.setCells b e post xs (pre ++ [x]) mid _ (by simpa using hl) h1
    rw [List.length_append, List.length_singleton] at h2
    rw [World.setCells]
    have e2 : pre ++ [x] ++ (xs ++ post) = pre ++ (x :: xs ++ post) := by simp
    rw [← e2]
    exact h2
theorem fr_setCells (b : Nat) : ∀ (xs : List Value) (o : Nat) (w : World), Fr (fun k => k = b) w (w.setCells b o xs)
  | [], _, w => Fr.refl _ w
  | x :: xs, o, w => by
    rw [World.setCells]
    exact (Fr.set (S := fun k => k = b) (a := ⟨b, o, none⟩) (Fr.refl _ w) (fun _ => rfl) x).trans (fr_setCells b xs (o + 1) _) (fun _ _ h => h)
theorem fr_row {w w1 : World} {S : Nat → Prop} (h : Fr S w w1) (o : Obj) (cs : Array Value) : Fr S w ((w1.alloc o).setRow w1.heap.size cs) :=
  h.trans (S' := fun _ => False) ⟨rfl, rfl, rfl, by simp [World.setRow], fun k hk _ => by rw [setRow_other _ _ k _ (by omega)]; exact Below.heap_alloc _ _ _ hk⟩ (fun _ _ hk => hk.elim)
theorem blk_row (w1 : World) (T : TypeId) (old : Array Value) (cs : List Value) : Blk ((w1.alloc (.cells old T)).setRow w1.heap.size cs.toArray) w1.heap.size T cs := setRow_heap _ _ _ _ _ _ (heap_alloc_new w1 _)
theorem blk_there {w : World} {b : Nat} {e : TypeId} {vs : List Value} (h : Blk w b e vs) (o n : Nat) (hn : o + n ≤ vs.length) : w.there b o n := fun j hj =>
  ⟨by rw [h.cell? (o + j), List.getElem?_eq_getElem (by omega)]; rfl, h.free _⟩
theorem slice_from (W : World) (g s : Nat) (hs : s < 32) : (Instr.sliceAt 29 (.pointer (some ⟨g, 0, none⟩)) (some (.int .i64 (s : Int))) none none).run Tryd.prog W = .ok (.slice (some ⟨g, s, none⟩) (32 - s) (32 - s)) W := by
  have hal : Tryd.prog.arrayLen 29 = 32 := by kernel_rfl
  have hel : Tryd.prog.elem 29 = 5 := by kernel_rfl
  rw [run_sliceAt_array_l (P := Tryd.prog) W 29 ⟨g, 0, none⟩ (by rw [hal, hel]; exact Tryd.underlying29) .i64 (s : Int) (by omega) (by rw [hal]; omega), hel, size_u8, hal]
  simp only [Result.andThen_ok, slicedAt, Int.toNat_natCast, Nat.mul_one]
  rw [if_neg (by omega), Addr.add_lit, Nat.zero_add]
theorem zero_u8 (w : World) : (zeroValue 5).run Tryd.prog w = .ok (.int .u8 0) w := by kernel_rfl
set_option maxHeartbeats 2000000 in
set_option maxRecDepth 100000 in
/-- of: the sum, cut -/
theorem of_calls (A : Option Addr) (c : Nat) (p : List Int) (gk go s : Nat) (w : World) (hL : Laid w) (hH : Hs w gk go s) (hX : Src w (fun _ => False) A c p) (hp : p.length ≤ maxCount) :
    Calls Tryd.prog 69 #[.slice A p.length c, .pointer (some ⟨gk, 0, none⟩)] w fun e w' => e = .returned (.agg (bytes (ofL s p)).toArray) ∧ Fr (fun _ => False) w w' := by
  have C0 : Kp (∀ W, Fr (fun _ => False) w W → Calls Tryd.prog 12 #[.slice A p.length c] W fun e w' => e = .returned (.agg (bytes (hash false p)).toArray) ∧ Fr (fun _ => False) W w') :=
    ⟨fun W hf => (F32.hash_calls A c p W (hL.fr hf (fun _ h => h.elim)) (hX.fr hf) hp).mono fun _ _ h => ⟨h.1, Fr.of_below h.2 _⟩⟩
  have HK := Kp.mk hH.k
  have hs1 := hH.one
  have hs2 := hH.le
  have hl := hlen p
  unfold ofL
  generalize hash false p = h at C0 hl ⊢
  have HL := Kp.mk hl
  obtain ⟨R, hR⟩ : ∃ R, R = cutL s h := ⟨_, rfl⟩
  rw [← hR]
  have HR := Kp.mk hR
  clear hR
  obtain ⟨n, hn⟩ : ∃ n, n = p.length := ⟨_, rfl⟩
  rw [← hn] at C0 ⊢
  clear hn hL hH hX hp hl
  go_enter Tryd.func69, Tryd.ntmps69
  go_upto_region 1 with (fail)
  obtain ⟨g3, hg3⟩ : ∃ g3, g3 = w.heap.size := ⟨_, rfl⟩
  rw [← hg3]
  obtain ⟨W1, hW1⟩ : ∃ W1, W1 = w.alloc (.cells #[.int .u8 0, .int .u8 0, .int .u8 0, .int .u8 0, .int .u8 0, .int .u8 0, .int .u8 0, .int .u8 0, .int .u8 0, .int .u8 0, .int .u8 0, .int .u8 0, .int .u8 0, .int .u8 0, .int .u8 0, .int .u8 0, .int .u8 0, .int .u8 0, .int .u8 0, .int .u8 0, .int .u8 0, .int .u8 0, .int .u8 0, .int .u8 0, .int .u8 0, .int .u8 0, .int .u8 0, .int .u8 0, .int .u8 0, .int .u8 0, .int .u8 0, .int .u8 0] 29) := ⟨_, rfl⟩
  have H3 : Kp (Blk W1 g3 29 [.int .u8 0, .int .u8 0, .int .u8 0, .int .u8 0, .int .u8 0, .int .u8 0, .int .u8 0, .int .u8 0, .int .u8 0, .int .u8 0, .int .u8 0, .int .u8 0, .int .u8 0, .int .u8 0, .int .u8 0, .int .u8 0, .int .u8 0, .int .u8 0, .int .u8 0, .int .u8 0, .int .u8 0, .int .u8 0, .int .u8 0, .int .u8 0, .int .u8 0, .int .u8 0, .int .u8 0, .int .u8 0, .int .u8 0, .int .u8 0, .int .u8 0, .int .u8 0]) := ⟨by rw [hW1, hg3]; exact Blk.new w _ _⟩
  have HF1 : Kp (Fr (fun _ => False) w W1) := ⟨by rw [hW1]; exact (Fr.refl _ w).alloc _⟩
  have HG : Kp (w.heap.size ≤ g3) := ⟨by omega⟩
  have HGk : Kp (gk < g3) := ⟨by rw [hg3]; exact HK.out.lt⟩
  rw [← hW1]
  clear hW1 hg3
  go_wp2_with fail
  refine (C0.out W1 HF1.out).mono ?_
  rintro e W2 ⟨rfl, hf⟩
  have HF2 := Kp.mk (HF1.out.trans hf (fun _ _ h => h))
  have H32 := Kp.mk (H3.out.fr hf (fun h => h))
  clear hf HF1 H3 C0
  have hi32 : (Tryd.prog.info? 29).map (·.size) = some 32 := by kernel_rfl
  have hsz : (bytes h).toArray.size = 32 := by simp [bytes, HL.out]
  have hrow : Kp ((W2.alloc (.cells #[.int .u8 0, .int .u8 0, .int .u8 0, .int .u8 0, .int .u8 0, .int .u8 0, .int .u8 0, .int .u8 0, .int .u8 0, .int .u8 0, .int .u8 0, .int .u8 0, .int .u8 0, .int .u8 0, .int .u8 0, .int .u8 0, .int .u8 0, .int .u8 0, .int .u8 0, .int .u8 0, .int .u8 0, .int .u8 0, .int .u8 0, .int .u8 0, .int .u8 0, .int .u8 0, .int .u8 0, .int .u8 0, .int .u8 0, .int .u8 0, .int .u8 0, .int .u8 0] 29)).heap[W2.heap.size]? = some (.cells #[.int .u8 0, .int .u8 0, .int .u8 0, .int .u8 0, .int .u8 0, .int .u8 0, .int .u8 0, .int .u8 0, .int .u8 0, .int .u8 0, .int .u8 0, .int .u8 0, .int .u8 0, .int .u8 0, .int .u8 0, .int .u8 0, .int .u8 0, .int .u8 0, .int .u8 0, .int .u8 0, .int .u8 0, .int .u8 0, .int .u8 0, .int .u8 0, .int .u8 0, .int .u8 0, .int .u8 0, .int .u8 0, .int .u8 0, .int .u8 0, .int .u8 0, .int .u8 0] 29 (0, 0))) := ⟨Blk.new W2 _ _⟩
  go_upto_region 2 with (refine wpList_store_row rfl 29 _ _ rfl W2.heap.size (bytes h).toArray rfl rfl 29 #[.int .u8 0, .int .u8 0, .int .u8 0, .int .u8 0, .int .u8 0, .int .u8 0, .int .u8 0, .int .u8 0, .int .u8 0, .int .u8 0, .int .u8 0, .int .u8 0, .int .u8 0, .int .u8 0, .int .u8 0, .int .u8 0, .int .u8 0, .int .u8 0, .int .u8 0, .int .u8 0, .int .u8 0, .int .u8 0, .int .u8 0, .int .u8 0, .int .u8 0, .int .u8 0, .int .u8 0, .int .u8 0, .int .u8 0, .int .u8 0, .int .u8 0, .int .u8 0] (by exact hrow.out) (by rw [hsz]; exact hi32) (by rw [hsz]; rfl) (bytes_ones h) ?_)
  obtain ⟨g4, hg4⟩ : ∃ g4, g4 = W2.heap.size := ⟨_, rfl⟩
  have H4 : Kp (Blk ((W2.alloc (.cells #[.int .u8 0, .int .u8 0, .int .u8 0, .int .u8 0, .int .u8 0, .int .u8 0, .int .u8 0, .int .u8 0, .int .u8 0, .int .u8 0, .int .u8 0, .int .u8 0, .int .u8 0, .int .u8 0, .int .u8 0, .int .u8 0, .int .u8 0, .int .u8 0, .int .u8 0, .int .u8 0, .int .u8 0, .int .u8 0, .int .u8 0, .int .u8 0, .int .u8 0, .int .u8 0, .int .u8 0, .int .u8 0, .int .u8 0, .int .u8 0, .int .u8 0, .int .u8 0] 29)).setRow W2.heap.size (bytes h).toArray) g4 29 (bytes h)) := ⟨by rw [hg4]; exact blk_row W2 _ _ _⟩
  have hz := fr_row (Fr.refl (fun _ => False) W2) (.cells #[.int .u8 0, .int .u8 0, .int .u8 0, .int .u8 0, .int .u8 0, .int .u8 0, .int .u8 0, .int .u8 0, .int .u8 0, .int .u8 0, .int .u8 0, .int .u8 0, .int .u8 0, .int .u8 0, .int .u8 0, .int .u8 0, .int .u8 0, .int .u8 0, .int .u8 0, .int .u8 0, .int .u8 0, .int .u8 0, .int .u8 0, .int .u8 0, .int .u8 0, .int .u8 0, .int .u8 0, .int .u8 0, .int .u8 0, .int .u8 0, .int .u8 0, .int .u8 0] 29) (bytes h).toArray
  have HF3 := Kp.mk (HF2.out.trans hz (fun _ _ h => h))
  have H33 := Kp.mk (H32.out.fr hz (fun h => h))
  have HK3 := Kp.mk (HK.out.fr HF3.out (fun h => h))
  have HG4 : Kp (w.heap.size ≤ g4 ∧ g4 ≠ g3) := ⟨by have h1 := HF2.out.size; have h2 := H32.out.lt; exact ⟨by omega, by omega⟩⟩
  rw [← hg4] at H4 HF3 H33 HK3 ⊢
  generalize hW3 : World.setRow _ g4 _ = W3 at H4 HF3 H33 HK3 ⊢
  clear hz hW3 hg4 hrow HF2 H32 HK
  have ck : W3.cell? ⟨gk, 0, none⟩ = some (.int .i64 (s : Int)) := HK3.out.cell 0 _ rfl
  by_cases hs : s = 32
  · subst hs
    have hcl : ∀ a c ty, (Builtin.clear_ #[22] ty #[.slice a 0 c]).run Tryd.prog W3 = .ok (.tuple #[]) W3 := fun a c ty => by
      cases a <;> simp [Builtin.clear_, run_underlying Tryd.underlying22]
    go_upto_region 3 with (simp only [hcl])
    have hRl : (cutL 32 h).length = 32 := cutL_len 32 h HL.out (by omega)
    have H5 : Kp (Blk W3 g4 29 (bytes (cutL 32 h))) := ⟨by
      have e : cutL 32 h = h := by simp [cutL, List.take_of_length_le (Nat.le_of_eq HL.out)]
      rw [e]; exact H4.out⟩
    have HF5 := HF3
    have H35 := H33
    clear H4 HF3 H33 HK3 hcl ck
    rw [← HR.out] at H5 hRl
    have hsz2 : (bytes R).toArray.size = 32 := by simp [bytes, hRl]
    have hln : Kp ((bytes R).length = 32) := ⟨by simp [bytes, hRl]⟩
    have hone := bytes_ones R
    have H5r := Kp.mk (blk_range H5.out)
    have H3h := Kp.mk (show W3.heap[g3]? = some (.cells #[.int .u8 0, .int .u8 0, .int .u8 0, .int .u8 0, .int .u8 0, .int .u8 0, .int .u8 0, .int .u8 0, .int .u8 0, .int .u8 0, .int .u8 0, .int .u8 0, .int .u8 0, .int .u8 0, .int .u8 0, .int .u8 0, .int .u8 0, .int .u8 0, .int .u8 0, .int .u8 0, .int .u8 0, .int .u8 0, .int .u8 0, .int .u8 0, .int .u8 0, .int .u8 0, .int .u8 0, .int .u8 0, .int .u8 0, .int .u8 0, .int .u8 0, .int .u8 0] 29 (0, 0)) from H35.out)
    clear H5 hRl hsz H35
    go_wp2_with (first
      | refine wpList_load_mid rfl 29 _ rfl g4 0 rfl (bytes R) _ H5r.out Tryd.underlying29 rfl (by rw [hln.out]; exact hi32) ?_
      | refine wpList_store_row rfl 29 _ _ rfl g3 (bytes R).toArray rfl rfl 29 #[.int .u8 0, .int .u8 0, .int .u8 0, .int .u8 0, .int .u8 0, .int .u8 0, .int .u8 0, .int .u8 0, .int .u8 0, .int .u8 0, .int .u8 0, .int .u8 0, .int .u8 0, .int .u8 0, .int .u8 0, .int .u8 0, .int .u8 0, .int .u8 0, .int .u8 0, .int .u8 0, .int .u8 0, .int .u8 0, .int .u8 0, .int .u8 0, .int .u8 0, .int .u8 0, .int .u8 0, .int .u8 0, .int .u8 0, .int .u8 0, .int .u8 0, .int .u8 0] (by exact H3h.out) (by rw [hsz2]; exact hi32) (by rw [hsz2]; rfl) hone ?_)
    refine bodyPost_ret (results_cell_row rfl _ _ g3 29 _ (0, 0) _ rfl (setRow_heap _ g3 _ _ _ _ H3h.out) Tryd.underlying29 rfl (by rw [hsz2]; exact hi32)) rfl ?_
    refine ⟨rfl, ?_⟩
    exact HF5.out.trans (S' := fun q => q = g3) ⟨rfl, rfl, rfl, by simp [World.setRow], fun q _ hq => setRow_other _ _ q _ hq⟩ (fun q hq he => by have := HG.out; omega)
  · have hlt : s < 32 := by omega
    clear hs hs2
    have hcl : ∀ ty c, (Builtin.clear_ #[22] ty #[.slice (some ⟨g4, s, none⟩) (32 - s) c]).run Tryd.prog W3 = .ok (.tuple #[]) (W3.setCells g4 s (List.replicate (32 - s) (.int .u8 0))) := fun ty c => 
      Lib.run_clear_slice W3 22 5 ty (.int .u8 0) Tryd.underlying22 zero_u8 rfl rfl g4 s (32 - s) c (by omega)
        (fun j hj => (blk_there H4.out s (32 - s) (by simp [bytes, HL.out]; omega) j hj).1) (fun j hj => (blk_there H4.out s (32 - s) (by simp [bytes, HL.out]; omega) j hj).2)
    have hR1 : (cutL s h).length = 32 := cutL_len s h HL.out (by omega)
    have H5 : Kp (Blk (W3.setCells g4 s (List.replicate (32 - s) (.int .u8 0))) g4 29 (bytes (cutL s h))) := ⟨by
      have hb := H4.out
      have e1 : bytes h = (bytes h).take s ++ ((bytes h).drop s ++ []) := by rw [List.append_nil, List.take_append_drop]
      rw [e1] at hb
      have h2 := Blk.setCells g4 29 [] (List.replicate (32 - s) (.int .u8 0)) ((bytes h).take s) ((bytes h).drop s) W3 (by simp [bytes, HL.out]) hb
      rw [show ((bytes h).take s).length = s by simp [bytes, HL.out]; omega, List.append_nil] at h2
      have e2 : bytes (cutL s h) = (bytes h).take s ++ List.replicate (32 - s) (.int .u8 0) := by simp [cutL, bytes, List.map_take]
      rw [e2]
      exact h2⟩
    have hst := fr_setCells g4 (List.replicate (32 - s) (.int .u8 0)) s W3
    have HF5 := Kp.mk (HF3.out.trans hst (fun q hq he => by have := HG4.out.1; omega))
    have H35 := Kp.mk (H33.out.fr hst (fun he => HG4.out.2 he.symm))
    have hsl := slice_from W3 g4 s hlt
    clear HF3 H33 HK3 H4 hst
    go_upto_region 3 with (first | simp only [hsl] | simp only [hcl])
    generalize World.setCells W3 g4 s _ = W5 at H5 HF5 H35 ⊢
    clear hcl ck hsl
    have hRl := hR1
    rw [← HR.out] at H5 hRl
    have hsz2 : (bytes R).toArray.size = 32 := by simp [bytes, hRl]
    have hln : Kp ((bytes R).length = 32) := ⟨by simp [bytes, hRl]⟩
    have hone := bytes_ones R
    have H5r := Kp.mk (blk_range H5.out)
    have H3h := Kp.mk (show W5.heap[g3]? = some (.cells #[.int .u8 0, .int .u8 0, .int .u8 0, .int .u8 0, .int .u8 0, .int .u8 0, .int .u8 0, .int .u8 0, .int .u8 0, .int .u8 0, .int .u8 0, .int .u8 0, .int .u8 0, .int .u8 0, .int .u8 0, .int .u8 0, .int .u8 0, .int .u8 0, .int .u8 0, .int .u8 0, .int .u8 0, .int .u8 0, .int .u8 0, .int .u8 0, .int .u8 0, .int .u8 0, .int .u8 0, .int .u8 0, .int .u8 0, .int .u8 0, .int .u8 0, .int .u8 0] 29 (0, 0)) from H35.out)
    clear H5 hRl hsz H35
    go_wp2_with (first
      | refine wpList_load_mid rfl 29 _ rfl g4 0 rfl (bytes R) _ H5r.out Tryd.underlying29 rfl (by rw [hln.out]; exact hi32) ?_
      | refine wpList_store_row rfl 29 _ _ rfl g3 (bytes R).toArray rfl rfl 29 #[.int .u8 0, .int .u8 0, .int .u8 0, .int .u8 0, .int .u8 0, .int .u8 0, .int .u8 0, .int .u8 0, .int .u8 0, .int .u8 0, .int .u8 0, .int .u8 0, .int .u8 0, .int .u8 0, .int .u8 0, .int .u8 0, .int .u8 0, .int .u8 0, .int .u8 0, .int .u8 0, .int .u8 0, .int .u8 0, .int .u8 0, .int .u8 0, .int .u8 0, .int .u8 0, .int .u8 0, .int .u8 0, .int .u8 0, .int .u8 0, .int .u8 0, .int .u8 0] (by exact H3h.out) (by rw [hsz2]; exact hi32) (by rw [hsz2]; rfl) hone ?_)
    refine bodyPost_ret (results_cell_row rfl _ _ g3 29 _ (0, 0) _ rfl (setRow_heap _ g3 _ _ _ _ H3h.out) Tryd.underlying29 rfl (by rw [hsz2]; exact hi32)) rfl ?_
    refine ⟨rfl, ?_⟩
    exact HF5.out.trans (S' := fun q => q = g3) ⟨rfl, rfl, rfl, by simp [World.setRow], fun q _ hq => setRow_other _ _ q _ hq⟩ (fun q hq he => by have := HG.out; omega)
end Go.Proofs.YtjcmgpiapbeodaaDoor.Sha
namespace Go.Proofs.YtjcmgpiapbeodaaDoor.Sha
open Go.RowKit Go.Proofs.YtjcmgpiapbeodaaDoor.Mem Go.Proofs.YtjcmgpiapbeodaaDoorW.PrintWords
theorem cell_row_ne (W : World) (g k i : Nat) (cs : Array Value) (v : Value) (h : W.cell? ⟨k, i, none⟩ = some v) (hne : k ≠ g) : (W.setRow g cs).cell? ⟨k, i, none⟩ = some v :=
  (World.cell?_of_block (setRow_other W g k cs hne)).trans h
theorem own_srcs {w : World} {base g n c : Nat} {xs : List Int} (h : w.ownsRow base 5 1 (.slice (some ⟨g, 0, none⟩) n c) n (bytes xs)) : Src w (fun _ => False) (some ⟨g, 0, none⟩) c xs := by
  have hn : n = xs.length := by have := h.1; rw [bytes_length] at this; omega
  subst hn
  obtain ⟨A, c', he, hs⟩ := Src.of_own h (fun _ => False) (fun _ _ h => h)
  cases he
  exact hs
theorem own_make (w : World) (n : Nat) (hn : n ≤ 140737488355328) : (w.alloc (.cells (Wk.zeros n) 5)).ownsRow w.heap.size 5 1 (.slice (some ⟨w.heap.size, 0, none⟩) 0 n) ([] : List Int).length (bytes ([] : List Int)) :=
  ⟨rfl, .inr ⟨w.heap.size, n, Wk.zeros n, rfl, Nat.le_refl _, heap_alloc_new w _, Nat.zero_le _, by unfold maxLen; omega, by rw [Wk.zeros, size_madeCells, Nat.mul_one], by simp [bytes]⟩⟩
/-- where a whole row lies that is stored to, what is stored -/
def rowBlock : Value → Nat
  | .pointer (some ⟨b, _, _⟩) => b
  | _ => 0
def rowCells : Value → Array Value
  | .agg cs => cs
  | _ => #[]
def hashOk (v : Value) : Bool := match v with
  | .agg cs => cs.size == 32 && cs.all (fun v => v.oneCell')
  | _ => false
theorem wp_store_hash (W : World) (a : Act) (K : Act → World → Prop) (Q : Exit → Act → World → Prop) (x y : Operand) (ty : TypeId) (pos : String) (af)
    (hx : rowOk W 29 (a.eval x) = true) (hy : hashOk (a.eval y) = true) :
    Oper.wp Tryd.prog { dst := none, op := .store 29 x y, type := ty, pos := pos, after := af, guard := none } a W K Q = K (a.put none undef) (W.setRow (rowBlock (a.eval x)) (rowCells (a.eval y))) := by
  obtain ⟨b, cs, hv, hb, hz⟩ : ∃ b cs, a.eval x = .pointer (some ⟨b, 0, none⟩) ∧ W.heap[b]? = some (.cells cs 29 (0, 0)) ∧ (Tryd.prog.info? 29).map (·.size) = some cs.size := by
    unfold rowOk at hx
    split at hx
    · rename_i b hv
      split at hx
      · rename_i cs t' fr hb
        simp only [Bool.and_eq_true, beq_iff_eq] at hx
        obtain ⟨⟨rfl, rfl⟩, h3⟩ := hx
        exact ⟨b, cs, hv, hb, h3⟩
      · cases hx
    · cases hx
  obtain ⟨ds, hd, h32, h1⟩ : ∃ ds, a.eval y = .agg ds ∧ ds.size = 32 ∧ ds.all (fun v => v.oneCell') = true := by
    unfold hashOk at hy
    split at hy
    · rename_i ds hd
      simp only [Bool.and_eq_true, beq_iff_eq] at hy
      exact ⟨ds, hd, hy.1, hy.2⟩
    · cases hy
  have hi : (Tryd.prog.info? 29).map (·.size) = some 32 := by kernel_rfl
  have h32' : cs.size = ds.size := by
    rw [hi] at hz
    have := Option.some.inj hz
    omega
  have hr := run_storeVar_row (P := Tryd.prog) W b 29 29 cs ds hb (by rw [hi, h32]) h32' h1
  unfold Oper.wp execOp
  simp only [hv, hd, Instr.storeAt, Instr.sureAddr, Sem.run_bind, Sem.run_pure, Result.andThen_ok, hr, rowBlock, rowCells]
  rfl
theorem hashOk_bytes (M : List Int) (h : M.length = 32) : hashOk (.agg (bytes M).toArray) = true := by
  show ((bytes M).toArray.size == 32 && (bytes M).toArray.all (fun v => v.oneCell')) = true
  rw [bytes_ones M]
  simp [bytes, h]
attribute [local go_sem ↓] Go.wp_at_zero Go.wp_at_succ wp_load_hash wp_store_hash
attribute [local go_sem] rowAt_drew rowOk_drew rowBlock rowCells
set_option maxHeartbeats 2000000 in
set_option maxRecDepth 100000 in
theorem leaf_calls (A : Option Addr) (c : Nat) (p : List Int) (gk go s : Nat) (w : World) (hL : Laid w) (hH : Hs w gk go s) (hX : Src w (fun _ => False) A c p) (hp : p.length ≤ 140737488351232) :
    Calls Tryd.prog 70 #[.slice A p.length c, .pointer (some ⟨go, 0, none⟩)] w fun e w' => e = .returned (.agg (bytes (leafL s p)).toArray) ∧ Fr (fun _ => False) w w' := by
  have hll : (leafL s p).length = 32 := ofL_len s _ hH.le
  have HX := Kp.mk hX
  have C0 : Kp (∀ A' c' W, Fr (fun _ => False) w W → Src W (fun _ => False) A' c' (0 :: p) → Calls Tryd.prog 69 #[.slice A' (p.length + 1) c', .pointer (some ⟨gk, 0, none⟩)] W fun e w' => e = .returned (.agg (bytes (leafL s p)).toArray) ∧ Fr (fun _ => False) W w') :=
    ⟨fun A' c' W hf hs => of_calls A' c' (0 :: p) gk go s W (hL.fr hf (fun _ h => h.elim)) (hH.fr hf (fun h => h) (fun h => h)) hs (by simp only [List.length_cons]; unfold maxCount; omega)⟩
  have HO := Kp.mk hH.o
  obtain ⟨n, hn⟩ : ∃ n, n = p.length := ⟨_, rfl⟩
  have HN := Kp.mk hn
  rw [← hn] at C0 hp ⊢
  generalize leafL s p = M at C0 hll ⊢
  have HL := Kp.mk hll
  clear hn hL hH hX hll
  go_enter Tryd.func70, Tryd.ntmps70
  go_upto_region 1 with (fail)
  obtain ⟨g3, hg3⟩ : ∃ g3, g3 = w.heap.size := ⟨_, rfl⟩
  rw [← hg3]
  obtain ⟨W1, hW1⟩ : ∃ W1, W1 = w.alloc (.cells #[.int .u8 0, .int .u8 0, .int .u8 0, .int .u8 0, .int .u8 0, .int .u8 0, .int .u8 0, .int .u8 0, .int .u8 0, .int .u8 0, .int .u8 0, .int .u8 0, .int .u8 0, .int .u8 0, .int .u8 0, .int .u8 0, .int .u8 0, .int .u8 0, .int .u8 0, .int .u8 0, .int .u8 0, .int .u8 0, .int .u8 0, .int .u8 0, .int .u8 0, .int .u8 0, .int .u8 0, .int .u8 0, .int .u8 0, .int .u8 0, .int .u8 0, .int .u8 0] 29) := ⟨_, rfl⟩
  have H3 : Kp (Blk W1 g3 29 [.int .u8 0, .int .u8 0, .int .u8 0, .int .u8 0, .int .u8 0, .int .u8 0, .int .u8 0, .int .u8 0, .int .u8 0, .int .u8 0, .int .u8 0, .int .u8 0, .int .u8 0, .int .u8 0, .int .u8 0, .int .u8 0, .int .u8 0, .int .u8 0, .int .u8 0, .int .u8 0, .int .u8 0, .int .u8 0, .int .u8 0, .int .u8 0, .int .u8 0, .int .u8 0, .int .u8 0, .int .u8 0, .int .u8 0, .int .u8 0, .int .u8 0, .int .u8 0]) := ⟨by rw [hW1, hg3]; exact Blk.new w _ _⟩
  have HF1 : Kp (Fr (fun _ => False) w W1) := ⟨by rw [hW1]; exact (Fr.refl _ w).alloc _⟩
  have HG : Kp (w.heap.size ≤ g3) := ⟨by omega⟩
  rw [← hW1]
  clear hW1 hg3
  have hmk := Wk.make_bytes ((n : Int) + 1) (by omega) (by omega) W1
  rw [show ((n : Int) + 1).toNat = n + 1 by omega] at hmk
  go_upto_region 2 with (fail)
  have HM0 := Kp.mk (own_make W1 (n + 1) (by omega))
  have hfa := (Fr.refl (fun _ => False) W1).alloc (.cells (Wk.zeros (n + 1)) 5)
  have H3a := Kp.mk (H3.out.fr hfa (fun h => h))
  have HFa := Kp.mk (HF1.out.trans hfa (fun _ _ h => h))
  generalize hga : W1.heap.size = ga at HM0 ⊢
  have HGA : Kp (w.heap.size ≤ ga ∧ g3 < ga) := ⟨by rw [← hga]; exact ⟨HF1.out.size, H3.out.lt⟩⟩
  generalize hWa : World.alloc W1 _ = Wa at HM0 H3a HFa ⊢
  have HSa : Kp (ga ≤ Wa.heap.size) := ⟨by rw [← hWa, ← hga]; simp⟩
  clear hWa hga hfa hmk H3 HF1
  go_upto_region 3 with (at_builtin; refine wpList_appendS rfl _ _ rfl rfl ga (.slice (some ⟨ga, 0, none⟩) 0 (n + 1)) [] rfl (by exact own_keep HM0.out ((Fr.refl (fun _ => False) Wa).alloc _) (fun _ _ h => h)) (some ⟨Wa.heap.size, 0, none⟩) 1 1 [0] rfl rfl (by exact src_new Wa [0] 5 1 (Nat.le_refl _)) (by simp) (by exact Nat.le_trans HSa.out (by simp)) ?_; intro v5 w5 hown hgr hat; obtain ⟨g5, cp5, hv, hvv⟩ := own_form hown (by simp); subst hv; have HO5 := Kp.mk hown; have HGr5 := Kp.mk hgr; clear hown hgr hat hvv)
  have hfg : Fr (fun _ => False) w w5 := (HFa.out.alloc (.cells #[.int .u8 0] 5)).grown HGr5.out (fun k hk h => by have h1 : ga = k := Option.some.inj h; have := HGA.out.1; omega)
  have h35 : Blk w5 g3 29 [.int .u8 0, .int .u8 0, .int .u8 0, .int .u8 0, .int .u8 0, .int .u8 0, .int .u8 0, .int .u8 0, .int .u8 0, .int .u8 0, .int .u8 0, .int .u8 0, .int .u8 0, .int .u8 0, .int .u8 0, .int .u8 0, .int .u8 0, .int .u8 0, .int .u8 0, .int .u8 0, .int .u8 0, .int .u8 0, .int .u8 0, .int .u8 0, .int .u8 0, .int .u8 0, .int .u8 0, .int .u8 0, .int .u8 0, .int .u8 0, .int .u8 0, .int .u8 0] := (H3a.out.alloc (.cells #[.int .u8 0] 5)).fr (Fr.grown (Fr.refl (fun k => k = ga) _) HGr5.out (fun k hk h => by have h1 : ga = k := Option.some.inj h; exact h1.symm)) (fun h => by have := HGA.out.2; omega)
  have hg5 : ga ≤ g5 := by
    rcases HO5.out.2 with ⟨h, _⟩ | ⟨q, cap, cur, h, hb, _⟩
    · cases h
    · cases h; exact hb
  have HF5 := Kp.mk hfg
  have H35 := Kp.mk h35
  have HG5 := Kp.mk hg5
  have HX5 := Kp.mk (HX.out.fr hfg)
  have h0 : Wa.heap.size ≤ w5.heap.size := Nat.le_trans (by simp) HGr5.out.size
  have HSZ : Kp (ga ≤ w5.heap.size) := ⟨Nat.le_trans HSa.out h0⟩
  clear h0
  have co : w5.cell? ⟨go, 0, none⟩ = some (.func (.func 69) #[] #[.pointer (some ⟨gk, 0, none⟩)]) := (HO.out.fr hfg (fun h => h)).cell 0 _ rfl
  have hgo : go ≠ g3 := by have h1 := HO.out.lt; have := HG.out; omega
  have HGO := Kp.mk hgo
  clear hgo
  have hi32 : (Tryd.prog.info? 29).map (·.size) = some 32 := by kernel_rfl
  have hbl : some 32 = some (bytes M).length := by rw [bytes_length, HL.out]
  have hone : ∀ v ∈ bytes M, v.oneCell' = true := fun v hv => by
    obtain ⟨z, _, rfl⟩ := List.mem_map.1 hv
    rfl
  have hln : ([] ++ [0] ++ p : List Int).length = n + 1 := by rw [HN.out]; simp
  have HLN := Kp.mk hln
  clear hfg h35 hg5 HFa H3a HM0 HGr5 HSa hln
  go_region_held3 (fun w' => w'.cell? ⟨go, 0, none⟩ = some (.func (.func 69) #[] #[.pointer (some ⟨gk, 0, none⟩)])) (first | go_keep | exact co8 | exact co7 | exact co6) (first
    | (refine step_appendS (by rfl) (.tmp 13) (.tmp 14) (by rfl) (by rfl) ga (.slice (some ⟨g5, 0, none⟩) 1 cp5) ([] ++ [0]) (by rfl) (by exact own_keep HO5.out ((Fr.refl (fun _ => False) w5).drew) (fun _ _ h => h)) A n c p (by exact HN.out) (by rfl) (by exact HX5.out.fr ((Fr.refl (fun _ => False) w5).drew)) (by rw [← HN.out]; simp; omega) (by exact HSZ.out) ?_; intro v6 w6 hown hgr hat; obtain ⟨g6, cp6, hv, hvv⟩ := own_form hown (by rw [HLN.out]; omega); subst hv; rw [HLN.out] at hown ⊢; have HFg := Kp.mk (Fr.grown ((Fr.refl (fun k => k = g5) w5).drew) hgr (fun k hk h => by have h1 : g5 = k := Option.some.inj h; exact h1.symm)); have HF6 := Kp.mk (HF5.out.trans HFg.out (fun k hk he => by have := HG5.out; have := HGA.out.1; omega)); have H36 := Kp.mk (H35.out.fr HFg.out (fun h => by have := HG5.out; have := HGA.out.2; omega)); have co6 := (HO.out.fr HF6.out (fun h => h)).cell 0 _ rfl; have HO6 := Kp.mk hown; clear hown hgr hat hvv)
    | (go_at_call 69; (refine (C0.out (some ⟨g6, 0, none⟩) cp6 w6 HF6.out (by exact own_srcs HO6.out)).mono ?_); rintro e' w7 ⟨rfl, hf7⟩; have HF7 := Kp.mk (HF6.out.trans hf7 (fun _ _ h => h)); have H37 := Kp.mk (H36.out.fr hf7 (fun h => h)); have hth : w7.there g3 0 (bytes M).length := blk_there H37.out 0 _ (by rw [bytes_length, HL.out]; simp); have co7 := (HO.out.fr HF7.out (fun h => h)).cell 0 _ rfl; have co8 := ((HO.out.fr HF7.out (fun h => h)).fr (fr_setCells g3 (bytes M) 0 w7) (fun he => HGO.out he)).cell 0 _ rfl; clear hf7))
  have h38 : Blk (w7.setCells g3 0 (bytes M)) g3 29 (bytes M) := by
    have h := Blk.setCells g3 29 [] (bytes M) [] [.int .u8 0, .int .u8 0, .int .u8 0, .int .u8 0, .int .u8 0, .int .u8 0, .int .u8 0, .int .u8 0, .int .u8 0, .int .u8 0, .int .u8 0, .int .u8 0, .int .u8 0, .int .u8 0, .int .u8 0, .int .u8 0, .int .u8 0, .int .u8 0, .int .u8 0, .int .u8 0, .int .u8 0, .int .u8 0, .int .u8 0, .int .u8 0, .int .u8 0, .int .u8 0, .int .u8 0, .int .u8 0, .int .u8 0, .int .u8 0, .int .u8 0, .int .u8 0] w7 (by rw [bytes_length, HL.out]; rfl) (by rw [List.nil_append, List.append_nil]; exact H37.out)
    rw [List.nil_append, List.append_nil, List.length_nil] at h
    exact h
  have H38 := Kp.mk h38
  have HF8 := Kp.mk (HF7.out.trans (fr_setCells g3 (bytes M) 0 w7) (fun q hq he => by have := HG.out; omega))
  generalize World.setCells w7 g3 0 _ = w8 at H38 HF8 ⊢
  have hszM : (bytes M).toArray.size = 32 := by simp [bytes, HL.out]
  clear h38 hth co7 co8 HF7 H37 hbl hone
  go_wp2
  refine bodyPost_ret (results_cell_row rfl _ _ g3 29 _ (0, 0) _ rfl H38.out Tryd.underlying29 rfl (by rw [hszM]; exact hi32)) rfl ?_
  exact ⟨rfl, HF8.out⟩
theorem blk_srcs {w : World} {g : Nat} {T : TypeId} {l : List Int} (h : Blk w g T (bytes l)) : Src w (fun _ => False) (some ⟨g, 0, none⟩) l.length l :=
  ⟨Nat.le_refl _, .inr (.inr ⟨g, 0, rfl, ⟨h.lt, fun i hi => by rw [Nat.zero_add]; exact h.cell i _ (bytes_get l i hi)⟩, fun h => h⟩)⟩
theorem make65 (w : World) : (Instr.makeSlice 22 (.int .i64 0) (.int .i64 65)).run Tryd.prog w = .ok (.slice (some ⟨w.heap.size, 0, none⟩) 0 65) (w.alloc (.cells (Wk.zeros 65) 5)) := Wk.make_bytes 65 (by decide) (by decide) w
set_option maxHeartbeats 2000000 in
set_option maxRecDepth 100000 in
theorem node_calls (l r : List Int) (hl : l.length = 32) (hr : r.length = 32) (gk go s : Nat) (w : World) (hL : Laid w) (hH : Hs w gk go s) :
    Calls Tryd.prog 71 #[.agg (bytes l).toArray, .agg (bytes r).toArray, .pointer (some ⟨go, 0, none⟩)] w fun e w' => e = .returned (.agg (bytes (nodeL s l r)).toArray) ∧ Fr (fun _ => False) w w' := by
  have hll : (nodeL s l r).length = 32 := ofL_len s _ hH.le
  have C0 : Kp (∀ A' c' W, Fr (fun _ => False) w W → Src W (fun _ => False) A' c' (1 :: (l ++ r)) → Calls Tryd.prog 69 #[.slice A' 65 c', .pointer (some ⟨gk, 0, none⟩)] W fun e w' => e = .returned (.agg (bytes (nodeL s l r)).toArray) ∧ Fr (fun _ => False) W w') :=
    ⟨fun A' c' W hf hs => by
      have h := of_calls A' c' (1 :: (l ++ r)) gk go s W (hL.fr hf (fun _ h => h.elim)) (hH.fr hf (fun h => h) (fun h => h)) hs (by simp [hl, hr]; decide)
      rw [show (1 :: (l ++ r)).length = 65 by simp [hl, hr]] at h
      exact h⟩
  have HO := Kp.mk hH.o
  have HLl := Kp.mk hl
  have HRl := Kp.mk hr
  generalize nodeL s l r = M at C0 hll ⊢
  have HL := Kp.mk hll
  clear hl hr hL hH hll
  go_enter Tryd.func71, Tryd.ntmps71
  go_upto_region 1 with (fail)
  obtain ⟨g3, hg3⟩ : ∃ g3, g3 = w.heap.size := ⟨_, rfl⟩
  obtain ⟨g4, hg4⟩ : ∃ g4, g4 = w.heap.size + 1 := ⟨_, rfl⟩
  obtain ⟨g5, hg5⟩ : ∃ g5, g5 = w.heap.size + 1 + 1 := ⟨_, rfl⟩
  rw [← hg5, ← hg4, ← hg3]
  obtain ⟨W1, hW1⟩ : ∃ W1, W1 = ((w.alloc (.cells (bytes l).toArray 29)).alloc (.cells (bytes r).toArray 29)).alloc (.cells #[.int .u8 0, .int .u8 0, .int .u8 0, .int .u8 0, .int .u8 0, .int .u8 0, .int .u8 0, .int .u8 0, .int .u8 0, .int .u8 0, .int .u8 0, .int .u8 0, .int .u8 0, .int .u8 0, .int .u8 0, .int .u8 0, .int .u8 0, .int .u8 0, .int .u8 0, .int .u8 0, .int .u8 0, .int .u8 0, .int .u8 0, .int .u8 0, .int .u8 0, .int .u8 0, .int .u8 0, .int .u8 0, .int .u8 0, .int .u8 0, .int .u8 0, .int .u8 0] 29) := ⟨_, rfl⟩
  have H3 : Kp (Blk W1 g3 29 (bytes l)) := ⟨by rw [hW1, hg3]; exact ((Blk.new w (bytes l).toArray _).alloc _).alloc _⟩
  have H4 : Kp (Blk W1 g4 29 (bytes r)) := ⟨by rw [hW1, hg4]; exact (Blk.new' (w.alloc (.cells (bytes l).toArray 29)) (bytes r).toArray _ (by simp)).alloc _⟩
  have H5 : Kp (Blk W1 g5 29 [.int .u8 0, .int .u8 0, .int .u8 0, .int .u8 0, .int .u8 0, .int .u8 0, .int .u8 0, .int .u8 0, .int .u8 0, .int .u8 0, .int .u8 0, .int .u8 0, .int .u8 0, .int .u8 0, .int .u8 0, .int .u8 0, .int .u8 0, .int .u8 0, .int .u8 0, .int .u8 0, .int .u8 0, .int .u8 0, .int .u8 0, .int .u8 0, .int .u8 0, .int .u8 0, .int .u8 0, .int .u8 0, .int .u8 0, .int .u8 0, .int .u8 0, .int .u8 0]) := ⟨by rw [hW1, hg5]; exact Blk.new' _ _ _ (by simp)⟩
  have HF1 : Kp (Fr (fun _ => False) w W1) := ⟨by rw [hW1]; exact (((Fr.refl _ w).alloc _).alloc _).alloc _⟩
  have HG : Kp (w.heap.size ≤ g5) := ⟨by omega⟩
  rw [← hW1]
  clear hW1 hg3 hg4 hg5
  have hmk := make65 W1
  go_upto_region 2 with (fail)
  have HM0 := Kp.mk (own_make W1 65 (by decide))
  have hfa := (Fr.refl (fun _ => False) W1).alloc (.cells (Wk.zeros 65) 5)
  have H3a := Kp.mk (H3.out.fr hfa (fun h => h))
  have H4a := Kp.mk (H4.out.fr hfa (fun h => h))
  have H5a := Kp.mk (H5.out.fr hfa (fun h => h))
  have HFa := Kp.mk (HF1.out.trans hfa (fun _ _ h => h))
  generalize hga : W1.heap.size = ga at HM0 ⊢
  have HGA : Kp (w.heap.size ≤ ga ∧ g3 < ga ∧ g4 < ga ∧ g5 < ga) := ⟨by rw [← hga]; exact ⟨HF1.out.size, H3.out.lt, H4.out.lt, H5.out.lt⟩⟩
  generalize hWa : World.alloc W1 _ = Wa at HM0 H3a H4a H5a HFa ⊢
  have HSa : Kp (ga ≤ Wa.heap.size) := ⟨by rw [← hWa, ← hga]; simp⟩
  clear hWa hga hfa hmk H3 H4 H5 HF1
  go_upto_region 3 with (at_builtin; refine wpList_appendS rfl _ _ rfl rfl ga (.slice (some ⟨ga, 0, none⟩) 0 65) [] rfl (by exact own_keep HM0.out ((Fr.refl (fun _ => False) Wa).alloc _) (fun _ _ h => h)) (some ⟨Wa.heap.size, 0, none⟩) 1 1 [1] rfl rfl (by exact src_new Wa [1] 5 1 (Nat.le_refl _)) (by simp) (by exact Nat.le_trans HSa.out (by simp)) ?_; intro v5 w5 hown hgr hat; obtain ⟨gb, cpb, hv, hvv⟩ := own_form hown (by simp); subst hv; have HOb := Kp.mk hown; have HGr5 := Kp.mk hgr; clear hown hgr hat hvv)
  have hgr := (Fr.refl (fun k => k = ga) (Wa.alloc (.cells #[.int .u8 1] 5))).grown HGr5.out (fun k hk h => by have h1 : ga = k := Option.some.inj h; exact h1.symm)
  have HF5 := Kp.mk ((HFa.out.alloc (.cells #[.int .u8 1] 5)).trans hgr (fun k hk he => by have := HGA.out.1; omega))
  have H35 := Kp.mk ((H3a.out.alloc (.cells #[.int .u8 1] 5)).fr hgr (fun h => by have := HGA.out.2.1; omega))
  have H45 := Kp.mk ((H4a.out.alloc (.cells #[.int .u8 1] 5)).fr hgr (fun h => by have := HGA.out.2.2.1; omega))
  have H55 := Kp.mk ((H5a.out.alloc (.cells #[.int .u8 1] 5)).fr hgr (fun h => by have := HGA.out.2.2.2; omega))
  have HGB : Kp (ga ≤ gb) := ⟨by
    rcases HOb.out.2 with ⟨h, _⟩ | ⟨q, cap, cur, h, hb, _⟩
    · cases h
    · cases h; exact hb⟩
  have HS5 : Kp (ga ≤ w5.heap.size) := ⟨Nat.le_trans HSa.out (Nat.le_trans (by simp) HGr5.out.size)⟩
  clear hgr HGr5 HSa HM0 H3a H4a H5a HFa
  have HX3 : Kp (Src w5 (fun _ => False) (some ⟨g3, 0, none⟩) 32 l) := ⟨by have h := blk_srcs H35.out; rw [HLl.out] at h; exact h⟩
  go_upto_region 4 with (at_builtin; refine wpList_appendS rfl _ _ rfl rfl ga (.slice (some ⟨gb, 0, none⟩) 1 cpb) ([] ++ [1]) rfl (by exact HOb.out) (some ⟨g3, 0, none⟩) 32 32 l (by exact HLl.out.symm) rfl (by exact HX3.out) (by rw [HLl.out]; simp) (by exact HS5.out) ?_; intro v6 w6 hown hgr hat; obtain ⟨gc, cpc, hv, hvv⟩ := own_form hown (by simp); subst hv; have HOc := Kp.mk hown; have HGr6 := Kp.mk hgr; clear hown hgr hat hvv)
  have hlc : ([] ++ [1] ++ l : List Int).length = 33 := by simp [HLl.out]
  have hgr := (Fr.refl (fun k => k = gb) w5).grown HGr6.out (fun k hk h => by have h1 : gb = k := Option.some.inj h; exact h1.symm)
  have HF6 := Kp.mk (HF5.out.trans hgr (fun k hk he => by have := HGA.out.1; have := HGB.out; omega))
  have H46 := Kp.mk (H45.out.fr hgr (fun h => by have := HGA.out.2.2.1; have := HGB.out; omega))
  have H56 := Kp.mk (H55.out.fr hgr (fun h => by have := HGA.out.2.2.2; have := HGB.out; omega))
  have HGC : Kp (ga ≤ gc) := ⟨by
    rcases HOc.out.2 with ⟨h, _⟩ | ⟨q, cap, cur, h, hb, _⟩
    · cases h
    · cases h; exact hb⟩
  have HS6 : Kp (ga ≤ w6.heap.size) := ⟨Nat.le_trans HS5.out HGr6.out.size⟩
  clear hgr HGr6 HOb H35 H45 H55 HX3 HS5 HF5
  have HX4 : Kp (Src w6 (fun _ => False) (some ⟨g4, 0, none⟩) 32 r) := ⟨by have h := blk_srcs H46.out; rw [HRl.out] at h; exact h⟩
  have co : w6.cell? ⟨go, 0, none⟩ = some (.func (.func 69) #[] #[.pointer (some ⟨gk, 0, none⟩)]) := (HO.out.fr HF6.out (fun h => h)).cell 0 _ rfl
  have HGO : Kp (go ≠ g5) := ⟨by have h1 := HO.out.lt; have := HG.out; omega⟩
  have hi32 : (Tryd.prog.info? 29).map (·.size) = some 32 := by kernel_rfl
  have hbl : some 32 = some (bytes M).length := by rw [bytes_length, HL.out]
  have hone : ∀ v ∈ bytes M, v.oneCell' = true := fun v hv => by
    obtain ⟨z, _, rfl⟩ := List.mem_map.1 hv
    rfl
  have HLN : Kp (([] ++ [1] ++ l ++ r : List Int).length = 65) := ⟨by simp [HLl.out, HRl.out]⟩
  have HLM : Kp (([] ++ [1] ++ l ++ r : List Int) = 1 :: (l ++ r)) := ⟨by simp⟩
  have HLC := Kp.mk hlc
  have HOc2 : Kp (w6.ownsRow ga 5 1 (.slice (some ⟨gc, 0, none⟩) 33 cpc) ([] ++ [1] ++ l : List Int).length (bytes ([] ++ [1] ++ l))) := ⟨by have h := HOc.out; rw [hlc] at h ⊢; exact h⟩
  rw [show l.length + 1 = 33 by rw [HLl.out]]
  clear HOc hlc
  go_region_held3 (fun w' => w'.cell? ⟨go, 0, none⟩ = some (.func (.func 69) #[] #[.pointer (some ⟨gk, 0, none⟩)])) (first | go_keep | exact co8 | exact co7 | exact co6) (first
    | (refine step_appendS (by rfl) (.tmp 15) (.tmp 16) (by rfl) (by rfl) ga (.slice (some ⟨gc, 0, none⟩) 33 cpc) ([] ++ [1] ++ l) (by rfl) (by exact own_keep HOc2.out ((Fr.refl (fun _ => False) w6).drew) (fun _ _ h => h)) (some ⟨g4, 0, none⟩) 32 32 r (by exact HRl.out.symm) (by rfl) (by exact HX4.out.fr ((Fr.refl (fun _ => False) w6).drew)) (by rw [HLC.out, HRl.out]; decide) (by exact HS6.out) ?_; intro v7 w66 hown hgr hat; obtain ⟨gd, cpd, hv, hvv⟩ := own_form hown (by rw [HLN.out]; omega); subst hv; rw [HLN.out] at hown ⊢; rw [HLM.out] at hown; have HFg := Kp.mk (Fr.grown ((Fr.refl (fun k => k = gc) w6).drew) hgr (fun k hk h => by have h1 : gc = k := Option.some.inj h; exact h1.symm)); have HF66 := Kp.mk (HF6.out.trans HFg.out (fun k hk he => by have := HGC.out; have := HGA.out.1; omega)); have H566 := Kp.mk (H56.out.fr HFg.out (fun h => by have := HGC.out; have := HGA.out.2.2.2; omega)); have co6 := (HO.out.fr HF66.out (fun h => h)).cell 0 _ rfl; have HO66 := Kp.mk hown; clear hown hgr hat hvv)
    | (go_at_call 69; (refine (C0.out (some ⟨gd, 0, none⟩) cpd w66 HF66.out (by exact own_srcs HO66.out)).mono ?_); rintro e' w7 ⟨rfl, hf7⟩; have HF7 := Kp.mk (HF66.out.trans hf7 (fun _ _ h => h)); have H57 := Kp.mk (H566.out.fr hf7 (fun h => h)); have hth : w7.there g5 0 (bytes M).length := blk_there H57.out 0 _ (by rw [bytes_length, HL.out]; simp); have co7 := (HO.out.fr HF7.out (fun h => h)).cell 0 _ rfl; have co8 := ((HO.out.fr HF7.out (fun h => h)).fr (fr_setCells g5 (bytes M) 0 w7) (fun he => HGO.out he)).cell 0 _ rfl; clear hf7))
  have h38 : Blk (w7.setCells g5 0 (bytes M)) g5 29 (bytes M) := by
    have h := Blk.setCells g5 29 [] (bytes M) [] [.int .u8 0, .int .u8 0, .int .u8 0, .int .u8 0, .int .u8 0, .int .u8 0, .int .u8 0, .int .u8 0, .int .u8 0, .int .u8 0, .int .u8 0, .int .u8 0, .int .u8 0, .int .u8 0, .int .u8 0, .int .u8 0, .int .u8 0, .int .u8 0, .int .u8 0, .int .u8 0, .int .u8 0, .int .u8 0, .int .u8 0, .int .u8 0, .int .u8 0, .int .u8 0, .int .u8 0, .int .u8 0, .int .u8 0, .int .u8 0, .int .u8 0, .int .u8 0] w7 (by rw [bytes_length, HL.out]; rfl) (by rw [List.nil_append, List.append_nil]; exact H57.out)
    rw [List.nil_append, List.append_nil, List.length_nil] at h
    exact h
  have H38 := Kp.mk h38
  have HF8 := Kp.mk (HF7.out.trans (fr_setCells g5 (bytes M) 0 w7) (fun q hq he => by have := HG.out; omega))
  generalize World.setCells w7 g5 0 _ = w8 at H38 HF8 ⊢
  have hszM : (bytes M).toArray.size = 32 := by simp [bytes, HL.out]
  clear h38 hth co7 co8 HF7 H57 hbl hone
  go_wp2
  refine bodyPost_ret (results_cell_row rfl _ _ g5 29 _ (0, 0) _ rfl H38.out Tryd.underlying29 rfl (by rw [hszM]; exact hi32)) rfl ?_
  exact ⟨rfl, HF8.out⟩
end Go.Proofs.YtjcmgpiapbeodaaDoor.Sha
namespace Go.Proofs.YtjcmgpiapbeodaaDoor.Sha
open Go.RowKit Go.Proofs.YtjcmgpiapbeodaaDoor.Mem Go.Proofs.YtjcmgpiapbeodaaDoorW.PrintWords
/-- the hasher as a value -/
def hasherV (gk go s : Nat) : Value := .agg #[.int .i64 (s : Int), .func (.func 69) #[] #[.pointer (some ⟨gk, 0, none⟩)], .func (.func 70) #[] #[.pointer (some ⟨go, 0, none⟩)], .func (.func 71) #[] #[.pointer (some ⟨go, 0, none⟩)]]
theorem field1 (W : World) (gk go s : Nat) : (Instr.field 86 (hasherV gk go s) 1).run Tryd.prog W = .ok (.func (.func 69) #[] #[.pointer (some ⟨gk, 0, none⟩)]) W := by kernel_rfl
theorem field2 (W : World) (gk go s : Nat) : (Instr.field 86 (hasherV gk go s) 2).run Tryd.prog W = .ok (.func (.func 70) #[] #[.pointer (some ⟨go, 0, none⟩)]) W := by kernel_rfl
theorem field3 (W : World) (gk go s : Nat) : (Instr.field 86 (hasherV gk go s) 3).run Tryd.prog W = .ok (.func (.func 71) #[] #[.pointer (some ⟨go, 0, none⟩)]) W := by kernel_rfl
set_option maxHeartbeats 2000000 in
set_option maxRecDepth 100000 in
theorem hasherOf_calls (k : Int) (w : World) :
    Calls Tryd.prog 41 #[.int .i64 k] w fun e w' => ∃ gk go, e = .returned (hasherV gk go (strength k)) ∧ Hs w' gk go (strength k) ∧ w.heap.size ≤ gk ∧ w.heap.size ≤ go ∧ Fr (fun _ => False) w w' := by
  have hmf : ∀ (fn : Fn) (first cap : Array Value) (w : World), (Instr.makeFunc fn first cap).run Tryd.prog w = .ok (.func fn first cap) w := fun _ _ _ _ => rfl
  have hs1 := strength_one k
  have hs2 := strength_le k
  obtain ⟨s, hs⟩ : ∃ s, s = strength k := ⟨_, rfl⟩
  rw [← hs] at hs1 hs2 ⊢
  have HS := Kp.mk hs
  clear hs
  go_enter Tryd.func41, Tryd.ntmps41
  go_upto_region 1 with (fail)
  obtain ⟨gk, hgk⟩ : ∃ gk, gk = w.heap.size := ⟨_, rfl⟩
  obtain ⟨g2, hg2⟩ : ∃ g2, g2 = w.heap.size + 1 := ⟨_, rfl⟩
  rw [← hg2, ← hgk]
  obtain ⟨W1, hW1⟩ : ∃ W1, W1 = (w.alloc (.cells #[.int .i64 k] 3)).alloc (.cells #[.int .i64 0, .nilFunc, .nilFunc, .nilFunc] 86) := ⟨_, rfl⟩
  have HK : Kp (Blk W1 gk 3 [.int .i64 k]) := ⟨by rw [hW1, hgk]; exact (Blk.new w _ _).alloc _⟩
  have H2 : Kp (Blk W1 g2 86 [.int .i64 0, .nilFunc, .nilFunc, .nilFunc]) := ⟨by rw [hW1, hg2]; exact Blk.new' _ _ _ (by simp)⟩
  have HF : Kp (Fr (fun _ => False) w W1) := ⟨by rw [hW1]; exact ((Fr.refl _ w).alloc _).alloc _⟩
  have HG : Kp (w.heap.size ≤ gk ∧ w.heap.size ≤ g2 ∧ gk ≠ g2) := ⟨by omega⟩
  rw [← hW1]
  clear hW1 hgk hg2
  have ck : W1.cell? ⟨gk, 0, none⟩ = some (.int .i64 k) := HK.out.cell 0 _ rfl
  have fk : W1.frozen? ⟨gk, 0, none⟩ = false := HK.out.free 0
  have hst : Fr (fun q => q = gk) W1 (W1.setCell ⟨gk, 0, none⟩ (.int .i64 32)) := Fr.set (S := fun q => q = gk) (a := ⟨gk, 0, none⟩) (Fr.refl (fun q => q = gk) W1) (fun _ => rfl) _
  have HFs := Kp.mk (HF.out.trans hst (fun q hq he => by have := HG.out.1; omega))
  have H2s := Kp.mk (H2.out.fr hst (fun he => HG.out.2.2 he.symm))
  have HKs : Kp (Blk (W1.setCell ⟨gk, 0, none⟩ (.int .i64 32)) gk 3 [.int .i64 32]) := ⟨HK.out.set 0 _⟩
  clear hst
  rcases (by omega : k < 1 ∨ 1 ≤ k) with h1 | h1
  · have hs32 : s = 32 := by rw [HS.out]; unfold strength; rw [if_neg (by omega)]
    have HKs : Kp (Blk (W1.setCell ⟨gk, 0, none⟩ (.int .i64 32)) gk 3 [.int .i64 (s : Int)]) := ⟨by rw [hs32]; exact HKs.out⟩
    clear hs32
    clear HK H2 HF
    go_upto_region 3 with (fail)
    have HK := HKs
    have H2 := H2s
    have HF := HFs
    generalize World.setCell W1 _ _ = wc at HK H2 HF ⊢
    clear HKs H2s HFs ck fk h1
    go_upto_region 4 with (fail)
    obtain ⟨go, hgo⟩ : ∃ go, go = wc.heap.size := ⟨_, rfl⟩
    obtain ⟨wd, hwd⟩ : ∃ wd, wd = wc.alloc (.cells #[.func (.func 69) #[] #[.pointer (some ⟨gk, 0, none⟩)]] 30) := ⟨_, rfl⟩
    have HOd : Kp (Blk wd go 30 [.func (.func 69) #[] #[.pointer (some ⟨gk, 0, none⟩)]]) := ⟨by rw [hwd, hgo]; exact Blk.new wc _ _⟩
    have hfa : Fr (fun _ => False) wc wd := by rw [hwd]; exact (Fr.refl _ wc).alloc _
    have HKd := Kp.mk (HK.out.fr hfa (fun h => h))
    have H2d := Kp.mk (H2.out.fr hfa (fun h => h))
    have HFd := Kp.mk (HF.out.trans hfa (fun _ _ h => h))
    have HGo : Kp (w.heap.size ≤ go ∧ go ≠ g2 ∧ go ≠ gk) := ⟨by have h1 := HF.out.size; have h2 := H2.out.lt; have h3 := HK.out.lt; exact ⟨by omega, by omega, by omega⟩⟩
    rw [← hgo, ← hwd]
    clear hwd hgo hfa HK H2 HF
    have ckd : wd.cell? ⟨gk, 0, none⟩ = some (.int .i64 (s : Int)) := HKd.out.cell 0 _ rfl
    have cod : wd.cell? ⟨go, 0, none⟩ = some (.func (.func 69) #[] #[.pointer (some ⟨gk, 0, none⟩)]) := HOd.out.cell 0 _ rfl
    have hi4 : (Tryd.prog.info? 86).map (·.size) = some 4 := by kernel_rfl
    have hone : (#[.int .i64 (s : Int), .func (.func 69) #[] #[.pointer (some ⟨gk, 0, none⟩)], .func (.func 70) #[] #[.pointer (some ⟨go, 0, none⟩)], .func (.func 71) #[] #[.pointer (some ⟨go, 0, none⟩)]] : Array Value).all (fun v => v.oneCell') = true := by
      show ([.int .i64 (s : Int), .func (.func 69) #[] #[.pointer (some ⟨gk, 0, none⟩)], .func (.func 70) #[] #[.pointer (some ⟨go, 0, none⟩)], .func (.func 71) #[] #[.pointer (some ⟨go, 0, none⟩)]] : List Value).toArray.all (fun v => v.oneCell') = true
      rw [List.all_toArray]; rfl
    have H2h := Kp.mk (show wd.heap[g2]? = some (.cells #[.int .i64 0, .nilFunc, .nilFunc, .nilFunc] 86 (0, 0)) from H2d.out)
    go_wp2_with (refine wpList_store_row rfl 86 _ _ rfl g2 #[.int .i64 (s : Int), .func (.func 69) #[] #[.pointer (some ⟨gk, 0, none⟩)], .func (.func 70) #[] #[.pointer (some ⟨go, 0, none⟩)], .func (.func 71) #[] #[.pointer (some ⟨go, 0, none⟩)]] rfl rfl 86 #[.int .i64 0, .nilFunc, .nilFunc, .nilFunc] (by exact H2h.out) hi4 rfl hone ?_)
    refine bodyPost_ret (results_cell_row rfl _ _ g2 86 _ (0, 0) _ rfl (setRow_heap _ g2 _ _ _ _ H2h.out) Tryd.underlying86 rfl hi4) rfl ?_
    have hfz : Fr (fun q => q = g2) wd (wd.setRow g2 #[.int .i64 (s : Int), .func (.func 69) #[] #[.pointer (some ⟨gk, 0, none⟩)], .func (.func 70) #[] #[.pointer (some ⟨go, 0, none⟩)], .func (.func 71) #[] #[.pointer (some ⟨go, 0, none⟩)]]) := ⟨rfl, rfl, rfl, by simp [World.setRow], fun q _ hq => setRow_other _ _ q _ hq⟩
    exact ⟨gk, go, rfl, ⟨HKd.out.fr hfz (fun he => HG.out.2.2 he), HOd.out.fr hfz (fun he => HGo.out.2.1 he), hs1, hs2⟩, HG.out.1, HGo.out.1, HFd.out.trans hfz (fun q hq he => by have := HG.out.2.1; omega)⟩
  · rcases (by omega : 31 < k ∨ k ≤ 31) with h2 | h2
    · have hs32 : s = 32 := by rw [HS.out]; unfold strength; rw [if_neg (by omega)]
      have HKs : Kp (Blk (W1.setCell ⟨gk, 0, none⟩ (.int .i64 32)) gk 3 [.int .i64 (s : Int)]) := ⟨by rw [hs32]; exact HKs.out⟩
      clear hs32
      clear HK H2 HF
      go_upto_region 3 with (fail)
      have HK := HKs
      have H2 := H2s
      have HF := HFs
      generalize World.setCell W1 _ _ = wc at HK H2 HF ⊢
      clear HKs H2s HFs ck fk h1 h2
      go_upto_region 4 with (fail)
      obtain ⟨go, hgo⟩ : ∃ go, go = wc.heap.size := ⟨_, rfl⟩
      obtain ⟨wd, hwd⟩ : ∃ wd, wd = wc.alloc (.cells #[.func (.func 69) #[] #[.pointer (some ⟨gk, 0, none⟩)]] 30) := ⟨_, rfl⟩
      have HOd : Kp (Blk wd go 30 [.func (.func 69) #[] #[.pointer (some ⟨gk, 0, none⟩)]]) := ⟨by rw [hwd, hgo]; exact Blk.new wc _ _⟩
      have hfa : Fr (fun _ => False) wc wd := by rw [hwd]; exact (Fr.refl _ wc).alloc _
      have HKd := Kp.mk (HK.out.fr hfa (fun h => h))
      have H2d := Kp.mk (H2.out.fr hfa (fun h => h))
      have HFd := Kp.mk (HF.out.trans hfa (fun _ _ h => h))
      have HGo : Kp (w.heap.size ≤ go ∧ go ≠ g2 ∧ go ≠ gk) := ⟨by have h1 := HF.out.size; have h2 := H2.out.lt; have h3 := HK.out.lt; exact ⟨by omega, by omega, by omega⟩⟩
      rw [← hgo, ← hwd]
      clear hwd hgo hfa HK H2 HF
      have ckd : wd.cell? ⟨gk, 0, none⟩ = some (.int .i64 (s : Int)) := HKd.out.cell 0 _ rfl
      have cod : wd.cell? ⟨go, 0, none⟩ = some (.func (.func 69) #[] #[.pointer (some ⟨gk, 0, none⟩)]) := HOd.out.cell 0 _ rfl
      have hi4 : (Tryd.prog.info? 86).map (·.size) = some 4 := by kernel_rfl
      have hone : (#[.int .i64 (s : Int), .func (.func 69) #[] #[.pointer (some ⟨gk, 0, none⟩)], .func (.func 70) #[] #[.pointer (some ⟨go, 0, none⟩)], .func (.func 71) #[] #[.pointer (some ⟨go, 0, none⟩)]] : Array Value).all (fun v => v.oneCell') = true := by
        show ([.int .i64 (s : Int), .func (.func 69) #[] #[.pointer (some ⟨gk, 0, none⟩)], .func (.func 70) #[] #[.pointer (some ⟨go, 0, none⟩)], .func (.func 71) #[] #[.pointer (some ⟨go, 0, none⟩)]] : List Value).toArray.all (fun v => v.oneCell') = true
        rw [List.all_toArray]; rfl
      have H2h := Kp.mk (show wd.heap[g2]? = some (.cells #[.int .i64 0, .nilFunc, .nilFunc, .nilFunc] 86 (0, 0)) from H2d.out)
      go_wp2_with (refine wpList_store_row rfl 86 _ _ rfl g2 #[.int .i64 (s : Int), .func (.func 69) #[] #[.pointer (some ⟨gk, 0, none⟩)], .func (.func 70) #[] #[.pointer (some ⟨go, 0, none⟩)], .func (.func 71) #[] #[.pointer (some ⟨go, 0, none⟩)]] rfl rfl 86 #[.int .i64 0, .nilFunc, .nilFunc, .nilFunc] (by exact H2h.out) hi4 rfl hone ?_)
      refine bodyPost_ret (results_cell_row rfl _ _ g2 86 _ (0, 0) _ rfl (setRow_heap _ g2 _ _ _ _ H2h.out) Tryd.underlying86 rfl hi4) rfl ?_
      have hfz : Fr (fun q => q = g2) wd (wd.setRow g2 #[.int .i64 (s : Int), .func (.func 69) #[] #[.pointer (some ⟨gk, 0, none⟩)], .func (.func 70) #[] #[.pointer (some ⟨go, 0, none⟩)], .func (.func 71) #[] #[.pointer (some ⟨go, 0, none⟩)]]) := ⟨rfl, rfl, rfl, by simp [World.setRow], fun q _ hq => setRow_other _ _ q _ hq⟩
      exact ⟨gk, go, rfl, ⟨HKd.out.fr hfz (fun he => HG.out.2.2 he), HOd.out.fr hfz (fun he => HGo.out.2.1 he), hs1, hs2⟩, HG.out.1, HGo.out.1, HFd.out.trans hfz (fun q hq he => by have := HG.out.2.1; omega)⟩
    · have hsk : k = (s : Int) := by rw [HS.out]; unfold strength; rw [if_pos ⟨h1, h2⟩]; omega
      have HKk : Kp (Blk W1 gk 3 [.int .i64 (s : Int)]) := ⟨by rw [← hsk]; exact HK.out⟩
      clear hsk HK
      go_upto_region 3 with (fail)
      have HK := HKk
      obtain ⟨wc, hwc⟩ : ∃ wc, wc = W1 := ⟨_, rfl⟩
      rw [← hwc] at HK H2 HF ⊢
      clear hwc HKk HKs H2s HFs ck fk h1 h2
      go_upto_region 4 with (fail)
      obtain ⟨go, hgo⟩ : ∃ go, go = wc.heap.size := ⟨_, rfl⟩
      obtain ⟨wd, hwd⟩ : ∃ wd, wd = wc.alloc (.cells #[.func (.func 69) #[] #[.pointer (some ⟨gk, 0, none⟩)]] 30) := ⟨_, rfl⟩
      have HOd : Kp (Blk wd go 30 [.func (.func 69) #[] #[.pointer (some ⟨gk, 0, none⟩)]]) := ⟨by rw [hwd, hgo]; exact Blk.new wc _ _⟩
      have hfa : Fr (fun _ => False) wc wd := by rw [hwd]; exact (Fr.refl _ wc).alloc _
      have HKd := Kp.mk (HK.out.fr hfa (fun h => h))
      have H2d := Kp.mk (H2.out.fr hfa (fun h => h))
      have HFd := Kp.mk (HF.out.trans hfa (fun _ _ h => h))
      have HGo : Kp (w.heap.size ≤ go ∧ go ≠ g2 ∧ go ≠ gk) := ⟨by have h1 := HF.out.size; have h2 := H2.out.lt; have h3 := HK.out.lt; exact ⟨by omega, by omega, by omega⟩⟩
      rw [← hgo, ← hwd]
      clear hwd hgo hfa HK H2 HF
      have ckd : wd.cell? ⟨gk, 0, none⟩ = some (.int .i64 (s : Int)) := HKd.out.cell 0 _ rfl
      have cod : wd.cell? ⟨go, 0, none⟩ = some (.func (.func 69) #[] #[.pointer (some ⟨gk, 0, none⟩)]) := HOd.out.cell 0 _ rfl
      have hi4 : (Tryd.prog.info? 86).map (·.size) = some 4 := by kernel_rfl
      have hone : (#[.int .i64 (s : Int), .func (.func 69) #[] #[.pointer (some ⟨gk, 0, none⟩)], .func (.func 70) #[] #[.pointer (some ⟨go, 0, none⟩)], .func (.func 71) #[] #[.pointer (some ⟨go, 0, none⟩)]] : Array Value).all (fun v => v.oneCell') = true := by
        show ([.int .i64 (s : Int), .func (.func 69) #[] #[.pointer (some ⟨gk, 0, none⟩)], .func (.func 70) #[] #[.pointer (some ⟨go, 0, none⟩)], .func (.func 71) #[] #[.pointer (some ⟨go, 0, none⟩)]] : List Value).toArray.all (fun v => v.oneCell') = true
        rw [List.all_toArray]; rfl
      have H2h := Kp.mk (show wd.heap[g2]? = some (.cells #[.int .i64 0, .nilFunc, .nilFunc, .nilFunc] 86 (0, 0)) from H2d.out)
      go_wp2_with (refine wpList_store_row rfl 86 _ _ rfl g2 #[.int .i64 (s : Int), .func (.func 69) #[] #[.pointer (some ⟨gk, 0, none⟩)], .func (.func 70) #[] #[.pointer (some ⟨go, 0, none⟩)], .func (.func 71) #[] #[.pointer (some ⟨go, 0, none⟩)]] rfl rfl 86 #[.int .i64 0, .nilFunc, .nilFunc, .nilFunc] (by exact H2h.out) hi4 rfl hone ?_)
      refine bodyPost_ret (results_cell_row rfl _ _ g2 86 _ (0, 0) _ rfl (setRow_heap _ g2 _ _ _ _ H2h.out) Tryd.underlying86 rfl hi4) rfl ?_
      have hfz : Fr (fun q => q = g2) wd (wd.setRow g2 #[.int .i64 (s : Int), .func (.func 69) #[] #[.pointer (some ⟨gk, 0, none⟩)], .func (.func 70) #[] #[.pointer (some ⟨go, 0, none⟩)], .func (.func 71) #[] #[.pointer (some ⟨go, 0, none⟩)]]) := ⟨rfl, rfl, rfl, by simp [World.setRow], fun q _ hq => setRow_other _ _ q _ hq⟩
      exact ⟨gk, go, rfl, ⟨HKd.out.fr hfz (fun he => HG.out.2.2 he), HOd.out.fr hfz (fun he => HGo.out.2.1 he), hs1, hs2⟩, HG.out.1, HGo.out.1, HFd.out.trans hfz (fun q hq he => by have := HG.out.2.1; omega)⟩
set_option maxHeartbeats 2000000 in
set_option maxRecDepth 100000 in
theorem leafHash_calls (k : Int) (A : Option Addr) (c : Nat) (p : List Int) (w : World) (hL : Laid w) (hX : Src w (fun _ => False) A c p) (hp : p.length ≤ 140737488351232) :
    Calls Tryd.prog 14 #[.int .i64 k, .slice A p.length c] w fun e w' => e = .returned (.agg (bytes (leafL (strength k) p)).toArray) ∧ Fr (fun _ => False) w w' := by
  have hll : (leafL (strength k) p).length = 32 := ofL_len _ _ (strength_le k)
  have C0 : Kp (∀ gk go W, Fr (fun _ => False) w W → Hs W gk go (strength k) → Calls Tryd.prog 70 #[.slice A p.length c, .pointer (some ⟨go, 0, none⟩)] W fun e w' => e = .returned (.agg (bytes (leafL (strength k) p)).toArray) ∧ Fr (fun _ => False) W w') := ⟨fun gk go W hf hH => leaf_calls A c p gk go (strength k) W (hL.fr hf (fun _ h => h.elim)) hH (hX.fr hf) hp⟩
  obtain ⟨s, hs⟩ : ∃ s, s = strength k := ⟨_, rfl⟩
  have CH := Kp.mk (fun W => hasherOf_calls k W)
  rw [← hs] at C0 CH hll ⊢
  generalize leafL s p = M at C0 hll ⊢
  have HL := Kp.mk hll
  clear hs hll hL hX hp
  go_enter Tryd.func14, Tryd.ntmps14
  go_upto_region 1 with (fail)
  obtain ⟨g4, hg4⟩ : ∃ g4, g4 = w.heap.size := ⟨_, rfl⟩
  obtain ⟨W1, hW1⟩ : ∃ W1, W1 = w.alloc (.cells #[.int .u8 0, .int .u8 0, .int .u8 0, .int .u8 0, .int .u8 0, .int .u8 0, .int .u8 0, .int .u8 0, .int .u8 0, .int .u8 0, .int .u8 0, .int .u8 0, .int .u8 0, .int .u8 0, .int .u8 0, .int .u8 0, .int .u8 0, .int .u8 0, .int .u8 0, .int .u8 0, .int .u8 0, .int .u8 0, .int .u8 0, .int .u8 0, .int .u8 0, .int .u8 0, .int .u8 0, .int .u8 0, .int .u8 0, .int .u8 0, .int .u8 0, .int .u8 0] 29) := ⟨_, rfl⟩
  have H4 : Kp (Blk W1 g4 29 [.int .u8 0, .int .u8 0, .int .u8 0, .int .u8 0, .int .u8 0, .int .u8 0, .int .u8 0, .int .u8 0, .int .u8 0, .int .u8 0, .int .u8 0, .int .u8 0, .int .u8 0, .int .u8 0, .int .u8 0, .int .u8 0, .int .u8 0, .int .u8 0, .int .u8 0, .int .u8 0, .int .u8 0, .int .u8 0, .int .u8 0, .int .u8 0, .int .u8 0, .int .u8 0, .int .u8 0, .int .u8 0, .int .u8 0, .int .u8 0, .int .u8 0, .int .u8 0]) := ⟨by rw [hW1, hg4]; exact Blk.new w _ _⟩
  have HF1 : Kp (Fr (fun _ => False) w W1) := ⟨by rw [hW1]; exact (Fr.refl _ w).alloc _⟩
  have HG : Kp (w.heap.size ≤ g4) := ⟨by omega⟩
  rw [← hg4, ← hW1]
  clear hg4 hW1
  go_wp2_with fail
  refine (CH.out W1).mono ?_
  rintro e W2 ⟨gk, go, rfl, hH, hk, ho, hf⟩
  have HH := Kp.mk hH
  have HF2 := Kp.mk (HF1.out.trans hf (fun _ _ h => h))
  have H42 := Kp.mk (H4.out.fr hf (fun h => h))
  clear hH hk ho hf HF1 H4
  have hfd := fun W => field2 W gk go s
  generalize hasherV gk go s = HV at hfd ⊢
  go_wp2_with fail
  refine (C0.out gk go W2 HF2.out HH.out).mono ?_
  rintro e W3 ⟨rfl, hf⟩
  have HF3 := Kp.mk (HF2.out.trans hf (fun _ _ h => h))
  have H43 := Kp.mk (H42.out.fr hf (fun h => h))
  clear hf HF2 H42 HH
  have hi32 : (Tryd.prog.info? 29).map (·.size) = some 32 := by kernel_rfl
  have hsz : (bytes M).toArray.size = 32 := by simp [bytes, HL.out]
  have hone := bytes_ones M
  have H4h := Kp.mk (show W3.heap[g4]? = some (.cells #[.int .u8 0, .int .u8 0, .int .u8 0, .int .u8 0, .int .u8 0, .int .u8 0, .int .u8 0, .int .u8 0, .int .u8 0, .int .u8 0, .int .u8 0, .int .u8 0, .int .u8 0, .int .u8 0, .int .u8 0, .int .u8 0, .int .u8 0, .int .u8 0, .int .u8 0, .int .u8 0, .int .u8 0, .int .u8 0, .int .u8 0, .int .u8 0, .int .u8 0, .int .u8 0, .int .u8 0, .int .u8 0, .int .u8 0, .int .u8 0, .int .u8 0, .int .u8 0] 29 (0, 0)) from H43.out)
  go_wp2_with (refine wpList_store_row rfl 29 _ _ rfl g4 (bytes M).toArray rfl rfl 29 #[.int .u8 0, .int .u8 0, .int .u8 0, .int .u8 0, .int .u8 0, .int .u8 0, .int .u8 0, .int .u8 0, .int .u8 0, .int .u8 0, .int .u8 0, .int .u8 0, .int .u8 0, .int .u8 0, .int .u8 0, .int .u8 0, .int .u8 0, .int .u8 0, .int .u8 0, .int .u8 0, .int .u8 0, .int .u8 0, .int .u8 0, .int .u8 0, .int .u8 0, .int .u8 0, .int .u8 0, .int .u8 0, .int .u8 0, .int .u8 0, .int .u8 0, .int .u8 0] (by exact H4h.out) (by rw [hsz]; exact hi32) (by rw [hsz]; rfl) hone ?_)
  refine bodyPost_ret (results_cell_row rfl _ _ g4 29 _ (0, 0) _ rfl (setRow_heap _ g4 _ _ _ _ H4h.out) Tryd.underlying29 rfl (by rw [hsz]; exact hi32)) rfl ?_
  refine ⟨rfl, ?_⟩
  exact HF3.out.trans (S' := fun q => q = g4) ⟨rfl, rfl, rfl, by simp [World.setRow], fun q _ hq => setRow_other _ _ q _ hq⟩ (fun q hq he => by have := HG.out; omega)
end Go.Proofs.YtjcmgpiapbeodaaDoor.Sha
namespace Go.Proofs.YtjcmgpiapbeodaaDoor.Sha
open Go.RowKit Go.Proofs.YtjcmgpiapbeodaaDoor.Mem Go.Proofs.YtjcmgpiapbeodaaDoorW.PrintWords
attribute [local go_sem ↓] Go.wp_at_zero Go.wp_at_succ wp_load_hash wp_store_hash
attribute [local go_sem] rowAt_drew rowOk_drew rowBlock rowCells
set_option maxHeartbeats 2000000 in
set_option maxRecDepth 100000 in
theorem nodeHash_calls (k : Int) (l r : List Int) (hl : l.length = 32) (hr : r.length = 32) (w : World) (hL : Laid w) :
    Calls Tryd.prog 15 #[.int .i64 k, .agg (bytes l).toArray, .agg (bytes r).toArray] w fun e w' => e = .returned (.agg (bytes (nodeL (strength k) l r)).toArray) ∧ Fr (fun _ => False) w w' := by
  have hll : (nodeL (strength k) l r).length = 32 := ofL_len _ _ (strength_le k)
  have C0 : Kp (∀ gk go W, Fr (fun _ => False) w W → Hs W gk go (strength k) → Calls Tryd.prog 71 #[.agg (bytes l).toArray, .agg (bytes r).toArray, .pointer (some ⟨go, 0, none⟩)] W fun e w' => e = .returned (.agg (bytes (nodeL (strength k) l r)).toArray) ∧ Fr (fun _ => False) W w') :=
    ⟨fun gk go W hf hH => node_calls l r hl hr gk go (strength k) W (hL.fr hf (fun _ h => h.elim)) hH⟩
  obtain ⟨s, hs⟩ : ∃ s, s = strength k := ⟨_, rfl⟩
  have CH := Kp.mk (fun W => hasherOf_calls k W)
  rw [← hs] at C0 CH hll ⊢
  generalize nodeL s l r = M at C0 hll ⊢
  have HL := Kp.mk hll
  have hbl1 : (bytes l).length = 32 := by rw [bytes_length, hl]
  have hbl2 : (bytes r).length = 32 := by rw [bytes_length, hr]
  generalize bytes l = lv at C0 hbl1 ⊢
  generalize bytes r = rv at C0 hbl2 ⊢
  clear hs hll hL hl hr l r
  go_enter Tryd.func15, Tryd.ntmps15
  go_upto_region 1 with (fail)
  obtain ⟨g4, hg4⟩ : ∃ g4, g4 = w.heap.size := ⟨_, rfl⟩
  obtain ⟨g5, hg5⟩ : ∃ g5, g5 = w.heap.size + 1 := ⟨_, rfl⟩
  obtain ⟨g6, hg6⟩ : ∃ g6, g6 = w.heap.size + 1 + 1 := ⟨_, rfl⟩
  rw [← hg6, ← hg5, ← hg4]
  obtain ⟨W1, hW1⟩ : ∃ W1, W1 = ((w.alloc (.cells lv.toArray 29)).alloc (.cells rv.toArray 29)).alloc (.cells #[.int .u8 0, .int .u8 0, .int .u8 0, .int .u8 0, .int .u8 0, .int .u8 0, .int .u8 0, .int .u8 0, .int .u8 0, .int .u8 0, .int .u8 0, .int .u8 0, .int .u8 0, .int .u8 0, .int .u8 0, .int .u8 0, .int .u8 0, .int .u8 0, .int .u8 0, .int .u8 0, .int .u8 0, .int .u8 0, .int .u8 0, .int .u8 0, .int .u8 0, .int .u8 0, .int .u8 0, .int .u8 0, .int .u8 0, .int .u8 0, .int .u8 0, .int .u8 0] 29) := ⟨_, rfl⟩
  have H4 : Kp (Blk W1 g4 29 lv) := ⟨by rw [hW1, hg4]; exact ((Blk.new w lv.toArray _).alloc _).alloc _⟩
  have H5 : Kp (Blk W1 g5 29 rv) := ⟨by rw [hW1, hg5]; exact (Blk.new' (w.alloc (.cells lv.toArray 29)) rv.toArray _ (by simp)).alloc _⟩
  have H6 : Kp (Blk W1 g6 29 [.int .u8 0, .int .u8 0, .int .u8 0, .int .u8 0, .int .u8 0, .int .u8 0, .int .u8 0, .int .u8 0, .int .u8 0, .int .u8 0, .int .u8 0, .int .u8 0, .int .u8 0, .int .u8 0, .int .u8 0, .int .u8 0, .int .u8 0, .int .u8 0, .int .u8 0, .int .u8 0, .int .u8 0, .int .u8 0, .int .u8 0, .int .u8 0, .int .u8 0, .int .u8 0, .int .u8 0, .int .u8 0, .int .u8 0, .int .u8 0, .int .u8 0, .int .u8 0]) := ⟨by rw [hW1, hg6]; exact Blk.new' _ _ _ (by simp)⟩
  have HF1 : Kp (Fr (fun _ => False) w W1) := ⟨by rw [hW1]; exact (((Fr.refl _ w).alloc _).alloc _).alloc _⟩
  have HG : Kp (w.heap.size ≤ g6 ∧ g4 ≠ g6 ∧ g5 ≠ g6) := ⟨by omega⟩
  rw [← hW1]
  clear hW1 hg4 hg5 hg6
  have hi32 : (Tryd.prog.info? 29).map (·.size) = some 32 := by kernel_rfl
  have Z4 : Kp ((Tryd.prog.info? 29).map (·.size) = some lv.length) := ⟨by rw [hbl1]; exact hi32⟩
  have Z5 : Kp ((Tryd.prog.info? 29).map (·.size) = some rv.length) := ⟨by rw [hbl2]; exact hi32⟩
  have Z6 : Kp ((Tryd.prog.info? 29).map (·.size) = some ([.int .u8 0, .int .u8 0, .int .u8 0, .int .u8 0, .int .u8 0, .int .u8 0, .int .u8 0, .int .u8 0, .int .u8 0, .int .u8 0, .int .u8 0, .int .u8 0, .int .u8 0, .int .u8 0, .int .u8 0, .int .u8 0, .int .u8 0, .int .u8 0, .int .u8 0, .int .u8 0, .int .u8 0, .int .u8 0, .int .u8 0, .int .u8 0, .int .u8 0, .int .u8 0, .int .u8 0, .int .u8 0, .int .u8 0, .int .u8 0, .int .u8 0, .int .u8 0] : List Value).length) := ⟨hi32⟩
  have hMok := hashOk_bytes M HL.out
  have ok4 := rowOk_blk H4.out Z4.out
  have ok5 := rowOk_blk H5.out Z5.out
  have at4 := rowAt_blk H4.out
  have at5 := rowAt_blk H5.out
  clear hi32
  go_region_with (first
    | (go_at_call 41; (refine (CH.out _).mono ?_); rintro e' W2 ⟨gk, go, rfl, hH, hk, ho, hf⟩; have hfa : Fr (fun _ => False) W1 W2 := ((Fr.refl (fun _ => False) W1).drew).trans hf (fun _ _ h => h); have HH := Kp.mk hH; have HF2 := Kp.mk (HF1.out.trans hfa (fun _ _ h => h)); have H42 := Kp.mk (H4.out.fr hfa (fun h => h)); have H52 := Kp.mk (H5.out.fr hfa (fun h => h)); have H62 := Kp.mk (H6.out.fr hfa (fun h => h)); have ok42 := rowOk_blk H42.out Z4.out; have ok52 := rowOk_blk H52.out Z5.out; have at42 := rowAt_blk H42.out; have at52 := rowAt_blk H52.out; have hfd := fun W => field3 W gk go s; generalize hasherV gk go s = HV at hfd ⊢; clear hH hk ho hf hfa)
    | (go_at_call 71; (refine (C0.out gk go W2 HF2.out HH.out).mono ?_); rintro e' W3 ⟨rfl, hf⟩; have HF3 := Kp.mk (HF2.out.trans hf (fun _ _ h => h)); have H63 := Kp.mk (H62.out.fr hf (fun h => h)); have hrow := rowOk_blk H63.out Z6.out; clear hf))
  all_goals
    go_wp2
    refine bodyPost_ret (results_cell_row rfl _ _ g6 29 _ (0, 0) _ rfl (setRow_heap _ g6 _ _ _ _ (show W3.heap[g6]? = _ from H63.out)) Tryd.underlying29 rfl (by rw [show (bytes M).toArray.size = 32 by simp [bytes, HL.out]]; kernel_rfl)) rfl ?_
    refine ⟨rfl, ?_⟩
    exact HF3.out.trans (S' := fun q => q = g6) ⟨rfl, rfl, rfl, by simp [World.setRow], fun q _ hq => setRow_other _ _ q _ hq⟩ (fun q hq he => by have := HG.out.1; omega)
end Go.Proofs.YtjcmgpiapbeodaaDoor.Sha
