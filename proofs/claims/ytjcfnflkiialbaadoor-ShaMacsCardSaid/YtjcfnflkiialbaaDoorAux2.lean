/-
  The law's sum, for either kind; small facts for the laws of chapter 1.
-/
import Derived.Test.YtjcfnflkiialbaaDoorAux1
namespace Go.Proofs.YtjcfnflkiialbaaDoor.Sha.A32
open Go.RowKit Go.Proofs.YtjcfnflkiialbaaDoor.Mem Go.Proofs.YtjcfnflkiialbaaDoorW.PrintWords
set_option maxHeartbeats 4000000 in
set_option maxRecDepth 100000 in
theorem list_calls (A : Option Addr) (cp : Nat) (p : List Int) (w : World) (hL : Laid w) (hX : Src w (fun _ => False) A cp p) (hmax : p.length ≤ maxCount) :
    Calls Tryd.prog 32 #[.int .i64 256, .slice A p.length cp] w fun e w' => ∃ v, e = .returned v ∧ Own w' w.heap.size v (hash false p) ∧ Below w.heap.size w w' := by
  have HC := Kp.mk (F32.hash_calls A cp p w hL hX hmax)
  have hlen := hash_length false p
  generalize hash false p = h at HC hlen
  simp only [out] at hlen
  have z1 := Kp.mk (size32 h hlen)
  have HLEN := Kp.mk hlen
  clear hlen hL hX
  go_enter Tryd.func32, Tryd.ntmps32
  go_wp2_with fail
  refine HC.out.mono ?_
  rintro e w1 ⟨rfl, B1⟩
  have F1 : Kp (Fr (fun _ => False) w w1) := ⟨Fr.of_below B1 _⟩
  clear B1
  go_wp2_with (first | (refine wpList_store_row rfl 41 _ _ rfl w1.heap.size (bytes h).toArray rfl rfl 41 (List.replicate 32 (Value.int .u8 0)).toArray (heap_alloc_new w1 _) z1.out.1 z1.out.2 (bytes_one h) ?_; generalize hW : (World.setRow _ w1.heap.size (bytes h).toArray) = v1; have FV : Kp (Fr (fun _ => False) w v1) := ⟨by rw [← hW]; exact fr_row F1.out _ _⟩; have BV : Kp (Blk v1 w1.heap.size 41 (bytes h)) := ⟨by rw [← hW]; exact blk_row w1 _ _ _⟩; clear hW; generalize w1.heap.size = b1 at BV ⊢))
  have O0 : Kp (v1.ownsRow w.heap.size 5 1 (.slice none 0 0) 0 (bytes (h.take 0))) := ⟨⟨rfl, .inl ⟨rfl, rfl⟩⟩⟩
  go_loopw [5, 7] (fun s5 si wr => ∃ (i : Nat) (A : Option Addr) (c : Nat), s5 = .slice A i c ∧ si = .int .i64 (i : Int) ∧ Kp (i ≤ 32) ∧ Kp (wr.ownsRow w.heap.size 5 1 (.slice A i c) i (bytes (h.take i))) ∧ Kp (Blk wr b1 41 (bytes h)) ∧ Kp (Fr (fun _ => False) w wr)) (fun _ si _ => 32 - (intOf si).toNat)
  case atStart => exact ⟨0, none, 0, rfl, rfl, ⟨Nat.zero_le _⟩, O0, BV, FV⟩
  case round =>
    clear O0 BV FV
    obtain ⟨i, A1, c1, rfl, rfl, G1, HO, HBk, HF⟩ := hrel
    have hi := G1.out
    by_cases hlt : i < 32
    · have hil : i < h.length := by have := HLEN.out; omega
      have hc := HBk.out.cell i (.int .u8 (h.getD i 0)) (bytes_get h i hil)
      have htl : Kp ((h.take i).length = i) := ⟨by simp; omega⟩
      have hst : Kp (h.take i ++ [h.getD i 0] = h.take (i + 1)) := ⟨by rw [List.take_succ_eq_append_getElem hil]; simp [hil]⟩
      have hst2 : Kp ((h.take (i + 1)).length = i + 1) := ⟨by simp; omega⟩
      have HOx : Kp (wr.ownsRow w.heap.size 5 1 (.slice A1 i c1) (h.take i).length (bytes (h.take i))) := ⟨by rw [htl.out]; exact HO.out⟩
      clear hil
      generalize h.getD i 0 = x at hc hst
      generalize h.take i = hi1 at htl hst HOx
      clear HO
      go_wp2_with (at_builtin; refine wpList_appendS rfl _ _ rfl rfl w.heap.size (.slice A1 i c1) hi1 rfl (by exact own_keep HOx.out ((Fr.refl (fun _ => False) wr).alloc _) (fun _ _ h => h)) (some ⟨wr.heap.size, 0, none⟩) 1 1 [x] rfl rfl (by exact src_new wr [x] 5 1 (Nat.le_refl _)) (by rw [htl.out]; simp only [List.length_cons, List.length_nil]; omega) (by exact (HF.out.alloc (.cells #[.int .u8 x] 5)).size) ?_; intro v5 w5 hown hgr hat; obtain ⟨g5, cp5, hv, _⟩ := own_form hown (by simp); subst hv; obtain ⟨hF, hE⟩ := app_step (HF.out.alloc (.cells #[.int .u8 x] 5)) (by exact own_keep HOx.out ((Fr.refl (fun _ => False) wr).alloc _) (fun _ _ h => h)) (HBk.out.alloc _) (by decide) hgr; have HO5 := Kp.mk hown; have HF5 := Kp.mk hF; have HE5 := Kp.mk hE; clear hown hgr hat hF hE)
      go_roundw
      case rel =>
        refine ⟨i + 1, (some ⟨g5, 0, none⟩), cp5, ?_, by go_num, ⟨hlt⟩, ⟨?_⟩, HE5, HF5⟩
        · congr 1; have := htl.out; omega
        · have hh := HO5.out
          rw [hst.out, hst2.out] at hh
          exact hh
      case measure => simp [intOf]; omega
    · obtain rfl : i = 32 := by omega
      have hfull : Kp (h.take 32 = h) := ⟨List.take_of_length_le (by rw [HLEN.out]; exact Nat.le_refl _)⟩
      go_wp2
      go_ret
      refine ⟨_, rfl, ?_, HF.out.below (fun _ _ h => h)⟩
      have hh := HO.out
      rw [hfull.out] at hh
      show World.ownsRow _ _ _ _ _ h.length _
      rw [HLEN.out]
      exact hh
end Go.Proofs.YtjcfnflkiialbaaDoor.Sha.A32
namespace Go.Proofs.YtjcfnflkiialbaaDoor.Sha.A64
open Go.RowKit Go.Proofs.YtjcfnflkiialbaaDoor.Mem Go.Proofs.YtjcfnflkiialbaaDoorW.PrintWords
set_option maxHeartbeats 4000000 in
set_option maxRecDepth 100000 in
theorem list_calls (A : Option Addr) (cp : Nat) (p : List Int) (w : World) (hL : Laid w) (hX : Src w (fun _ => False) A cp p) (hmax : p.length ≤ maxCount) :
    Calls Tryd.prog 32 #[.int .i64 512, .slice A p.length cp] w fun e w' => ∃ v, e = .returned v ∧ Own w' w.heap.size v (hash true p) ∧ Below w.heap.size w w' := by
  have HC := Kp.mk (F64.hash_calls A cp p w hL hX hmax)
  have hlen := hash_length true p
  generalize hash true p = h at HC hlen
  simp only [out] at hlen
  have z1 := Kp.mk (size64 h hlen)
  have HLEN := Kp.mk hlen
  clear hlen hL hX
  go_enter Tryd.func32, Tryd.ntmps32
  go_wp2_with fail
  refine HC.out.mono ?_
  rintro e w1 ⟨rfl, B1⟩
  have F1 : Kp (Fr (fun _ => False) w w1) := ⟨Fr.of_below B1 _⟩
  clear B1
  go_wp2_with (first | (refine wpList_store_row rfl 43 _ _ rfl w1.heap.size (bytes h).toArray rfl rfl 43 (List.replicate 64 (Value.int .u8 0)).toArray (heap_alloc_new w1 _) z1.out.1 z1.out.2 (bytes_one h) ?_; generalize hW : (World.setRow _ w1.heap.size (bytes h).toArray) = v1; have FV : Kp (Fr (fun _ => False) w v1) := ⟨by rw [← hW]; exact fr_row F1.out _ _⟩; have BV : Kp (Blk v1 w1.heap.size 43 (bytes h)) := ⟨by rw [← hW]; exact blk_row w1 _ _ _⟩; clear hW; generalize w1.heap.size = b1 at BV ⊢))
  have O0 : Kp (v1.ownsRow w.heap.size 5 1 (.slice none 0 0) 0 (bytes (h.take 0))) := ⟨⟨rfl, .inl ⟨rfl, rfl⟩⟩⟩
  go_loopw [5, 9] (fun s5 si wr => ∃ (i : Nat) (A : Option Addr) (c : Nat), s5 = .slice A i c ∧ si = .int .i64 (i : Int) ∧ Kp (i ≤ 64) ∧ Kp (wr.ownsRow w.heap.size 5 1 (.slice A i c) i (bytes (h.take i))) ∧ Kp (Blk wr b1 43 (bytes h)) ∧ Kp (Fr (fun _ => False) w wr)) (fun _ si _ => 64 - (intOf si).toNat)
  case atStart => exact ⟨0, none, 0, rfl, rfl, ⟨Nat.zero_le _⟩, O0, BV, FV⟩
  case round =>
    clear O0 BV FV
    obtain ⟨i, A1, c1, rfl, rfl, G1, HO, HBk, HF⟩ := hrel
    have hi := G1.out
    by_cases hlt : i < 64
    · have hil : i < h.length := by have := HLEN.out; omega
      have hc := HBk.out.cell i (.int .u8 (h.getD i 0)) (bytes_get h i hil)
      have htl : Kp ((h.take i).length = i) := ⟨by simp; omega⟩
      have hst : Kp (h.take i ++ [h.getD i 0] = h.take (i + 1)) := ⟨by rw [List.take_succ_eq_append_getElem hil]; simp [hil]⟩
      have hst2 : Kp ((h.take (i + 1)).length = i + 1) := ⟨by simp; omega⟩
      have HOx : Kp (wr.ownsRow w.heap.size 5 1 (.slice A1 i c1) (h.take i).length (bytes (h.take i))) := ⟨by rw [htl.out]; exact HO.out⟩
      clear hil
      generalize h.getD i 0 = x at hc hst
      generalize h.take i = hi1 at htl hst HOx
      clear HO
      go_wp2_with (at_builtin; refine wpList_appendS rfl _ _ rfl rfl w.heap.size (.slice A1 i c1) hi1 rfl (by exact own_keep HOx.out ((Fr.refl (fun _ => False) wr).alloc _) (fun _ _ h => h)) (some ⟨wr.heap.size, 0, none⟩) 1 1 [x] rfl rfl (by exact src_new wr [x] 5 1 (Nat.le_refl _)) (by rw [htl.out]; simp only [List.length_cons, List.length_nil]; omega) (by exact (HF.out.alloc (.cells #[.int .u8 x] 5)).size) ?_; intro v5 w5 hown hgr hat; obtain ⟨g5, cp5, hv, _⟩ := own_form hown (by simp); subst hv; obtain ⟨hF, hE⟩ := app_step (HF.out.alloc (.cells #[.int .u8 x] 5)) (by exact own_keep HOx.out ((Fr.refl (fun _ => False) wr).alloc _) (fun _ _ h => h)) (HBk.out.alloc _) (by decide) hgr; have HO5 := Kp.mk hown; have HF5 := Kp.mk hF; have HE5 := Kp.mk hE; clear hown hgr hat hF hE)
      go_roundw
      case rel =>
        refine ⟨i + 1, (some ⟨g5, 0, none⟩), cp5, ?_, by go_num, ⟨hlt⟩, ⟨?_⟩, HE5, HF5⟩
        · congr 1; have := htl.out; omega
        · have hh := HO5.out
          rw [hst.out, hst2.out] at hh
          exact hh
      case measure => simp [intOf]; omega
    · obtain rfl : i = 64 := by omega
      have hfull : Kp (h.take 64 = h) := ⟨List.take_of_length_le (by rw [HLEN.out]; exact Nat.le_refl _)⟩
      go_wp2
      go_ret
      refine ⟨_, rfl, ?_, HF.out.below (fun _ _ h => h)⟩
      have hh := HO.out
      rw [hfull.out] at hh
      show World.ownsRow _ _ _ _ _ h.length _
      rw [HLEN.out]
      exact hh
end Go.Proofs.YtjcfnflkiialbaaDoor.Sha.A64
namespace Go.Proofs.YtjcfnflkiialbaaDoor.Sha
open Go.RowKit Go.Proofs.YtjcfnflkiialbaaDoor.Mem Go.Proofs.YtjcfnflkiialbaaDoorW.PrintWords Go.Proofs.YtjcfnflkiialbaaDoor.PShaConstants
theorem same_l0 (l : List Int) (hl : l.length ≤ 1000000) : ∀ n i : Nat, i + n = l.length → ledgerlaw01_same.l0 (n + 1) l l (i : Int) = some true
  | 0, i, h => by rw [ledgerlaw01_same.l0, if_neg (by omega)]
  | n + 1, i, h => by
    rw [ledgerlaw01_same.l0, if_pos (by omega), if_pos (by omega), if_pos (by omega), if_pos rfl, show wrap64 ((i : Int) + 1) = ((i + 1 : Nat) : Int) from by unfold wrap64; omega]
    exact same_l0 l hl n (i + 1) (by omega)
theorem same_f (l : List Int) (hl : l.length ≤ 1000000) : ledgerlaw01_same.f (l.length + 1) l l = some true := by
  unfold ledgerlaw01_same.f
  rw [if_pos rfl]
  exact same_l0 l hl l.length 0 (by omega)
theorem own_C {w : World} {base : Nat} {v : Value} {xs : List Int} (h : w.ownsRow base 5 1 v xs.length (bytes xs)) : ∃ A c, v = .slice A xs.length c ∧ xs.length ≤ c ∧ Kd.C (Kd.int .u8) w A xs.length xs := by
  have hr : Kd.R (Kd.int .u8) 5 w base (fun _ => True) v xs := Kd.R_of_own h (fun _ _ => trivial)
  exact Kd.R_reads hr
theorem same_calls (w : World) (b1 b2 : Nat) (v1 v2 : Value) (xs : List Int) (hl : xs.length ≤ 1000000) (h1 : Own w b1 v1 xs) (h2 : Own w b2 v2 xs) :
    Calls Tryd.prog 17 #[v1, v2] w fun e w' => e = .returned (.bool true) ∧ Below w.heap.size w w' := by
  obtain ⟨A1, c1, rfl, hc1, hC1⟩ := own_C h1
  obtain ⟨A2, c2, rfl, hc2, hC2⟩ := own_C h2
  refine (ledgerlaw01_same.calls (xs.length + 1) A1 c1 xs A2 c2 xs true w hC1 hc1 hC2 hc2 (same_f xs hl)).mono ?_
  rintro e w' ⟨rfl, h⟩
  exact ⟨rfl, h.below⟩
theorem own_below {w w' : World} {base : Nat} {v : Value} {xs : List Int} (h : Own w base v xs) (hb : Below w.heap.size w w') : Own w' base v xs := own_keep h (Fr.of_below hb (fun _ => False)) (fun _ _ h => h)
theorem num_calls (n : Int) (w : World) : Calls Tryd.prog 16 #[.int .i64 n] w fun e w' => e = .returned (.int .i64 n) ∧ w' = w := by
  go_enter Tryd.func16, Tryd.ntmps16
  go_wp2
  go_ret
  exact ⟨rfl, rfl⟩
theorem kindOf_calls (n : Int) (w : World) : Calls Tryd.prog 29 #[.int .i64 n] w fun e w' => ∃ B : Bool, e = .returned (.int .i64 (kind B : Nat)) ∧ w' = w := by
  by_cases h : n.tmod 2 = 0
  · go_enter Tryd.func29, Tryd.ntmps29
    go_wp2
    go_ret
    exact ⟨false, rfl, rfl⟩
  · go_enter Tryd.func29, Tryd.ntmps29
    go_wp2
    go_ret
    exact ⟨true, rfl, rfl⟩
theorem list_calls (B : Bool) (A : Option Addr) (cp : Nat) (p : List Int) (w : World) (hL : Laid w) (hX : Src w (fun _ => False) A cp p) (hmax : p.length ≤ maxCount) :
    Calls Tryd.prog 32 #[.int .i64 (kind B : Nat), .slice A p.length cp] w fun e w' => ∃ v, e = .returned v ∧ Own w' w.heap.size v (hash B p) ∧ Below w.heap.size w w' := by
  cases B
  · exact A32.list_calls A cp p w hL hX hmax
  · exact A64.list_calls A cp p w hL hX hmax
theorem hash_small (B : Bool) (p : List Int) : (hash B p).length ≤ 1000000 := by
  rw [hash_length]; cases B <;> decide
theorem cnt_of (B : Bool) (p : List Int) (h : p.length ≤ maxCount) : ((St.new B).write p).cnt = p.length := by
  unfold St.write
  rw [if_pos (by show 0 + p.length ≤ maxCount; omega)]
  show 0 + p.length = p.length
  omega
theorem Src.cut {w : World} {S : Nat → Prop} {A : Option Addr} {c : Nat} {p : List Int} (h : Src w S A c p) (n : Nat) : Src w S A c (p.take n) := by
  refine ⟨Nat.le_trans (by rw [List.length_take]; omega) h.1, ?_⟩
  rcases h.2 with ⟨h1, h2, h3⟩ | ⟨h1, h2⟩ | ⟨bs, os, h1, h2, h3⟩
  · exact .inl ⟨h1, h2, by rw [h3, List.take_nil]⟩
  · exact .inr (.inl ⟨by rw [h1, List.take_nil], h2⟩)
  · exact .inr (.inr ⟨bs, os, h1, h2.take n, h3⟩)
end Go.Proofs.YtjcfnflkiialbaaDoor.Sha
