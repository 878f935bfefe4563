/-
  The walk of load for words of 32 bits. The walk of load for words of 64 bits. A digest in memory, the program's tables, and the walks of block and mix.
-/
import Derived.Test.YtjcmgpiapbeodaaDoorShaState
import Derived.Test.YtjcmgpiapbeodaaDoorComp64
import Derived.Deep.RegionWith
import Derived.Deep.AppendLies
namespace Go.Proofs.YtjcmgpiapbeodaaDoor.Sha.L32
open Go.RowKit Go.Proofs.YtjcmgpiapbeodaaDoor.Mem
theorem conv (b : Int) : (b % 4294967296) = ((BitVec.ofInt 32 b).toNat : Int) := by rw [BitVec.toNat_ofInt]; omega
theorem step_is (x : BitVec 32) (b : Int) : bits .or .u32 ((x.toNat : Int) * (256 : Int) % (4294967296 : Int)) (b % 4294967296) = ((x <<< 8 ||| BitVec.ofInt 32 b).toNat : Int) := by
  have h : ((x.toNat : Int) * (256 : Int) % (4294967296 : Int)) = ((x <<< 8).toNat : Int) := by
    rw [BitVec.toNat_shiftLeft, Nat.shiftLeft_eq, Int.natCast_emod, Int.natCast_mul]; rfl
  rw [h, conv, or32]
theorem word_step {l : List Int} {j : Nat} (h : j < l.length) : (wordAt (l.take (j + 1)) : BitVec 32) = wordAt (l.take j) <<< 8 ||| BitVec.ofInt 32 (l.getD j 0) := by
  unfold wordAt
  rw [List.take_succ_eq_append_getElem h, List.foldl_append, List.foldl_cons, List.foldl_nil, List.getD_eq_getElem?_getD, List.getElem?_eq_getElem h]
  rfl
theorem wordsOf_succ (sz : Nat) (l : List Int) (n : Nat) : (wordsOf sz l (n + 1) : List (BitVec 32)) = wordsOf sz l n ++ [wordAt ((l.drop (n * sz)).take sz)] := by
  simp [wordsOf, List.range_succ]
theorem wordsOf_length (sz : Nat) (l : List Int) (n : Nat) : (wordsOf sz l n : List (BitVec 32)).length = n := by simp [wordsOf]
/-- what lies in the block behind k words -/
def into (pre old post : List Value) (xs : List Int) (k : Nat) : List Value := pre ++ ((wordsOf 4 xs k : List (BitVec 32)).map Sha.u32 ++ old.drop k) ++ post
theorem into_set (pre old post : List Value) (xs : List Int) (k : Nat) (h : k < old.length) :
    (into pre old post xs k).set (pre.length + k) (Sha.u32 (wordAt ((xs.drop (k * 4)).take 4))) = into pre old post xs (k + 1) := by
  unfold into
  rw [wordsOf_succ, List.append_assoc, List.append_assoc, List.set_append_right _ _ (by omega), Nat.add_sub_cancel_left, List.append_assoc, List.set_append_right _ _ (by simp [wordsOf_length]), List.drop_eq_getElem_cons h, List.length_map, wordsOf_length, Nat.sub_self, List.cons_append, List.set_cons_zero]
  simp
theorem into_get (pre old post : List Value) (xs : List Int) (k : Nat) (h : k < old.length) : (into pre old post xs k)[pre.length + k]? = old[k]? := by
  unfold into
  rw [List.append_assoc, List.getElem?_append_right (by omega), Nat.add_sub_cancel_left, List.append_assoc, List.getElem?_append_right (by simp [wordsOf_length]), List.getElem?_append_left (by simp [wordsOf_length]; omega), List.getElem?_drop]
  simp [wordsOf_length]
set_option maxHeartbeats 2000000 in
set_option maxRecDepth 100000 in
theorem load_calls (eD : TypeId) (bd off n cd bs os m c : Nat) (pre old post : List Value) (xs : List Int) (hoff : pre.length = off) (hold : old.length = n) (hold1 : ∀ v ∈ old, ∃ z, v = .int .u32 z) (hn : n ≤ 16) (hcd : n ≤ cd) (hm : 4 * n ≤ m) (hmc : m ≤ c)
    (hxs : 4 * n ≤ xs.length) (hne : bs ≠ bd) (w : World) (hD : Blk w bd eD (pre ++ old ++ post)) (hS : bs < w.heap.size) (hX : ∀ i, i < 4 * n → w.cell? ⟨bs, os + i, none⟩ = some (.int .u8 (xs.getD i 0))) :
    Calls Tryd.prog 94 #[.slice (some ⟨bd, off, none⟩) n cd, .slice (some ⟨bs, os, none⟩) m c, .int .i64 4] w fun e w' =>
      ∃ r, e = .returned r ∧ Blk w' bd eD (pre ++ (wordsOf 4 xs n : List (BitVec 32)).map Sha.u32 ++ post) ∧ Fr (fun k => k = bd) w w' := by
  have HD : Kp (Blk w bd eD (into pre old post xs 0)) := ⟨hD⟩
  have HX := Kp.mk hX
  have HO := Kp.mk hold1
  have HXS := Kp.mk hxs
  have HF : Kp (Fr (fun k => k = bd) w w) := ⟨Fr.refl _ _⟩
  clear hD hX hold1 hxs
  subst hold
  subst hoff
  go_enter Tryd.func94, Tryd.ntmps94
  go_wp2
  go_loopw [12] (fun i wr => ∃ k : Nat, i = .int .i64 (k : Int) ∧ Kp (k ≤ old.length) ∧ Kp (Blk wr bd eD (into pre old post xs k)) ∧ Kp (Fr (fun k => k = bd) w wr)) (fun i _ => old.length - (intOf i).toNat)
  case atStart => exact ⟨0, rfl, ⟨Nat.zero_le _⟩, HD, HF⟩
  case round =>
    clear HD HF
    obtain ⟨k, rfl, A1, HD, HF⟩ := hrel
    have hk := A1.out
    by_cases hlt : k < old.length
    · obtain ⟨z, hz⟩ := HO.out old[k] (List.getElem_mem hlt)
      have hcz := HD.out.cell (pre.length + k) (.int .u32 z) (by rw [into_get _ _ _ _ _ hlt, List.getElem?_eq_getElem hlt, hz])
      have hfz := HD.out.free (pre.length + k)
      have hby : Kp (∀ j, j < 4 → wr.cell? ⟨bs, os + k * 4 + j, none⟩ = some (.int .u8 (((xs.drop (k * 4)).take 4).getD j 0))) := ⟨fun j hj => by
        rw [Nat.add_assoc, World.cell?_of_block (HF.out.block bs hS hne), HX.out (k * 4 + j) (by omega)]
        simp [hj]⟩
      have hlen : ((xs.drop (k * 4)).take 4).length = 4 := by
        have := HXS.out
        simp; omega
      have hset : Kp ((into pre old post xs k).set (pre.length + k) (Sha.u32 (wordAt ((xs.drop (k * 4)).take 4))) = into pre old post xs (k + 1)) := ⟨into_set pre old post xs k hlt⟩
      have hsub : (k + 1) * 4 - k * 4 = 4 := by omega
      generalize (xs.drop (k * 4)).take 4 = l at *
      go_wp2
      go_loop [25, 7] (fun i x => ∃ j : Nat, i = .int .i64 (j : Int) ∧ Kp (j ≤ 4) ∧ x = .int .u32 (((wordAt (l.take j) : BitVec 32).toNat : Nat) : Int)) (fun i _ => 4 - (intOf i).toNat)
      case atStart => exact ⟨0, rfl, ⟨Nat.zero_le _⟩, rfl⟩
      case round =>
        obtain ⟨j, rfl, B1, rfl⟩ := hrel
        have hj := B1.out
        by_cases hjl : j < 4
        · have hcj := hby.out j hjl
          have hst : Kp ((wordAt (l.take (j + 1)) : BitVec 32) = wordAt (l.take j) <<< 8 ||| BitVec.ofInt 32 (l.getD j 0)) := ⟨word_step (by rw [hlen]; exact hjl)⟩
          generalize (wordAt (l.take j) : BitVec 32) = x at *
          generalize l.getD j 0 = y at *
          go_wp2
          go_roundw
          case rel => exact ⟨j + 1, by go_num, ⟨by omega⟩, by rw [hst.out, ← step_is]⟩
          case measure => simp [intOf]; omega
        · obtain rfl : j = 4 := by omega
          rw [List.take_of_length_le (by rw [hlen]; exact Nat.le_refl _)]
          go_wp2
          go_roundw
          case rel =>
            refine ⟨k + 1, by go_num, ⟨by omega⟩, ⟨?_⟩, ⟨HF.out.set (fun _ => rfl) _⟩⟩
            rw [← hset.out]
            exact HD.out.set _ _
          case measure => simp [intOf]; omega
    · obtain rfl : k = old.length := by omega
      have hfin : Kp (into pre old post xs old.length = pre ++ (wordsOf 4 xs old.length : List (BitVec 32)).map Sha.u32 ++ post) := ⟨by simp [into]⟩
      go_wp2
      go_end0
      exact ⟨_, rfl, by rw [← hfin.out]; exact HD.out, HF.out⟩
end Go.Proofs.YtjcmgpiapbeodaaDoor.Sha.L32
namespace Go.Proofs.YtjcmgpiapbeodaaDoor.Sha.L64
open Go.RowKit Go.Proofs.YtjcmgpiapbeodaaDoor.Mem
theorem conv (b : Int) : (IntKind.u64.wrap b) = ((BitVec.ofInt 64 b).toNat : Int) := by rw [wrap64u, BitVec.toNat_ofInt]; omega
theorem step_is (x : BitVec 64) (b : Int) : bits .or .u64 (IntKind.u64.wrap ((x.toNat : Int) * 256)) (IntKind.u64.wrap b) = ((x <<< 8 ||| BitVec.ofInt 64 b).toNat : Int) := by
  have h : (IntKind.u64.wrap ((x.toNat : Int) * 256)) = ((x <<< 8).toNat : Int) := by
    rw [wrap64u]; rw [BitVec.toNat_shiftLeft, Nat.shiftLeft_eq, Int.natCast_emod, Int.natCast_mul]; rfl
  rw [h, conv, or64]
theorem word_step {l : List Int} {j : Nat} (h : j < l.length) : (wordAt (l.take (j + 1)) : BitVec 64) = wordAt (l.take j) <<< 8 ||| BitVec.ofInt 64 (l.getD j 0) := by
  unfold wordAt
  rw [List.take_succ_eq_append_getElem h, List.foldl_append, List.foldl_cons, List.foldl_nil, List.getD_eq_getElem?_getD, List.getElem?_eq_getElem h]
  rfl
theorem wordsOf_succ (sz : Nat) (l : List Int) (n : Nat) : (wordsOf sz l (n + 1) : List (BitVec 64)) = wordsOf sz l n ++ [wordAt ((l.drop (n * sz)).take sz)] := by
  simp [wordsOf, List.range_succ]
theorem wordsOf_length (sz : Nat) (l : List Int) (n : Nat) : (wordsOf sz l n : List (BitVec 64)).length = n := by simp [wordsOf]
/-- what lies in the block behind k words -/
def into (pre old post : List Value) (xs : List Int) (k : Nat) : List Value := pre ++ ((wordsOf 8 xs k : List (BitVec 64)).map Sha.u64 ++ old.drop k) ++ post
theorem into_set (pre old post : List Value) (xs : List Int) (k : Nat) (h : k < old.length) :
    (into pre old post xs k).set (pre.length + k) (Sha.u64 (wordAt ((xs.drop (k * 8)).take 8))) = into pre old post xs (k + 1) := by
  unfold into
  rw [wordsOf_succ, List.append_assoc, List.append_assoc, List.set_append_right _ _ (by omega), Nat.add_sub_cancel_left, List.append_assoc, List.set_append_right _ _ (by simp [wordsOf_length]), List.drop_eq_getElem_cons h, List.length_map, wordsOf_length, Nat.sub_self, List.cons_append, List.set_cons_zero]
  simp
theorem into_get (pre old post : List Value) (xs : List Int) (k : Nat) (h : k < old.length) : (into pre old post xs k)[pre.length + k]? = old[k]? := by
  unfold into
  rw [List.append_assoc, List.getElem?_append_right (by omega), Nat.add_sub_cancel_left, List.append_assoc, List.getElem?_append_right (by simp [wordsOf_length]), List.getElem?_append_left (by simp [wordsOf_length]; omega), List.getElem?_drop]
  simp [wordsOf_length]
set_option maxHeartbeats 2000000 in
set_option maxRecDepth 100000 in
theorem load_calls (eD : TypeId) (bd off n cd bs os m c : Nat) (pre old post : List Value) (xs : List Int) (hoff : pre.length = off) (hold : old.length = n) (hold1 : ∀ v ∈ old, ∃ z, v = .int .u64 z) (hn : n ≤ 16) (hcd : n ≤ cd) (hm : 8 * n ≤ m) (hmc : m ≤ c)
    (hxs : 8 * n ≤ xs.length) (hne : bs ≠ bd) (w : World) (hD : Blk w bd eD (pre ++ old ++ post)) (hS : bs < w.heap.size) (hX : ∀ i, i < 8 * n → w.cell? ⟨bs, os + i, none⟩ = some (.int .u8 (xs.getD i 0))) :
    Calls Tryd.prog 96 #[.slice (some ⟨bd, off, none⟩) n cd, .slice (some ⟨bs, os, none⟩) m c, .int .i64 8] w fun e w' =>
      ∃ r, e = .returned r ∧ Blk w' bd eD (pre ++ (wordsOf 8 xs n : List (BitVec 64)).map Sha.u64 ++ post) ∧ Fr (fun k => k = bd) w w' := by
  have HD : Kp (Blk w bd eD (into pre old post xs 0)) := ⟨hD⟩
  have HX := Kp.mk hX
  have HO := Kp.mk hold1
  have HXS := Kp.mk hxs
  have HF : Kp (Fr (fun k => k = bd) w w) := ⟨Fr.refl _ _⟩
  clear hD hX hold1 hxs
  subst hold
  subst hoff
  go_enter Tryd.func96, Tryd.ntmps96
  go_wp2
  go_loopw [12] (fun i wr => ∃ k : Nat, i = .int .i64 (k : Int) ∧ Kp (k ≤ old.length) ∧ Kp (Blk wr bd eD (into pre old post xs k)) ∧ Kp (Fr (fun k => k = bd) w wr)) (fun i _ => old.length - (intOf i).toNat)
  case atStart => exact ⟨0, rfl, ⟨Nat.zero_le _⟩, HD, HF⟩
  case round =>
    clear HD HF
    obtain ⟨k, rfl, A1, HD, HF⟩ := hrel
    have hk := A1.out
    by_cases hlt : k < old.length
    · obtain ⟨z, hz⟩ := HO.out old[k] (List.getElem_mem hlt)
      have hcz := HD.out.cell (pre.length + k) (.int .u64 z) (by rw [into_get _ _ _ _ _ hlt, List.getElem?_eq_getElem hlt, hz])
      have hfz := HD.out.free (pre.length + k)
      have hby : Kp (∀ j, j < 8 → wr.cell? ⟨bs, os + k * 8 + j, none⟩ = some (.int .u8 (((xs.drop (k * 8)).take 8).getD j 0))) := ⟨fun j hj => by
        rw [Nat.add_assoc, World.cell?_of_block (HF.out.block bs hS hne), HX.out (k * 8 + j) (by omega)]
        simp [hj]⟩
      have hlen : ((xs.drop (k * 8)).take 8).length = 8 := by
        have := HXS.out
        simp; omega
      have hset : Kp ((into pre old post xs k).set (pre.length + k) (Sha.u64 (wordAt ((xs.drop (k * 8)).take 8))) = into pre old post xs (k + 1)) := ⟨into_set pre old post xs k hlt⟩
      have hsub : (k + 1) * 8 - k * 8 = 8 := by omega
      generalize (xs.drop (k * 8)).take 8 = l at *
      go_wp2
      go_loop [25, 7] (fun i x => ∃ j : Nat, i = .int .i64 (j : Int) ∧ Kp (j ≤ 8) ∧ x = .int .u64 (((wordAt (l.take j) : BitVec 64).toNat : Nat) : Int)) (fun i _ => 8 - (intOf i).toNat)
      case atStart => exact ⟨0, rfl, ⟨Nat.zero_le _⟩, rfl⟩
      case round =>
        obtain ⟨j, rfl, B1, rfl⟩ := hrel
        have hj := B1.out
        by_cases hjl : j < 8
        · have hcj := hby.out j hjl
          have hst : Kp ((wordAt (l.take (j + 1)) : BitVec 64) = wordAt (l.take j) <<< 8 ||| BitVec.ofInt 64 (l.getD j 0)) := ⟨word_step (by rw [hlen]; exact hjl)⟩
          generalize (wordAt (l.take j) : BitVec 64) = x at *
          generalize l.getD j 0 = y at *
          go_wp2
          go_roundw
          case rel => exact ⟨j + 1, by go_num, ⟨by omega⟩, by rw [hst.out, ← step_is]⟩
          case measure => simp [intOf]; omega
        · obtain rfl : j = 8 := by omega
          rw [List.take_of_length_le (by rw [hlen]; exact Nat.le_refl _)]
          go_wp2
          go_roundw
          case rel =>
            refine ⟨k + 1, by go_num, ⟨by omega⟩, ⟨?_⟩, ⟨HF.out.set (fun _ => rfl) _⟩⟩
            rw [← hset.out]
            exact HD.out.set _ _
          case measure => simp [intOf]; omega
    · obtain rfl : k = old.length := by omega
      have hfin : Kp (into pre old post xs old.length = pre ++ (wordsOf 8 xs old.length : List (BitVec 64)).map Sha.u64 ++ post) := ⟨by simp [into]⟩
      go_wp2
      go_end0
      exact ⟨_, rfl, by rw [← hfin.out]; exact HD.out, HF.out⟩
end Go.Proofs.YtjcmgpiapbeodaaDoor.Sha.L64
namespace Go.Proofs.YtjcmgpiapbeodaaDoor.Sha
open Go.RowKit Go.Proofs.YtjcmgpiapbeodaaDoor.Mem
def bytes (l : List Int) : List Value := l.map (Value.int .u8)
theorem bytes_get (l : List Int) (i : Nat) (h : i < l.length) : (bytes l)[i]? = some (.int .u8 (l.getD i 0)) := by simp [bytes, h]
/-- blocks below this are the program's own variables -/
def low : Nat := 5
/-- The program's tables lie where its text lays them. -/
structure Laid (w : World) : Prop where
  size : low ≤ w.heap.size
  r256 : C32.Consts w 1 K256
  r512 : C64.Consts w 3 K512
  t256 : ∀ i, i < 12 → w.cell? ⟨2, i, none⟩ = C32.tcells[i]?
  t512 : ∀ i, i < 12 → w.cell? ⟨4, i, none⟩ = C64.tcells[i]?
  starts : ∀ i, i < 8 → w.cell? ⟨0, i, none⟩ = some (.int .u64 ((start64.list.getD i 0).toNat : Int))
theorem Laid.fr {w w1 : World} {S : Nat → Prop} (h : Laid w) (hf : Fr S w w1) (hs : ∀ k, S k → low ≤ k) : Laid w1 := by
  have hb : ∀ k, k < low → w1.heap[k]? = w.heap[k]? := fun k hk => hf.block k (Nat.lt_of_lt_of_le hk h.size) (fun hS => absurd (hs k hS) (Nat.not_le_of_lt hk))
  refine ⟨Nat.le_trans h.size hf.size, h.r256.fr hf ?_, h.r512.fr hf ?_, ?_, ?_, ?_⟩
  · exact fun hS => absurd (hs _ hS) (by decide)
  · exact fun hS => absurd (hs _ hS) (by decide)
  · exact fun i hi => (World.cell?_of_block (hb (2 : Nat) (by decide))).trans (h.t256 i hi)
  · exact fun i hi => (World.cell?_of_block (hb (4 : Nat) (by decide))).trans (h.t512 i hi)
  · exact fun i hi => (World.cell?_of_block (hb (0 : Nat) (by decide))).trans (h.starts i hi)
theorem Laid.below {w w1 : World} (h : Laid w) (hb : Below w.heap.size w w1) : Laid w1 := h.fr (Fr.of_below hb (fun _ => False)) (fun _ h => h.elim)
def dcells (B : Bool) (cnt : Nat) (c : Chain) (rv : Value) : List Value :=
  .int .i64 (kind B : Nat) :: .int .i64 (cnt : Nat) :: (c.s.list.map u32 ++ (c.l.list.map u64 ++ [rv]))
/-- the bytes xs can be read from offset os of block bs on -/
def Reads (w : World) (bs os : Nat) (xs : List Int) : Prop := bs < w.heap.size ∧ ∀ i, i < xs.length → w.cell? ⟨bs, os + i, none⟩ = some (.int .u8 (xs.getD i 0))
theorem Reads.fr {w w1 : World} {S : Nat → Prop} {bs os : Nat} {xs : List Int} (h : Reads w bs os xs) (hf : Fr S w w1) (hs : ¬ S bs) : Reads w1 bs os xs :=
  ⟨Nat.lt_of_lt_of_le h.1 hf.size, fun i hi => (World.cell?_of_block (hf.block bs h.1 hs)).trans (h.2 i hi)⟩
theorem Reads.take {w : World} {bs os : Nat} {xs : List Int} (h : Reads w bs os xs) (n : Nat) : Reads w bs os (xs.take n) := by
  refine ⟨h.1, fun i hi => ?_⟩
  rw [List.length_take] at hi
  rw [h.2 i (by omega)]
  simp [show i < n by omega]
theorem Reads.drop {w : World} {bs os : Nat} {xs : List Int} (h : Reads w bs os xs) (n : Nat) : Reads w bs (os + n) (xs.drop n) := by
  refine ⟨h.1, fun i hi => ?_⟩
  rw [List.length_drop] at hi
  rw [Nat.add_assoc, h.2 (n + i) (by omega)]
  simp
theorem block_calls (b : Nat) (B : Bool) (w : World) (h : w.cell? ⟨b, 0, none⟩ = some (.int .i64 (kind B : Nat))) :
    Calls Tryd.prog 66 #[.pointer (some ⟨b, 0, none⟩)] w fun e w' => e = .returned (.int .i64 (blk B : Nat)) ∧ w' = w := by
  cases B
  all_goals
    simp only [kind, blk] at h ⊢
    go_enter Tryd.func66, Tryd.ntmps66
    go_wp2
    go_ret
    exact ⟨rfl, rfl⟩
end Go.Proofs.YtjcmgpiapbeodaaDoor.Sha
