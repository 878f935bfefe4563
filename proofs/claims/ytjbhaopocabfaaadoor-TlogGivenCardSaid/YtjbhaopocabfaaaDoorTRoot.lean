/-
  Two node hashes, by the kernel, block by block. The root of the first n records of a list of stored hashes (the call that takes a list).
-/
import Derived.Test.YtjbhaopocabfaaaDoorNode
import Derived.Test.YtjbhaopocabfaaaDoorPlaces
namespace Go.Proofs.YtjbhaopocabfaaaDoor.Sha
open Go.RowKit Go.Proofs.YtjbhaopocabfaaaDoor.Mem
def z32 : List Int := List.replicate 32 0
def h1L : List Int := 1 :: List.replicate 31 0
theorem eight_ext {w : Nat} {v : Eight w} {a b c d e f g h : BitVec w} (hv : v.list = [a, b, c, d, e, f, g, h]) : v = ⟨a, b, c, d, e, f, g, h⟩ := by
  cases v
  simp only [Eight.list, List.cons.injEq, and_true] at hv
  obtain ⟨rfl, rfl, rfl, rfl, rfl, rfl, rfl, rfl⟩ := hv
  rfl
/-- the sum of 65 bytes: two blocks -/
theorem hash65 (p : List Int) (hp : p.length = 65) : hash false p = words false (mixC false (mixC false (start false) (p.take 64)) (p.drop 64 ++ padding false 1 65)) := by
  have hd : (p.drop 64).length = 1 := by rw [List.length_drop, hp]
  have hpad : (padding false 1 65).length = 63 := by decide
  have ht : (p.drop 64 ++ padding false 1 65).length = 64 := by rw [List.length_append, hd, hpad]
  unfold hash St.write St.new
  simp only [List.nil_append, Nat.zero_add]
  rw [if_pos (by rw [hp]; decide)]
  unfold absorb St.sum
  simp only [blk, hp, show 65 / 64 = 1 by decide, Nat.mul_one, hd, ht, runC, Nat.mul_zero, List.drop_zero]
  rw [List.take_of_length_le (l := p.drop 64 ++ padding false 1 65) (by rw [ht]; exact Nat.le_refl _)]
theorem one_ab : (mixC false (start false) ((1 :: (z32 ++ h1L) : List Int).take 64)).s.list = [0xf4c52144#32, 0x1f748dd3#32, 0x4e5ba79b#32, 0x9e31b6b3#32, 0x419fc828#32, 0x19280d71#32, 0x92cd2796#32, 0x85e27a7e#32] := by decide +kernel
theorem two_ab : words false (mixC false ⟨⟨0xf4c52144#32, 0x1f748dd3#32, 0x4e5ba79b#32, 0x9e31b6b3#32, 0x419fc828#32, 0x19280d71#32, 0x92cd2796#32, 0x85e27a7e#32⟩, zero64⟩ ((1 :: (z32 ++ h1L) : List Int).drop 64 ++ padding false 1 65)) = [105, 112, 201, 231, 211, 125, 171, 173, 86, 90, 165, 216, 241, 65, 162, 160, 118, 253, 43, 89, 81, 55, 205, 113, 70, 14, 29, 36, 167, 3, 72, 89] := by decide +kernel
theorem node_ab : nodeL 32 z32 h1L = [105, 112, 201, 231, 211, 125, 171, 173, 86, 90, 165, 216, 241, 65, 162, 160, 118, 253, 43, 89, 81, 55, 205, 113, 70, 14, 29, 36, 167, 3, 72, 89] := by
  have e : mixC false (start false) ((1 :: (z32 ++ h1L) : List Int).take 64) = ⟨⟨0xf4c52144#32, 0x1f748dd3#32, 0x4e5ba79b#32, 0x9e31b6b3#32, 0x419fc828#32, 0x19280d71#32, 0x92cd2796#32, 0x85e27a7e#32⟩, zero64⟩ := by
    have h := eight_ext one_ab
    have h2 : ∀ (c : Chain) (x : Eight 32), c.s = x → c.l = zero64 → c = ⟨x, zero64⟩ := by
      intro c x h1 h2
      cases c
      simp only at h1 h2
      rw [h1, h2]
    exact h2 _ _ h rfl
  have h := hash65 (1 :: (z32 ++ h1L)) (by simp [z32, h1L])
  rw [e, two_ab] at h
  unfold nodeL ofL
  rw [h]
  rfl
theorem one_ba : (mixC false (start false) ((1 :: (h1L ++ z32) : List Int).take 64)).s.list = [0xc88e96c3#32, 0xd1897562#32, 0xd5be3d21#32, 0x32039b3e#32, 0x9af439ed#32, 0xec75fbbd#32, 0xa10e37f#32, 0x13304b43#32] := by decide +kernel
theorem two_ba : words false (mixC false ⟨⟨0xc88e96c3#32, 0xd1897562#32, 0xd5be3d21#32, 0x32039b3e#32, 0x9af439ed#32, 0xec75fbbd#32, 0xa10e37f#32, 0x13304b43#32⟩, zero64⟩ ((1 :: (h1L ++ z32) : List Int).drop 64 ++ padding false 1 65)) = [166, 115, 219, 77, 216, 8, 22, 251, 179, 47, 42, 75, 199, 156, 211, 164, 76, 158, 208, 126, 203, 32, 58, 148, 247, 59, 41, 57, 220, 158, 111, 62] := by decide +kernel
theorem node_ba : nodeL 32 h1L z32 = [166, 115, 219, 77, 216, 8, 22, 251, 179, 47, 42, 75, 199, 156, 211, 164, 76, 158, 208, 126, 203, 32, 58, 148, 247, 59, 41, 57, 220, 158, 111, 62] := by
  have e : mixC false (start false) ((1 :: (h1L ++ z32) : List Int).take 64) = ⟨⟨0xc88e96c3#32, 0xd1897562#32, 0xd5be3d21#32, 0x32039b3e#32, 0x9af439ed#32, 0xec75fbbd#32, 0xa10e37f#32, 0x13304b43#32⟩, zero64⟩ := by
    have h := eight_ext one_ba
    have h2 : ∀ (c : Chain) (x : Eight 32), c.s = x → c.l = zero64 → c = ⟨x, zero64⟩ := by
      intro c x h1 h2
      cases c
      simp only at h1 h2
      rw [h1, h2]
    exact h2 _ _ h rfl
  have h := hash65 (1 :: (h1L ++ z32)) (by simp [h1L, z32])
  rw [e, two_ba] at h
  unfold nodeL ofL
  rw [h]
  rfl
theorem told_one : decide (nodeL 32 z32 h1L = nodeL 32 h1L z32) = false := by rw [node_ab, node_ba]; decide +kernel
theorem told_two : decide (nodeL 32 z32 h1L = z32) = false := by rw [node_ab]; decide +kernel
end Go.Proofs.YtjbhaopocabfaaaDoor.Sha
namespace Go.Proofs.YtjbhaopocabfaaaDoor.Sha
open Go.RowKit Go.Proofs.YtjbhaopocabfaaaDoor.Mem Go.Proofs.YtjbhaopocabfaaaDoorW.PrintWords Go.Proofs.YtjbhaopocabfaaaDoorW.PrintLast Go.Proofs.YtjbhaopocabfaaaDoor.Pl Go.Proofs.YtjbhaopocabfaaaDoor.Wk
attribute [local go_sem ↓] Go.wp_at_zero Go.wp_at_succ wp_load_hash wp_store_hash wp_load_mid23 wp_load_mid25 wp_store_mid25 wp_build_hash
attribute [local go_sem] rowAt_drew rowOk_drew midOk_drew midAt_drew rowBlock rowCells rowOff midFree_drew
theorem results_cell_tmp {P : Program} {fn : Func} {p q : Tmp} {ty : TypeId} (h : fn.results = #[.cell p ty, .tmp q]) (tmps : Array Value) (w : World) (g : Nat) (t : TypeId) (cs : Array Value) (fr : Nat × Nat) (d : TypeDesc) (v : Value)
    (hp : tmps.getD p undef = .pointer (some ⟨g, 0, none⟩)) (hq : tmps.getD q undef = v) (hg : w.heap[g]? = some (.cells cs t fr))
    (hu : P.underlying ty = some d) (hd : (match d with | .struct _ | .array _ _ => true | _ => false) = true) (hi : (P.info? ty).map (·.size) = some cs.size) :
    (results fn tmps).run P w = .ok (.tuple #[.agg cs, v]) w := by
  have hp' : tmps[p]?.getD undef = .pointer (some ⟨g, 0, none⟩) := by simpa using hp
  have hq' : tmps[q]?.getD undef = v := by simpa using hq
  simp [results, h, hp', hq', asAddr, run_loadVar_row w g t ty cs fr d hg hu hd hi]
theorem pks_len (n : Nat) : (pks n 49 0).length ≤ 49 := by
  have : ∀ L a, (pks n L a).length ≤ L := by
    intro L
    induction L with
    | zero => intro a; simp [pks_zero]
    | succ m ih =>
      intro a
      by_cases hb : n / 2 ^ m % 2 = 1
      · rw [pks_yes n a m hb, List.length_cons]; have := ih (a + 2 ^ m); omega
      · rw [pks_no n a m hb]; have := ih a; omega
  exact this 49 0
set_option maxHeartbeats 4000000 in
set_option maxRecDepth 100000 in
theorem Root_long (k : Int) (A : Option Addr) (c : Nat) (L : List (List Int)) (n : Int) (w : World) (h : 131071 < L.length) :
    Calls Tryd.prog 34 #[.int .i64 k, .slice A L.length c, .int .i64 n] w fun e w' => e = .returned (.tuple #[.agg (bytes z32).toArray, .int .i64 2]) ∧ Fr (fun _ => False) w w' := by
  obtain ⟨len, hlen⟩ : ∃ len, len = L.length := ⟨_, rfl⟩
  rw [← hlen] at h ⊢
  clear hlen
  go_enter Tryd.func34, Tryd.ntmps34
  go_upto_region 1 with (fail)
  obtain ⟨g6, hg6⟩ : ∃ g6, g6 = w.heap.size := ⟨_, rfl⟩
  obtain ⟨W1, hW1⟩ : ∃ W1, W1 = w.alloc (.cells #[.int .u8 0, .int .u8 0, .int .u8 0, .int .u8 0, .int .u8 0, .int .u8 0, .int .u8 0, .int .u8 0, .int .u8 0, .int .u8 0, .int .u8 0, .int .u8 0, .int .u8 0, .int .u8 0, .int .u8 0, .int .u8 0, .int .u8 0, .int .u8 0, .int .u8 0, .int .u8 0, .int .u8 0, .int .u8 0, .int .u8 0, .int .u8 0, .int .u8 0, .int .u8 0, .int .u8 0, .int .u8 0, .int .u8 0, .int .u8 0, .int .u8 0, .int .u8 0] 25) := ⟨_, rfl⟩
  have H6 : Kp (Blk W1 g6 25 [.int .u8 0, .int .u8 0, .int .u8 0, .int .u8 0, .int .u8 0, .int .u8 0, .int .u8 0, .int .u8 0, .int .u8 0, .int .u8 0, .int .u8 0, .int .u8 0, .int .u8 0, .int .u8 0, .int .u8 0, .int .u8 0, .int .u8 0, .int .u8 0, .int .u8 0, .int .u8 0, .int .u8 0, .int .u8 0, .int .u8 0, .int .u8 0, .int .u8 0, .int .u8 0, .int .u8 0, .int .u8 0, .int .u8 0, .int .u8 0, .int .u8 0, .int .u8 0]) := ⟨by rw [hW1, hg6]; exact Blk.new w _ _⟩
  have HF1 : Kp (Fr (fun _ => False) w W1) := ⟨by rw [hW1]; exact (Fr.refl _ w).alloc _⟩
  have HGg6 : Kp (w.heap.size ≤ g6) := ⟨by omega⟩
  rw [← hg6, ← hW1]
  clear hg6 hW1
  have hi32 : (Tryd.prog.info? 25).map (·.size) = some 32 := by kernel_rfl
  have ZZ : Kp ((Tryd.prog.info? 25).map (·.size) = some ([.int .u8 0, .int .u8 0, .int .u8 0, .int .u8 0, .int .u8 0, .int .u8 0, .int .u8 0, .int .u8 0, .int .u8 0, .int .u8 0, .int .u8 0, .int .u8 0, .int .u8 0, .int .u8 0, .int .u8 0, .int .u8 0, .int .u8 0, .int .u8 0, .int .u8 0, .int .u8 0, .int .u8 0, .int .u8 0, .int .u8 0, .int .u8 0, .int .u8 0, .int .u8 0, .int .u8 0, .int .u8 0, .int .u8 0, .int .u8 0, .int .u8 0, .int .u8 0] : List Value).length) := ⟨hi32⟩
  clear hi32
  have ok6 := rowOk_blk H6.out ZZ.out
  have hMok : hashOk (.agg #[.int .u8 0, .int .u8 0, .int .u8 0, .int .u8 0, .int .u8 0, .int .u8 0, .int .u8 0, .int .u8 0, .int .u8 0, .int .u8 0, .int .u8 0, .int .u8 0, .int .u8 0, .int .u8 0, .int .u8 0, .int .u8 0, .int .u8 0, .int .u8 0, .int .u8 0, .int .u8 0, .int .u8 0, .int .u8 0, .int .u8 0, .int .u8 0, .int .u8 0, .int .u8 0, .int .u8 0, .int .u8 0, .int .u8 0, .int .u8 0, .int .u8 0, .int .u8 0]) = true := hashOk_bytes z32 rfl
  go_wp2_with fail
  refine bodyPost_ret (results_cell_tmp rfl _ _ g6 25 _ (0, 0) _ (.int .i64 2) rfl rfl (setRow_heap _ g6 _ _ _ _ (show W1.heap[g6]? = _ from H6.out)) Tryd.underlying25 rfl (by kernel_rfl)) rfl ?_
  refine ⟨rfl, ?_⟩
  exact HF1.out.trans (S' := fun q => q = g6) ⟨rfl, rfl, rfl, by simp [World.setRow], fun q _ hq => setRow_other _ _ q _ hq⟩ (fun q hq he => by have := HGg6.out; omega)
set_option maxHeartbeats 4000000 in
set_option maxRecDepth 100000 in
theorem Root_not (k : Int) (A : Option Addr) (c : Nat) (L : List (List Int)) (n : Int) (w : World) (h : L.length ≤ 131071) (hc : ∀ r, r ≤ 281474976710656 → cnt r ≠ L.length) :
    Calls Tryd.prog 34 #[.int .i64 k, .slice A L.length c, .int .i64 n] w fun e w' => e = .returned (.tuple #[.agg (bytes z32).toArray, .int .i64 80]) ∧ Fr (fun _ => False) w w' := by
  have CR := Kp.mk (fun W => Records_not L.length hc W)
  obtain ⟨len, hlen⟩ : ∃ len, len = L.length := ⟨_, rfl⟩
  rw [← hlen] at h CR ⊢
  clear hlen hc
  go_enter Tryd.func34, Tryd.ntmps34
  go_upto_region 1 with (fail)
  obtain ⟨g6, hg6⟩ : ∃ g6, g6 = w.heap.size := ⟨_, rfl⟩
  obtain ⟨W1, hW1⟩ : ∃ W1, W1 = w.alloc (.cells #[.int .u8 0, .int .u8 0, .int .u8 0, .int .u8 0, .int .u8 0, .int .u8 0, .int .u8 0, .int .u8 0, .int .u8 0, .int .u8 0, .int .u8 0, .int .u8 0, .int .u8 0, .int .u8 0, .int .u8 0, .int .u8 0, .int .u8 0, .int .u8 0, .int .u8 0, .int .u8 0, .int .u8 0, .int .u8 0, .int .u8 0, .int .u8 0, .int .u8 0, .int .u8 0, .int .u8 0, .int .u8 0, .int .u8 0, .int .u8 0, .int .u8 0, .int .u8 0] 25) := ⟨_, rfl⟩
  have H6 : Kp (Blk W1 g6 25 [.int .u8 0, .int .u8 0, .int .u8 0, .int .u8 0, .int .u8 0, .int .u8 0, .int .u8 0, .int .u8 0, .int .u8 0, .int .u8 0, .int .u8 0, .int .u8 0, .int .u8 0, .int .u8 0, .int .u8 0, .int .u8 0, .int .u8 0, .int .u8 0, .int .u8 0, .int .u8 0, .int .u8 0, .int .u8 0, .int .u8 0, .int .u8 0, .int .u8 0, .int .u8 0, .int .u8 0, .int .u8 0, .int .u8 0, .int .u8 0, .int .u8 0, .int .u8 0]) := ⟨by rw [hW1, hg6]; exact Blk.new w _ _⟩
  have HF1 : Kp (Fr (fun _ => False) w W1) := ⟨by rw [hW1]; exact (Fr.refl _ w).alloc _⟩
  have HGg6 : Kp (w.heap.size ≤ g6) := ⟨by omega⟩
  rw [← hg6, ← hW1]
  clear hg6 hW1
  have hi32 : (Tryd.prog.info? 25).map (·.size) = some 32 := by kernel_rfl
  have ZZ : Kp ((Tryd.prog.info? 25).map (·.size) = some ([.int .u8 0, .int .u8 0, .int .u8 0, .int .u8 0, .int .u8 0, .int .u8 0, .int .u8 0, .int .u8 0, .int .u8 0, .int .u8 0, .int .u8 0, .int .u8 0, .int .u8 0, .int .u8 0, .int .u8 0, .int .u8 0, .int .u8 0, .int .u8 0, .int .u8 0, .int .u8 0, .int .u8 0, .int .u8 0, .int .u8 0, .int .u8 0, .int .u8 0, .int .u8 0, .int .u8 0, .int .u8 0, .int .u8 0, .int .u8 0, .int .u8 0, .int .u8 0] : List Value).length) := ⟨hi32⟩
  clear hi32
  have hMok : hashOk (.agg #[.int .u8 0, .int .u8 0, .int .u8 0, .int .u8 0, .int .u8 0, .int .u8 0, .int .u8 0, .int .u8 0, .int .u8 0, .int .u8 0, .int .u8 0, .int .u8 0, .int .u8 0, .int .u8 0, .int .u8 0, .int .u8 0, .int .u8 0, .int .u8 0, .int .u8 0, .int .u8 0, .int .u8 0, .int .u8 0, .int .u8 0, .int .u8 0, .int .u8 0, .int .u8 0, .int .u8 0, .int .u8 0, .int .u8 0, .int .u8 0, .int .u8 0, .int .u8 0]) = true := hashOk_bytes z32 rfl
  go_wp2_with fail
  refine (CR.out W1).mono ?_
  rintro e W2 ⟨rfl, hf⟩
  have HF2 := Kp.mk (HF1.out.trans hf (fun _ _ h => h))
  have H62 := Kp.mk (H6.out.fr hf (fun h => h))
  have ok6 := rowOk_blk H62.out ZZ.out
  clear hf
  go_wp2_with fail
  refine bodyPost_ret (results_cell_tmp rfl _ _ g6 25 _ (0, 0) _ (.int .i64 80) rfl rfl (setRow_heap _ g6 _ _ _ _ (show W2.heap[g6]? = _ from H62.out)) Tryd.underlying25 rfl (by kernel_rfl)) rfl ?_
  refine ⟨rfl, ?_⟩
  exact HF2.out.trans (S' := fun q => q = g6) ⟨rfl, rfl, rfl, by simp [World.setRow], fun q _ hq => setRow_other _ _ q _ hq⟩ (fun q hq he => by have := HGg6.out; omega)
set_option maxHeartbeats 4000000 in
set_option maxRecDepth 100000 in
theorem Root_arg (k : Int) (A : Option Addr) (c : Nat) (L : List (List Int)) (n : Int) (w : World) (h : L.length ≤ 131071) (r : Nat) (hr : cnt r = L.length) (hr2 : r ≤ 281474976710656) (hn : n < 0 ∨ (r : Int) < n) :
    Calls Tryd.prog 34 #[.int .i64 k, .slice A L.length c, .int .i64 n] w fun e w' => e = .returned (.tuple #[.agg (bytes z32).toArray, .int .i64 1]) ∧ Fr (fun _ => False) w w' := by
  have CR := Kp.mk (fun W => Records_yes r hr2 W)
  rw [hr] at CR
  obtain ⟨len, hlen⟩ : ∃ len, len = L.length := ⟨_, rfl⟩
  rw [← hlen] at h CR ⊢
  clear hlen hr
  go_enter Tryd.func34, Tryd.ntmps34
  go_upto_region 1 with (fail)
  obtain ⟨g6, hg6⟩ : ∃ g6, g6 = w.heap.size := ⟨_, rfl⟩
  obtain ⟨W1, hW1⟩ : ∃ W1, W1 = w.alloc (.cells #[.int .u8 0, .int .u8 0, .int .u8 0, .int .u8 0, .int .u8 0, .int .u8 0, .int .u8 0, .int .u8 0, .int .u8 0, .int .u8 0, .int .u8 0, .int .u8 0, .int .u8 0, .int .u8 0, .int .u8 0, .int .u8 0, .int .u8 0, .int .u8 0, .int .u8 0, .int .u8 0, .int .u8 0, .int .u8 0, .int .u8 0, .int .u8 0, .int .u8 0, .int .u8 0, .int .u8 0, .int .u8 0, .int .u8 0, .int .u8 0, .int .u8 0, .int .u8 0] 25) := ⟨_, rfl⟩
  have H6 : Kp (Blk W1 g6 25 [.int .u8 0, .int .u8 0, .int .u8 0, .int .u8 0, .int .u8 0, .int .u8 0, .int .u8 0, .int .u8 0, .int .u8 0, .int .u8 0, .int .u8 0, .int .u8 0, .int .u8 0, .int .u8 0, .int .u8 0, .int .u8 0, .int .u8 0, .int .u8 0, .int .u8 0, .int .u8 0, .int .u8 0, .int .u8 0, .int .u8 0, .int .u8 0, .int .u8 0, .int .u8 0, .int .u8 0, .int .u8 0, .int .u8 0, .int .u8 0, .int .u8 0, .int .u8 0]) := ⟨by rw [hW1, hg6]; exact Blk.new w _ _⟩
  have HF1 : Kp (Fr (fun _ => False) w W1) := ⟨by rw [hW1]; exact (Fr.refl _ w).alloc _⟩
  have HGg6 : Kp (w.heap.size ≤ g6) := ⟨by omega⟩
  rw [← hg6, ← hW1]
  clear hg6 hW1
  have hi32 : (Tryd.prog.info? 25).map (·.size) = some 32 := by kernel_rfl
  have ZZ : Kp ((Tryd.prog.info? 25).map (·.size) = some ([.int .u8 0, .int .u8 0, .int .u8 0, .int .u8 0, .int .u8 0, .int .u8 0, .int .u8 0, .int .u8 0, .int .u8 0, .int .u8 0, .int .u8 0, .int .u8 0, .int .u8 0, .int .u8 0, .int .u8 0, .int .u8 0, .int .u8 0, .int .u8 0, .int .u8 0, .int .u8 0, .int .u8 0, .int .u8 0, .int .u8 0, .int .u8 0, .int .u8 0, .int .u8 0, .int .u8 0, .int .u8 0, .int .u8 0, .int .u8 0, .int .u8 0, .int .u8 0] : List Value).length) := ⟨hi32⟩
  clear hi32
  have hMok : hashOk (.agg #[.int .u8 0, .int .u8 0, .int .u8 0, .int .u8 0, .int .u8 0, .int .u8 0, .int .u8 0, .int .u8 0, .int .u8 0, .int .u8 0, .int .u8 0, .int .u8 0, .int .u8 0, .int .u8 0, .int .u8 0, .int .u8 0, .int .u8 0, .int .u8 0, .int .u8 0, .int .u8 0, .int .u8 0, .int .u8 0, .int .u8 0, .int .u8 0, .int .u8 0, .int .u8 0, .int .u8 0, .int .u8 0, .int .u8 0, .int .u8 0, .int .u8 0, .int .u8 0]) = true := hashOk_bytes z32 rfl
  go_wp2_with fail
  refine (CR.out W1).mono ?_
  rintro e W2 ⟨rfl, hf⟩
  have HF2 := Kp.mk (HF1.out.trans hf (fun _ _ h => h))
  have H62 := Kp.mk (H6.out.fr hf (fun h => h))
  have ok6 := rowOk_blk H62.out ZZ.out
  clear hf
  rcases hn with hn | hn
  · go_wp2_with fail
    refine bodyPost_ret (results_cell_tmp rfl _ _ g6 25 _ (0, 0) _ (.int .i64 1) rfl rfl (setRow_heap _ g6 _ _ _ _ (show W2.heap[g6]? = _ from H62.out)) Tryd.underlying25 rfl (by kernel_rfl)) rfl ?_
    refine ⟨rfl, ?_⟩
    exact HF2.out.trans (S' := fun q => q = g6) ⟨rfl, rfl, rfl, by simp [World.setRow], fun q _ hq => setRow_other _ _ q _ hq⟩ (fun q hq he => by have := HGg6.out; omega)
  · have hn0 : ¬ n < 0 := by omega
    go_wp2_with fail
    refine bodyPost_ret (results_cell_tmp rfl _ _ g6 25 _ (0, 0) _ (.int .i64 1) rfl rfl (setRow_heap _ g6 _ _ _ _ (show W2.heap[g6]? = _ from H62.out)) Tryd.underlying25 rfl (by kernel_rfl)) rfl ?_
    refine ⟨rfl, ?_⟩
    exact HF2.out.trans (S' := fun q => q = g6) ⟨rfl, rfl, rfl, by simp [World.setRow], fun q _ hq => setRow_other _ _ q _ hq⟩ (fun q hq he => by have := HGg6.out; omega)
set_option maxHeartbeats 4000000 in
set_option maxRecDepth 100000 in
theorem Root_yes (k : Int) (A : Option Addr) (c : Nat) (L : List (List Int)) (n r : Nat) (w : World) (hL : Laid w) (hX : HRow w (fun _ => False) A c L) (h : L.length ≤ 131071) (hr : cnt r = L.length) (hr2 : r ≤ 281474976710656) (hn : n ≤ r) :
    Calls Tryd.prog 34 #[.int .i64 k, .slice A L.length c, .int .i64 (n : Int)] w fun e w' => e = .returned (.tuple #[.agg (bytes (rootL (strength k) L n)).toArray, .int .i64 0]) ∧ Fr (fun _ => False) w w' := by
  have CR := Kp.mk (fun W => Records_yes r hr2 W)
  rw [hr] at CR
  have CH := Kp.mk (fun W => hasherOf_calls k W)
  have CP := Kp.mk (fun W => peaks_calls n (by omega) W)
  have hin := peak_in n r hn hr2
  rw [hr] at hin
  have hpl : (pks n 49 0).length ≤ 49 := pks_len n
  have CK : Kp (∀ W A2 c2, Fr (fun _ => False) w W → IRow W (fun _ => False) A2 c2 (pks n 49 0) → Calls Tryd.prog 60 #[.slice A L.length c, .slice A2 (pks n 49 0).length c2] W fun e w' => ∃ g, W.heap.size ≤ g ∧ e = .returned (.slice (some ⟨g, 0, none⟩) (pks n 49 0).length (pks n 49 0).length) ∧ HOwn w' W.heap.size (.slice (some ⟨g, 0, none⟩) (pks n 49 0).length (pks n 49 0).length) ((pks n 49 0).map fun p => L.getD p.toNat []) ∧ Fr (fun _ => False) W w') :=
    ⟨fun W A2 c2 hf hI => pick_calls A c L A2 c2 (pks n 49 0) hin W (hX.fr hf) hI (by omega)⟩
  obtain ⟨PK, hPK⟩ : ∃ PK, PK = (pks n 49 0).map fun p => L.getD p.toNat [] := ⟨_, rfl⟩
  have hPl : PK.length = (pks n 49 0).length := by rw [hPK, List.length_map]
  have hP32 : ∀ x ∈ PK, x.length = 32 := by
    intro x hx
    rw [hPK] at hx
    obtain ⟨p, hp, rfl⟩ := List.mem_map.1 hx
    obtain ⟨i, hi, rfl⟩ := List.getElem_of_mem hp
    have h1 := hin i hi
    simp only [List.getD, List.getElem?_eq_getElem hi, Option.getD_some] at h1
    have h2 : ((pks n 49 0)[i]).toNat < L.length := by omega
    simp only [List.getD, List.getElem?_eq_getElem h2, Option.getD_some]
    exact hX.1 _ (List.getElem_mem _)
  have hM : rootL (strength k) L n = foldL (strength k) PK := by rw [hPK]; rfl
  rw [hM]
  have hMl := foldL_len (strength k) (strength_le k) PK hP32
  have C62 : Kp (∀ W gk go A2 c2, Fr (fun _ => False) w W → Hs W gk go (strength k) → HRow W (fun _ => False) A2 c2 PK → Calls Tryd.prog 62 #[hasherV gk go (strength k), .slice A2 (pks n 49 0).length c2] W fun e w' => e = .returned (.agg (bytes (foldL (strength k) PK)).toArray) ∧ Fr (fun _ => False) W w') :=
    ⟨fun W gk go A2 c2 hf hH hx => by
      have q := root_calls A2 c2 PK gk go (strength k) W (hL.fr hf (fun _ h => h.elim)) hH hx (by rw [hPl]; omega)
      rw [hPl] at q
      exact q⟩
  rw [← hPK] at CK
  generalize foldL (strength k) PK = M at hMl C62 ⊢
  have HML := Kp.mk hMl
  obtain ⟨P, hP⟩ : ∃ P, P = pks n 49 0 := ⟨_, rfl⟩
  rw [← hP] at CP CK C62
  obtain ⟨m, hm⟩ : ∃ m, m = P.length := ⟨_, rfl⟩
  have HM := Kp.mk hm
  rw [← hm] at CK C62
  have HPl : Kp (PK.length = m) := ⟨by rw [hm, hP, hPl]⟩
  obtain ⟨s, hs⟩ : ∃ s, s = strength k := ⟨_, rfl⟩
  rw [← hs] at CH C62
  obtain ⟨len, hlen⟩ : ∃ len, len = L.length := ⟨_, rfl⟩
  rw [← hlen] at h CR CK ⊢
  clear hlen hr hs hm hP hPK hPl hP32 hM hMl hin hpl hL hX
  go_enter Tryd.func34, Tryd.ntmps34
  go_upto_region 1 with (fail)
  obtain ⟨g6, hg6⟩ : ∃ g6, g6 = w.heap.size := ⟨_, rfl⟩
  obtain ⟨W1, hW1⟩ : ∃ W1, W1 = w.alloc (.cells #[.int .u8 0, .int .u8 0, .int .u8 0, .int .u8 0, .int .u8 0, .int .u8 0, .int .u8 0, .int .u8 0, .int .u8 0, .int .u8 0, .int .u8 0, .int .u8 0, .int .u8 0, .int .u8 0, .int .u8 0, .int .u8 0, .int .u8 0, .int .u8 0, .int .u8 0, .int .u8 0, .int .u8 0, .int .u8 0, .int .u8 0, .int .u8 0, .int .u8 0, .int .u8 0, .int .u8 0, .int .u8 0, .int .u8 0, .int .u8 0, .int .u8 0, .int .u8 0] 25) := ⟨_, rfl⟩
  have H6 : Kp (Blk W1 g6 25 [.int .u8 0, .int .u8 0, .int .u8 0, .int .u8 0, .int .u8 0, .int .u8 0, .int .u8 0, .int .u8 0, .int .u8 0, .int .u8 0, .int .u8 0, .int .u8 0, .int .u8 0, .int .u8 0, .int .u8 0, .int .u8 0, .int .u8 0, .int .u8 0, .int .u8 0, .int .u8 0, .int .u8 0, .int .u8 0, .int .u8 0, .int .u8 0, .int .u8 0, .int .u8 0, .int .u8 0, .int .u8 0, .int .u8 0, .int .u8 0, .int .u8 0, .int .u8 0]) := ⟨by rw [hW1, hg6]; exact Blk.new w _ _⟩
  have HF1 : Kp (Fr (fun _ => False) w W1) := ⟨by rw [hW1]; exact (Fr.refl _ w).alloc _⟩
  have HGg6 : Kp (w.heap.size ≤ g6) := ⟨by omega⟩
  rw [← hg6, ← hW1]
  clear hg6 hW1
  have hi32 : (Tryd.prog.info? 25).map (·.size) = some 32 := by kernel_rfl
  have ZZ : Kp ((Tryd.prog.info? 25).map (·.size) = some ([.int .u8 0, .int .u8 0, .int .u8 0, .int .u8 0, .int .u8 0, .int .u8 0, .int .u8 0, .int .u8 0, .int .u8 0, .int .u8 0, .int .u8 0, .int .u8 0, .int .u8 0, .int .u8 0, .int .u8 0, .int .u8 0, .int .u8 0, .int .u8 0, .int .u8 0, .int .u8 0, .int .u8 0, .int .u8 0, .int .u8 0, .int .u8 0, .int .u8 0, .int .u8 0, .int .u8 0, .int .u8 0, .int .u8 0, .int .u8 0, .int .u8 0, .int .u8 0] : List Value).length) := ⟨hi32⟩
  clear hi32
  have hMok := hashOk_bytes M HML.out
  go_wp2_with fail
  refine (CR.out W1).mono ?_
  rintro e W2 ⟨rfl, hf⟩
  have HF2 := Kp.mk (HF1.out.trans hf (fun _ _ h => h))
  have H62 := Kp.mk (H6.out.fr hf (fun h => h))
  clear hf HF1 H6 CR
  go_wp2_with fail
  refine (CH.out W2).mono ?_
  rintro e W3 ⟨gk, go, rfl, hH, hk, ho, hf⟩
  have HF3 := Kp.mk (HF2.out.trans hf (fun _ _ h => h))
  have H63 := Kp.mk (H62.out.fr hf (fun h => h))
  have HH3 := Kp.mk hH
  clear hf HF2 H62 CH hH hk ho
  have C63 := Kp.mk (fun W => C62.out W gk go)
  generalize hasherV gk go s = HV at C63 ⊢
  clear C62
  go_wp2_with fail
  refine (CP.out W3).mono ?_
  rintro e W4 ⟨v, rfl, hO, hB⟩
  have hf := Fr.of_below hB (fun _ => False)
  have HF4 := Kp.mk (HF3.out.trans hf (fun _ _ h => h))
  have H64 := Kp.mk (H63.out.fr hf (fun h => h))
  have HH4 := Kp.mk (HH3.out.fr hf (fun h => h) (fun h => h))
  have hown : W4.ownsRow W3.heap.size 2 1 v P.length (P.map (Value.int .i64)) := Kd.own_of_R hO
  obtain ⟨A2, c2, rfl, hI⟩ := IRow.of_own hown (fun _ => False) (fun _ _ h => h)
  have HI := Kp.mk hI
  rw [← HM.out]
  clear hf HF3 H63 HH3 hO hB hown hI CP
  go_wp2_with fail
  refine (CK.out W4 A2 c2 HF4.out HI.out).mono ?_
  rintro e W5 ⟨g, hg, rfl, hO, hf⟩
  have HF5 := Kp.mk (HF4.out.trans hf (fun _ _ h => h))
  have H65 := Kp.mk (H64.out.fr hf (fun h => h))
  have HH5 := Kp.mk (HH4.out.fr hf (fun h => h) (fun h => h))
  obtain ⟨A3, c3, hA3, hR⟩ := hO.row (fun _ => False) (fun _ _ h => h)
  rw [HPl.out] at hA3
  cases hA3
  have HR := Kp.mk hR
  clear hf HF4 H64 HH4 hO hg hR CK HI
  go_wp2_with fail
  refine (C63.out W5 _ _ HF5.out HH5.out HR.out).mono ?_
  rintro e W6 ⟨rfl, hf⟩
  have HF6 := Kp.mk (HF5.out.trans hf (fun _ _ h => h))
  have H66 := Kp.mk (H65.out.fr hf (fun h => h))
  have ok6 := rowOk_blk H66.out ZZ.out
  clear hf HF5 H65 HH5 HR C63
  go_wp2_with fail
  refine bodyPost_ret (results_cell_tmp rfl _ _ g6 25 _ (0, 0) _ (.int .i64 0) rfl rfl (setRow_heap _ g6 _ _ _ _ (show W6.heap[g6]? = _ from H66.out)) Tryd.underlying25 rfl (by rw [show (bytes M).toArray.size = 32 by simp [bytes, HML.out]]; kernel_rfl)) rfl ?_
  refine ⟨rfl, ?_⟩
  exact HF6.out.trans (S' := fun q => q = g6) ⟨rfl, rfl, rfl, by simp [World.setRow], fun q _ hq => setRow_other _ _ q _ hq⟩ (fun q hq he => by have := HGg6.out; omega)
end Go.Proofs.YtjbhaopocabfaaaDoor.Sha
