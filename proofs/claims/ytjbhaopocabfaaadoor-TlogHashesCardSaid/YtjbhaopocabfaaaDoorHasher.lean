/-
  hasherOf; LeafHash, NodeHash, EmptyHash.
-/
import Derived.Test.YtjbhaopocabfaaaDoorLeaf
import Derived.Laws.EntriesVeiled
namespace Go.Proofs.YtjbhaopocabfaaaDoor.Sha
open Go.RowKit Go.Proofs.YtjbhaopocabfaaaDoor.Mem Go.Proofs.YtjbhaopocabfaaaDoorW.PrintWords
/-- the hasher as a value -/
def hasherV (gk go s : Nat) : Value := .agg #[.int .i64 (s : Int), .func (.func 79) #[] #[.pointer (some ⟨gk, 0, none⟩)], .func (.func 80) #[] #[.pointer (some ⟨go, 0, none⟩)], .func (.func 81) #[] #[.pointer (some ⟨go, 0, none⟩)]]
theorem field1 (W : World) (gk go s : Nat) : (Instr.field 103 (hasherV gk go s) 1).run Tryd.prog W = .ok (.func (.func 79) #[] #[.pointer (some ⟨gk, 0, none⟩)]) W := by kernel_rfl
theorem field2 (W : World) (gk go s : Nat) : (Instr.field 103 (hasherV gk go s) 2).run Tryd.prog W = .ok (.func (.func 80) #[] #[.pointer (some ⟨go, 0, none⟩)]) W := by kernel_rfl
theorem field3 (W : World) (gk go s : Nat) : (Instr.field 103 (hasherV gk go s) 3).run Tryd.prog W = .ok (.func (.func 81) #[] #[.pointer (some ⟨go, 0, none⟩)]) W := by kernel_rfl
set_option maxHeartbeats 2000000 in
set_option maxRecDepth 100000 in
theorem hasherOf_calls (k : Int) (w : World) :
    Calls Tryd.prog 52 #[.int .i64 k] w fun e w' => ∃ gk go, e = .returned (hasherV gk go (strength k)) ∧ Hs w' gk go (strength k) ∧ w.heap.size ≤ gk ∧ w.heap.size ≤ go ∧ Fr (fun _ => False) w w' := by
  have hmf : ∀ (fn : Fn) (first cap : Array Value) (w : World), (Instr.makeFunc fn first cap).run Tryd.prog w = .ok (.func fn first cap) w := fun _ _ _ _ => rfl
  have hs1 := strength_one k
  have hs2 := strength_le k
  obtain ⟨s, hs⟩ : ∃ s, s = strength k := ⟨_, rfl⟩
  rw [← hs] at hs1 hs2 ⊢
  have HS := Kp.mk hs
  clear hs
  go_enter Tryd.func52, Tryd.ntmps52
  go_upto_region 1 with (fail)
  obtain ⟨gk, hgk⟩ : ∃ gk, gk = w.heap.size := ⟨_, rfl⟩
  obtain ⟨g2, hg2⟩ : ∃ g2, g2 = w.heap.size + 1 := ⟨_, rfl⟩
  rw [← hg2, ← hgk]
  obtain ⟨W1, hW1⟩ : ∃ W1, W1 = (w.alloc (.cells #[.int .i64 k] 3)).alloc (.cells #[.int .i64 0, .nilFunc, .nilFunc, .nilFunc] 103) := ⟨_, rfl⟩
  have HK : Kp (Blk W1 gk 3 [.int .i64 k]) := ⟨by rw [hW1, hgk]; exact (Blk.new w _ _).alloc _⟩
  have H2 : Kp (Blk W1 g2 103 [.int .i64 0, .nilFunc, .nilFunc, .nilFunc]) := ⟨by rw [hW1, hg2]; exact Blk.new' _ _ _ (by simp)⟩
  have HF : Kp (Fr (fun _ => False) w W1) := ⟨by rw [hW1]; exact ((Fr.refl _ w).alloc _).alloc _⟩
  have HG : Kp (w.heap.size ≤ gk ∧ w.heap.size ≤ g2 ∧ gk ≠ g2) := ⟨by omega⟩
  rw [← hW1]
  clear hW1 hgk hg2
  have ck : W1.cell? ⟨gk, 0, none⟩ = some (.int .i64 k) := HK.out.cell 0 _ rfl
  have fk : W1.frozen? ⟨gk, 0, none⟩ = false := HK.out.free 0
  have hst : Fr (fun q => q = gk) W1 (W1.setCell ⟨gk, 0, none⟩ (.int .i64 32)) := Fr.set (S := fun q => q = gk) (a := ⟨gk, 0, none⟩) (Fr.refl (fun q => q = gk) W1) (fun _ => rfl) _
  have HFs := Kp.mk (HF.out.trans hst (fun q hq he => by have := HG.out.1; omega))
  have H2s := Kp.mk (H2.out.fr hst (fun he => HG.out.2.2 he.symm))
  have HKs : Kp (Blk (W1.setCell ⟨gk, 0, none⟩ (.int .i64 32)) gk 3 [.int .i64 32]) := ⟨HK.out.set 0 _⟩
  clear hst
  rcases (by omega : k < 1 ∨ 1 ≤ k) with h1 | h1
  · have hs32 : s = 32 := by rw [HS.out]; unfold strength; rw [if_neg (by omega)]
    have HKs : Kp (Blk (W1.setCell ⟨gk, 0, none⟩ (.int .i64 32)) gk 3 [.int .i64 (s : Int)]) := ⟨by rw [hs32]; exact HKs.out⟩
    clear hs32
    clear HK H2 HF
    go_upto_region 3 with (fail)
    have HK := HKs
    have H2 := H2s
    have HF := HFs
    generalize World.setCell W1 _ _ = wc at HK H2 HF ⊢
    clear HKs H2s HFs ck fk h1
    go_upto_region 4 with (fail)
    obtain ⟨go, hgo⟩ : ∃ go, go = wc.heap.size := ⟨_, rfl⟩
    obtain ⟨wd, hwd⟩ : ∃ wd, wd = wc.alloc (.cells #[.func (.func 79) #[] #[.pointer (some ⟨gk, 0, none⟩)]] 28) := ⟨_, rfl⟩
    have HOd : Kp (Blk wd go 28 [.func (.func 79) #[] #[.pointer (some ⟨gk, 0, none⟩)]]) := ⟨by rw [hwd, hgo]; exact Blk.new wc _ _⟩
    have hfa : Fr (fun _ => False) wc wd := by rw [hwd]; exact (Fr.refl _ wc).alloc _
    have HKd := Kp.mk (HK.out.fr hfa (fun h => h))
    have H2d := Kp.mk (H2.out.fr hfa (fun h => h))
    have HFd := Kp.mk (HF.out.trans hfa (fun _ _ h => h))
    have HGo : Kp (w.heap.size ≤ go ∧ go ≠ g2 ∧ go ≠ gk) := ⟨by have h1 := HF.out.size; have h2 := H2.out.lt; have h3 := HK.out.lt; exact ⟨by omega, by omega, by omega⟩⟩
    rw [← hgo, ← hwd]
    clear hwd hgo hfa HK H2 HF
    have ckd : wd.cell? ⟨gk, 0, none⟩ = some (.int .i64 (s : Int)) := HKd.out.cell 0 _ rfl
    have cod : wd.cell? ⟨go, 0, none⟩ = some (.func (.func 79) #[] #[.pointer (some ⟨gk, 0, none⟩)]) := HOd.out.cell 0 _ rfl
    have hi4 : (Tryd.prog.info? 103).map (·.size) = some 4 := by kernel_rfl
    have hone : (#[.int .i64 (s : Int), .func (.func 79) #[] #[.pointer (some ⟨gk, 0, none⟩)], .func (.func 80) #[] #[.pointer (some ⟨go, 0, none⟩)], .func (.func 81) #[] #[.pointer (some ⟨go, 0, none⟩)]] : Array Value).all (fun v => v.oneCell') = true := by
      show ([.int .i64 (s : Int), .func (.func 79) #[] #[.pointer (some ⟨gk, 0, none⟩)], .func (.func 80) #[] #[.pointer (some ⟨go, 0, none⟩)], .func (.func 81) #[] #[.pointer (some ⟨go, 0, none⟩)]] : List Value).toArray.all (fun v => v.oneCell') = true
      rw [List.all_toArray]; rfl
    have H2h := Kp.mk (show wd.heap[g2]? = some (.cells #[.int .i64 0, .nilFunc, .nilFunc, .nilFunc] 103 (0, 0)) from H2d.out)
    go_wp2_with (refine wpList_store_row rfl 103 _ _ rfl g2 #[.int .i64 (s : Int), .func (.func 79) #[] #[.pointer (some ⟨gk, 0, none⟩)], .func (.func 80) #[] #[.pointer (some ⟨go, 0, none⟩)], .func (.func 81) #[] #[.pointer (some ⟨go, 0, none⟩)]] rfl rfl 103 #[.int .i64 0, .nilFunc, .nilFunc, .nilFunc] (by exact H2h.out) hi4 rfl hone ?_)
    refine bodyPost_ret (results_cell_row rfl _ _ g2 103 _ (0, 0) _ rfl (setRow_heap _ g2 _ _ _ _ H2h.out) Tryd.underlying103 rfl hi4) rfl ?_
    have hfz : Fr (fun q => q = g2) wd (wd.setRow g2 #[.int .i64 (s : Int), .func (.func 79) #[] #[.pointer (some ⟨gk, 0, none⟩)], .func (.func 80) #[] #[.pointer (some ⟨go, 0, none⟩)], .func (.func 81) #[] #[.pointer (some ⟨go, 0, none⟩)]]) := ⟨rfl, rfl, rfl, by simp [World.setRow], fun q _ hq => setRow_other _ _ q _ hq⟩
    exact ⟨gk, go, rfl, ⟨HKd.out.fr hfz (fun he => HG.out.2.2 he), HOd.out.fr hfz (fun he => HGo.out.2.1 he), hs1, hs2⟩, HG.out.1, HGo.out.1, HFd.out.trans hfz (fun q hq he => by have := HG.out.2.1; omega)⟩
  · rcases (by omega : 31 < k ∨ k ≤ 31) with h2 | h2
    · have hs32 : s = 32 := by rw [HS.out]; unfold strength; rw [if_neg (by omega)]
      have HKs : Kp (Blk (W1.setCell ⟨gk, 0, none⟩ (.int .i64 32)) gk 3 [.int .i64 (s : Int)]) := ⟨by rw [hs32]; exact HKs.out⟩
      clear hs32
      clear HK H2 HF
      go_upto_region 3 with (fail)
      have HK := HKs
      have H2 := H2s
      have HF := HFs
      generalize World.setCell W1 _ _ = wc at HK H2 HF ⊢
      clear HKs H2s HFs ck fk h1 h2
      go_upto_region 4 with (fail)
      obtain ⟨go, hgo⟩ : ∃ go, go = wc.heap.size := ⟨_, rfl⟩
      obtain ⟨wd, hwd⟩ : ∃ wd, wd = wc.alloc (.cells #[.func (.func 79) #[] #[.pointer (some ⟨gk, 0, none⟩)]] 28) := ⟨_, rfl⟩
      have HOd : Kp (Blk wd go 28 [.func (.func 79) #[] #[.pointer (some ⟨gk, 0, none⟩)]]) := ⟨by rw [hwd, hgo]; exact Blk.new wc _ _⟩
      have hfa : Fr (fun _ => False) wc wd := by rw [hwd]; exact (Fr.refl _ wc).alloc _
      have HKd := Kp.mk (HK.out.fr hfa (fun h => h))
      have H2d := Kp.mk (H2.out.fr hfa (fun h => h))
      have HFd := Kp.mk (HF.out.trans hfa (fun _ _ h => h))
      have HGo : Kp (w.heap.size ≤ go ∧ go ≠ g2 ∧ go ≠ gk) := ⟨by have h1 := HF.out.size; have h2 := H2.out.lt; have h3 := HK.out.lt; exact ⟨by omega, by omega, by omega⟩⟩
      rw [← hgo, ← hwd]
      clear hwd hgo hfa HK H2 HF
      have ckd : wd.cell? ⟨gk, 0, none⟩ = some (.int .i64 (s : Int)) := HKd.out.cell 0 _ rfl
      have cod : wd.cell? ⟨go, 0, none⟩ = some (.func (.func 79) #[] #[.pointer (some ⟨gk, 0, none⟩)]) := HOd.out.cell 0 _ rfl
      have hi4 : (Tryd.prog.info? 103).map (·.size) = some 4 := by kernel_rfl
      have hone : (#[.int .i64 (s : Int), .func (.func 79) #[] #[.pointer (some ⟨gk, 0, none⟩)], .func (.func 80) #[] #[.pointer (some ⟨go, 0, none⟩)], .func (.func 81) #[] #[.pointer (some ⟨go, 0, none⟩)]] : Array Value).all (fun v => v.oneCell') = true := by
        show ([.int .i64 (s : Int), .func (.func 79) #[] #[.pointer (some ⟨gk, 0, none⟩)], .func (.func 80) #[] #[.pointer (some ⟨go, 0, none⟩)], .func (.func 81) #[] #[.pointer (some ⟨go, 0, none⟩)]] : List Value).toArray.all (fun v => v.oneCell') = true
        rw [List.all_toArray]; rfl
      have H2h := Kp.mk (show wd.heap[g2]? = some (.cells #[.int .i64 0, .nilFunc, .nilFunc, .nilFunc] 103 (0, 0)) from H2d.out)
      go_wp2_with (refine wpList_store_row rfl 103 _ _ rfl g2 #[.int .i64 (s : Int), .func (.func 79) #[] #[.pointer (some ⟨gk, 0, none⟩)], .func (.func 80) #[] #[.pointer (some ⟨go, 0, none⟩)], .func (.func 81) #[] #[.pointer (some ⟨go, 0, none⟩)]] rfl rfl 103 #[.int .i64 0, .nilFunc, .nilFunc, .nilFunc] (by exact H2h.out) hi4 rfl hone ?_)
      refine bodyPost_ret (results_cell_row rfl _ _ g2 103 _ (0, 0) _ rfl (setRow_heap _ g2 _ _ _ _ H2h.out) Tryd.underlying103 rfl hi4) rfl ?_
      have hfz : Fr (fun q => q = g2) wd (wd.setRow g2 #[.int .i64 (s : Int), .func (.func 79) #[] #[.pointer (some ⟨gk, 0, none⟩)], .func (.func 80) #[] #[.pointer (some ⟨go, 0, none⟩)], .func (.func 81) #[] #[.pointer (some ⟨go, 0, none⟩)]]) := ⟨rfl, rfl, rfl, by simp [World.setRow], fun q _ hq => setRow_other _ _ q _ hq⟩
      exact ⟨gk, go, rfl, ⟨HKd.out.fr hfz (fun he => HG.out.2.2 he), HOd.out.fr hfz (fun he => HGo.out.2.1 he), hs1, hs2⟩, HG.out.1, HGo.out.1, HFd.out.trans hfz (fun q hq he => by have := HG.out.2.1; omega)⟩
    · have hsk : k = (s : Int) := by rw [HS.out]; unfold strength; rw [if_pos ⟨h1, h2⟩]; omega
      have HKk : Kp (Blk W1 gk 3 [.int .i64 (s : Int)]) := ⟨by rw [← hsk]; exact HK.out⟩
      clear hsk HK
      go_upto_region 3 with (fail)
      have HK := HKk
      obtain ⟨wc, hwc⟩ : ∃ wc, wc = W1 := ⟨_, rfl⟩
      rw [← hwc] at HK H2 HF ⊢
      clear hwc HKk HKs H2s HFs ck fk h1 h2
      go_upto_region 4 with (fail)
      obtain ⟨go, hgo⟩ : ∃ go, go = wc.heap.size := ⟨_, rfl⟩
      obtain ⟨wd, hwd⟩ : ∃ wd, wd = wc.alloc (.cells #[.func (.func 79) #[] #[.pointer (some ⟨gk, 0, none⟩)]] 28) := ⟨_, rfl⟩
      have HOd : Kp (Blk wd go 28 [.func (.func 79) #[] #[.pointer (some ⟨gk, 0, none⟩)]]) := ⟨by rw [hwd, hgo]; exact Blk.new wc _ _⟩
      have hfa : Fr (fun _ => False) wc wd := by rw [hwd]; exact (Fr.refl _ wc).alloc _
      have HKd := Kp.mk (HK.out.fr hfa (fun h => h))
      have H2d := Kp.mk (H2.out.fr hfa (fun h => h))
      have HFd := Kp.mk (HF.out.trans hfa (fun _ _ h => h))
      have HGo : Kp (w.heap.size ≤ go ∧ go ≠ g2 ∧ go ≠ gk) := ⟨by have h1 := HF.out.size; have h2 := H2.out.lt; have h3 := HK.out.lt; exact ⟨by omega, by omega, by omega⟩⟩
      rw [← hgo, ← hwd]
      clear hwd hgo hfa HK H2 HF
      have ckd : wd.cell? ⟨gk, 0, none⟩ = some (.int .i64 (s : Int)) := HKd.out.cell 0 _ rfl
      have cod : wd.cell? ⟨go, 0, none⟩ = some (.func (.func 79) #[] #[.pointer (some ⟨gk, 0, none⟩)]) := HOd.out.cell 0 _ rfl
      have hi4 : (Tryd.prog.info? 103).map (·.size) = some 4 := by kernel_rfl
      have hone : (#[.int .i64 (s : Int), .func (.func 79) #[] #[.pointer (some ⟨gk, 0, none⟩)], .func (.func 80) #[] #[.pointer (some ⟨go, 0, none⟩)], .func (.func 81) #[] #[.pointer (some ⟨go, 0, none⟩)]] : Array Value).all (fun v => v.oneCell') = true := by
        show ([.int .i64 (s : Int), .func (.func 79) #[] #[.pointer (some ⟨gk, 0, none⟩)], .func (.func 80) #[] #[.pointer (some ⟨go, 0, none⟩)], .func (.func 81) #[] #[.pointer (some ⟨go, 0, none⟩)]] : List Value).toArray.all (fun v => v.oneCell') = true
        rw [List.all_toArray]; rfl
      have H2h := Kp.mk (show wd.heap[g2]? = some (.cells #[.int .i64 0, .nilFunc, .nilFunc, .nilFunc] 103 (0, 0)) from H2d.out)
      go_wp2_with (refine wpList_store_row rfl 103 _ _ rfl g2 #[.int .i64 (s : Int), .func (.func 79) #[] #[.pointer (some ⟨gk, 0, none⟩)], .func (.func 80) #[] #[.pointer (some ⟨go, 0, none⟩)], .func (.func 81) #[] #[.pointer (some ⟨go, 0, none⟩)]] rfl rfl 103 #[.int .i64 0, .nilFunc, .nilFunc, .nilFunc] (by exact H2h.out) hi4 rfl hone ?_)
      refine bodyPost_ret (results_cell_row rfl _ _ g2 103 _ (0, 0) _ rfl (setRow_heap _ g2 _ _ _ _ H2h.out) Tryd.underlying103 rfl hi4) rfl ?_
      have hfz : Fr (fun q => q = g2) wd (wd.setRow g2 #[.int .i64 (s : Int), .func (.func 79) #[] #[.pointer (some ⟨gk, 0, none⟩)], .func (.func 80) #[] #[.pointer (some ⟨go, 0, none⟩)], .func (.func 81) #[] #[.pointer (some ⟨go, 0, none⟩)]]) := ⟨rfl, rfl, rfl, by simp [World.setRow], fun q _ hq => setRow_other _ _ q _ hq⟩
      exact ⟨gk, go, rfl, ⟨HKd.out.fr hfz (fun he => HG.out.2.2 he), HOd.out.fr hfz (fun he => HGo.out.2.1 he), hs1, hs2⟩, HG.out.1, HGo.out.1, HFd.out.trans hfz (fun q hq he => by have := HG.out.2.1; omega)⟩
set_option maxHeartbeats 2000000 in
set_option maxRecDepth 100000 in
theorem leafHash_calls (k : Int) (A : Option Addr) (c : Nat) (p : List Int) (w : World) (hL : Laid w) (hX : Src w (fun _ => False) A c p) (hp : p.length ≤ 140737488351232) :
    Calls Tryd.prog 14 #[.int .i64 k, .slice A p.length c] w fun e w' => e = .returned (.agg (bytes (leafL (strength k) p)).toArray) ∧ Fr (fun _ => False) w w' := by
  have hll : (leafL (strength k) p).length = 32 := ofL_len _ _ (strength_le k)
  have C0 : Kp (∀ gk go W, Fr (fun _ => False) w W → Hs W gk go (strength k) → Calls Tryd.prog 80 #[.slice A p.length c, .pointer (some ⟨go, 0, none⟩)] W fun e w' => e = .returned (.agg (bytes (leafL (strength k) p)).toArray) ∧ Fr (fun _ => False) W w') := ⟨fun gk go W hf hH => leaf_calls A c p gk go (strength k) W (hL.fr hf (fun _ h => h.elim)) hH (hX.fr hf) hp⟩
  obtain ⟨s, hs⟩ : ∃ s, s = strength k := ⟨_, rfl⟩
  have CH := Kp.mk (fun W => hasherOf_calls k W)
  rw [← hs] at C0 CH hll ⊢
  generalize leafL s p = M at C0 hll ⊢
  have HL := Kp.mk hll
  clear hs hll hL hX hp
  go_enter Tryd.func14, Tryd.ntmps14
  go_upto_region 1 with (fail)
  obtain ⟨g4, hg4⟩ : ∃ g4, g4 = w.heap.size := ⟨_, rfl⟩
  obtain ⟨W1, hW1⟩ : ∃ W1, W1 = w.alloc (.cells #[.int .u8 0, .int .u8 0, .int .u8 0, .int .u8 0, .int .u8 0, .int .u8 0, .int .u8 0, .int .u8 0, .int .u8 0, .int .u8 0, .int .u8 0, .int .u8 0, .int .u8 0, .int .u8 0, .int .u8 0, .int .u8 0, .int .u8 0, .int .u8 0, .int .u8 0, .int .u8 0, .int .u8 0, .int .u8 0, .int .u8 0, .int .u8 0, .int .u8 0, .int .u8 0, .int .u8 0, .int .u8 0, .int .u8 0, .int .u8 0, .int .u8 0, .int .u8 0] 25) := ⟨_, rfl⟩
  have H4 : Kp (Blk W1 g4 25 [.int .u8 0, .int .u8 0, .int .u8 0, .int .u8 0, .int .u8 0, .int .u8 0, .int .u8 0, .int .u8 0, .int .u8 0, .int .u8 0, .int .u8 0, .int .u8 0, .int .u8 0, .int .u8 0, .int .u8 0, .int .u8 0, .int .u8 0, .int .u8 0, .int .u8 0, .int .u8 0, .int .u8 0, .int .u8 0, .int .u8 0, .int .u8 0, .int .u8 0, .int .u8 0, .int .u8 0, .int .u8 0, .int .u8 0, .int .u8 0, .int .u8 0, .int .u8 0]) := ⟨by rw [hW1, hg4]; exact Blk.new w _ _⟩
  have HF1 : Kp (Fr (fun _ => False) w W1) := ⟨by rw [hW1]; exact (Fr.refl _ w).alloc _⟩
  have HG : Kp (w.heap.size ≤ g4) := ⟨by omega⟩
  rw [← hg4, ← hW1]
  clear hg4 hW1
  go_wp2_with fail
  refine (CH.out W1).mono ?_
  rintro e W2 ⟨gk, go, rfl, hH, hk, ho, hf⟩
  have HH := Kp.mk hH
  have HF2 := Kp.mk (HF1.out.trans hf (fun _ _ h => h))
  have H42 := Kp.mk (H4.out.fr hf (fun h => h))
  clear hH hk ho hf HF1 H4
  have hfd := fun W => field2 W gk go s
  generalize hasherV gk go s = HV at hfd ⊢
  go_wp2_with fail
  refine (C0.out gk go W2 HF2.out HH.out).mono ?_
  rintro e W3 ⟨rfl, hf⟩
  have HF3 := Kp.mk (HF2.out.trans hf (fun _ _ h => h))
  have H43 := Kp.mk (H42.out.fr hf (fun h => h))
  clear hf HF2 H42 HH
  have hi32 : (Tryd.prog.info? 25).map (·.size) = some 32 := by kernel_rfl
  have hsz : (bytes M).toArray.size = 32 := by simp [bytes, HL.out]
  have hone := bytes_ones M
  have H4h := Kp.mk (show W3.heap[g4]? = some (.cells #[.int .u8 0, .int .u8 0, .int .u8 0, .int .u8 0, .int .u8 0, .int .u8 0, .int .u8 0, .int .u8 0, .int .u8 0, .int .u8 0, .int .u8 0, .int .u8 0, .int .u8 0, .int .u8 0, .int .u8 0, .int .u8 0, .int .u8 0, .int .u8 0, .int .u8 0, .int .u8 0, .int .u8 0, .int .u8 0, .int .u8 0, .int .u8 0, .int .u8 0, .int .u8 0, .int .u8 0, .int .u8 0, .int .u8 0, .int .u8 0, .int .u8 0, .int .u8 0] 25 (0, 0)) from H43.out)
  go_wp2_with (refine wpList_store_row rfl 25 _ _ rfl g4 (bytes M).toArray rfl rfl 25 #[.int .u8 0, .int .u8 0, .int .u8 0, .int .u8 0, .int .u8 0, .int .u8 0, .int .u8 0, .int .u8 0, .int .u8 0, .int .u8 0, .int .u8 0, .int .u8 0, .int .u8 0, .int .u8 0, .int .u8 0, .int .u8 0, .int .u8 0, .int .u8 0, .int .u8 0, .int .u8 0, .int .u8 0, .int .u8 0, .int .u8 0, .int .u8 0, .int .u8 0, .int .u8 0, .int .u8 0, .int .u8 0, .int .u8 0, .int .u8 0, .int .u8 0, .int .u8 0] (by exact H4h.out) (by rw [hsz]; exact hi32) (by rw [hsz]; rfl) hone ?_)
  refine bodyPost_ret (results_cell_row rfl _ _ g4 25 _ (0, 0) _ rfl (setRow_heap _ g4 _ _ _ _ H4h.out) Tryd.underlying25 rfl (by rw [hsz]; exact hi32)) rfl ?_
  refine ⟨rfl, ?_⟩
  exact HF3.out.trans (S' := fun q => q = g4) ⟨rfl, rfl, rfl, by simp [World.setRow], fun q _ hq => setRow_other _ _ q _ hq⟩ (fun q hq he => by have := HG.out; omega)
set_option maxHeartbeats 2000000 in
set_option maxRecDepth 100000 in
theorem emptyHash_calls (k : Int)  (w : World) (hL : Laid w)  :
    Calls Tryd.prog 11 #[.int .i64 k] w fun e w' => e = .returned (.agg (bytes (ofL (strength k) [])).toArray) ∧ Fr (fun _ => False) w w' := by
  have hll : (ofL (strength k) []).length = 32 := ofL_len _ _ (strength_le k)
  have C0 : Kp (∀ gk go W, Fr (fun _ => False) w W → Hs W gk go (strength k) → Calls Tryd.prog 79 #[.slice none 0 0, .pointer (some ⟨gk, 0, none⟩)] W fun e w' => e = .returned (.agg (bytes (ofL (strength k) [])).toArray) ∧ Fr (fun _ => False) W w') := ⟨fun gk go W hf hH => of_calls none 0 [] gk go (strength k) W (hL.fr hf (fun _ h => h.elim)) hH ⟨Nat.le_refl _, .inl ⟨rfl, rfl, rfl⟩⟩ (by decide)⟩
  obtain ⟨s, hs⟩ : ∃ s, s = strength k := ⟨_, rfl⟩
  have CH := Kp.mk (fun W => hasherOf_calls k W)
  rw [← hs] at C0 CH hll ⊢
  generalize ofL s [] = M at C0 hll ⊢
  have HL := Kp.mk hll
  clear hs hll hL
  go_enter Tryd.func11, Tryd.ntmps11
  go_upto_region 1 with (fail)
  obtain ⟨g4, hg4⟩ : ∃ g4, g4 = w.heap.size := ⟨_, rfl⟩
  obtain ⟨W1, hW1⟩ : ∃ W1, W1 = w.alloc (.cells #[.int .u8 0, .int .u8 0, .int .u8 0, .int .u8 0, .int .u8 0, .int .u8 0, .int .u8 0, .int .u8 0, .int .u8 0, .int .u8 0, .int .u8 0, .int .u8 0, .int .u8 0, .int .u8 0, .int .u8 0, .int .u8 0, .int .u8 0, .int .u8 0, .int .u8 0, .int .u8 0, .int .u8 0, .int .u8 0, .int .u8 0, .int .u8 0, .int .u8 0, .int .u8 0, .int .u8 0, .int .u8 0, .int .u8 0, .int .u8 0, .int .u8 0, .int .u8 0] 25) := ⟨_, rfl⟩
  have H4 : Kp (Blk W1 g4 25 [.int .u8 0, .int .u8 0, .int .u8 0, .int .u8 0, .int .u8 0, .int .u8 0, .int .u8 0, .int .u8 0, .int .u8 0, .int .u8 0, .int .u8 0, .int .u8 0, .int .u8 0, .int .u8 0, .int .u8 0, .int .u8 0, .int .u8 0, .int .u8 0, .int .u8 0, .int .u8 0, .int .u8 0, .int .u8 0, .int .u8 0, .int .u8 0, .int .u8 0, .int .u8 0, .int .u8 0, .int .u8 0, .int .u8 0, .int .u8 0, .int .u8 0, .int .u8 0]) := ⟨by rw [hW1, hg4]; exact Blk.new w _ _⟩
  have HF1 : Kp (Fr (fun _ => False) w W1) := ⟨by rw [hW1]; exact (Fr.refl _ w).alloc _⟩
  have HG : Kp (w.heap.size ≤ g4) := ⟨by omega⟩
  rw [← hg4, ← hW1]
  clear hg4 hW1
  go_wp2_with fail
  refine (CH.out W1).mono ?_
  rintro e W2 ⟨gk, go, rfl, hH, hk, ho, hf⟩
  have HH := Kp.mk hH
  have HF2 := Kp.mk (HF1.out.trans hf (fun _ _ h => h))
  have H42 := Kp.mk (H4.out.fr hf (fun h => h))
  clear hH hk ho hf HF1 H4
  have hfd := fun W => field1 W gk go s
  generalize hasherV gk go s = HV at hfd ⊢
  go_wp2_with fail
  refine (C0.out gk go W2 HF2.out HH.out).mono ?_
  rintro e W3 ⟨rfl, hf⟩
  have HF3 := Kp.mk (HF2.out.trans hf (fun _ _ h => h))
  have H43 := Kp.mk (H42.out.fr hf (fun h => h))
  clear hf HF2 H42 HH
  have hi32 : (Tryd.prog.info? 25).map (·.size) = some 32 := by kernel_rfl
  have hsz : (bytes M).toArray.size = 32 := by simp [bytes, HL.out]
  have hone := bytes_ones M
  have H4h := Kp.mk (show W3.heap[g4]? = some (.cells #[.int .u8 0, .int .u8 0, .int .u8 0, .int .u8 0, .int .u8 0, .int .u8 0, .int .u8 0, .int .u8 0, .int .u8 0, .int .u8 0, .int .u8 0, .int .u8 0, .int .u8 0, .int .u8 0, .int .u8 0, .int .u8 0, .int .u8 0, .int .u8 0, .int .u8 0, .int .u8 0, .int .u8 0, .int .u8 0, .int .u8 0, .int .u8 0, .int .u8 0, .int .u8 0, .int .u8 0, .int .u8 0, .int .u8 0, .int .u8 0, .int .u8 0, .int .u8 0] 25 (0, 0)) from H43.out)
  go_wp2_with (refine wpList_store_row rfl 25 _ _ rfl g4 (bytes M).toArray rfl rfl 25 #[.int .u8 0, .int .u8 0, .int .u8 0, .int .u8 0, .int .u8 0, .int .u8 0, .int .u8 0, .int .u8 0, .int .u8 0, .int .u8 0, .int .u8 0, .int .u8 0, .int .u8 0, .int .u8 0, .int .u8 0, .int .u8 0, .int .u8 0, .int .u8 0, .int .u8 0, .int .u8 0, .int .u8 0, .int .u8 0, .int .u8 0, .int .u8 0, .int .u8 0, .int .u8 0, .int .u8 0, .int .u8 0, .int .u8 0, .int .u8 0, .int .u8 0, .int .u8 0] (by exact H4h.out) (by rw [hsz]; exact hi32) (by rw [hsz]; rfl) hone ?_)
  refine bodyPost_ret (results_cell_row rfl _ _ g4 25 _ (0, 0) _ rfl (setRow_heap _ g4 _ _ _ _ H4h.out) Tryd.underlying25 rfl (by rw [hsz]; exact hi32)) rfl ?_
  refine ⟨rfl, ?_⟩
  exact HF3.out.trans (S' := fun q => q = g4) ⟨rfl, rfl, rfl, by simp [World.setRow], fun q _ hq => setRow_other _ _ q _ hq⟩ (fun q hq he => by have := HG.out; omega)
end Go.Proofs.YtjbhaopocabfaaaDoor.Sha
