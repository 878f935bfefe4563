/-
  The words of one block, by the document, kind 256.
-/
import Derived.Test.YtjcfnflkiialbaaDoorRPlan64
import Derived.Test.YtjcfnflkiialbaaDoorRRound32
namespace Go.Proofs.YtjcfnflkiialbaaDoor.Sha
open Go.RowKit Go.Proofs.YtjcfnflkiialbaaDoor.Mem Go.Proofs.YtjcfnflkiialbaaDoorW.PrintWords
theorem sum4w (a b c d : BitVec 32) : Int.tmod (IntKind.u64.wrap (IntKind.u64.wrap (IntKind.u64.wrap ((a.toNat : Int) + (b.toNat : Int)) + (c.toNat : Int)) + (d.toNat : Int))) 4294967296 = ((a + b + c + d).toNat : Int) := by
  simp only [wrap64u, BitVec.toNat_add]
  have := a.isLt; have := b.isLt; have := c.isLt; have := d.isLt
  rw [Int.tmod_eq_emod_of_nonneg (by omega)]
  omega
def ws32 (l : List (BitVec 32)) : List Value := l.map fun x => .int .u64 (x.toNat : Int)
set_option maxHeartbeats 2000000 in
set_option maxRecDepth 100000 in
theorem rplan32_calls (A : Option Addr) (c : Nat) (b : List Int) (hb : Bs b) (hl : b.length = 64) (w : World) (hL : RLaid w) {S : Nat → Prop} (hX : Src w S A c b) :
    Calls Tryd.prog 77 #[.int .i64 1, .slice A 64 c] w fun e w' => ∃ v, e = .returned v ∧ OwnL w' 58 1 v 64 (ws32 (sched turns32 (wordsOf 4 b 16) 48)) ∧ (∀ k, v.ownBlock = some k → w.heap.size ≤ k) ∧ Fr (fun _ => False) w w' := by
  obtain ⟨bs, os, rfl, hR⟩ : ∃ bs os, A = some ⟨bs, os, none⟩ ∧ Reads w bs os b := by
    rcases hX.2 with ⟨_, _, h⟩ | ⟨h, _⟩ | ⟨bs, os, rfl, h, _⟩
    · rw [h] at hl; simp at hl
    · rw [h] at hl; simp at hl
    · exact ⟨bs, os, rfl, h⟩
  obtain ⟨R, hRR⟩ : ∃ R, R = ws32 (sched turns32 (wordsOf 4 b 16) 48) := ⟨_, rfl⟩
  rw [← hRR]
  have HRR := Kp.mk hRR
  clear hRR
  have hc : (64 : Int) ≤ (c : Int) := by have := hX.1; omega
  have HL := Kp.mk hL
  have HR := Kp.mk hR
  have HB := Kp.mk hb
  have HLe := Kp.mk hl
  clear hL hX hR hb hl
  go_enter Tryd.func77, Tryd.ntmps77
  go_wp2_with fail
  refine (wide_calls1 w).mono ?_
  rintro e W2 ⟨rfl, hf⟩
  have HF := Kp.mk hf
  clear hf
  have hrow : Kp ((W2.alloc (.cells #[.int .u64 0, .int .u64 0, .int .u64 0, .int .u64 0, .int .u64 0, .int .u64 0, .int .u64 0, .int .u64 0, .int .u64 0, .int .u64 0, .int .u64 0, .int .u64 0] 117)).heap[W2.heap.size]? = some (.cells #[.int .u64 0, .int .u64 0, .int .u64 0, .int .u64 0, .int .u64 0, .int .u64 0, .int .u64 0, .int .u64 0, .int .u64 0, .int .u64 0, .int .u64 0, .int .u64 0] 117 (0, 0))) := ⟨Blk.new W2 _ _⟩
  have hone : (#[.int .u64 2, .int .u64 13, .int .u64 22, .int .u64 6, .int .u64 11, .int .u64 25, .int .u64 7, .int .u64 18, .int .u64 3, .int .u64 17, .int .u64 19, .int .u64 10] : Array Value).all (fun v => v.oneCell') = true := by
    show (([.int .u64 2, .int .u64 13, .int .u64 22, .int .u64 6, .int .u64 11, .int .u64 25, .int .u64 7, .int .u64 18, .int .u64 3, .int .u64 17, .int .u64 19, .int .u64 10] : List Value).toArray).all (fun v => v.oneCell') = true
    rw [List.all_toArray]; rfl
  have hi12 : (Tryd.prog.info? 117).map (·.size) = some 12 := by kernel_rfl
  have hrg : Kp (W2.rangeAt 7 12 [.int .u64 2, .int .u64 13, .int .u64 22, .int .u64 6, .int .u64 11, .int .u64 25, .int .u64 7, .int .u64 18, .int .u64 3, .int .u64 17, .int .u64 19, .int .u64 10]) := ⟨rt_range (HL.out.fr HF.out) 12 (by decide)⟩
  go_wp2_with (first
    | refine wpList_load_mid rfl 117 _ rfl 7 12 rfl [.int .u64 2, .int .u64 13, .int .u64 22, .int .u64 6, .int .u64 11, .int .u64 25, .int .u64 7, .int .u64 18, .int .u64 3, .int .u64 17, .int .u64 19, .int .u64 10] _ hrg.out Tryd.underlying117 rfl hi12 ?_
    | refine wpList_store_row rfl 117 _ _ rfl W2.heap.size #[.int .u64 2, .int .u64 13, .int .u64 22, .int .u64 6, .int .u64 11, .int .u64 25, .int .u64 7, .int .u64 18, .int .u64 3, .int .u64 17, .int .u64 19, .int .u64 10] rfl rfl 117 #[.int .u64 0, .int .u64 0, .int .u64 0, .int .u64 0, .int .u64 0, .int .u64 0, .int .u64 0, .int .u64 0, .int .u64 0, .int .u64 0, .int .u64 0, .int .u64 0] (by exact hrow.out) hi12 rfl hone ?_)
  obtain ⟨gt, hgt⟩ : ∃ gt, gt = W2.heap.size := ⟨_, rfl⟩
  have HT3 : Kp (Blk ((W2.alloc (.cells #[.int .u64 0, .int .u64 0, .int .u64 0, .int .u64 0, .int .u64 0, .int .u64 0, .int .u64 0, .int .u64 0, .int .u64 0, .int .u64 0, .int .u64 0, .int .u64 0] 117)).setRow W2.heap.size #[.int .u64 2, .int .u64 13, .int .u64 22, .int .u64 6, .int .u64 11, .int .u64 25, .int .u64 7, .int .u64 18, .int .u64 3, .int .u64 17, .int .u64 19, .int .u64 10]) gt 117 [.int .u64 2, .int .u64 13, .int .u64 22, .int .u64 6, .int .u64 11, .int .u64 25, .int .u64 7, .int .u64 18, .int .u64 3, .int .u64 17, .int .u64 19, .int .u64 10]) := ⟨by rw [hgt]; exact blk_row W2 _ _ _⟩
  have HF3 := Kp.mk (fr_row HF.out (.cells #[.int .u64 0, .int .u64 0, .int .u64 0, .int .u64 0, .int .u64 0, .int .u64 0, .int .u64 0, .int .u64 0, .int .u64 0, .int .u64 0, .int .u64 0, .int .u64 0] 117) #[.int .u64 2, .int .u64 13, .int .u64 22, .int .u64 6, .int .u64 11, .int .u64 25, .int .u64 7, .int .u64 18, .int .u64 3, .int .u64 17, .int .u64 19, .int .u64 10])
  have Hgt : Kp (w.heap.size ≤ gt) := ⟨by rw [hgt]; exact HF.out.size⟩
  rw [← hgt] at HT3 HF3 ⊢
  generalize hW3 : World.setRow _ gt _ = W3 at HT3 HF3 ⊢
  clear hW3 hgt hrow hrg HF
  go_loopw [7, 8] (fun s7 s8 wr => ∃ (i cz : Nat) (Az : Option Addr), s7 = .slice Az i cz ∧ s8 = .int .i64 (i : Int) ∧ Kp (i ≤ 16) ∧ Kp (OwnL wr 58 1 (.slice Az i cz) i (ws32 ((wordsOf 4 b 16).take i))) ∧ Kp (∀ k, (Value.slice Az i cz).ownBlock = some k → w.heap.size ≤ k ∧ k ≠ gt) ∧ Kp (Blk wr gt 117 [.int .u64 2, .int .u64 13, .int .u64 22, .int .u64 6, .int .u64 11, .int .u64 25, .int .u64 7, .int .u64 18, .int .u64 3, .int .u64 17, .int .u64 19, .int .u64 10]) ∧ Kp (Fr (fun _ => False) w wr)) (fun _ s8 _ => 16 - (intOf s8).toNat)
  case atStart => exact ⟨0, 0, none, rfl, rfl, ⟨by omega⟩, ⟨⟨rfl, .inl ⟨rfl, rfl⟩⟩⟩, ⟨fun k hk => by cases hk⟩, HT3, HF3⟩
  case round =>
    clear HT3 HF3
    obtain ⟨i, cz, Az, rfl, rfl, hi, HO, HG, HT, HF⟩ := hrel
    have hi' := hi.out
    by_cases hlt : i < 16
    · have h8 : (0 : Int) ≤ 4 * (i : Int) := by omega
      have h8b : 4 * (i : Int) + 4 ≤ (c : Int) := by omega
      go_wp2_with fail
      obtain ⟨l, hl⟩ : ∃ l, l = (b.drop (4 * i)).take 4 := ⟨_, rfl⟩
      have hlw : l.length = 4 := by rw [hl, List.length_take, List.length_drop, HLe.out]; omega
      have hbl : Bs l := by rw [hl]; exact (HB.out.drop _).take _
      have hsrc : Src wr (fun _ => False) (some ⟨bs, os + 4 * i, none⟩) (c - 4 * i) l := ⟨by rw [hlw]; omega, .inr (.inr ⟨_, _, rfl, by rw [hl]; exact ((HR.out.fr HF.out (fun h => h)).drop (4 * i)).take 4, fun h => h⟩)⟩
      have hnum := number_calls _ _ l hbl (by omega) wr hsrc
      rw [hlw, ← wordAt_num (w := 32) l hbl (by omega)] at hnum
      obtain ⟨x, hx⟩ : ∃ x : BitVec 32, x = wordAt l := ⟨_, rfl⟩
      rw [← hx] at hnum
      have hsn : ws32 ((wordsOf 4 b 16).take i) ++ [Value.int .u64 (x.toNat : Int)] = ws32 ((wordsOf 4 b 16).take (i + 1)) := by
        have hwl : (wordsOf 4 b 16 : List (BitVec 32)).length = 16 := by simp [wordsOf]
        have hwi : (wordsOf 4 b 16 : List (BitVec 32))[i]'(by omega) = x := by
          rw [hx, hl, Nat.mul_comm 4 i]; simp [wordsOf]
        rw [List.take_succ_eq_append_getElem (by omega), hwi]
        simp [ws32]
      have HSN := Kp.mk hsn
      refine hnum.mono ?_
      rintro e w4 ⟨rfl, hd⟩
      have hf : Fr (fun _ => False) wr w4 := Fr.of_below hd.below _
      have HF4 := Kp.mk (HF.out.trans hf (fun _ _ h => h))
      have HT4 := Kp.mk (HT.out.fr hf (fun h => h))
      have HO4 := Kp.mk (HO.out.fr hf (fun _ _ h => h))
      clear hl hlw hbl hsrc hnum hx hsn hd hf HF HT HO
      go_wp2_with (at_builtin; refine wpList_append_W rfl (.tmp 23) (.tmp 35) rfl rfl (.slice Az i cz) i (ws32 ((wordsOf 4 b 16).take i)) rfl (by exact HO4.out.fr ((Fr.refl (fun _ => False) w4).alloc _) (fun _ _ h => h)) w4.heap.size (x.toNat : Int) rfl (by exact (Blk.new w4 _ _).cell 0 _ rfl) (by omega) ?_; intro v5 w5 hown _hold hgr hat hsh; rw [HSN.out] at hown; obtain ⟨Ay, cy, hv5⟩ := hsh; subst hv5; have HO5 := Kp.mk hown; have HGr := Kp.mk hgr; have HAt := Kp.mk hat; clear hown _hold hgr hat)
      have hfg : Fr (fun k => (Value.slice Az i cz).ownBlock = some k) w4 w5 := ((Fr.refl _ w4).alloc _).grown HGr.out (fun _ _ h => h)
      have HT5 : Kp (Blk w5 gt 117 [.int .u64 2, .int .u64 13, .int .u64 22, .int .u64 6, .int .u64 11, .int .u64 25, .int .u64 7, .int .u64 18, .int .u64 3, .int .u64 17, .int .u64 19, .int .u64 10]) := ⟨HT4.out.fr hfg (fun h => (HG.out gt h).2 rfl)⟩
      have HF5 : Kp (Fr (fun _ => False) w w5) := ⟨HF4.out.trans hfg (fun k hk h => by have := (HG.out k h).1; omega)⟩
      have HG5 : Kp (∀ k, (Value.slice Ay (i + 1) cy).ownBlock = some k → w.heap.size ≤ k ∧ k ≠ gt) := ⟨fun k hk => by
        rcases HAt.out with h | h
        · exact HG.out k (h.symm.trans hk)
        · have : (w4.alloc (.cells #[.int .u64 (x.toNat : Int)] 58)).heap.size = k := Option.some.inj (h.symm.trans hk)
          have h1 := HF4.out.size
          have h2 := HT4.out.lt
          have h3 : (w4.alloc (.cells #[.int .u64 (x.toNat : Int)] 58)).heap.size = w4.heap.size + 1 := by simp
          exact ⟨by omega, by omega⟩⟩
      clear hfg HF4 HT4 HO4 HGr HAt HG
      go_roundw
      case rel => exact ⟨i + 1, cy, Ay, rfl, by go_num, ⟨hlt⟩, HO5, HG5, HT5, HF5⟩
      case measure => simp [intOf] <;> omega
    · obtain rfl : i = 16 := by omega
      have HO0 : Kp (OwnL wr 58 1 (.slice Az 16 cz) 16 (ws32 (sched turns32 (wordsOf 4 b 16) 0))) := ⟨by
        have h := HO.out
        rw [List.take_of_length_le (by simp [wordsOf])] at h
        exact h⟩
      clear HO
      have hL0 : (wordsOf 4 b 16 : List (BitVec 32)).length = 16 := by simp [wordsOf]
      have hRR := HRR.out
      clear HRR
      generalize (wordsOf 4 b 16 : List (BitVec 32)) = L0 at HO0 hL0 hRR
      obtain ⟨Q, hQ⟩ : ∃ Q : Nat → List (BitVec 32), Q = fun i => sched turns32 L0 (i - 16) := ⟨_, rfl⟩
      have HQl : Kp (∀ i, 16 ≤ i → (Q i).length = i) := ⟨fun i h => by rw [hQ]; show (sched turns32 L0 (i - 16)).length = i; rw [sched_length, hL0]; omega⟩
      have HQs : Kp (∀ i, 16 ≤ i → Q (i + 1) = Q i ++ [nextWord turns32 (Q i)]) := ⟨fun i h => by
        rw [hQ]
        show sched turns32 L0 (i + 1 - 16) = sched turns32 L0 (i - 16) ++ [nextWord turns32 (sched turns32 L0 (i - 16))]
        rw [show i + 1 - 16 = (i - 16) + 1 by omega]
        rfl⟩
      have hQ0 : sched turns32 L0 0 = Q 16 := by rw [hQ]
      have hQ1 : sched turns32 L0 48 = Q 64 := by rw [hQ]
      rw [hQ0] at HO0
      rw [hQ1] at hRR
      have HRR := Kp.mk hRR
      clear hL0 hQ hQ0 hQ1 hRR HR HB HLe hi hi' hlt hc
      go_wp2
      go_loopw [7, 9] (fun s7 s9 wr => ∃ (i cz : Nat) (Az : Option Addr), s7 = .slice Az i cz ∧ s9 = .int .i64 (i : Int) ∧ Kp (16 ≤ i ∧ i ≤ 64) ∧ Kp (OwnL wr 58 1 (.slice Az i cz) i (ws32 (Q i))) ∧ Kp (∀ k, (Value.slice Az i cz).ownBlock = some k → w.heap.size ≤ k ∧ k ≠ gt) ∧ Kp (Blk wr gt 117 [.int .u64 2, .int .u64 13, .int .u64 22, .int .u64 6, .int .u64 11, .int .u64 25, .int .u64 7, .int .u64 18, .int .u64 3, .int .u64 17, .int .u64 19, .int .u64 10]) ∧ Kp (Fr (fun _ => False) w wr)) (fun _ s9 _ => 64 - (intOf s9).toNat)
      case atStart => exact ⟨16, cz, Az, rfl, rfl, ⟨by omega⟩, HO0, HG, HT, HF⟩
      case round =>
        clear HO0 HG HT HF
        obtain ⟨i, cz, Az, rfl, rfl, hi, HO, HG, HT, HF⟩ := hrel
        obtain ⟨hi1, hi2⟩ := hi.out
        by_cases hlt : i < 64
        · obtain ⟨g, cur, rfl, _⟩ := HO.out.open (by omega)
          obtain ⟨M, hM⟩ : ∃ M, M = Q i := ⟨_, rfl⟩
          have hMl : M.length = i := by rw [hM]; exact HQl.out i hi1
          have HQ1 : Kp (Q (i + 1) = M ++ [nextWord turns32 M]) := ⟨by rw [hM]; exact HQs.out i hi1⟩
          rw [← hM] at HO
          have hcell : ∀ k, k < i → wr.cell? ⟨g, k, none⟩ = some (.int .u64 ((M.getD k 0).toNat : Int)) := fun k hk => HO.out.cell (by simp [ws32, hMl, hk])
          clear hM
          have HMl := Kp.mk hMl
          have hc15 := hcell (i - 15) (by omega)
          have hc2 := hcell (i - 2) (by omega)
          have hc16 := hcell (i - 16) (by omega)
          have hc7 := hcell (i - 7) (by omega)
          obtain ⟨x15, hx15⟩ : ∃ x, x = M.getD (i - 15) 0 := ⟨_, rfl⟩
          obtain ⟨x2, hx2⟩ : ∃ x, x = M.getD (i - 2) 0 := ⟨_, rfl⟩
          obtain ⟨x16, hx16⟩ : ∃ x, x = M.getD (i - 16) 0 := ⟨_, rfl⟩
          obtain ⟨x7, hx7⟩ : ∃ x, x = M.getD (i - 7) 0 := ⟨_, rfl⟩
          rw [← hx15] at hc15
          rw [← hx2] at hc2
          rw [← hx16] at hc16
          rw [← hx7] at hc7
          have HX := Kp.mk (And.intro hx15 (And.intro hx2 (And.intro hx16 hx7)))
          clear hcell hMl hx15 hx2 hx16 hx7
          have ct6 := HT.out.cell 6 _ rfl
          have ct7 := HT.out.cell 7 _ rfl
          have ct8 := HT.out.cell 8 _ rfl
          go_upto_region 13 with (fail)
          have u7 : ∀ w, Calls Tryd.prog 80 #[.int .i64 1, .int .u64 (x15.toNat : Int), .int .u64 7] w fun e' w' => e' = .returned (.int .u64 ((rot x15 7).toNat : Int)) ∧ ∃ n, w' = w.drewN n := fun w => (rturn32_calls x15 7 (by decide) (by decide) w).mono fun _ _ h => ⟨h.1, h.2.out⟩
          have u18 : ∀ w, Calls Tryd.prog 80 #[.int .i64 1, .int .u64 (x15.toNat : Int), .int .u64 18] w fun e' w' => e' = .returned (.int .u64 ((rot x15 18).toNat : Int)) ∧ ∃ n, w' = w.drewN n := fun w => (rturn32_calls x15 18 (by decide) (by decide) w).mono fun _ _ h => ⟨h.1, h.2.out⟩
          go_quiet (first
            | (go_at_call_of 80 (Value.int IntKind.u64 7); exact Calls.quiet_of (u7 _))
            | (go_at_call_of 80 (Value.int IntKind.u64 18); exact Calls.quiet_of (u18 _)))
          go_upto_region 14 with (fail)
          have hs7 : (x15.toNat : Int) / (8 : Int) = ((x15 >>> 3).toNat : Int) := by
            have := shr_nat x15 3
            rw [← this]; rfl
          rw [hs7, xor32w, xor32w]
          have HF4 := Kp.mk (HF.out.drewN nq)
          have HT4 := Kp.mk (HT.out.drewN nq)
          have HO4 := Kp.mk (HO.out.fr ((Fr.refl (fun _ => False) wr).drewN nq) (fun _ _ h => h))
          have hd16 : (wr.drewN nq).cell? ⟨g, i - 16, none⟩ = _ := hc16
          have hd7 : (wr.drewN nq).cell? ⟨g, i - 7, none⟩ = _ := hc7
          generalize World.drewN wr nq = W4 at HF4 HT4 HO4 hd16 hd7 ⊢
          clear hs7 hc15 hc2 hc16 hc7 ct6 ct7 ct8 HF HT HO u7 u18
          have ct9 := HT4.out.cell 9 _ rfl
          have ct10 := HT4.out.cell 10 _ rfl
          have ct11 := HT4.out.cell 11 _ rfl
          have u17 : ∀ w, Calls Tryd.prog 80 #[.int .i64 1, .int .u64 (x2.toNat : Int), .int .u64 17] w fun e' w' => e' = .returned (.int .u64 ((rot x2 17).toNat : Int)) ∧ ∃ n, w' = w.drewN n := fun w => (rturn32_calls x2 17 (by decide) (by decide) w).mono fun _ _ h => ⟨h.1, h.2.out⟩
          have u19 : ∀ w, Calls Tryd.prog 80 #[.int .i64 1, .int .u64 (x2.toNat : Int), .int .u64 19] w fun e' w' => e' = .returned (.int .u64 ((rot x2 19).toNat : Int)) ∧ ∃ n, w' = w.drewN n := fun w => (rturn32_calls x2 19 (by decide) (by decide) w).mono fun _ _ h => ⟨h.1, h.2.out⟩
          go_quiet (first
            | (go_at_call_of 80 (Value.int IntKind.u64 17); exact Calls.quiet_of (u17 _))
            | (go_at_call_of 80 (Value.int IntKind.u64 19); exact Calls.quiet_of (u19 _)))
          go_upto_region 15 with (fail)
          have hs6 : (x2.toNat : Int) / (1024 : Int) = ((x2 >>> 10).toNat : Int) := by
            have := shr_nat x2 10
            rw [← this]; rfl
          rw [hs6, xor32w, xor32w]
          obtain ⟨lo, hlo⟩ : ∃ lo : BitVec 32, lo = rot x15 7 ^^^ rot x15 18 ^^^ x15 >>> 3 := ⟨_, rfl⟩
          obtain ⟨hg, hhg⟩ : ∃ hg : BitVec 32, hg = rot x2 17 ^^^ rot x2 19 ^^^ x2 >>> 10 := ⟨_, rfl⟩
          rw [← hlo, ← hhg]
          have HLH := Kp.mk (And.intro hlo hhg)
          clear hlo hhg
          have hM16 : (ws32 M)[i - 16]? = some (.int .u64 (x16.toNat : Int)) := by rw [HX.out.2.2.1]; simp [ws32, HMl.out, show i - 16 < i by omega]
          have hM7 : (ws32 M)[i - 7]? = some (.int .u64 (x7.toNat : Int)) := by rw [HX.out.2.2.2]; simp [ws32, HMl.out, show i - 7 < i by omega]
          have HM16 := Kp.mk hM16
          have HM7 := Kp.mk hM7
          clear hM16 hM7 ct9 ct10 ct11 u17 u19 hs6
          have HF5 := Kp.mk (HF4.out.drewN nq)
          have HT5 := Kp.mk (HT4.out.drewN nq)
          have HO5 := Kp.mk (HO4.out.fr ((Fr.refl (fun _ => False) W4).drewN nq) (fun _ _ h => h))
          generalize World.drewN W4 nq = W5 at HF5 HT5 HO5 ⊢
          have he16 := HO5.out.cell HM16.out
          have he7 := HO5.out.cell HM7.out
          clear hd16 hd7 HF4 HT4 HO4
          obtain ⟨j16, hj16⟩ : ∃ j, j = i - 16 := ⟨_, rfl⟩
          obtain ⟨j7, hj7⟩ : ∃ j, j = i - 7 := ⟨_, rfl⟩
          have q1 : IntKind.i64.wrap ((i : Int) - 16) = (j16 : Int) := by rw [IntKind.wrap_i64]; omega
          have q2 : wrap64 ((i : Int) - 16) = (j16 : Int) := by unfold wrap64; omega
          have q3 : (j16 : Int) < (i : Int) := by omega
          have q4 : IntKind.i64.wrap ((i : Int) - 7) = (j7 : Int) := by rw [IntKind.wrap_i64]; omega
          have q5 : wrap64 ((i : Int) - 7) = (j7 : Int) := by unfold wrap64; omega
          have q6 : (j7 : Int) < (i : Int) := by omega
          have q7 : j16 < i := by omega
          have q8 : j7 < i := by omega
          rw [← hj16] at he16 HM16
          rw [← hj7] at he7 HM7
          have HJ := Kp.mk (And.intro hj16 hj7)
          clear hj16 hj7
          go_region_held3 (fun w' => w'.cell? ⟨g, j16, none⟩ = some (.int .u64 (x16.toNat : Int)) ∧ w'.cell? ⟨g, j7, none⟩ = some (.int .u64 (x7.toNat : Int))) (first | go_keep | exact ⟨HOld.out.cell HM16.out, HOld.out.cell HM7.out⟩) (first
            | (go_at_call 79; (refine (rword32i_calls _ _).mono ?_); rintro e' w' ⟨rfl, hd⟩; obtain ⟨n, rfl⟩ := hd.out)
            | (refine step_append_W (by rfl) _ _ (by rfl) (by rfl) (.slice (some ⟨g, 0, none⟩) i cz) i (ws32 M) (by rfl) (by exact HO5.out.fr (by repeat (first | exact Fr.refl (fun _ => False) W5 | apply Fr.alloc | apply Fr.drew | apply Fr.drewN)) (fun _ _ h => h)) _ _ (by rfl) (by exact (Blk.new' _ _ _ (by simp)).cell 0 _ rfl) (by omega) ?_; intro v6 w6 hown hold hgr hat hsh; have HO6 := Kp.mk hown; have HOld := Kp.mk hold; have HGr := Kp.mk hgr; have HAt := Kp.mk hat; have HSh := Kp.mk hsh; clear hown hold hgr hat hsh))
          obtain ⟨Ay, cy, hv⟩ := HSh.out
          subst hv
          have hy := HO6.out
          simp only [sum4w] at hy
          have hnx : x16 + lo + x7 + hg = nextWord turns32 M := by
            rw [HLH.out.1, HLH.out.2]
            unfold nextWord small0 small1
            rw [HMl.out, HX.out.1, HX.out.2.1, HX.out.2.2.1, HX.out.2.2.2]
            rfl
          have hsn : ws32 M ++ [Value.int .u64 ((nextWord turns32 M).toNat : Int)] = ws32 (Q (i + 1)) := by
            rw [HQ1.out]
            simp [ws32]
          rw [hnx, hsn] at hy
          have HY := Kp.mk hy
          have hfg : Fr (fun k => (Value.slice (some ⟨g, 0, none⟩) i cz).ownBlock = some k) W5 w6 := Fr.grown (by repeat (first | exact Fr.refl _ W5 | apply Fr.alloc | apply Fr.drew | apply Fr.drewN)) HGr.out (fun _ _ h => h)
          have HT6 : Kp (Blk w6 gt 117 [.int .u64 2, .int .u64 13, .int .u64 22, .int .u64 6, .int .u64 11, .int .u64 25, .int .u64 7, .int .u64 18, .int .u64 3, .int .u64 17, .int .u64 19, .int .u64 10]) := ⟨HT5.out.fr hfg (fun h => (HG.out gt h).2 rfl)⟩
          have HF6 : Kp (Fr (fun _ => False) w w6) := ⟨HF5.out.trans hfg (fun k hk h => by have := (HG.out k h).1; omega)⟩
          have HG6 : Kp (∀ k, (Value.slice Ay (i + 1) cy).ownBlock = some k → w.heap.size ≤ k ∧ k ≠ gt) := ⟨fun k hk => by
            rcases HAt.out with h | h
            · exact HG.out k (h.symm.trans hk)
            · have hkk := Option.some.inj (h.symm.trans hk)
              have h1 := HF5.out.size
              have h2 := HT5.out.lt
              simp at hkk
              exact ⟨by omega, by omega⟩⟩
          clear hfg hy hsn hnx HO5 HF5 HT5 HGr HAt HG HO6 HOld HSh
          (try go_wp2)
          go_roundw
          case rel =>
            repeat apply Exists.intro
            exact ⟨⟨i + 1, cy, Ay, rfl, rfl, ⟨by omega⟩, HY, HG6, HT6, HF6⟩, rfl⟩
          case measure => simp [intOf] <;> omega
        · obtain rfl : i = 64 := by omega
          clear HQl HQs
          rw [← HRR.out] at HO
          clear HRR
          go_wp2
          go_ret
          exact ⟨_, rfl, HO.out, fun k hk => (HG.out k hk).1, HF.out⟩
end Go.Proofs.YtjcfnflkiialbaaDoor.Sha
