/-
  The walk of compress for words of 32 bits: schedule, rounds, and the sums that go back into the chain. The walk of compress for words of 64 bits: schedule, rounds, and the sums that go back into the chain.
-/
import Derived.Test.YtjcmgpiapbeodaaDoorShaState
import Derived.RegionTactic
import Derived.BigRegion
namespace Go.Proofs.YtjcmgpiapbeodaaDoor.Sha.C32
open Go.RowKit Go.Proofs.YtjcmgpiapbeodaaDoor.Mem
theorem quiet_add {P : Program} {f : FuncId} {args : Array Value} {w : World} {a n : Nat} {v : Value}
    (h : Calls P f args (w.drewN (a + n)) fun e w' => e = .returned v ∧ ∃ m, w' = (w.drewN (a + n)).drewN m) :
    Calls P f args (w.drewN (a + n)) fun e w'' => e = .returned v ∧ ∃ m, w'' = w.drewN (a + m) :=
  h.mono fun _ _ ⟨he, m, hm⟩ => ⟨he, n + m, by rw [hm, World.drewN_drewN, Nat.add_assoc]⟩
theorem turn_any (x : BitVec 32) (n : Int) (h0 : 0 ≤ n) (hn : n ≤ 32) (w : World) :
    Calls Tryd.prog 113 #[.int .u32 (x.toNat : Int), .int .i64 n, .int .i64 32] w fun e w' => e = .returned (.int .u32 ((rot x n.toNat).toNat : Int)) ∧ ∃ m, w' = w.drewN m := by
  obtain ⟨m, rfl⟩ := Int.eq_ofNat_of_zero_le h0
  exact turn32_calls x m (by omega) w
theorem small0_is (x : BitVec 32) : bits .xor .u32 (bits .xor .u32 ((rot x 7).toNat : Int) ((rot x 18).toNat : Int)) ((x.toNat : Int) / 8) = ((small0 turns32 x).toNat : Int) := by
  rw [show ((8 : Int)) = 2 ^ 3 from rfl, shr_nat, xor32, xor32]; rfl
theorem small1_is (x : BitVec 32) : bits .xor .u32 (bits .xor .u32 ((rot x 17).toNat : Int) ((rot x 19).toNat : Int)) ((x.toNat : Int) / 1024) = ((small1 turns32 x).toNat : Int) := by
  rw [show ((1024 : Int)) = 2 ^ 10 from rfl, shr_nat, xor32, xor32]; rfl
theorem great0_is (x : BitVec 32) : bits .xor .u32 (bits .xor .u32 ((rot x 2).toNat : Int) ((rot x 13).toNat : Int)) ((rot x 22).toNat : Int) = ((great0 turns32 x).toNat : Int) := by
  rw [xor32, xor32]; rfl
theorem great1_is (x : BitVec 32) : bits .xor .u32 (bits .xor .u32 ((rot x 6).toNat : Int) ((rot x 11).toNat : Int)) ((rot x 25).toNat : Int) = ((great1 turns32 x).toNat : Int) := by
  rw [xor32, xor32]; rfl
theorem not_is (x : BitVec 32) : bits .xor .u32 IntKind.u32.max (x.toNat : Int) = ((~~~x).toNat : Int) := by
  have h : (IntKind.u32.max : Int) = ((BitVec.allOnes 32).toNat : Int) := by decide
  rw [h, xor32, BitVec.allOnes_xor]
theorem ch_is (e f g : BitVec 32) : bits .xor .u32 (bits .and .u32 (e.toNat : Int) (f.toNat : Int)) (bits .and .u32 (bits .xor .u32 IntKind.u32.max (e.toNat : Int)) (g.toNat : Int)) = ((e &&& f ^^^ ~~~e &&& g).toNat : Int) := by
  rw [not_is, and32, and32, xor32]
theorem mj_is (a b c : BitVec 32) : bits .xor .u32 (bits .xor .u32 (bits .and .u32 (a.toNat : Int) (b.toNat : Int)) (bits .and .u32 (a.toNat : Int) (c.toNat : Int))) (bits .and .u32 (b.toNat : Int) (c.toNat : Int)) = ((a &&& b ^^^ a &&& c ^^^ b &&& c).toNat : Int) := by
  rw [and32, and32, and32, xor32, xor32]
theorem sum2 (a b : BitVec 32) : ((a.toNat : Int) + (b.toNat : Int)) % 4294967296 = ((a + b).toNat : Int) := by
  rw [BitVec.toNat_add]; omega
theorem sum5 (a b c d e : BitVec 32) : ((a.toNat : Int) + (b.toNat : Int) + (c.toNat : Int) + (d.toNat : Int) + (e.toNat : Int)) % 4294967296 = ((a + b + c + d + e).toNat : Int) := by
  rw [BitVec.toNat_add, BitVec.toNat_add, BitVec.toNat_add, BitVec.toNat_add]; omega
theorem sum4 (a b c d : BitVec 32) : ((a.toNat : Int) + (b.toNat : Int) + (c.toNat : Int) + (d.toNat : Int)) % 4294967296 = ((a + b + c + d).toNat : Int) := by
  rw [BitVec.toNat_add, BitVec.toNat_add, BitVec.toNat_add]; omega
theorem set_next (l : List (BitVec 32)) (n : Nat) (hl : l.length = 16 + n) (hn : n < 48) (v : BitVec 32) (z : Value) :
    (l.map Sha.u32 ++ List.replicate (48 - n) z).set (n + 16) (Sha.u32 v) = (l ++ [v]).map Sha.u32 ++ List.replicate (48 - (n + 1)) z := by
  obtain ⟨m, hm⟩ : ∃ m, 48 - n = m + 1 := ⟨48 - 1 - n, by omega⟩
  rw [hm, List.replicate_succ, show 48 - (n + 1) = m by omega, List.set_append_right _ _ (by simp [hl]; omega)]
  simp [hl, show n + 16 - (16 + n) = 0 by omega]
def tv : Value := .agg #[.int .i64 2, .int .i64 13, .int .i64 22, .int .i64 6, .int .i64 11, .int .i64 25, .int .i64 7, .int .i64 18, .int .i64 3, .int .i64 17, .int .i64 19, .int .i64 10]
def vals (l : List (BitVec 32)) : List Value := l.map Sha.u32
theorem vals_get (l : List (BitVec 32)) (i : Nat) (h : i < l.length) : (vals l)[i]? = some (.int .u32 ((l.getD i 0).toNat : Int)) := by
  simp [vals, Sha.u32, h]
def tcells : List Value := [.int .i64 2, .int .i64 13, .int .i64 22, .int .i64 6, .int .i64 11, .int .i64 25, .int .i64 7, .int .i64 18, .int .i64 3, .int .i64 17, .int .i64 19, .int .i64 10]
/-- the constants lie in block bk -/
def Consts (w : World) (bk : Nat) (K : List (BitVec 32)) : Prop := bk < w.heap.size ∧ ∀ i, i < 64 → w.cell? ⟨bk, i, none⟩ = some (.int .u32 ((K.getD i 0).toNat : Int))
theorem Consts.fr {w w1 : World} {bk : Nat} {K : List (BitVec 32)} {S : Nat → Prop} (h : Consts w bk K) (hf : Fr S w w1) (hs : ¬ S bk) : Consts w1 bk K :=
  ⟨Nat.lt_of_lt_of_le h.1 hf.size, fun i hi => (World.cell?_of_block (hf.block bk h.1 hs)).trans (h.2 i hi)⟩
theorem index8 (a b c d e f g h : BitVec 32) (i : Nat) (hi : i < 8) (w : World) :
    (Instr.index 128 (.agg #[.int .u32 (a.toNat : Int), .int .u32 (b.toNat : Int), .int .u32 (c.toNat : Int), .int .u32 (d.toNat : Int), .int .u32 (e.toNat : Int), .int .u32 (f.toNat : Int), .int .u32 (g.toNat : Int), .int .u32 (h.toNat : Int)]) (.int .i64 (i : Int))).run Tryd.prog w = .ok (#[Value.int .u32 (a.toNat : Int), .int .u32 (b.toNat : Int), .int .u32 (c.toNat : Int), .int .u32 (d.toNat : Int), .int .u32 (e.toNat : Int), .int .u32 (f.toNat : Int), .int .u32 (g.toNat : Int), .int .u32 (h.toNat : Int)].getD i undef) w := by
  have hn : (0 ≤ (i : Int) ∧ (i : Int) < ((8 : Nat) : Int)) := by omega
  have h8 : i = 0 ∨ i = 1 ∨ i = 2 ∨ i = 3 ∨ i = 4 ∨ i = 5 ∨ i = 6 ∨ i = 7 := by omega
  rcases h8 with rfl | rfl | rfl | rfl | rfl | rfl | rfl | rfl <;> simp [Instr.index, run_underlying Tryd.underlying128, asIntOf, go_sem]
/-- the chain's cells behind n rounds of the last loop -/
def laid (hd tl : List Value) (v u : List (BitVec 32)) (n : Nat) : List Value := hd ++ ((vals (List.zipWith (· + ·) v u)).take n ++ (vals v).drop n) ++ tl
set_option maxHeartbeats 8000000 in
set_option maxRecDepth 100000 in
theorem compress_calls (eW : TypeId) (bd bw bk : Nat) (k0 k1 : Value) (v : Eight 32) (tl : List Value) (ws K : List (BitVec 32)) (hws : ws.length = 16) (hKl : K.length = 64) (w : World)
    (hD : Blk w bd 135 (k0 :: k1 :: Sha.u32 v.a :: Sha.u32 v.b :: Sha.u32 v.c :: Sha.u32 v.d :: Sha.u32 v.e :: Sha.u32 v.f :: Sha.u32 v.g :: Sha.u32 v.h :: tl))
    (hW : Blk w bw eW (vals ws ++ List.replicate 48 (.int .u32 0))) (hne : bd ≠ bw) (hkw : bk ≠ bw) (hK : Consts w bk K) :
    Calls Tryd.prog 95 #[.pointer (some ⟨bd, 2, none⟩), .slice (some ⟨bw, 0, none⟩) 64 64, .slice (some ⟨bk, 0, none⟩) 64 64, tv, .int .i64 32] w fun e w' =>
      ∃ r, e = .returned r ∧ ∃ u, u = block turns32 K v ws ∧ Blk w' bd 135 (k0 :: k1 :: Sha.u32 u.a :: Sha.u32 u.b :: Sha.u32 u.c :: Sha.u32 u.d :: Sha.u32 u.e :: Sha.u32 u.f :: Sha.u32 u.g :: Sha.u32 u.h :: tl) ∧ Fr (fun k => k = bd ∨ k = bw) w w' := by
  have HD := Kp.mk hD
  have HW := Kp.mk hW
  have HWS := Kp.mk hws
  have HK := Kp.mk hK
  have HKL := Kp.mk hKl
  clear hD hW hws hK hKl
  unfold tv
  go_enter Tryd.func95, Tryd.ntmps95
  go_wp2
  have hT : Kp (Blk (w.alloc (.cells tcells.toArray 169)) w.heap.size 169 tcells) := ⟨Blk.new _ _ _⟩
  have hW1 : Kp (Blk (w.alloc (.cells tcells.toArray 169)) bw eW (vals (sched turns32 ws 0) ++ List.replicate 48 (.int .u32 0))) := ⟨HW.out.alloc _⟩
  have hF : Kp (Fr (fun b => b = bw) w (w.alloc (.cells tcells.toArray 169))) := ⟨(Fr.refl _ _).alloc _⟩
  go_loopw [10] (fun i wr => ∃ n : Nat, i = .int .i64 ((n : Int) + 16) ∧ Kp (n ≤ 48) ∧ Kp (Blk wr w.heap.size 169 tcells) ∧ Kp (Blk wr bw eW (vals (sched turns32 ws n) ++ List.replicate (48 - n) (.int .u32 0))) ∧ Kp (Fr (fun b => b = bw) w wr)) (fun i _ => 64 - (intOf i).toNat)
  case atStart => exact ⟨0, rfl, ⟨by omega⟩, hT, hW1, hF⟩
  case round =>
    clear hT hW1 hF
    obtain ⟨n, rfl, A1, HT, HB, HF⟩ := hrel
    have hn := A1.out
    by_cases hlt : n < 48
    ·
      --<<A
      have hlen : (sched turns32 ws n).length = 16 + n := by rw [sched_length, HWS.out]
      have hcell : ∀ j, j < 16 + n → wr.cell? ⟨bw, j, none⟩ = some (.int .u32 (((sched turns32 ws n).getD j 0).toNat : Int)) := fun j hj =>
        HB.out.cell j _ (by rw [List.getElem?_append_left (by simp [vals]; omega)]; exact vals_get _ j (by omega))
      have hx := hcell (n + 1) (by omega)
      have hy := hcell (n + 14) (by omega)
      have h16 := hcell n (by omega)
      have h7 := hcell (n + 9) (by omega)
      have hz : wr.cell? ⟨bw, n + 16, none⟩ = some (.int .u32 0) := HB.out.cell (n + 16) _ (by
        rw [List.getElem?_append_right (by simp [vals]; omega), List.getElem?_replicate]; simp [vals, hlen]; omega)
      have hfz := HB.out.free (n + 16)
      have hc6 := HT.out.cell 6 (.int .i64 7) rfl
      have hc7 := HT.out.cell 7 (.int .i64 18) rfl
      have hc8 := HT.out.cell 8 (.int .i64 3) rfl
      have hc9 := HT.out.cell 9 (.int .i64 17) rfl
      have hc10 := HT.out.cell 10 (.int .i64 19) rfl
      have hc11 := HT.out.cell 11 (.int .i64 10) rfl
      have i15 : ((n : Int) + 16 - 15).toNat = n + 1 := by omega
      have i2 : ((n : Int) + 16 - 2).toNat = n + 14 := by omega
      have i16 : ((n : Int) + 16 - 16).toNat = n := by omega
      have i7 : ((n : Int) + 16 - 7).toNat = n + 9 := by omega
      clear hcell
      have hs0 := small0_is ((sched turns32 ws n).getD (n + 1) 0)
      have hs1 := small1_is ((sched turns32 ws n).getD (n + 14) 0)
      have hnext : Kp (nextWord turns32 (sched turns32 ws n) = (sched turns32 ws n).getD n 0 + small0 turns32 ((sched turns32 ws n).getD (n + 1) 0) + (sched turns32 ws n).getD (n + 9) 0 + small1 turns32 ((sched turns32 ws n).getD (n + 14) 0)) := ⟨by
        unfold nextWord; rw [hlen, show 16 + n - 16 = n by omega, show 16 + n - 15 = n + 1 by omega, show 16 + n - 7 = n + 9 by omega, show 16 + n - 2 = n + 14 by omega]⟩
      generalize (sched turns32 ws n).getD (n + 1) 0 = x at *
      generalize (sched turns32 ws n).getD (n + 14) 0 = y at *
      generalize (sched turns32 ws n).getD n 0 = a at *
      generalize (sched turns32 ws n).getD (n + 9) 0 = b at *
      generalize small0 turns32 x = s at *
      generalize small1 turns32 y = r at *
      have hin : ((n : Int) + 16).toNat = n + 16 := by omega
      go_wp2
      go_region
      go_wp2
      go_quiet ((go_at_call 113; exact quiet_add (turn_any x _ (by decide) (by decide) _)))
      go_wp2
      go_quiet ((go_at_call 113; exact quiet_add (turn_any y _ (by decide) (by decide) _)))
      go_wp2
      go_region
      go_wp2
      have hlt' := HW.out.lt
      go_roundw
      case rel =>
        refine ⟨n + 1, by go_num, ⟨by omega⟩, ⟨(HT.out.drewN _).set_ne (Nat.ne_of_lt hlt') _⟩, ⟨?_⟩, ⟨(HF.out.drewN _).set (fun _ => rfl) _⟩⟩
        rw [sum4]
        have h := HB.out.set (n + 16) (Sha.u32 (a + s + b + r))
        unfold vals at h
        rw [set_next _ n hlen (by omega)] at h
        have e : sched turns32 ws (n + 1) = sched turns32 ws n ++ [a + s + b + r] := by rw [← hnext.out]; rfl
        rw [e]
        exact h
      case measure => simp [intOf]; omega
      -->>A
    · obtain rfl : n = 48 := by omega
      rw [show (((48 : Nat) : Int) + 16) = 64 from rfl]
      have HD1 := Kp.mk (HD.out.fr HF.out hne)
      have HK1 := Kp.mk (HK.out.fr HF.out hkw)
      have hlt1 : w.heap.size < wr.heap.size := HT.out.lt
      clear HD HK A1 hn hlt
      have ha := HD1.out.cell 2 (.int .u32 (v.a.toNat : Int)) rfl
      have hb := HD1.out.cell (2 + 1) (.int .u32 (v.b.toNat : Int)) rfl
      have hc := HD1.out.cell (2 + 2) (.int .u32 (v.c.toNat : Int)) rfl
      have hd := HD1.out.cell (2 + 3) (.int .u32 (v.d.toNat : Int)) rfl
      have he := HD1.out.cell (2 + 4) (.int .u32 (v.e.toNat : Int)) rfl
      have hf := HD1.out.cell (2 + 5) (.int .u32 (v.f.toNat : Int)) rfl
      have hg := HD1.out.cell (2 + 6) (.int .u32 (v.g.toNat : Int)) rfl
      have hh := HD1.out.cell (2 + 7) (.int .u32 (v.h.toNat : Int)) rfl
      go_wp2
      go_quiet (fail)
      go_wp2
      have hV : Kp (Blk ((wr.alloc (.cells #[.int .u32 v.a.toNat, .int .u32 v.b.toNat, .int .u32 v.c.toNat, .int .u32 v.d.toNat, .int .u32 v.e.toNat, .int .u32 v.f.toNat, .int .u32 v.g.toNat, .int .u32 v.h.toNat] 128)).drewN nq) wr.heap.size 128 (vals v.list)) := ⟨(Blk.new wr _ _).drewN _⟩
      have hT : Kp (Blk ((wr.alloc (.cells #[.int .u32 v.a.toNat, .int .u32 v.b.toNat, .int .u32 v.c.toNat, .int .u32 v.d.toNat, .int .u32 v.e.toNat, .int .u32 v.f.toNat, .int .u32 v.g.toNat, .int .u32 v.h.toNat] 128)).drewN nq) w.heap.size 169 tcells) := ⟨(HT.out.alloc _).drewN _⟩
      have hB : Kp (Blk ((wr.alloc (.cells #[.int .u32 v.a.toNat, .int .u32 v.b.toNat, .int .u32 v.c.toNat, .int .u32 v.d.toNat, .int .u32 v.e.toNat, .int .u32 v.f.toNat, .int .u32 v.g.toNat, .int .u32 v.h.toNat] 128)).drewN nq) bw eW (vals (sched turns32 ws 48))) := ⟨by have h := HB.out; simp only [Nat.sub_self, List.replicate_zero, List.append_nil] at h; exact (h.alloc _).drewN _⟩
      have hF : Kp (Fr (fun b => b = bw) w ((wr.alloc (.cells #[.int .u32 v.a.toNat, .int .u32 v.b.toNat, .int .u32 v.c.toNat, .int .u32 v.d.toNat, .int .u32 v.e.toNat, .int .u32 v.f.toNat, .int .u32 v.g.toNat, .int .u32 v.h.toNat] 128)).drewN nq)) := ⟨(HF.out.alloc _).drewN _⟩
      have hD : Kp (Blk ((wr.alloc (.cells #[.int .u32 v.a.toNat, .int .u32 v.b.toNat, .int .u32 v.c.toNat, .int .u32 v.d.toNat, .int .u32 v.e.toNat, .int .u32 v.f.toNat, .int .u32 v.g.toNat, .int .u32 v.h.toNat] 128)).drewN nq) bd 135 (k0 :: k1 :: Sha.u32 v.a :: Sha.u32 v.b :: Sha.u32 v.c :: Sha.u32 v.d :: Sha.u32 v.e :: Sha.u32 v.f :: Sha.u32 v.g :: Sha.u32 v.h :: tl)) := ⟨(HD1.out.alloc _).drewN _⟩
      have hK : Kp (Consts ((wr.alloc (.cells #[.int .u32 v.a.toNat, .int .u32 v.b.toNat, .int .u32 v.c.toNat, .int .u32 v.d.toNat, .int .u32 v.e.toNat, .int .u32 v.f.toNat, .int .u32 v.g.toNat, .int .u32 v.h.toNat] 128)).drewN nq) bk K) := ⟨HK1.out.fr (((Fr.refl (fun _ => False) wr).alloc _).drewN _) (fun h => h)⟩
      have hlv : Kp (w.heap.size < wr.heap.size ∧ bd ≠ wr.heap.size ∧ bw ≠ wr.heap.size) := ⟨hlt1, Nat.ne_of_lt HD1.out.lt, Nat.ne_of_lt HB.out.lt⟩
      obtain ⟨vb, hvb⟩ : ∃ vb, vb = wr.heap.size := ⟨_, rfl⟩
      rw [← hvb] at hV hlv ⊢
      generalize ((wr.alloc (.cells #[.int .u32 v.a.toNat, .int .u32 v.b.toNat, .int .u32 v.c.toNat, .int .u32 v.d.toNat, .int .u32 v.e.toNat, .int .u32 v.f.toNat, .int .u32 v.g.toNat, .int .u32 v.h.toNat] 128)).drewN nq) = W1 at hV hT hB hF hD hK ⊢
      clear ha hb hc hd he hf hg hh hlt1 HD1 HK1 HB HF HT hvb
      go_loopw [16, 17, 18, 19, 20, 21, 22, 23, 123] (fun s16 s17 s18 s19 s20 s21 s22 s23 i wr => ∃ (n : Nat) (a b c d e f g h : BitVec 32), s16 = .int .u32 (a.toNat : Int) ∧ s17 = .int .u32 (b.toNat : Int) ∧ s18 = .int .u32 (c.toNat : Int) ∧ s19 = .int .u32 (d.toNat : Int) ∧ s20 = .int .u32 (e.toNat : Int) ∧ s21 = .int .u32 (f.toNat : Int) ∧ s22 = .int .u32 (g.toNat : Int) ∧ s23 = .int .u32 (h.toNat : Int) ∧ i = .int .i64 (n : Int) ∧ Kp (n ≤ 64) ∧ Kp (rounds turns32 v K (sched turns32 ws 48) n = ⟨a, b, c, d, e, f, g, h⟩) ∧ Kp (∃ m, wr = W1.drewN m)) (fun _ _ _ _ _ _ _ _ i _ => 64 - (intOf i).toNat)
      case atStart => exact ⟨0, v.a, v.b, v.c, v.d, v.e, v.f, v.g, v.h, rfl, rfl, rfl, rfl, rfl, rfl, rfl, rfl, rfl, ⟨Nat.zero_le _⟩, ⟨rfl⟩, ⟨0, rfl⟩⟩
      case round =>
        obtain ⟨n, a, b, c, d, e, f, g, z, rfl, rfl, rfl, rfl, rfl, rfl, rfl, rfl, rfl, A1, HR, HM⟩ := hrel
        obtain ⟨nm, rfl⟩ := HM.out
        have hn := A1.out
        by_cases hlt : n < 64
        ·
          --<<B
          have hck := hK.out.2 n hlt
          have hcw := hB.out.cell n (.int .u32 (((sched turns32 ws 48).getD n 0).toNat : Int)) (vals_get _ _ (by rw [sched_length, HWS.out]; omega))
          have hc0 := hT.out.cell 0 (.int .i64 2) rfl
          have hc1 := hT.out.cell 1 (.int .i64 13) rfl
          have hc2 := hT.out.cell 2 (.int .i64 22) rfl
          have hc3 := hT.out.cell 3 (.int .i64 6) rfl
          have hc4 := hT.out.cell 4 (.int .i64 11) rfl
          have hc5 := hT.out.cell 5 (.int .i64 25) rfl
          have hR : Kp (rounds turns32 v K (sched turns32 ws 48) (n + 1) = round turns32 ⟨a, b, c, d, e, f, g, z⟩ (K.getD n 0) ((sched turns32 ws 48).getD n 0)) := ⟨by rw [rounds, HR.out]⟩
          generalize (sched turns32 ws 48).getD n 0 = x at *
          generalize K.getD n 0 = k at *
          have hone : Kp (z + great1 turns32 e + (e &&& f ^^^ ~~~e &&& g) + k + x = z + great1 turns32 e + (e &&& f ^^^ ~~~e &&& g) + k + x) := ⟨rfl⟩
          have hg1 := great1_is e
          have hch := ch_is e f g
          have hg0 := great0_is a
          have hmj := mj_is a b c
          obtain ⟨G1, hG1⟩ : ∃ G, G = great1 turns32 e := ⟨_, rfl⟩
          obtain ⟨CH, hCH⟩ : ∃ G, G = (e &&& f ^^^ ~~~e &&& g) := ⟨_, rfl⟩
          obtain ⟨G0, hG0⟩ : ∃ G, G = great0 turns32 a := ⟨_, rfl⟩
          obtain ⟨MJ, hMJ⟩ : ∃ G, G = (a &&& b ^^^ a &&& c ^^^ b &&& c) := ⟨_, rfl⟩
          rw [← hG1] at hg1
          rw [← hCH] at hch
          rw [← hG0] at hg0
          rw [← hMJ] at hmj
          have hR2 : Kp (rounds turns32 v K (sched turns32 ws 48) (n + 1) = ⟨z + G1 + CH + k + x + (G0 + MJ), a, b, c, d + (z + G1 + CH + k + x), e, f, g⟩) := ⟨by rw [hR.out, hG1, hCH, hG0, hMJ]; rfl⟩
          clear hG1 hCH hG0 hMJ hone hR HR
          go_wp2
          go_quiet ((go_at_call 113; first | exact quiet_add (turn_any e _ (by decide) (by decide) _) | exact Calls.quiet_of (turn_any e _ (by decide) (by decide) _)))
          go_wp2
          rw [sum5]
          generalize z + G1 + CH + k + x = one at *
          go_quiet ((go_at_call 113; first | exact quiet_add (turn_any a _ (by decide) (by decide) _) | exact Calls.quiet_of (turn_any a _ (by decide) (by decide) _)))
          go_wp2
          rw [sum2]
          generalize G0 + MJ = two at *
          go_roundw
          case rel => exact ⟨n + 1, one + two, a, b, c, d + one, e, f, g, by rw [sum2], rfl, rfl, rfl, by rw [sum2], rfl, rfl, rfl, by go_num, ⟨by omega⟩, hR2, ⟨_, rfl⟩⟩
          case measure => simp [intOf]; omega
          -->>B
        · obtain rfl : n = 64 := by omega
          clear A1 hn hlt
          have hU : Kp (block turns32 K v ws = ⟨v.a + a, v.b + b, v.c + c, v.d + d, v.e + e, v.f + f, v.g + g, v.h + z⟩) := ⟨by unfold block; rw [HKL.out, HR.out]; rfl⟩
          have hD2 := Kp.mk (hD.out.drewN nm)
          have hV2 := Kp.mk (hV.out.drewN nm)
          have hF2 := Kp.mk (hF.out.drewN nm)
          clear hT hB hD hK HR hV hF HKL
          generalize W1.drewN nm = W2 at hD2 hV2 hF2 ⊢
          obtain ⟨va, v1, v2, v3, v4, v5, v6, v7⟩ := v
          have hv0 := hV2.out.cell 0 (.int .u32 (va.toNat : Int)) rfl
          have hv1 := hV2.out.cell 1 (.int .u32 (v1.toNat : Int)) rfl
          have hv2 := hV2.out.cell 2 (.int .u32 (v2.toNat : Int)) rfl
          have hv3 := hV2.out.cell 3 (.int .u32 (v3.toNat : Int)) rfl
          have hv4 := hV2.out.cell 4 (.int .u32 (v4.toNat : Int)) rfl
          have hv5 := hV2.out.cell 5 (.int .u32 (v5.toNat : Int)) rfl
          have hv6 := hV2.out.cell 6 (.int .u32 (v6.toNat : Int)) rfl
          have hv7 := hV2.out.cell 7 (.int .u32 (v7.toNat : Int)) rfl
          have hbv := hlv.out.2.1
          have hlt2 := hD2.out.lt
          go_wp2
          have HV0 : Kp (Blk W2 vb 128 [.int .u32 (va.toNat : Int), .int .u32 (v1.toNat : Int), .int .u32 (v2.toNat : Int), .int .u32 (v3.toNat : Int), .int .u32 (v4.toNat : Int), .int .u32 (v5.toNat : Int), .int .u32 (v6.toNat : Int), .int .u32 (v7.toNat : Int)]) := hV2
          have HDD0 : Kp (Blk W2 bd 135 (laid [k0, k1] tl [va, v1, v2, v3, v4, v5, v6, v7] [a, b, c, d, e, f, g, z] 0)) := hD2
          have HFF0 : Kp (Fr (fun k => k = bd ∨ k = bw) w W2) := ⟨hF2.out.mono (fun _ _ h => .inr h)⟩
          clear hv0 hv1 hv2 hv3 hv4 hv5 hv6 hv7 hV2 hD2 hF2 hlt2
          go_loopw [220] (fun i wr => ∃ n : Nat, i = .int .i64 (n : Int) ∧ Kp (n ≤ 8) ∧ Kp (Blk wr vb 128 [.int .u32 (va.toNat : Int), .int .u32 (v1.toNat : Int), .int .u32 (v2.toNat : Int), .int .u32 (v3.toNat : Int), .int .u32 (v4.toNat : Int), .int .u32 (v5.toNat : Int), .int .u32 (v6.toNat : Int), .int .u32 (v7.toNat : Int)]) ∧ Kp (Blk wr bd 135 (laid [k0, k1] tl [va, v1, v2, v3, v4, v5, v6, v7] [a, b, c, d, e, f, g, z] n)) ∧ Kp (Fr (fun k => k = bd ∨ k = bw) w wr)) (fun i _ => 8 - (intOf i).toNat)
          case atStart => exact ⟨0, rfl, ⟨Nat.zero_le _⟩, HV0, HDD0, HFF0⟩
          case round =>
            clear HV0 HDD0 HFF0
            obtain ⟨n, rfl, G1, HV, HDD, HFF⟩ := hrel
            have hn8 : n = 0 ∨ n = 1 ∨ n = 2 ∨ n = 3 ∨ n = 4 ∨ n = 5 ∨ n = 6 ∨ n = 7 ∨ n = 8 := by have := G1.out; omega
            clear G1
            rcases hn8 with rfl | rfl | rfl | rfl | rfl | rfl | rfl | rfl | rfl
            · have hcv := HV.out.cell 0 (.int .u32 (va.toNat : Int)) rfl
              have hcd := HDD.out.cell (2 + 0) (.int .u32 (va.toNat : Int)) rfl
              have hfz := HDD.out.free (2 + 0)
              have hix : ∀ w, (Instr.index 128 (.agg #[.int .u32 (a.toNat : Int), .int .u32 (b.toNat : Int), .int .u32 (c.toNat : Int), .int .u32 (d.toNat : Int), .int .u32 (e.toNat : Int), .int .u32 (f.toNat : Int), .int .u32 (g.toNat : Int), .int .u32 (z.toNat : Int)]) (.int .i64 0)).run Tryd.prog w = .ok (.int .u32 (a.toNat : Int)) w := index8 a b c d e f g z 0 (by decide)
              go_wp2
              go_region
              go_wp2
              go_roundw
              case rel =>
                refine ⟨1, by go_num, ⟨by omega⟩, ⟨(HV.out.set_ne hbv _).drew⟩, ⟨?_⟩, ⟨(HFF.out.set (fun _ => .inl rfl) _).drew⟩⟩
                rw [sum2]
                exact (HDD.out.set (2 + 0) (.int .u32 ((va + a).toNat : Int))).drew
              case measure => simp [intOf]
            · have hcv := HV.out.cell 1 (.int .u32 (v1.toNat : Int)) rfl
              have hcd := HDD.out.cell (2 + 1) (.int .u32 (v1.toNat : Int)) rfl
              have hfz := HDD.out.free (2 + 1)
              have hix : ∀ w, (Instr.index 128 (.agg #[.int .u32 (a.toNat : Int), .int .u32 (b.toNat : Int), .int .u32 (c.toNat : Int), .int .u32 (d.toNat : Int), .int .u32 (e.toNat : Int), .int .u32 (f.toNat : Int), .int .u32 (g.toNat : Int), .int .u32 (z.toNat : Int)]) (.int .i64 1)).run Tryd.prog w = .ok (.int .u32 (b.toNat : Int)) w := index8 a b c d e f g z 1 (by decide)
              go_wp2
              go_region
              go_wp2
              go_roundw
              case rel =>
                refine ⟨2, by go_num, ⟨by omega⟩, ⟨(HV.out.set_ne hbv _).drew⟩, ⟨?_⟩, ⟨(HFF.out.set (fun _ => .inl rfl) _).drew⟩⟩
                rw [sum2]
                exact (HDD.out.set (2 + 1) (.int .u32 ((v1 + b).toNat : Int))).drew
              case measure => simp [intOf]
            · have hcv := HV.out.cell 2 (.int .u32 (v2.toNat : Int)) rfl
              have hcd := HDD.out.cell (2 + 2) (.int .u32 (v2.toNat : Int)) rfl
              have hfz := HDD.out.free (2 + 2)
              have hix : ∀ w, (Instr.index 128 (.agg #[.int .u32 (a.toNat : Int), .int .u32 (b.toNat : Int), .int .u32 (c.toNat : Int), .int .u32 (d.toNat : Int), .int .u32 (e.toNat : Int), .int .u32 (f.toNat : Int), .int .u32 (g.toNat : Int), .int .u32 (z.toNat : Int)]) (.int .i64 2)).run Tryd.prog w = .ok (.int .u32 (c.toNat : Int)) w := index8 a b c d e f g z 2 (by decide)
              go_wp2
              go_region
              go_wp2
              go_roundw
              case rel =>
                refine ⟨3, by go_num, ⟨by omega⟩, ⟨(HV.out.set_ne hbv _).drew⟩, ⟨?_⟩, ⟨(HFF.out.set (fun _ => .inl rfl) _).drew⟩⟩
                rw [sum2]
                exact (HDD.out.set (2 + 2) (.int .u32 ((v2 + c).toNat : Int))).drew
              case measure => simp [intOf]
            · have hcv := HV.out.cell 3 (.int .u32 (v3.toNat : Int)) rfl
              have hcd := HDD.out.cell (2 + 3) (.int .u32 (v3.toNat : Int)) rfl
              have hfz := HDD.out.free (2 + 3)
              have hix : ∀ w, (Instr.index 128 (.agg #[.int .u32 (a.toNat : Int), .int .u32 (b.toNat : Int), .int .u32 (c.toNat : Int), .int .u32 (d.toNat : Int), .int .u32 (e.toNat : Int), .int .u32 (f.toNat : Int), .int .u32 (g.toNat : Int), .int .u32 (z.toNat : Int)]) (.int .i64 3)).run Tryd.prog w = .ok (.int .u32 (d.toNat : Int)) w := index8 a b c d e f g z 3 (by decide)
              go_wp2
              go_region
              go_wp2
              go_roundw
              case rel =>
                refine ⟨4, by go_num, ⟨by omega⟩, ⟨(HV.out.set_ne hbv _).drew⟩, ⟨?_⟩, ⟨(HFF.out.set (fun _ => .inl rfl) _).drew⟩⟩
                rw [sum2]
                exact (HDD.out.set (2 + 3) (.int .u32 ((v3 + d).toNat : Int))).drew
              case measure => simp [intOf]
            · have hcv := HV.out.cell 4 (.int .u32 (v4.toNat : Int)) rfl
              have hcd := HDD.out.cell (2 + 4) (.int .u32 (v4.toNat : Int)) rfl
              have hfz := HDD.out.free (2 + 4)
              have hix : ∀ w, (Instr.index 128 (.agg #[.int .u32 (a.toNat : Int), .int .u32 (b.toNat : Int), .int .u32 (c.toNat : Int), .int .u32 (d.toNat : Int), .int .u32 (e.toNat : Int), .int .u32 (f.toNat : Int), .int .u32 (g.toNat : Int), .int .u32 (z.toNat : Int)]) (.int .i64 4)).run Tryd.prog w = .ok (.int .u32 (e.toNat : Int)) w := index8 a b c d e f g z 4 (by decide)
              go_wp2
              go_region
              go_wp2
              go_roundw
              case rel =>
                refine ⟨5, by go_num, ⟨by omega⟩, ⟨(HV.out.set_ne hbv _).drew⟩, ⟨?_⟩, ⟨(HFF.out.set (fun _ => .inl rfl) _).drew⟩⟩
                rw [sum2]
                exact (HDD.out.set (2 + 4) (.int .u32 ((v4 + e).toNat : Int))).drew
              case measure => simp [intOf]
            · have hcv := HV.out.cell 5 (.int .u32 (v5.toNat : Int)) rfl
              have hcd := HDD.out.cell (2 + 5) (.int .u32 (v5.toNat : Int)) rfl
              have hfz := HDD.out.free (2 + 5)
              have hix : ∀ w, (Instr.index 128 (.agg #[.int .u32 (a.toNat : Int), .int .u32 (b.toNat : Int), .int .u32 (c.toNat : Int), .int .u32 (d.toNat : Int), .int .u32 (e.toNat : Int), .int .u32 (f.toNat : Int), .int .u32 (g.toNat : Int), .int .u32 (z.toNat : Int)]) (.int .i64 5)).run Tryd.prog w = .ok (.int .u32 (f.toNat : Int)) w := index8 a b c d e f g z 5 (by decide)
              go_wp2
              go_region
              go_wp2
              go_roundw
              case rel =>
                refine ⟨6, by go_num, ⟨by omega⟩, ⟨(HV.out.set_ne hbv _).drew⟩, ⟨?_⟩, ⟨(HFF.out.set (fun _ => .inl rfl) _).drew⟩⟩
                rw [sum2]
                exact (HDD.out.set (2 + 5) (.int .u32 ((v5 + f).toNat : Int))).drew
              case measure => simp [intOf]
            · have hcv := HV.out.cell 6 (.int .u32 (v6.toNat : Int)) rfl
              have hcd := HDD.out.cell (2 + 6) (.int .u32 (v6.toNat : Int)) rfl
              have hfz := HDD.out.free (2 + 6)
              have hix : ∀ w, (Instr.index 128 (.agg #[.int .u32 (a.toNat : Int), .int .u32 (b.toNat : Int), .int .u32 (c.toNat : Int), .int .u32 (d.toNat : Int), .int .u32 (e.toNat : Int), .int .u32 (f.toNat : Int), .int .u32 (g.toNat : Int), .int .u32 (z.toNat : Int)]) (.int .i64 6)).run Tryd.prog w = .ok (.int .u32 (g.toNat : Int)) w := index8 a b c d e f g z 6 (by decide)
              go_wp2
              go_region
              go_wp2
              go_roundw
              case rel =>
                refine ⟨7, by go_num, ⟨by omega⟩, ⟨(HV.out.set_ne hbv _).drew⟩, ⟨?_⟩, ⟨(HFF.out.set (fun _ => .inl rfl) _).drew⟩⟩
                rw [sum2]
                exact (HDD.out.set (2 + 6) (.int .u32 ((v6 + g).toNat : Int))).drew
              case measure => simp [intOf]
            · have hcv := HV.out.cell 7 (.int .u32 (v7.toNat : Int)) rfl
              have hcd := HDD.out.cell (2 + 7) (.int .u32 (v7.toNat : Int)) rfl
              have hfz := HDD.out.free (2 + 7)
              have hix : ∀ w, (Instr.index 128 (.agg #[.int .u32 (a.toNat : Int), .int .u32 (b.toNat : Int), .int .u32 (c.toNat : Int), .int .u32 (d.toNat : Int), .int .u32 (e.toNat : Int), .int .u32 (f.toNat : Int), .int .u32 (g.toNat : Int), .int .u32 (z.toNat : Int)]) (.int .i64 7)).run Tryd.prog w = .ok (.int .u32 (z.toNat : Int)) w := index8 a b c d e f g z 7 (by decide)
              go_wp2
              go_region
              go_wp2
              go_roundw
              case rel =>
                refine ⟨8, by go_num, ⟨by omega⟩, ⟨(HV.out.set_ne hbv _).drew⟩, ⟨?_⟩, ⟨(HFF.out.set (fun _ => .inl rfl) _).drew⟩⟩
                rw [sum2]
                exact (HDD.out.set (2 + 7) (.int .u32 ((v7 + z).toNat : Int))).drew
              case measure => simp [intOf]
            · go_wp2
              go_end0
              refine ⟨_, rfl, _, rfl, ?_, HFF.out⟩
              rw [hU.out]
              exact HDD.out
end Go.Proofs.YtjcmgpiapbeodaaDoor.Sha.C32
namespace Go.Proofs.YtjcmgpiapbeodaaDoor.Sha.C64
open Go.RowKit Go.Proofs.YtjcmgpiapbeodaaDoor.Mem
theorem quiet_add {P : Program} {f : FuncId} {args : Array Value} {w : World} {a n : Nat} {v : Value}
    (h : Calls P f args (w.drewN (a + n)) fun e w' => e = .returned v ∧ ∃ m, w' = (w.drewN (a + n)).drewN m) :
    Calls P f args (w.drewN (a + n)) fun e w'' => e = .returned v ∧ ∃ m, w'' = w.drewN (a + m) :=
  h.mono fun _ _ ⟨he, m, hm⟩ => ⟨he, n + m, by rw [hm, World.drewN_drewN, Nat.add_assoc]⟩
theorem turn_any (x : BitVec 64) (n : Int) (h0 : 0 ≤ n) (hn : n ≤ 64) (w : World) :
    Calls Tryd.prog 114 #[.int .u64 (x.toNat : Int), .int .i64 n, .int .i64 64] w fun e w' => e = .returned (.int .u64 ((rot x n.toNat).toNat : Int)) ∧ ∃ m, w' = w.drewN m := by
  obtain ⟨m, rfl⟩ := Int.eq_ofNat_of_zero_le h0
  exact turn64_calls x m (by omega) w
theorem small0_is (x : BitVec 64) : bits .xor .u64 (bits .xor .u64 ((rot x 1).toNat : Int) ((rot x 8).toNat : Int)) ((x.toNat : Int) / 128) = ((small0 turns64 x).toNat : Int) := by
  rw [show ((128 : Int)) = 2 ^ 7 from rfl, shr_nat, xor64, xor64]; rfl
theorem small1_is (x : BitVec 64) : bits .xor .u64 (bits .xor .u64 ((rot x 19).toNat : Int) ((rot x 61).toNat : Int)) ((x.toNat : Int) / 64) = ((small1 turns64 x).toNat : Int) := by
  rw [show ((64 : Int)) = 2 ^ 6 from rfl, shr_nat, xor64, xor64]; rfl
theorem great0_is (x : BitVec 64) : bits .xor .u64 (bits .xor .u64 ((rot x 28).toNat : Int) ((rot x 34).toNat : Int)) ((rot x 39).toNat : Int) = ((great0 turns64 x).toNat : Int) := by
  rw [xor64, xor64]; rfl
theorem great1_is (x : BitVec 64) : bits .xor .u64 (bits .xor .u64 ((rot x 14).toNat : Int) ((rot x 18).toNat : Int)) ((rot x 41).toNat : Int) = ((great1 turns64 x).toNat : Int) := by
  rw [xor64, xor64]; rfl
theorem not_is (x : BitVec 64) : bits .xor .u64 IntKind.u64.max (x.toNat : Int) = ((~~~x).toNat : Int) := by
  have h : (IntKind.u64.max : Int) = ((BitVec.allOnes 64).toNat : Int) := by decide
  rw [h, xor64, BitVec.allOnes_xor]
theorem ch_is (e f g : BitVec 64) : bits .xor .u64 (bits .and .u64 (e.toNat : Int) (f.toNat : Int)) (bits .and .u64 (bits .xor .u64 IntKind.u64.max (e.toNat : Int)) (g.toNat : Int)) = ((e &&& f ^^^ ~~~e &&& g).toNat : Int) := by
  rw [not_is, and64, and64, xor64]
theorem mj_is (a b c : BitVec 64) : bits .xor .u64 (bits .xor .u64 (bits .and .u64 (a.toNat : Int) (b.toNat : Int)) (bits .and .u64 (a.toNat : Int) (c.toNat : Int))) (bits .and .u64 (b.toNat : Int) (c.toNat : Int)) = ((a &&& b ^^^ a &&& c ^^^ b &&& c).toNat : Int) := by
  rw [and64, and64, and64, xor64, xor64]
theorem sum2 (a b : BitVec 64) : IntKind.u64.wrap ((a.toNat : Int) + (b.toNat : Int)) = ((a + b).toNat : Int) := by
  rw [add64]
theorem sum5 (a b c d e : BitVec 64) : IntKind.u64.wrap (IntKind.u64.wrap (IntKind.u64.wrap (IntKind.u64.wrap ((a.toNat : Int) + (b.toNat : Int)) + (c.toNat : Int)) + (d.toNat : Int)) + (e.toNat : Int)) = ((a + b + c + d + e).toNat : Int) := by
  rw [add64, add64, add64, add64]
theorem sum4 (a b c d : BitVec 64) : IntKind.u64.wrap (IntKind.u64.wrap (IntKind.u64.wrap ((a.toNat : Int) + (b.toNat : Int)) + (c.toNat : Int)) + (d.toNat : Int)) = ((a + b + c + d).toNat : Int) := by
  rw [add64, add64, add64]
theorem set_next (l : List (BitVec 64)) (n : Nat) (hl : l.length = 16 + n) (hn : n < 64) (v : BitVec 64) (z : Value) :
    (l.map Sha.u64 ++ List.replicate (64 - n) z).set (n + 16) (Sha.u64 v) = (l ++ [v]).map Sha.u64 ++ List.replicate (64 - (n + 1)) z := by
  obtain ⟨m, hm⟩ : ∃ m, 64 - n = m + 1 := ⟨64 - 1 - n, by omega⟩
  rw [hm, List.replicate_succ, show 64 - (n + 1) = m by omega, List.set_append_right _ _ (by simp [hl]; omega)]
  simp [hl, show n + 16 - (16 + n) = 0 by omega]
def tv : Value := .agg #[.int .i64 28, .int .i64 34, .int .i64 39, .int .i64 14, .int .i64 18, .int .i64 41, .int .i64 1, .int .i64 8, .int .i64 7, .int .i64 19, .int .i64 61, .int .i64 6]
def vals (l : List (BitVec 64)) : List Value := l.map Sha.u64
theorem vals_get (l : List (BitVec 64)) (i : Nat) (h : i < l.length) : (vals l)[i]? = some (.int .u64 ((l.getD i 0).toNat : Int)) := by
  simp [vals, Sha.u64, h]
def tcells : List Value := [.int .i64 28, .int .i64 34, .int .i64 39, .int .i64 14, .int .i64 18, .int .i64 41, .int .i64 1, .int .i64 8, .int .i64 7, .int .i64 19, .int .i64 61, .int .i64 6]
/-- the constants lie in block bk -/
def Consts (w : World) (bk : Nat) (K : List (BitVec 64)) : Prop := bk < w.heap.size ∧ ∀ i, i < 80 → w.cell? ⟨bk, i, none⟩ = some (.int .u64 ((K.getD i 0).toNat : Int))
theorem Consts.fr {w w1 : World} {bk : Nat} {K : List (BitVec 64)} {S : Nat → Prop} (h : Consts w bk K) (hf : Fr S w w1) (hs : ¬ S bk) : Consts w1 bk K :=
  ⟨Nat.lt_of_lt_of_le h.1 hf.size, fun i hi => (World.cell?_of_block (hf.block bk h.1 hs)).trans (h.2 i hi)⟩
theorem index8 (a b c d e f g h : BitVec 64) (i : Nat) (hi : i < 8) (w : World) :
    (Instr.index 130 (.agg #[.int .u64 (a.toNat : Int), .int .u64 (b.toNat : Int), .int .u64 (c.toNat : Int), .int .u64 (d.toNat : Int), .int .u64 (e.toNat : Int), .int .u64 (f.toNat : Int), .int .u64 (g.toNat : Int), .int .u64 (h.toNat : Int)]) (.int .i64 (i : Int))).run Tryd.prog w = .ok (#[Value.int .u64 (a.toNat : Int), .int .u64 (b.toNat : Int), .int .u64 (c.toNat : Int), .int .u64 (d.toNat : Int), .int .u64 (e.toNat : Int), .int .u64 (f.toNat : Int), .int .u64 (g.toNat : Int), .int .u64 (h.toNat : Int)].getD i undef) w := by
  have hn : (0 ≤ (i : Int) ∧ (i : Int) < ((8 : Nat) : Int)) := by omega
  have h8 : i = 0 ∨ i = 1 ∨ i = 2 ∨ i = 3 ∨ i = 4 ∨ i = 5 ∨ i = 6 ∨ i = 7 := by omega
  rcases h8 with rfl | rfl | rfl | rfl | rfl | rfl | rfl | rfl <;> simp [Instr.index, run_underlying Tryd.underlying130, asIntOf, go_sem]
/-- the chain's cells behind n rounds of the last loop -/
def laid (hd tl : List Value) (v u : List (BitVec 64)) (n : Nat) : List Value := hd ++ ((vals (List.zipWith (· + ·) v u)).take n ++ (vals v).drop n) ++ tl
set_option maxHeartbeats 8000000 in
set_option maxRecDepth 100000 in
theorem compress_calls (eW : TypeId) (bd bw bk : Nat) (k0 k1 x0 x1 x2 x3 x4 x5 x6 x7 : Value) (v : Eight 64) (tl : List Value) (ws K : List (BitVec 64)) (hws : ws.length = 16) (hKl : K.length = 80) (w : World)
    (hD : Blk w bd 135 (k0 :: k1 :: x0 :: x1 :: x2 :: x3 :: x4 :: x5 :: x6 :: x7 :: Sha.u64 v.a :: Sha.u64 v.b :: Sha.u64 v.c :: Sha.u64 v.d :: Sha.u64 v.e :: Sha.u64 v.f :: Sha.u64 v.g :: Sha.u64 v.h :: tl))
    (hW : Blk w bw eW (vals ws ++ List.replicate 64 (.int .u64 0))) (hne : bd ≠ bw) (hkw : bk ≠ bw) (hK : Consts w bk K) :
    Calls Tryd.prog 97 #[.pointer (some ⟨bd, 10, none⟩), .slice (some ⟨bw, 0, none⟩) 80 80, .slice (some ⟨bk, 0, none⟩) 80 80, tv, .int .i64 64] w fun e w' =>
      ∃ r, e = .returned r ∧ ∃ u, u = block turns64 K v ws ∧ Blk w' bd 135 (k0 :: k1 :: x0 :: x1 :: x2 :: x3 :: x4 :: x5 :: x6 :: x7 :: Sha.u64 u.a :: Sha.u64 u.b :: Sha.u64 u.c :: Sha.u64 u.d :: Sha.u64 u.e :: Sha.u64 u.f :: Sha.u64 u.g :: Sha.u64 u.h :: tl) ∧ Fr (fun k => k = bd ∨ k = bw) w w' := by
  have HD := Kp.mk hD
  have HW := Kp.mk hW
  have HWS := Kp.mk hws
  have HK := Kp.mk hK
  have HKL := Kp.mk hKl
  clear hD hW hws hK hKl
  unfold tv
  go_enter Tryd.func97, Tryd.ntmps97
  go_wp2
  have hT : Kp (Blk (w.alloc (.cells tcells.toArray 169)) w.heap.size 169 tcells) := ⟨Blk.new _ _ _⟩
  have hW1 : Kp (Blk (w.alloc (.cells tcells.toArray 169)) bw eW (vals (sched turns64 ws 0) ++ List.replicate 64 (.int .u64 0))) := ⟨HW.out.alloc _⟩
  have hF : Kp (Fr (fun b => b = bw) w (w.alloc (.cells tcells.toArray 169))) := ⟨(Fr.refl _ _).alloc _⟩
  go_loopw [10] (fun i wr => ∃ n : Nat, i = .int .i64 ((n : Int) + 16) ∧ Kp (n ≤ 64) ∧ Kp (Blk wr w.heap.size 169 tcells) ∧ Kp (Blk wr bw eW (vals (sched turns64 ws n) ++ List.replicate (64 - n) (.int .u64 0))) ∧ Kp (Fr (fun b => b = bw) w wr)) (fun i _ => 80 - (intOf i).toNat)
  case atStart => exact ⟨0, rfl, ⟨by omega⟩, hT, hW1, hF⟩
  case round =>
    clear hT hW1 hF
    obtain ⟨n, rfl, A1, HT, HB, HF⟩ := hrel
    have hn := A1.out
    by_cases hlt : n < 64
    ·
      --<<A
      have hlen : (sched turns64 ws n).length = 16 + n := by rw [sched_length, HWS.out]
      have hcell : ∀ j, j < 16 + n → wr.cell? ⟨bw, j, none⟩ = some (.int .u64 (((sched turns64 ws n).getD j 0).toNat : Int)) := fun j hj =>
        HB.out.cell j _ (by rw [List.getElem?_append_left (by simp [vals]; omega)]; exact vals_get _ j (by omega))
      have hx := hcell (n + 1) (by omega)
      have hy := hcell (n + 14) (by omega)
      have h16 := hcell n (by omega)
      have h7 := hcell (n + 9) (by omega)
      have hz : wr.cell? ⟨bw, n + 16, none⟩ = some (.int .u64 0) := HB.out.cell (n + 16) _ (by
        rw [List.getElem?_append_right (by simp [vals]; omega), List.getElem?_replicate]; simp [vals, hlen]; omega)
      have hfz := HB.out.free (n + 16)
      have hc6 := HT.out.cell 6 (.int .i64 1) rfl
      have hc7 := HT.out.cell 7 (.int .i64 8) rfl
      have hc8 := HT.out.cell 8 (.int .i64 7) rfl
      have hc9 := HT.out.cell 9 (.int .i64 19) rfl
      have hc10 := HT.out.cell 10 (.int .i64 61) rfl
      have hc11 := HT.out.cell 11 (.int .i64 6) rfl
      have i15 : ((n : Int) + 16 - 15).toNat = n + 1 := by omega
      have i2 : ((n : Int) + 16 - 2).toNat = n + 14 := by omega
      have i16 : ((n : Int) + 16 - 16).toNat = n := by omega
      have i7 : ((n : Int) + 16 - 7).toNat = n + 9 := by omega
      clear hcell
      have hs0 := small0_is ((sched turns64 ws n).getD (n + 1) 0)
      have hs1 := small1_is ((sched turns64 ws n).getD (n + 14) 0)
      have hnext : Kp (nextWord turns64 (sched turns64 ws n) = (sched turns64 ws n).getD n 0 + small0 turns64 ((sched turns64 ws n).getD (n + 1) 0) + (sched turns64 ws n).getD (n + 9) 0 + small1 turns64 ((sched turns64 ws n).getD (n + 14) 0)) := ⟨by
        unfold nextWord; rw [hlen, show 16 + n - 16 = n by omega, show 16 + n - 15 = n + 1 by omega, show 16 + n - 7 = n + 9 by omega, show 16 + n - 2 = n + 14 by omega]⟩
      generalize (sched turns64 ws n).getD (n + 1) 0 = x at *
      generalize (sched turns64 ws n).getD (n + 14) 0 = y at *
      generalize (sched turns64 ws n).getD n 0 = a at *
      generalize (sched turns64 ws n).getD (n + 9) 0 = b at *
      generalize small0 turns64 x = s at *
      generalize small1 turns64 y = r at *
      have hin : ((n : Int) + 16).toNat = n + 16 := by omega
      go_wp2
      go_region
      go_wp2
      go_quiet ((go_at_call 114; exact quiet_add (turn_any x _ (by decide) (by decide) _)))
      go_wp2
      go_quiet ((go_at_call 114; exact quiet_add (turn_any y _ (by decide) (by decide) _)))
      go_wp2
      go_region
      go_wp2
      have hlt' := HW.out.lt
      go_roundw
      case rel =>
        refine ⟨n + 1, by go_num, ⟨by omega⟩, ⟨(HT.out.drewN _).set_ne (Nat.ne_of_lt hlt') _⟩, ⟨?_⟩, ⟨(HF.out.drewN _).set (fun _ => rfl) _⟩⟩
        rw [sum4]
        have h := HB.out.set (n + 16) (Sha.u64 (a + s + b + r))
        unfold vals at h
        rw [set_next _ n hlen (by omega)] at h
        have e : sched turns64 ws (n + 1) = sched turns64 ws n ++ [a + s + b + r] := by rw [← hnext.out]; rfl
        rw [e]
        exact h
      case measure => simp [intOf]; omega
      -->>A
    · obtain rfl : n = 64 := by omega
      rw [show (((64 : Nat) : Int) + 16) = 80 from rfl]
      have HD1 := Kp.mk (HD.out.fr HF.out hne)
      have HK1 := Kp.mk (HK.out.fr HF.out hkw)
      have hlt1 : w.heap.size < wr.heap.size := HT.out.lt
      clear HD HK A1 hn hlt
      have ha := HD1.out.cell 10 (.int .u64 (v.a.toNat : Int)) rfl
      have hb := HD1.out.cell (10 + 1) (.int .u64 (v.b.toNat : Int)) rfl
      have hc := HD1.out.cell (10 + 2) (.int .u64 (v.c.toNat : Int)) rfl
      have hd := HD1.out.cell (10 + 3) (.int .u64 (v.d.toNat : Int)) rfl
      have he := HD1.out.cell (10 + 4) (.int .u64 (v.e.toNat : Int)) rfl
      have hf := HD1.out.cell (10 + 5) (.int .u64 (v.f.toNat : Int)) rfl
      have hg := HD1.out.cell (10 + 6) (.int .u64 (v.g.toNat : Int)) rfl
      have hh := HD1.out.cell (10 + 7) (.int .u64 (v.h.toNat : Int)) rfl
      go_wp2
      go_quiet (fail)
      go_wp2
      have hV : Kp (Blk ((wr.alloc (.cells #[.int .u64 v.a.toNat, .int .u64 v.b.toNat, .int .u64 v.c.toNat, .int .u64 v.d.toNat, .int .u64 v.e.toNat, .int .u64 v.f.toNat, .int .u64 v.g.toNat, .int .u64 v.h.toNat] 130)).drewN nq) wr.heap.size 130 (vals v.list)) := ⟨(Blk.new wr _ _).drewN _⟩
      have hT : Kp (Blk ((wr.alloc (.cells #[.int .u64 v.a.toNat, .int .u64 v.b.toNat, .int .u64 v.c.toNat, .int .u64 v.d.toNat, .int .u64 v.e.toNat, .int .u64 v.f.toNat, .int .u64 v.g.toNat, .int .u64 v.h.toNat] 130)).drewN nq) w.heap.size 169 tcells) := ⟨(HT.out.alloc _).drewN _⟩
      have hB : Kp (Blk ((wr.alloc (.cells #[.int .u64 v.a.toNat, .int .u64 v.b.toNat, .int .u64 v.c.toNat, .int .u64 v.d.toNat, .int .u64 v.e.toNat, .int .u64 v.f.toNat, .int .u64 v.g.toNat, .int .u64 v.h.toNat] 130)).drewN nq) bw eW (vals (sched turns64 ws 64))) := ⟨by have h := HB.out; simp only [Nat.sub_self, List.replicate_zero, List.append_nil] at h; exact (h.alloc _).drewN _⟩
      have hF : Kp (Fr (fun b => b = bw) w ((wr.alloc (.cells #[.int .u64 v.a.toNat, .int .u64 v.b.toNat, .int .u64 v.c.toNat, .int .u64 v.d.toNat, .int .u64 v.e.toNat, .int .u64 v.f.toNat, .int .u64 v.g.toNat, .int .u64 v.h.toNat] 130)).drewN nq)) := ⟨(HF.out.alloc _).drewN _⟩
      have hD : Kp (Blk ((wr.alloc (.cells #[.int .u64 v.a.toNat, .int .u64 v.b.toNat, .int .u64 v.c.toNat, .int .u64 v.d.toNat, .int .u64 v.e.toNat, .int .u64 v.f.toNat, .int .u64 v.g.toNat, .int .u64 v.h.toNat] 130)).drewN nq) bd 135 (k0 :: k1 :: x0 :: x1 :: x2 :: x3 :: x4 :: x5 :: x6 :: x7 :: Sha.u64 v.a :: Sha.u64 v.b :: Sha.u64 v.c :: Sha.u64 v.d :: Sha.u64 v.e :: Sha.u64 v.f :: Sha.u64 v.g :: Sha.u64 v.h :: tl)) := ⟨(HD1.out.alloc _).drewN _⟩
      have hK : Kp (Consts ((wr.alloc (.cells #[.int .u64 v.a.toNat, .int .u64 v.b.toNat, .int .u64 v.c.toNat, .int .u64 v.d.toNat, .int .u64 v.e.toNat, .int .u64 v.f.toNat, .int .u64 v.g.toNat, .int .u64 v.h.toNat] 130)).drewN nq) bk K) := ⟨HK1.out.fr (((Fr.refl (fun _ => False) wr).alloc _).drewN _) (fun h => h)⟩
      have hlv : Kp (w.heap.size < wr.heap.size ∧ bd ≠ wr.heap.size ∧ bw ≠ wr.heap.size) := ⟨hlt1, Nat.ne_of_lt HD1.out.lt, Nat.ne_of_lt HB.out.lt⟩
      obtain ⟨vb, hvb⟩ : ∃ vb, vb = wr.heap.size := ⟨_, rfl⟩
      rw [← hvb] at hV hlv ⊢
      generalize ((wr.alloc (.cells #[.int .u64 v.a.toNat, .int .u64 v.b.toNat, .int .u64 v.c.toNat, .int .u64 v.d.toNat, .int .u64 v.e.toNat, .int .u64 v.f.toNat, .int .u64 v.g.toNat, .int .u64 v.h.toNat] 130)).drewN nq) = W1 at hV hT hB hF hD hK ⊢
      clear ha hb hc hd he hf hg hh hlt1 HD1 HK1 HB HF HT hvb
      go_loopw [16, 17, 18, 19, 20, 21, 22, 23, 123] (fun s16 s17 s18 s19 s20 s21 s22 s23 i wr => ∃ (n : Nat) (a b c d e f g h : BitVec 64), s16 = .int .u64 (a.toNat : Int) ∧ s17 = .int .u64 (b.toNat : Int) ∧ s18 = .int .u64 (c.toNat : Int) ∧ s19 = .int .u64 (d.toNat : Int) ∧ s20 = .int .u64 (e.toNat : Int) ∧ s21 = .int .u64 (f.toNat : Int) ∧ s22 = .int .u64 (g.toNat : Int) ∧ s23 = .int .u64 (h.toNat : Int) ∧ i = .int .i64 (n : Int) ∧ Kp (n ≤ 80) ∧ Kp (rounds turns64 v K (sched turns64 ws 64) n = ⟨a, b, c, d, e, f, g, h⟩) ∧ Kp (∃ m, wr = W1.drewN m)) (fun _ _ _ _ _ _ _ _ i _ => 80 - (intOf i).toNat)
      case atStart => exact ⟨0, v.a, v.b, v.c, v.d, v.e, v.f, v.g, v.h, rfl, rfl, rfl, rfl, rfl, rfl, rfl, rfl, rfl, ⟨Nat.zero_le _⟩, ⟨rfl⟩, ⟨0, rfl⟩⟩
      case round =>
        obtain ⟨n, a, b, c, d, e, f, g, z, rfl, rfl, rfl, rfl, rfl, rfl, rfl, rfl, rfl, A1, HR, HM⟩ := hrel
        obtain ⟨nm, rfl⟩ := HM.out
        have hn := A1.out
        by_cases hlt : n < 80
        ·
          --<<B
          have hck := hK.out.2 n hlt
          have hcw := hB.out.cell n (.int .u64 (((sched turns64 ws 64).getD n 0).toNat : Int)) (vals_get _ _ (by rw [sched_length, HWS.out]; omega))
          have hc0 := hT.out.cell 0 (.int .i64 28) rfl
          have hc1 := hT.out.cell 1 (.int .i64 34) rfl
          have hc2 := hT.out.cell 2 (.int .i64 39) rfl
          have hc3 := hT.out.cell 3 (.int .i64 14) rfl
          have hc4 := hT.out.cell 4 (.int .i64 18) rfl
          have hc5 := hT.out.cell 5 (.int .i64 41) rfl
          have hR : Kp (rounds turns64 v K (sched turns64 ws 64) (n + 1) = round turns64 ⟨a, b, c, d, e, f, g, z⟩ (K.getD n 0) ((sched turns64 ws 64).getD n 0)) := ⟨by rw [rounds, HR.out]⟩
          generalize (sched turns64 ws 64).getD n 0 = x at *
          generalize K.getD n 0 = k at *
          have hone : Kp (z + great1 turns64 e + (e &&& f ^^^ ~~~e &&& g) + k + x = z + great1 turns64 e + (e &&& f ^^^ ~~~e &&& g) + k + x) := ⟨rfl⟩
          have hg1 := great1_is e
          have hch := ch_is e f g
          have hg0 := great0_is a
          have hmj := mj_is a b c
          obtain ⟨G1, hG1⟩ : ∃ G, G = great1 turns64 e := ⟨_, rfl⟩
          obtain ⟨CH, hCH⟩ : ∃ G, G = (e &&& f ^^^ ~~~e &&& g) := ⟨_, rfl⟩
          obtain ⟨G0, hG0⟩ : ∃ G, G = great0 turns64 a := ⟨_, rfl⟩
          obtain ⟨MJ, hMJ⟩ : ∃ G, G = (a &&& b ^^^ a &&& c ^^^ b &&& c) := ⟨_, rfl⟩
          rw [← hG1] at hg1
          rw [← hCH] at hch
          rw [← hG0] at hg0
          rw [← hMJ] at hmj
          have hR2 : Kp (rounds turns64 v K (sched turns64 ws 64) (n + 1) = ⟨z + G1 + CH + k + x + (G0 + MJ), a, b, c, d + (z + G1 + CH + k + x), e, f, g⟩) := ⟨by rw [hR.out, hG1, hCH, hG0, hMJ]; rfl⟩
          clear hG1 hCH hG0 hMJ hone hR HR
          go_wp2
          go_quiet ((go_at_call 114; first | exact quiet_add (turn_any e _ (by decide) (by decide) _) | exact Calls.quiet_of (turn_any e _ (by decide) (by decide) _)))
          go_wp2
          rw [sum5]
          generalize z + G1 + CH + k + x = one at *
          go_quiet ((go_at_call 114; first | exact quiet_add (turn_any a _ (by decide) (by decide) _) | exact Calls.quiet_of (turn_any a _ (by decide) (by decide) _)))
          go_wp2
          rw [sum2]
          generalize G0 + MJ = two at *
          go_roundw
          case rel => exact ⟨n + 1, one + two, a, b, c, d + one, e, f, g, by rw [sum2], rfl, rfl, rfl, by rw [sum2], rfl, rfl, rfl, by go_num, ⟨by omega⟩, hR2, ⟨_, rfl⟩⟩
          case measure => simp [intOf]; omega
          -->>B
        · obtain rfl : n = 80 := by omega
          clear A1 hn hlt
          have hU : Kp (block turns64 K v ws = ⟨v.a + a, v.b + b, v.c + c, v.d + d, v.e + e, v.f + f, v.g + g, v.h + z⟩) := ⟨by unfold block; rw [HKL.out, HR.out]; rfl⟩
          have hD2 := Kp.mk (hD.out.drewN nm)
          have hV2 := Kp.mk (hV.out.drewN nm)
          have hF2 := Kp.mk (hF.out.drewN nm)
          clear hT hB hD hK HR hV hF HKL
          generalize W1.drewN nm = W2 at hD2 hV2 hF2 ⊢
          obtain ⟨va, v1, v2, v3, v4, v5, v6, v7⟩ := v
          have hv0 := hV2.out.cell 0 (.int .u64 (va.toNat : Int)) rfl
          have hv1 := hV2.out.cell 1 (.int .u64 (v1.toNat : Int)) rfl
          have hv2 := hV2.out.cell 2 (.int .u64 (v2.toNat : Int)) rfl
          have hv3 := hV2.out.cell 3 (.int .u64 (v3.toNat : Int)) rfl
          have hv4 := hV2.out.cell 4 (.int .u64 (v4.toNat : Int)) rfl
          have hv5 := hV2.out.cell 5 (.int .u64 (v5.toNat : Int)) rfl
          have hv6 := hV2.out.cell 6 (.int .u64 (v6.toNat : Int)) rfl
          have hv7 := hV2.out.cell 7 (.int .u64 (v7.toNat : Int)) rfl
          have hbv := hlv.out.2.1
          have hlt2 := hD2.out.lt
          go_wp2
          have HV0 : Kp (Blk W2 vb 130 [.int .u64 (va.toNat : Int), .int .u64 (v1.toNat : Int), .int .u64 (v2.toNat : Int), .int .u64 (v3.toNat : Int), .int .u64 (v4.toNat : Int), .int .u64 (v5.toNat : Int), .int .u64 (v6.toNat : Int), .int .u64 (v7.toNat : Int)]) := hV2
          have HDD0 : Kp (Blk W2 bd 135 (laid [k0, k1, x0, x1, x2, x3, x4, x5, x6, x7] tl [va, v1, v2, v3, v4, v5, v6, v7] [a, b, c, d, e, f, g, z] 0)) := hD2
          have HFF0 : Kp (Fr (fun k => k = bd ∨ k = bw) w W2) := ⟨hF2.out.mono (fun _ _ h => .inr h)⟩
          clear hv0 hv1 hv2 hv3 hv4 hv5 hv6 hv7 hV2 hD2 hF2 hlt2
          go_loopw [220] (fun i wr => ∃ n : Nat, i = .int .i64 (n : Int) ∧ Kp (n ≤ 8) ∧ Kp (Blk wr vb 130 [.int .u64 (va.toNat : Int), .int .u64 (v1.toNat : Int), .int .u64 (v2.toNat : Int), .int .u64 (v3.toNat : Int), .int .u64 (v4.toNat : Int), .int .u64 (v5.toNat : Int), .int .u64 (v6.toNat : Int), .int .u64 (v7.toNat : Int)]) ∧ Kp (Blk wr bd 135 (laid [k0, k1, x0, x1, x2, x3, x4, x5, x6, x7] tl [va, v1, v2, v3, v4, v5, v6, v7] [a, b, c, d, e, f, g, z] n)) ∧ Kp (Fr (fun k => k = bd ∨ k = bw) w wr)) (fun i _ => 8 - (intOf i).toNat)
          case atStart => exact ⟨0, rfl, ⟨Nat.zero_le _⟩, HV0, HDD0, HFF0⟩
          case round =>
            clear HV0 HDD0 HFF0
            obtain ⟨n, rfl, G1, HV, HDD, HFF⟩ := hrel
            have hn8 : n = 0 ∨ n = 1 ∨ n = 2 ∨ n = 3 ∨ n = 4 ∨ n = 5 ∨ n = 6 ∨ n = 7 ∨ n = 8 := by have := G1.out; omega
            clear G1
            rcases hn8 with rfl | rfl | rfl | rfl | rfl | rfl | rfl | rfl | rfl
            · have hcv := HV.out.cell 0 (.int .u64 (va.toNat : Int)) rfl
              have hcd := HDD.out.cell (10 + 0) (.int .u64 (va.toNat : Int)) rfl
              have hfz := HDD.out.free (10 + 0)
              have hix : ∀ w, (Instr.index 130 (.agg #[.int .u64 (a.toNat : Int), .int .u64 (b.toNat : Int), .int .u64 (c.toNat : Int), .int .u64 (d.toNat : Int), .int .u64 (e.toNat : Int), .int .u64 (f.toNat : Int), .int .u64 (g.toNat : Int), .int .u64 (z.toNat : Int)]) (.int .i64 0)).run Tryd.prog w = .ok (.int .u64 (a.toNat : Int)) w := index8 a b c d e f g z 0 (by decide)
              go_wp2
              go_region
              go_wp2
              go_roundw
              case rel =>
                refine ⟨1, by go_num, ⟨by omega⟩, ⟨(HV.out.set_ne hbv _).drew⟩, ⟨?_⟩, ⟨(HFF.out.set (fun _ => .inl rfl) _).drew⟩⟩
                rw [sum2]
                exact (HDD.out.set (10 + 0) (.int .u64 ((va + a).toNat : Int))).drew
              case measure => simp [intOf]
            · have hcv := HV.out.cell 1 (.int .u64 (v1.toNat : Int)) rfl
              have hcd := HDD.out.cell (10 + 1) (.int .u64 (v1.toNat : Int)) rfl
              have hfz := HDD.out.free (10 + 1)
              have hix : ∀ w, (Instr.index 130 (.agg #[.int .u64 (a.toNat : Int), .int .u64 (b.toNat : Int), .int .u64 (c.toNat : Int), .int .u64 (d.toNat : Int), .int .u64 (e.toNat : Int), .int .u64 (f.toNat : Int), .int .u64 (g.toNat : Int), .int .u64 (z.toNat : Int)]) (.int .i64 1)).run Tryd.prog w = .ok (.int .u64 (b.toNat : Int)) w := index8 a b c d e f g z 1 (by decide)
              go_wp2
              go_region
              go_wp2
              go_roundw
              case rel =>
                refine ⟨2, by go_num, ⟨by omega⟩, ⟨(HV.out.set_ne hbv _).drew⟩, ⟨?_⟩, ⟨(HFF.out.set (fun _ => .inl rfl) _).drew⟩⟩
                rw [sum2]
                exact (HDD.out.set (10 + 1) (.int .u64 ((v1 + b).toNat : Int))).drew
              case measure => simp [intOf]
            · have hcv := HV.out.cell 2 (.int .u64 (v2.toNat : Int)) rfl
              have hcd := HDD.out.cell (10 + 2) (.int .u64 (v2.toNat : Int)) rfl
              have hfz := HDD.out.free (10 + 2)
              have hix : ∀ w, (Instr.index 130 (.agg #[.int .u64 (a.toNat : Int), .int .u64 (b.toNat : Int), .int .u64 (c.toNat : Int), .int .u64 (d.toNat : Int), .int .u64 (e.toNat : Int), .int .u64 (f.toNat : Int), .int .u64 (g.toNat : Int), .int .u64 (z.toNat : Int)]) (.int .i64 2)).run Tryd.prog w = .ok (.int .u64 (c.toNat : Int)) w := index8 a b c d e f g z 2 (by decide)
              go_wp2
              go_region
              go_wp2
              go_roundw
              case rel =>
                refine ⟨3, by go_num, ⟨by omega⟩, ⟨(HV.out.set_ne hbv _).drew⟩, ⟨?_⟩, ⟨(HFF.out.set (fun _ => .inl rfl) _).drew⟩⟩
                rw [sum2]
                exact (HDD.out.set (10 + 2) (.int .u64 ((v2 + c).toNat : Int))).drew
              case measure => simp [intOf]
            · have hcv := HV.out.cell 3 (.int .u64 (v3.toNat : Int)) rfl
              have hcd := HDD.out.cell (10 + 3) (.int .u64 (v3.toNat : Int)) rfl
              have hfz := HDD.out.free (10 + 3)
              have hix : ∀ w, (Instr.index 130 (.agg #[.int .u64 (a.toNat : Int), .int .u64 (b.toNat : Int), .int .u64 (c.toNat : Int), .int .u64 (d.toNat : Int), .int .u64 (e.toNat : Int), .int .u64 (f.toNat : Int), .int .u64 (g.toNat : Int), .int .u64 (z.toNat : Int)]) (.int .i64 3)).run Tryd.prog w = .ok (.int .u64 (d.toNat : Int)) w := index8 a b c d e f g z 3 (by decide)
              go_wp2
              go_region
              go_wp2
              go_roundw
              case rel =>
                refine ⟨4, by go_num, ⟨by omega⟩, ⟨(HV.out.set_ne hbv _).drew⟩, ⟨?_⟩, ⟨(HFF.out.set (fun _ => .inl rfl) _).drew⟩⟩
                rw [sum2]
                exact (HDD.out.set (10 + 3) (.int .u64 ((v3 + d).toNat : Int))).drew
              case measure => simp [intOf]
            · have hcv := HV.out.cell 4 (.int .u64 (v4.toNat : Int)) rfl
              have hcd := HDD.out.cell (10 + 4) (.int .u64 (v4.toNat : Int)) rfl
              have hfz := HDD.out.free (10 + 4)
              have hix : ∀ w, (Instr.index 130 (.agg #[.int .u64 (a.toNat : Int), .int .u64 (b.toNat : Int), .int .u64 (c.toNat : Int), .int .u64 (d.toNat : Int), .int .u64 (e.toNat : Int), .int .u64 (f.toNat : Int), .int .u64 (g.toNat : Int), .int .u64 (z.toNat : Int)]) (.int .i64 4)).run Tryd.prog w = .ok (.int .u64 (e.toNat : Int)) w := index8 a b c d e f g z 4 (by decide)
              go_wp2
              go_region
              go_wp2
              go_roundw
              case rel =>
                refine ⟨5, by go_num, ⟨by omega⟩, ⟨(HV.out.set_ne hbv _).drew⟩, ⟨?_⟩, ⟨(HFF.out.set (fun _ => .inl rfl) _).drew⟩⟩
                rw [sum2]
                exact (HDD.out.set (10 + 4) (.int .u64 ((v4 + e).toNat : Int))).drew
              case measure => simp [intOf]
            · have hcv := HV.out.cell 5 (.int .u64 (v5.toNat : Int)) rfl
              have hcd := HDD.out.cell (10 + 5) (.int .u64 (v5.toNat : Int)) rfl
              have hfz := HDD.out.free (10 + 5)
              have hix : ∀ w, (Instr.index 130 (.agg #[.int .u64 (a.toNat : Int), .int .u64 (b.toNat : Int), .int .u64 (c.toNat : Int), .int .u64 (d.toNat : Int), .int .u64 (e.toNat : Int), .int .u64 (f.toNat : Int), .int .u64 (g.toNat : Int), .int .u64 (z.toNat : Int)]) (.int .i64 5)).run Tryd.prog w = .ok (.int .u64 (f.toNat : Int)) w := index8 a b c d e f g z 5 (by decide)
              go_wp2
              go_region
              go_wp2
              go_roundw
              case rel =>
                refine ⟨6, by go_num, ⟨by omega⟩, ⟨(HV.out.set_ne hbv _).drew⟩, ⟨?_⟩, ⟨(HFF.out.set (fun _ => .inl rfl) _).drew⟩⟩
                rw [sum2]
                exact (HDD.out.set (10 + 5) (.int .u64 ((v5 + f).toNat : Int))).drew
              case measure => simp [intOf]
            · have hcv := HV.out.cell 6 (.int .u64 (v6.toNat : Int)) rfl
              have hcd := HDD.out.cell (10 + 6) (.int .u64 (v6.toNat : Int)) rfl
              have hfz := HDD.out.free (10 + 6)
              have hix : ∀ w, (Instr.index 130 (.agg #[.int .u64 (a.toNat : Int), .int .u64 (b.toNat : Int), .int .u64 (c.toNat : Int), .int .u64 (d.toNat : Int), .int .u64 (e.toNat : Int), .int .u64 (f.toNat : Int), .int .u64 (g.toNat : Int), .int .u64 (z.toNat : Int)]) (.int .i64 6)).run Tryd.prog w = .ok (.int .u64 (g.toNat : Int)) w := index8 a b c d e f g z 6 (by decide)
              go_wp2
              go_region
              go_wp2
              go_roundw
              case rel =>
                refine ⟨7, by go_num, ⟨by omega⟩, ⟨(HV.out.set_ne hbv _).drew⟩, ⟨?_⟩, ⟨(HFF.out.set (fun _ => .inl rfl) _).drew⟩⟩
                rw [sum2]
                exact (HDD.out.set (10 + 6) (.int .u64 ((v6 + g).toNat : Int))).drew
              case measure => simp [intOf]
            · have hcv := HV.out.cell 7 (.int .u64 (v7.toNat : Int)) rfl
              have hcd := HDD.out.cell (10 + 7) (.int .u64 (v7.toNat : Int)) rfl
              have hfz := HDD.out.free (10 + 7)
              have hix : ∀ w, (Instr.index 130 (.agg #[.int .u64 (a.toNat : Int), .int .u64 (b.toNat : Int), .int .u64 (c.toNat : Int), .int .u64 (d.toNat : Int), .int .u64 (e.toNat : Int), .int .u64 (f.toNat : Int), .int .u64 (g.toNat : Int), .int .u64 (z.toNat : Int)]) (.int .i64 7)).run Tryd.prog w = .ok (.int .u64 (z.toNat : Int)) w := index8 a b c d e f g z 7 (by decide)
              go_wp2
              go_region
              go_wp2
              go_roundw
              case rel =>
                refine ⟨8, by go_num, ⟨by omega⟩, ⟨(HV.out.set_ne hbv _).drew⟩, ⟨?_⟩, ⟨(HFF.out.set (fun _ => .inl rfl) _).drew⟩⟩
                rw [sum2]
                exact (HDD.out.set (10 + 7) (.int .u64 ((v7 + z).toNat : Int))).drew
              case measure => simp [intOf]
            · go_wp2
              go_end0
              refine ⟨_, rfl, _, rfl, ?_, HFF.out⟩
              rw [hU.out]
              exact HDD.out
end Go.Proofs.YtjcmgpiapbeodaaDoor.Sha.C64
