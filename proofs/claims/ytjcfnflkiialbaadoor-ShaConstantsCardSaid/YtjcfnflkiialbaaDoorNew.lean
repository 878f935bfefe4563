/-
  The walks of start, New, words, Written: for either kind.
-/
import Derived.Test.YtjcfnflkiialbaaDoorStart
import Derived.Test.YtjcfnflkiialbaaDoorConst
namespace Go.Proofs.YtjcfnflkiialbaaDoor.Sha
open Go.RowKit Go.Proofs.YtjcfnflkiialbaaDoor.Mem Go.Proofs.YtjcfnflkiialbaaDoorW.PrintWords
/-- The digest at block b, whose rest lies in rv, is s. -/
structure Dg (w : World) (b : Nat) (rv : Value) (s : St) : Prop where
  blk : Blk w b 93 (dcells s.B s.cnt s.c rv)
  rest : w.ownsRow low 5 1 rv s.rest.length (bytes s.rest)
  low : Sha.low ≤ b
/-- A list that a call made, base being the heap's size when it was called. -/
def Own (w : World) (base : Nat) (v : Value) (xs : List Int) : Prop := w.ownsRow base 5 1 v xs.length (bytes xs)
theorem start_calls (B : Bool) (c0 c1 c2 c3 c4 c5 c6 c7 : BitVec 32) (d0 d1 d2 d3 d4 d5 d6 d7 : BitVec 64) (hs : start B = ⟨⟨c0, c1, c2, c3, c4, c5, c6, c7⟩, ⟨d0, d1, d2, d3, d4, d5, d6, d7⟩⟩) (w : World) (hL : Laid w) :
    Calls Tryd.prog 54 #[.int .i64 (kind B : Nat)] w fun e w' => e = .returned (.agg #[.int .u32 (c0.toNat : Int), .int .u32 (c1.toNat : Int), .int .u32 (c2.toNat : Int), .int .u32 (c3.toNat : Int), .int .u32 (c4.toNat : Int), .int .u32 (c5.toNat : Int), .int .u32 (c6.toNat : Int), .int .u32 (c7.toNat : Int),
      .int .u64 (d0.toNat : Int), .int .u64 (d1.toNat : Int), .int .u64 (d2.toNat : Int), .int .u64 (d3.toNat : Int), .int .u64 (d4.toNat : Int), .int .u64 (d5.toNat : Int), .int .u64 (d6.toNat : Int), .int .u64 (d7.toNat : Int)]) ∧ Below w.heap.size w w' := by
  have hg : 3 < w.heap.size := Nat.lt_of_lt_of_le (by decide) hL.size
  cases B
  · obtain ⟨h1, h2⟩ := Chain.mk.inj hs
    obtain ⟨rfl, rfl, rfl, rfl, rfl, rfl, rfl, rfl⟩ := Eight.mk.inj h1
    obtain ⟨rfl, rfl, rfl, rfl, rfl, rfl, rfl, rfl⟩ := Eight.mk.inj h2
    refine (start256_calls _ _ _ _ _ _ _ _ w (hL.starts 0 (by decide)) (hL.starts 1 (by decide)) (hL.starts 2 (by decide)) (hL.starts 3 (by decide)) (hL.starts 4 (by decide)) (hL.starts 5 (by decide)) (hL.starts 6 (by decide)) (hL.starts 7 (by decide)) hg).mono ?_
    rintro e w' ⟨rfl, h⟩
    exact ⟨by kernel_rfl, h⟩
  · obtain ⟨h1, h2⟩ := Chain.mk.inj hs
    obtain ⟨rfl, rfl, rfl, rfl, rfl, rfl, rfl, rfl⟩ := Eight.mk.inj h1
    obtain ⟨rfl, rfl, rfl, rfl, rfl, rfl, rfl, rfl⟩ := Eight.mk.inj h2
    refine (start512_calls _ _ _ _ _ _ _ _ w (hL.starts 0 (by decide)) (hL.starts 1 (by decide)) (hL.starts 2 (by decide)) (hL.starts 3 (by decide)) (hL.starts 4 (by decide)) (hL.starts 5 (by decide)) (hL.starts 6 (by decide)) (hL.starts 7 (by decide)) hg).mono ?_
    rintro e w' ⟨rfl, h⟩
    exact ⟨by kernel_rfl, h⟩
set_option maxHeartbeats 4000000 in
set_option maxRecDepth 100000 in
theorem new_calls (B : Bool) (w : World) (hL : Laid w) :
    Calls Tryd.prog 30 #[.int .i64 (kind B : Nat)] w fun e w' => ∃ b, e = .returned (.tuple #[.pointer (some ⟨b, 0, none⟩), .int .i64 0]) ∧ w.heap.size ≤ b ∧ Dg w' b (.slice none 0 0) (St.new B) ∧ Below w.heap.size w w' := by
  obtain ⟨⟨⟨c0, c1, c2, c3, c4, c5, c6, c7⟩, ⟨d0, d1, d2, d3, d4, d5, d6, d7⟩⟩, hs⟩ : ∃ c, c = start B := ⟨_, rfl⟩
  have hst := start_calls B c0 c1 c2 c3 c4 c5 c6 c7 d0 d1 d2 d3 d4 d5 d6 d7 hs.symm w hL
  have HS := Kp.mk hst
  have HE := Kp.mk hs
  have HL := Kp.mk hL.size
  clear hst hs hL
  cases B
  all_goals
    simp only [kind] at HS ⊢
    go_enter Tryd.func30, Tryd.ntmps30
    go_wp2_with fail
    refine HS.out.mono ?_
    rintro e w1 ⟨rfl, h1⟩
    have HB := Kp.mk h1
    clear h1
    go_wp2
    go_ret2
    refine ⟨w1.heap.size, rfl, HB.out.size, ⟨?_, ?_, Nat.le_trans HL.out HB.out.size⟩, HB.out.alloc HB.out.size _⟩
    · show Blk _ _ _ (dcells _ 0 (start _) _)
      rw [← HE.out]
      exact Blk.new _ _ _
    · exact ⟨rfl, .inl ⟨rfl, rfl⟩⟩
theorem written_calls (b : Nat) (s : St) (rv : Value) (w : World) (hD : Dg w b rv s) :
    Calls Tryd.prog 33 #[.pointer (some ⟨b, 0, none⟩)] w fun e w' => e = .returned (.int .i64 (s.cnt : Nat)) ∧ w' = w := by
  have h0 := hD.blk.cell 0 _ rfl
  have h1 := hD.blk.cell 1 _ rfl
  have HB := block_calls b s.B w h0
  clear hD
  obtain ⟨B, cnt, c, rest⟩ := s
  cases B
  all_goals
    simp only [kind, blk] at h0 h1 HB ⊢
    go_enter Tryd.func33, Tryd.ntmps33
    go_wp2_with (first | (go_at_call 55; (with_reducible refine HB.mono ?_); rintro e w' ⟨rfl, rfl⟩))
    go_ret
    exact ⟨rfl, rfl⟩
set_option maxHeartbeats 1000000 in
set_option maxRecDepth 100000 in
theorem words_calls (B : Bool) (b : Nat) (cnt : Nat) (c : Chain) (rv : Value) (w : World) (hD : Blk w b 93 (dcells B cnt c rv)) :
    Calls Tryd.prog 57 #[.pointer (some ⟨b, 0, none⟩)] w fun e w' => ∃ v, e = .returned v ∧ Own w' w.heap.size v (words B c) ∧ Below w.heap.size w w' := by
  have h0 := hD.cell 0 _ rfl
  have HD := Kp.mk hD
  clear hD
  cases B
  · have hr : Kp (PShaConstants.sha_lay_uint32.f ((4 + 2) * c.s.list.length + 1) [] (Y32.nats c.s.list) 4 = some (words false c)) := ⟨Y32.f_is c.s.list (by simp [Eight.list]) [] (by simp)⟩
    have hC : Kp (Kd.C (Kd.int .u32) w (some ⟨b, 2, none⟩) 8 (Y32.nats c.s.list)) := ⟨by
      refine Kd.C_of_reads (d := (0 : Int)) ⟨rfl, by omega, fun _ => ⟨_, rfl, fun j hj => ?_⟩⟩
      rw [Addr.add_lit, Nat.add_comm]
      have h8 : j = 0 ∨ j = 1 ∨ j = 2 ∨ j = 3 ∨ j = 4 ∨ j = 5 ∨ j = 6 ∨ j = 7 := by omega
      rcases h8 with rfl | rfl | rfl | rfl | rfl | rfl | rfl | rfl <;> exact HD.out.cell _ _ rfl⟩
    have hmk := Wk.make_bytes 32 (by omega) (by omega)
    simp only [kind] at h0
    go_enter Tryd.func57, Tryd.ntmps57
    go_wp2
    go_region_with (go_at_call 44; (with_reducible refine (Wk.lay32_zeros (Y32.nats c.s.list) 8 rfl _ (words false c) _ 32 4 hr.out w _ hC.out (by repeat (first | exact Wk.own_zeros w 32 (by omega) | apply Kd.R_drew)) (by repeat (first | exact Below.refl _ _ | apply below_alloc | apply below_drew))).mono ?_); rintro e w' ⟨v, rfl, HO, HB⟩; have HO := Kp.mk HO; have HB := Kp.mk HB)
    all_goals (try go_wp2)
    all_goals go_ret
    all_goals exact ⟨_, rfl, Kd.own_of_R HO.out, HB.out⟩
  · have hr : Kp (PShaConstants.sha_lay_uint64.f ((8 + 2) * c.l.list.length + 1) [] (Y64.nats c.l.list) 8 = some (words true c)) := ⟨Y64.f_is c.l.list (by simp [Eight.list]) [] (by simp)⟩
    have hC : Kp (Kd.C (Kd.int .u64) w (some ⟨b, 10, none⟩) 8 (Y64.nats c.l.list)) := ⟨by
      refine Kd.C_of_reads (d := (0 : Int)) ⟨rfl, by omega, fun _ => ⟨_, rfl, fun j hj => ?_⟩⟩
      rw [Addr.add_lit, Nat.add_comm]
      have h8 : j = 0 ∨ j = 1 ∨ j = 2 ∨ j = 3 ∨ j = 4 ∨ j = 5 ∨ j = 6 ∨ j = 7 := by omega
      rcases h8 with rfl | rfl | rfl | rfl | rfl | rfl | rfl | rfl <;> exact HD.out.cell _ _ rfl⟩
    have hmk := Wk.make_bytes 64 (by omega) (by omega)
    simp only [kind] at h0
    go_enter Tryd.func57, Tryd.ntmps57
    go_wp2
    go_region_with (go_at_call 45; (with_reducible refine (Wk.lay64_zeros (Y64.nats c.l.list) 8 rfl _ (words true c) _ 64 8 hr.out w _ hC.out (by repeat (first | exact Wk.own_zeros w 64 (by omega) | apply Kd.R_drew)) (by repeat (first | exact Below.refl _ _ | apply below_alloc | apply below_drew))).mono ?_); rintro e w' ⟨v, rfl, HO, HB⟩; have HO := Kp.mk HO; have HB := Kp.mk HB)
    all_goals (try go_wp2)
    all_goals go_ret
    all_goals exact ⟨_, rfl, Kd.own_of_R HO.out, HB.out⟩
end Go.Proofs.YtjcfnflkiialbaaDoor.Sha
