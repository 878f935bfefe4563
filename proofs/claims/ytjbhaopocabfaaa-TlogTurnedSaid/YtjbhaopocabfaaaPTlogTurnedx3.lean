-- PRINTED BY print.sh 35421559b90ae4d0a3588c463048766b98c2df88dd9212a6774a882060cdf62d: not written by this session
import Derived.Test.YtjbhaopocabfaaaPTlogTurnedx0
import Derived.Test.YtjbhaopocabfaaaPTlogTurnedx1
import Derived.Test.YtjbhaopocabfaaaPTlogTurnedx2
namespace Go.Proofs.Ytjbhaopocabfaaa.PTlogTurned
open Go.RowKit Go.Proofs.YtjbhaopocabfaaaW.PrintWords Go.Proofs.YtjbhaopocabfaaaW.PrintLast Go.Proofs.YtjbhaopocabfaaaW.PrintMore
attribute [local go_sem] max2_int min2_int max_two min_two max_three min_three max_four min_four   -- for this text's walks alone
set_option linter.unusedVariables false
set_option linter.unusedSimpArgs false

/-! ### ledgerlaw08_TlogTurned: function 5 -/
mutual
def ledgerlaw08_TlogTurned.j0 : Nat → Int → Int → Int → Int → Int → Int → Int → Bool → Option (Bool)
  | 0, _, _, _, _, _, _, _, _ => none
  | k + 1, x0, x3, x4, x5, x6, x7, x8, x28 => if x28 = true then (if x6 = 1 then (if x8 = 80 then (if x4 = 0 then (if x5 = 0 then (if x7 = 0 then ((ledgerlaw08_TlogOrder.f k 3 5).bind fun t130 => (some t130)) else (some false)) else (some false)) else (some false)) else (some false)) else (some false)) else (if x0 = x3 then (if x6 = 1 then (if x8 = 0 then (some (x7 == 281474976710656)) else (some false)) else (some false)) else ((tlog_Index.f x4 x5).bind fun bt131 => (if x6 = 0 then (if bt131.2 = 0 then (ledgerlaw08_TlogTurned.j1 k x4 x5 x7 x8 (bt131.1 != x0)) else (ledgerlaw08_TlogTurned.j1 k x4 x5 x7 x8 true)) else (ledgerlaw08_TlogTurned.j1 k x4 x5 x7 x8 true))))
def ledgerlaw08_TlogTurned.j1 : Nat → Int → Int → Int → Int → Bool → Option (Bool)
  | 0, _, _, _, _, _ => none
  | k + 1, x4, x5, x7, x8, x79 => if x79 = true then (some false) else (if x4 > 0 then (if x8 = 80 then (some (x7 == 0)) else (some false)) else (if x8 = 0 then (some (x7 == x5)) else (some false)))
end
def ledgerlaw08_TlogTurned.f (k : Nat) (a0 : Int) : Option (Bool) := (tlog_SplitIndex.f k a0).bind fun bt125 => ((tlog_Records.f k a0).bind fun bt128 => (if a0 < 0 then (ledgerlaw08_TlogTurned.j0 k a0 562949953421311 bt125.1 bt125.2.1 bt125.2.2 bt128.1 bt128.2 true) else (ledgerlaw08_TlogTurned.j0 k a0 562949953421311 bt125.1 bt125.2.1 bt125.2.2 bt128.1 bt128.2 (decide (a0 > 562949953421311)))))
theorem ledgerlaw08_TlogTurned.mono_l : ∀ k, (∀ y0 y1 y2 y3 y4 y5 y6 y7, LeO (ledgerlaw08_TlogTurned.j0 k y0 y1 y2 y3 y4 y5 y6 y7) (ledgerlaw08_TlogTurned.j0 (k + 1) y0 y1 y2 y3 y4 y5 y6 y7)) ∧ (∀ y0 y1 y2 y3 y4, LeO (ledgerlaw08_TlogTurned.j1 k y0 y1 y2 y3 y4) (ledgerlaw08_TlogTurned.j1 (k + 1) y0 y1 y2 y3 y4))
  | 0 => ⟨fun _ _ _ _ _ _ _ _ r h => by simp [ledgerlaw08_TlogTurned.j0] at h, fun _ _ _ _ _ r h => by simp [ledgerlaw08_TlogTurned.j1] at h⟩
  | k + 1 => by
    obtain ⟨ih0, ih1⟩ := ledgerlaw08_TlogTurned.mono_l k
    refine ⟨?_, ?_⟩
    · intro y0 y1 y2 y3 y4 y5 y6 y7
      unfold ledgerlaw08_TlogTurned.j0
      repeat' first
      | (with_reducible exact ih0 _ _ _ _ _ _ _ _)
      | (with_reducible exact ih1 _ _ _ _ _)
      | (with_reducible exact ledgerlaw08_TlogOrder.mono _ _ _)
      | (with_reducible exact tlog_Records.mono _ _)
      | (with_reducible exact tlog_SplitIndex.mono _ _)
      | (with_reducible exact LeO.refl _)
      | (with_reducible exact LeO.none _)
      | (with_reducible refine LeO.ite ?_ ?_)
      | (with_reducible refine LeO.bind ?_ (fun _ => ?_))
      | exact ih0 _ _ _ _ _ _ _ _
      | exact ih1 _ _ _ _ _
      | exact ledgerlaw08_TlogOrder.mono _ _ _
      | exact tlog_Records.mono _ _
      | exact tlog_SplitIndex.mono _ _
      | exact LeO.none _
      | refine LeO.ite ?_ ?_
      | refine LeO.bind ?_ (fun _ => ?_)
    · intro y0 y1 y2 y3 y4
      unfold ledgerlaw08_TlogTurned.j1
      repeat' first
      | (with_reducible exact ih0 _ _ _ _ _ _ _ _)
      | (with_reducible exact ih1 _ _ _ _ _)
      | (with_reducible exact ledgerlaw08_TlogOrder.mono _ _ _)
      | (with_reducible exact tlog_Records.mono _ _)
      | (with_reducible exact tlog_SplitIndex.mono _ _)
      | (with_reducible exact LeO.refl _)
      | (with_reducible exact LeO.none _)
      | (with_reducible refine LeO.ite ?_ ?_)
      | (with_reducible refine LeO.bind ?_ (fun _ => ?_))
      | exact ih0 _ _ _ _ _ _ _ _
      | exact ih1 _ _ _ _ _
      | exact ledgerlaw08_TlogOrder.mono _ _ _
      | exact tlog_Records.mono _ _
      | exact tlog_SplitIndex.mono _ _
      | exact LeO.none _
      | refine LeO.ite ?_ ?_
      | refine LeO.bind ?_ (fun _ => ?_)
theorem ledgerlaw08_TlogTurned.mono : ∀ a0 k, LeO (ledgerlaw08_TlogTurned.f k a0) (ledgerlaw08_TlogTurned.f (k + 1) a0) := by
  intro a0 k
  obtain ⟨ih0, ih1⟩ := ledgerlaw08_TlogTurned.mono_l k
  unfold ledgerlaw08_TlogTurned.f
  repeat' first
      | (with_reducible exact ih0 _ _ _ _ _ _ _ _)
      | (with_reducible exact ih1 _ _ _ _ _)
      | (with_reducible exact ledgerlaw08_TlogOrder.mono _ _ _)
      | (with_reducible exact tlog_Records.mono _ _)
      | (with_reducible exact tlog_SplitIndex.mono _ _)
      | (with_reducible exact LeO.refl _)
      | (with_reducible exact LeO.none _)
      | (with_reducible refine LeO.ite ?_ ?_)
      | (with_reducible refine LeO.bind ?_ (fun _ => ?_))
      | exact ih0 _ _ _ _ _ _ _ _
      | exact ih1 _ _ _ _ _
      | exact ledgerlaw08_TlogOrder.mono _ _ _
      | exact tlog_Records.mono _ _
      | exact tlog_SplitIndex.mono _ _
      | exact LeO.none _
      | refine LeO.ite ?_ ?_
      | refine LeO.bind ?_ (fun _ => ?_)
set_option maxHeartbeats 8000000 in
set_option maxRecDepth 100000 in
theorem ledgerlaw08_TlogTurned.calls (k : Nat) (a0 : Int) (r : Bool) (w : World) (h : ledgerlaw08_TlogTurned.f k a0 = some r) :
    Calls Try.prog 5 #[.int .i64 a0] w fun e w' => e = .returned (.bool r) ∧ Below w.heap.size w w' := by
  have HB := Aside0.mk (Below.refl w.heap.size w)
  have H : ((tlog_SplitIndex.f k a0).bind fun bt125 => ((tlog_Records.f k a0).bind fun bt128 => (if a0 < 0 then (ledgerlaw08_TlogTurned.j0 k a0 562949953421311 bt125.1 bt125.2.1 bt125.2.2 bt128.1 bt128.2 true) else (ledgerlaw08_TlogTurned.j0 k a0 562949953421311 bt125.1 bt125.2.1 bt125.2.2 bt128.1 bt128.2 (decide (a0 > 562949953421311)))))) = some r := h
  clear h
  replace H := Option.bind_eq_some_iff.mp H
  obtain ⟨⟨t125, t126, t127⟩, A20, H⟩ := H
  replace H : ((tlog_Records.f k a0).bind fun bt128 => (if a0 < 0 then (ledgerlaw08_TlogTurned.j0 k a0 562949953421311 t125 t126 t127 bt128.1 bt128.2 true) else (ledgerlaw08_TlogTurned.j0 k a0 562949953421311 t125 t126 t127 bt128.1 bt128.2 (decide (a0 > 562949953421311))))) = some r := H
  have A2 := Aside0.mk A20
  clear A20
  replace H := Option.bind_eq_some_iff.mp H
  obtain ⟨⟨t128, t129⟩, A30, H⟩ := H
  replace H : (if a0 < 0 then (ledgerlaw08_TlogTurned.j0 k a0 562949953421311 t125 t126 t127 t128 t129 true) else (ledgerlaw08_TlogTurned.j0 k a0 562949953421311 t125 t126 t127 t128 t129 (decide (a0 > 562949953421311)))) = some r := H
  have A3 := Aside0.mk A30
  clear A30
  have HC4 := Aside0.mk H
  clear H
  go_enter Try.func5, Try.ntmps5
  go_upto_region 4 with (first | ((with_reducible refine gate_callee (f := 8) rfl ?_); refine goesL_ (some 13) rfl rfl Try.func8 (by kernel_rfl) rfl #[.int .i64 a0] rfl (by (try simp only [List.map_toArray, List.map_cons, List.map_nil]); first | done | rfl | (simp only [List.length_drop, List.length_take]; rfl)) ?_; (with_reducible refine (tlog_SplitIndex.calls k a0 t125 t126 t127 _ A2.out).mono ?_); rintro e w' ⟨rfl, ⟨nd, rfl⟩⟩; refine ⟨_, rfl, ?_⟩) | ((with_reducible refine gate_callee (f := 11) rfl ?_); refine goesL_ (some 19) rfl rfl Try.func11 (by kernel_rfl) rfl #[.int .i64 a0] rfl (by (try simp only [List.map_toArray, List.map_cons, List.map_nil]); first | done | rfl | (simp only [List.length_drop, List.length_take]; rfl)) ?_; (with_reducible refine (tlog_Records.calls k a0 t128 t129 _ A3.out).mono ?_); rintro e w' ⟨rfl, ⟨nd, rfl⟩⟩; refine ⟨_, rfl, ?_⟩))
  (try simp only [Act.put, List.setIfInBounds_toArray, List.set_cons_zero, List.set_cons_succ])
  go_cut [28] (fun v28 wc => ∃ (kq : Nat) (x28_3 : Bool), v28 = .bool x28_3 ∧ Aside0 (ledgerlaw08_TlogTurned.j0 kq a0 562949953421311 t125 t126 t127 t128 t129 x28_3 = some r) ∧ Aside0 (kq ≤ k) ∧ Aside0 (Below w.heap.size w wc))
  case first =>
    have H := HC4.out
    clear HC4
    by_cases c5 : a0 < 0
    · rw [if_pos c5] at H
      have c5b0 : decide (a0 < 0) = true := decide_eq_true c5
      clear c5
      (first | rw [c5b0] | (simp only [i64_w, i32_w]; rw [c5b0]) | skip)
      have H' := Aside0.mk H
      clear H
      go_wp2
      go_meet
      case rel => exact ⟨_, (true), (by first | rfl | (simp; done) | (simp [*]; done)), H', ⟨by first | omega | exact Nat.le_refl _⟩, ⟨by repeat (first | (with_reducible first | exact HB.out | apply below_alloc | apply pw_below_drewN | apply below_drew1) | exact HB.out)⟩⟩
    · rw [if_neg c5] at H
      have c5b0 : decide (a0 < 0) = false := decide_eq_false c5
      clear c5
      (first | rw [c5b0] | (simp only [i64_w, i32_w]; rw [c5b0]) | skip)
      have H' := Aside0.mk H
      clear H
      go_wp2
      go_meet
      case rel => exact ⟨_, (decide (a0 > 562949953421311)), (by first | rfl | (simp; done) | (simp [*]; done)), H', ⟨by first | omega | exact Nat.le_refl _⟩, ⟨by repeat (first | (with_reducible first | exact HB.out | apply below_alloc | apply pw_below_drewN | apply below_drew1) | exact HB.out)⟩⟩
  case rest =>
    clear HC4
    try clear c1
    try clear p2
    try clear c5
    try clear c5b0
    obtain ⟨kq, x28_3, rfl, HA, HJ3, HB⟩ := hcut
    cases kq with
    | zero => exact absurd HA.out (by simp [ledgerlaw08_TlogTurned.j0])
    | succ kj3 =>
      have H := HA.out
      clear HA
      simp only [ledgerlaw08_TlogTurned.j0] at H
      by_cases c6 : x28_3 = true
      · subst c6
        have H1 : (if t127 = 1 then (if t129 = 80 then (if t125 = 0 then (if t126 = 0 then (if t128 = 0 then ((ledgerlaw08_TlogOrder.f kj3 3 5).bind fun t130 => (some t130)) else (some false)) else (some false)) else (some false)) else (some false)) else (some false)) = some r := by rw [if_pos rfl] at H; exact H
        clear H
        have H := H1
        clear H1
        by_cases c7 : t127 = 1
        · rw [if_pos c7] at H
          have c7b0 : (t127 == 1) = true := beq_iff_eq.mpr c7
          have c7b1 : (t127 != 1) = false := bne_eq_false_iff_eq.mpr c7
          clear c7
          by_cases c8 : t129 = 80
          · rw [if_pos c8] at H
            have c8b0 : (t129 == 80) = true := beq_iff_eq.mpr c8
            have c8b1 : (t129 != 80) = false := bne_eq_false_iff_eq.mpr c8
            clear c8
            by_cases c9 : t125 = 0
            · rw [if_pos c9] at H
              have c9b0 : (t125 == 0) = true := beq_iff_eq.mpr c9
              have c9b1 : (t125 != 0) = false := bne_eq_false_iff_eq.mpr c9
              clear c9
              by_cases c10 : t126 = 0
              · rw [if_pos c10] at H
                have c10b0 : (t126 == 0) = true := beq_iff_eq.mpr c10
                have c10b1 : (t126 != 0) = false := bne_eq_false_iff_eq.mpr c10
                clear c10
                by_cases c11 : t128 = 0
                · rw [if_pos c11] at H
                  have c11b0 : (t128 == 0) = true := beq_iff_eq.mpr c11
                  have c11b1 : (t128 != 0) = false := bne_eq_false_iff_eq.mpr c11
                  clear c11
                  replace H := Option.bind_eq_some_iff.mp H
                  obtain ⟨t130, A120, H⟩ := H
                  replace H : (some t130) = some r := H
                  have A12 := Aside0.mk A120
                  clear A120
                  obtain rfl := Option.some.inj H
                  go_wp2_with (first | (go_at_call 3; (with_reducible refine (ledgerlaw08_TlogOrder.calls kj3 3 5 t130 _ A12.out).mono ?_); rintro e w13 ⟨rfl, hb⟩; have n0_ := Aside0.mk (below_step (by repeat (first | (with_reducible first | exact HB.out | apply below_alloc | apply pw_below_drewN | apply below_drew1) | exact HB.out)) hb); clear HB; have HB := n0_; clear n0_; (try clear hb); (try clear hb2); (try clear hk); (try clear hi)))
                  go_ret
                  exact ⟨by first | rfl | (simp [errW_none, errW_some] <;> rfl) | (simp [*, errW_none, errW_some] <;> rfl), by repeat (first | (with_reducible first | exact HB.out | apply below_alloc | apply pw_below_drewN | apply below_drew1) | exact HB.out)⟩
                · rw [if_neg c11] at H
                  have c11b0 : (t128 == 0) = false := beq_eq_false_iff_ne.mpr c11
                  have c11b1 : (t128 != 0) = true := bne_iff_ne.mpr c11
                  obtain rfl := Option.some.inj H
                  go_wp2
                  go_ret
                  exact ⟨by first | rfl | (simp [errW_none, errW_some] <;> rfl) | (simp [*, errW_none, errW_some] <;> rfl), by repeat (first | (with_reducible first | exact HB.out | apply below_alloc | apply pw_below_drewN | apply below_drew1) | exact HB.out)⟩
              · rw [if_neg c10] at H
                have c10b0 : (t126 == 0) = false := beq_eq_false_iff_ne.mpr c10
                have c10b1 : (t126 != 0) = true := bne_iff_ne.mpr c10
                obtain rfl := Option.some.inj H
                go_wp2
                go_ret
                exact ⟨by first | rfl | (simp [errW_none, errW_some] <;> rfl) | (simp [*, errW_none, errW_some] <;> rfl), by repeat (first | (with_reducible first | exact HB.out | apply below_alloc | apply pw_below_drewN | apply below_drew1) | exact HB.out)⟩
            · rw [if_neg c9] at H
              have c9b0 : (t125 == 0) = false := beq_eq_false_iff_ne.mpr c9
              have c9b1 : (t125 != 0) = true := bne_iff_ne.mpr c9
              obtain rfl := Option.some.inj H
              go_wp2
              go_ret
              exact ⟨by first | rfl | (simp [errW_none, errW_some] <;> rfl) | (simp [*, errW_none, errW_some] <;> rfl), by repeat (first | (with_reducible first | exact HB.out | apply below_alloc | apply pw_below_drewN | apply below_drew1) | exact HB.out)⟩
          · rw [if_neg c8] at H
            have c8b0 : (t129 == 80) = false := beq_eq_false_iff_ne.mpr c8
            have c8b1 : (t129 != 80) = true := bne_iff_ne.mpr c8
            obtain rfl := Option.some.inj H
            go_wp2
            go_ret
            exact ⟨by first | rfl | (simp [errW_none, errW_some] <;> rfl) | (simp [*, errW_none, errW_some] <;> rfl), by repeat (first | (with_reducible first | exact HB.out | apply below_alloc | apply pw_below_drewN | apply below_drew1) | exact HB.out)⟩
        · rw [if_neg c7] at H
          have c7b0 : (t127 == 1) = false := beq_eq_false_iff_ne.mpr c7
          have c7b1 : (t127 != 1) = true := bne_iff_ne.mpr c7
          obtain rfl := Option.some.inj H
          go_wp2
          go_ret
          exact ⟨by first | rfl | (simp [errW_none, errW_some] <;> rfl) | (simp [*, errW_none, errW_some] <;> rfl), by repeat (first | (with_reducible first | exact HB.out | apply below_alloc | apply pw_below_drewN | apply below_drew1) | exact HB.out)⟩
      · replace c6 := Bool.eq_false_iff.mpr c6
        subst c6
        have H1 : (if a0 = 562949953421311 then (if t127 = 1 then (if t129 = 0 then (some (t128 == 281474976710656)) else (some false)) else (some false)) else ((tlog_Index.f t125 t126).bind fun bt131 => (if t127 = 0 then (if bt131.2 = 0 then (ledgerlaw08_TlogTurned.j1 kj3 t125 t126 t128 t129 (bt131.1 != a0)) else (ledgerlaw08_TlogTurned.j1 kj3 t125 t126 t128 t129 true)) else (ledgerlaw08_TlogTurned.j1 kj3 t125 t126 t128 t129 true)))) = some r := by rw [if_neg (show ¬ (false = true) by decide)] at H; exact H
        clear H
        have H := H1
        clear H1
        by_cases c14 : a0 = 562949953421311
        · rw [if_pos c14] at H
          have c14b0 : (a0 == 562949953421311) = true := beq_iff_eq.mpr c14
          have c14b1 : (a0 != 562949953421311) = false := bne_eq_false_iff_eq.mpr c14
          clear c14
          by_cases c15 : t127 = 1
          · rw [if_pos c15] at H
            have c15b0 : (t127 == 1) = true := beq_iff_eq.mpr c15
            have c15b1 : (t127 != 1) = false := bne_eq_false_iff_eq.mpr c15
            clear c15
            by_cases c16 : t129 = 0
            · rw [if_pos c16] at H
              have c16b0 : (t129 == 0) = true := beq_iff_eq.mpr c16
              have c16b1 : (t129 != 0) = false := bne_eq_false_iff_eq.mpr c16
              clear c16
              obtain rfl := Option.some.inj H
              go_wp2
              go_ret
              exact ⟨by first | rfl | (simp [errW_none, errW_some] <;> rfl) | (simp [*, errW_none, errW_some] <;> rfl), by repeat (first | (with_reducible first | exact HB.out | apply below_alloc | apply pw_below_drewN | apply below_drew1) | exact HB.out)⟩
            · rw [if_neg c16] at H
              have c16b0 : (t129 == 0) = false := beq_eq_false_iff_ne.mpr c16
              have c16b1 : (t129 != 0) = true := bne_iff_ne.mpr c16
              obtain rfl := Option.some.inj H
              go_wp2
              go_ret
              exact ⟨by first | rfl | (simp [errW_none, errW_some] <;> rfl) | (simp [*, errW_none, errW_some] <;> rfl), by repeat (first | (with_reducible first | exact HB.out | apply below_alloc | apply pw_below_drewN | apply below_drew1) | exact HB.out)⟩
          · rw [if_neg c15] at H
            have c15b0 : (t127 == 1) = false := beq_eq_false_iff_ne.mpr c15
            have c15b1 : (t127 != 1) = true := bne_iff_ne.mpr c15
            obtain rfl := Option.some.inj H
            go_wp2
            go_ret
            exact ⟨by first | rfl | (simp [errW_none, errW_some] <;> rfl) | (simp [*, errW_none, errW_some] <;> rfl), by repeat (first | (with_reducible first | exact HB.out | apply below_alloc | apply pw_below_drewN | apply below_drew1) | exact HB.out)⟩
        · rw [if_neg c14] at H
          have c14b0 : (a0 == 562949953421311) = false := beq_eq_false_iff_ne.mpr c14
          have c14b1 : (a0 != 562949953421311) = true := bne_iff_ne.mpr c14
          replace H := Option.bind_eq_some_iff.mp H
          obtain ⟨⟨t131, t132⟩, A170, H⟩ := H
          replace H : (if t127 = 0 then (if t132 = 0 then (ledgerlaw08_TlogTurned.j1 kj3 t125 t126 t128 t129 (t131 != a0)) else (ledgerlaw08_TlogTurned.j1 kj3 t125 t126 t128 t129 true)) else (ledgerlaw08_TlogTurned.j1 kj3 t125 t126 t128 t129 true)) = some r := H
          have A17 := Aside0.mk A170
          clear A170
          have HC18 := Aside0.mk H
          clear H
          go_upto_region 9 with (first | ((with_reducible refine gate_callee (f := 7) rfl ?_); refine goesL_ (some 66) rfl rfl Try.func7 (by kernel_rfl) rfl #[.int .i64 t125, .int .i64 t126] rfl (by (try simp only [List.map_toArray, List.map_cons, List.map_nil]); first | done | rfl | (simp only [List.length_drop, List.length_take]; rfl)) ?_; (with_reducible refine (tlog_Index.calls t125 t126 t131 t132 _ A17.out).mono ?_); rintro e w' ⟨rfl, ⟨nd, rfl⟩⟩; refine ⟨_, rfl, ?_⟩))
          (try simp only [Act.put, List.setIfInBounds_toArray, List.set_cons_zero, List.set_cons_succ])
          go_cut [79] (fun v79 wc => ∃ (kq : Nat) (x79_17 : Bool), v79 = .bool x79_17 ∧ Aside0 (ledgerlaw08_TlogTurned.j1 kq t125 t126 t128 t129 x79_17 = some r) ∧ Aside0 (kq ≤ kj3) ∧ Aside0 (Below w.heap.size w wc))
          case first =>
            have H := HC18.out
            clear HC18
            by_cases c19 : t127 = 0
            · rw [if_pos c19] at H
              have c19b0 : (t127 == 0) = true := beq_iff_eq.mpr c19
              have c19b1 : (t127 != 0) = false := bne_eq_false_iff_eq.mpr c19
              clear c19
              (first | rw [c19b0] | (simp only [i64_w, i32_w]; rw [c19b0]) | skip)
              by_cases c20 : t132 = 0
              · rw [if_pos c20] at H
                have c20b0 : (t132 == 0) = true := beq_iff_eq.mpr c20
                have c20b1 : (t132 != 0) = false := bne_eq_false_iff_eq.mpr c20
                clear c20
                have H' := Aside0.mk H
                clear H
                go_wp2
                go_meet
                case rel => exact ⟨_, ((t131 != a0)), (by first | rfl | (simp; done) | (simp [*]; done)), H', ⟨by have := HJ3.out; first | omega | exact Nat.le_refl _⟩, ⟨by repeat (first | (with_reducible first | exact HB.out | apply below_alloc | apply pw_below_drewN | apply below_drew1) | exact HB.out)⟩⟩
              · rw [if_neg c20] at H
                have c20b0 : (t132 == 0) = false := beq_eq_false_iff_ne.mpr c20
                have c20b1 : (t132 != 0) = true := bne_iff_ne.mpr c20
                have H' := Aside0.mk H
                clear H
                go_wp2
                go_meet
                case rel => exact ⟨_, (true), (by first | rfl | (simp; done) | (simp [*]; done)), H', ⟨by have := HJ3.out; first | omega | exact Nat.le_refl _⟩, ⟨by repeat (first | (with_reducible first | exact HB.out | apply below_alloc | apply pw_below_drewN | apply below_drew1) | exact HB.out)⟩⟩
            · rw [if_neg c19] at H
              have c19b0 : (t127 == 0) = false := beq_eq_false_iff_ne.mpr c19
              have c19b1 : (t127 != 0) = true := bne_iff_ne.mpr c19
              (first | rw [c19b0] | (simp only [i64_w, i32_w]; rw [c19b0]) | skip)
              have H' := Aside0.mk H
              clear H
              go_wp2
              go_meet
              case rel => exact ⟨_, (true), (by first | rfl | (simp; done) | (simp [*]; done)), H', ⟨by have := HJ3.out; first | omega | exact Nat.le_refl _⟩, ⟨by repeat (first | (with_reducible first | exact HB.out | apply below_alloc | apply pw_below_drewN | apply below_drew1) | exact HB.out)⟩⟩
          case rest =>
            clear HC18
            try clear c1
            try clear c2
            try clear p2
            try clear c5
            try clear c5b0
            try clear c6
            try clear c7
            try clear c7b0
            try clear c7b1
            try clear c8
            try clear c8b0
            try clear c8b1
            try clear c9
            try clear c9b0
            try clear c9b1
            try clear c10
            try clear c10b0
            try clear c10b1
            try clear c11
            try clear c11b0
            try clear c11b1
            try clear c14
            try clear c14b0
            try clear c14b1
            try clear c15
            try clear c15b0
            try clear c15b1
            try clear c16
            try clear c16b0
            try clear c16b1
            try clear c19
            try clear c19b0
            try clear c19b1
            try clear c20
            try clear c20b0
            try clear c20b1
            try clear p2
            obtain ⟨kq, x79_17, rfl, HA, HJ17, HB⟩ := hcut
            cases kq with
            | zero => exact absurd HA.out (by simp [ledgerlaw08_TlogTurned.j1])
            | succ kj17 =>
              have H := HA.out
              clear HA
              simp only [ledgerlaw08_TlogTurned.j1] at H
              by_cases c21 : x79_17 = true
              · subst c21
                have H1 : (some false) = some r := by rw [if_pos rfl] at H; exact H
                clear H
                have H := H1
                clear H1
                obtain rfl := Option.some.inj H
                go_wp2
                go_ret
                exact ⟨by first | rfl | (simp [errW_none, errW_some] <;> rfl) | (simp [*, errW_none, errW_some] <;> rfl), by repeat (first | (with_reducible first | exact HB.out | apply below_alloc | apply pw_below_drewN | apply below_drew1) | exact HB.out)⟩
              · replace c21 := Bool.eq_false_iff.mpr c21
                subst c21
                have H1 : (if t125 > 0 then (if t129 = 80 then (some (t128 == 0)) else (some false)) else (if t129 = 0 then (some (t128 == t126)) else (some false))) = some r := by rw [if_neg (show ¬ (false = true) by decide)] at H; exact H
                clear H
                have H := H1
                clear H1
                by_cases c22 : t125 > 0
                · rw [if_pos c22] at H
                  have c22b0 : decide (0 < t125) = true := decide_eq_true c22
                  clear c22
                  by_cases c23 : t129 = 80
                  · rw [if_pos c23] at H
                    have c23b0 : (t129 == 80) = true := beq_iff_eq.mpr c23
                    have c23b1 : (t129 != 80) = false := bne_eq_false_iff_eq.mpr c23
                    clear c23
                    obtain rfl := Option.some.inj H
                    go_wp2
                    go_ret
                    exact ⟨by first | rfl | (simp [errW_none, errW_some] <;> rfl) | (simp [*, errW_none, errW_some] <;> rfl), by repeat (first | (with_reducible first | exact HB.out | apply below_alloc | apply pw_below_drewN | apply below_drew1) | exact HB.out)⟩
                  · rw [if_neg c23] at H
                    have c23b0 : (t129 == 80) = false := beq_eq_false_iff_ne.mpr c23
                    have c23b1 : (t129 != 80) = true := bne_iff_ne.mpr c23
                    obtain rfl := Option.some.inj H
                    go_wp2
                    go_ret
                    exact ⟨by first | rfl | (simp [errW_none, errW_some] <;> rfl) | (simp [*, errW_none, errW_some] <;> rfl), by repeat (first | (with_reducible first | exact HB.out | apply below_alloc | apply pw_below_drewN | apply below_drew1) | exact HB.out)⟩
                · rw [if_neg c22] at H
                  have c22b0 : decide (0 < t125) = false := decide_eq_false c22
                  clear c22
                  by_cases c24 : t129 = 0
                  · rw [if_pos c24] at H
                    have c24b0 : (t129 == 0) = true := beq_iff_eq.mpr c24
                    have c24b1 : (t129 != 0) = false := bne_eq_false_iff_eq.mpr c24
                    clear c24
                    obtain rfl := Option.some.inj H
                    go_wp2
                    go_ret
                    exact ⟨by first | rfl | (simp [errW_none, errW_some] <;> rfl) | (simp [*, errW_none, errW_some] <;> rfl), by repeat (first | (with_reducible first | exact HB.out | apply below_alloc | apply pw_below_drewN | apply below_drew1) | exact HB.out)⟩
                  · rw [if_neg c24] at H
                    have c24b0 : (t129 == 0) = false := beq_eq_false_iff_ne.mpr c24
                    have c24b1 : (t129 != 0) = true := bne_iff_ne.mpr c24
                    obtain rfl := Option.some.inj H
                    go_wp2
                    go_ret
                    exact ⟨by first | rfl | (simp [errW_none, errW_some] <;> rfl) | (simp [*, errW_none, errW_some] <;> rfl), by repeat (first | (with_reducible first | exact HB.out | apply below_alloc | apply pw_below_drewN | apply below_drew1) | exact HB.out)⟩

/-- THE ONE PURE STATEMENT of ledgerlaw08_TlogTurned: yours. -/
def ledgerlaw08_TlogTurned.Pure : Prop := ∀ (a0 : Int), (Lit.int .i64 a0).wf = true → ∃ k, ledgerlaw08_TlogTurned.f k a0 = some true
theorem ledgerlaw08_TlogTurned.walk (P : ledgerlaw08_TlogTurned.Pure) (a0 : Int) (w : World) (w0 : (Lit.int .i64 a0).wf = true) :
    Calls Try.prog 5 #[.int .i64 a0] w fun e w' => e = .returned (.bool true) ∧ Below w.heap.size w w' := by
  obtain ⟨k, h⟩ := P a0 w0
  refine (ledgerlaw08_TlogTurned.calls k a0 true w h).mono ?_
  rintro e w' ⟨rfl, hd⟩
  exact ⟨rfl, hd⟩

end Go.Proofs.Ytjbhaopocabfaaa.PTlogTurned
