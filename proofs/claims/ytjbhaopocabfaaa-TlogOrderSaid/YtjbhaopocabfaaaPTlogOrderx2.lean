-- PRINTED BY print.sh 35421559b90ae4d0a3588c463048766b98c2df88dd9212a6774a882060cdf62d: not written by this session
import Derived.Test.YtjbhaopocabfaaaPTlogOrderx0
import Derived.Test.YtjbhaopocabfaaaPTlogOrderx1
namespace Go.Proofs.Ytjbhaopocabfaaa.PTlogOrder
open Go.RowKit Go.Proofs.YtjbhaopocabfaaaW.PrintWords Go.Proofs.YtjbhaopocabfaaaW.PrintLast Go.Proofs.YtjbhaopocabfaaaW.PrintMore
attribute [local go_sem] max2_int min2_int max_two min_two max_three min_three max_four min_four   -- for this text's walks alone
set_option linter.unusedVariables false
set_option linter.unusedSimpArgs false

/-! ### ledgerlaw08_TlogOrder: function 3 -/
mutual
def ledgerlaw08_TlogOrder.j0 : Nat → Int → Int → Bool → Option (Bool)
  | 0, _, _, _ => none
  | k + 1, x0, x1, x30 => if x30 = true then (some false) else ((tlog_Index.f x0 x1).bind fun bt111 => (if x0 ≥ 0 then (if x0 ≤ 48 then (if x1 ≥ 0 then (ledgerlaw08_TlogOrder.j1 k x0 x1 bt111.1 bt111.2 (decide (x1 < (281474976710656 / 2 ^ (mx 0 (mn x0 48)).toNat)))) else (ledgerlaw08_TlogOrder.j1 k x0 x1 bt111.1 bt111.2 false)) else (ledgerlaw08_TlogOrder.j1 k x0 x1 bt111.1 bt111.2 false)) else (ledgerlaw08_TlogOrder.j1 k x0 x1 bt111.1 bt111.2 false)))
def ledgerlaw08_TlogOrder.j1 : Nat → Int → Int → Int → Int → Bool → Option (Bool)
  | 0, _, _, _, _, _ => none
  | k + 1, x0, x1, x7, x8, x9 => if x9 = true then ((tlog_SplitIndex.f k x7).bind fun bt113 => (if x8 = 0 then (if bt113.2.2 = 0 then (if bt113.1 = x0 then (ledgerlaw08_TlogOrder.j2 k x0 x1 x7 (bt113.2.1 != x1)) else (ledgerlaw08_TlogOrder.j2 k x0 x1 x7 true)) else (ledgerlaw08_TlogOrder.j2 k x0 x1 x7 true)) else (ledgerlaw08_TlogOrder.j2 k x0 x1 x7 true))) else (if x8 = 1 then (some (x7 == 0)) else (some false))
def ledgerlaw08_TlogOrder.j2 : Nat → Int → Int → Int → Bool → Option (Bool)
  | 0, _, _, _, _ => none
  | k + 1, x0, x1, x7, x85 => if x85 = true then (some false) else (if x0 > 0 then ((tlog_Index.f (wrap64 (x0 - 1)) (wrap64 ((wrap64 (2 * x1)) + 1))).bind fun bt116 => (if bt116.2 = 0 then (some (x7 == (wrap64 (bt116.1 + 1)))) else (some false))) else ((tlog_Count.f x1).bind fun bt118 => ((tlog_Count.f (wrap64 (x1 + 1))).bind fun bt120 => (ledgerlaw08_TlogOrder.l0 k x7 bt118.1 bt118.2 bt120.1 bt120.2 1 (wrap64 (x1 + 1))))))
def ledgerlaw08_TlogOrder.l0 : Nat → Int → Int → Int → Int → Int → Int → Int → Option (Bool)
  | 0, _, _, _, _, _, _, _ => none
  | k + 1, x7, x15, x16, x17, x18, x19, x20 => if (Int.tmod x20 2) = 0 then (ledgerlaw08_TlogOrder.l0 k x7 x15 x16 x17 x18 (wrap64 (x19 + 1)) (wrap64 (Int.tdiv x20 2))) else (if x16 = 0 then (if x18 = 0 then (if x15 = x7 then (some (x17 == (wrap64 (x15 + x19)))) else (some false)) else (some false)) else (some false))
end
def ledgerlaw08_TlogOrder.f (k : Nat) (a0 : Int) (a1 : Int) : Option (Bool) := (tlog_Index.f 0 1).bind fun bt109 => (if bt109.1 = 1 then (ledgerlaw08_TlogOrder.j0 k a0 a1 (bt109.2 != 0)) else (ledgerlaw08_TlogOrder.j0 k a0 a1 true))
theorem ledgerlaw08_TlogOrder.mono_l : ∀ k, (∀ y0 y1 y2, LeO (ledgerlaw08_TlogOrder.j0 k y0 y1 y2) (ledgerlaw08_TlogOrder.j0 (k + 1) y0 y1 y2)) ∧ (∀ y0 y1 y2 y3 y4, LeO (ledgerlaw08_TlogOrder.j1 k y0 y1 y2 y3 y4) (ledgerlaw08_TlogOrder.j1 (k + 1) y0 y1 y2 y3 y4)) ∧ (∀ y0 y1 y2 y3, LeO (ledgerlaw08_TlogOrder.j2 k y0 y1 y2 y3) (ledgerlaw08_TlogOrder.j2 (k + 1) y0 y1 y2 y3)) ∧ (∀ y0 y1 y2 y3 y4 y5 y6, LeO (ledgerlaw08_TlogOrder.l0 k y0 y1 y2 y3 y4 y5 y6) (ledgerlaw08_TlogOrder.l0 (k + 1) y0 y1 y2 y3 y4 y5 y6))
  | 0 => ⟨fun _ _ _ r h => by simp [ledgerlaw08_TlogOrder.j0] at h, fun _ _ _ _ _ r h => by simp [ledgerlaw08_TlogOrder.j1] at h, fun _ _ _ _ r h => by simp [ledgerlaw08_TlogOrder.j2] at h, fun _ _ _ _ _ _ _ r h => by simp [ledgerlaw08_TlogOrder.l0] at h⟩
  | k + 1 => by
    obtain ⟨ih0, ih1, ih2, ih3⟩ := ledgerlaw08_TlogOrder.mono_l k
    refine ⟨?_, ?_, ?_, ?_⟩
    · intro y0 y1 y2
      unfold ledgerlaw08_TlogOrder.j0
      repeat' first
      | (with_reducible exact ih0 _ _ _)
      | (with_reducible exact ih1 _ _ _ _ _)
      | (with_reducible exact ih2 _ _ _ _)
      | (with_reducible exact ih3 _ _ _ _ _ _ _)
      | (with_reducible exact tlog_SplitIndex.mono _ _)
      | (with_reducible exact LeO.refl _)
      | (with_reducible exact LeO.none _)
      | (with_reducible refine LeO.ite ?_ ?_)
      | (with_reducible refine LeO.bind ?_ (fun _ => ?_))
      | exact ih0 _ _ _
      | exact ih1 _ _ _ _ _
      | exact ih2 _ _ _ _
      | exact ih3 _ _ _ _ _ _ _
      | exact tlog_SplitIndex.mono _ _
      | exact LeO.none _
      | refine LeO.ite ?_ ?_
      | refine LeO.bind ?_ (fun _ => ?_)
    · intro y0 y1 y2 y3 y4
      unfold ledgerlaw08_TlogOrder.j1
      repeat' first
      | (with_reducible exact ih0 _ _ _)
      | (with_reducible exact ih1 _ _ _ _ _)
      | (with_reducible exact ih2 _ _ _ _)
      | (with_reducible exact ih3 _ _ _ _ _ _ _)
      | (with_reducible exact tlog_SplitIndex.mono _ _)
      | (with_reducible exact LeO.refl _)
      | (with_reducible exact LeO.none _)
      | (with_reducible refine LeO.ite ?_ ?_)
      | (with_reducible refine LeO.bind ?_ (fun _ => ?_))
      | exact ih0 _ _ _
      | exact ih1 _ _ _ _ _
      | exact ih2 _ _ _ _
      | exact ih3 _ _ _ _ _ _ _
      | exact tlog_SplitIndex.mono _ _
      | exact LeO.none _
      | refine LeO.ite ?_ ?_
      | refine LeO.bind ?_ (fun _ => ?_)
    · intro y0 y1 y2 y3
      unfold ledgerlaw08_TlogOrder.j2
      repeat' first
      | (with_reducible exact ih0 _ _ _)
      | (with_reducible exact ih1 _ _ _ _ _)
      | (with_reducible exact ih2 _ _ _ _)
      | (with_reducible exact ih3 _ _ _ _ _ _ _)
      | (with_reducible exact tlog_SplitIndex.mono _ _)
      | (with_reducible exact LeO.refl _)
      | (with_reducible exact LeO.none _)
      | (with_reducible refine LeO.ite ?_ ?_)
      | (with_reducible refine LeO.bind ?_ (fun _ => ?_))
      | exact ih0 _ _ _
      | exact ih1 _ _ _ _ _
      | exact ih2 _ _ _ _
      | exact ih3 _ _ _ _ _ _ _
      | exact tlog_SplitIndex.mono _ _
      | exact LeO.none _
      | refine LeO.ite ?_ ?_
      | refine LeO.bind ?_ (fun _ => ?_)
    · intro y0 y1 y2 y3 y4 y5 y6
      unfold ledgerlaw08_TlogOrder.l0
      repeat' first
      | (with_reducible exact ih0 _ _ _)
      | (with_reducible exact ih1 _ _ _ _ _)
      | (with_reducible exact ih2 _ _ _ _)
      | (with_reducible exact ih3 _ _ _ _ _ _ _)
      | (with_reducible exact tlog_SplitIndex.mono _ _)
      | (with_reducible exact LeO.refl _)
      | (with_reducible exact LeO.none _)
      | (with_reducible refine LeO.ite ?_ ?_)
      | (with_reducible refine LeO.bind ?_ (fun _ => ?_))
      | exact ih0 _ _ _
      | exact ih1 _ _ _ _ _
      | exact ih2 _ _ _ _
      | exact ih3 _ _ _ _ _ _ _
      | exact tlog_SplitIndex.mono _ _
      | exact LeO.none _
      | refine LeO.ite ?_ ?_
      | refine LeO.bind ?_ (fun _ => ?_)
theorem ledgerlaw08_TlogOrder.mono : ∀ a0 a1 k, LeO (ledgerlaw08_TlogOrder.f k a0 a1) (ledgerlaw08_TlogOrder.f (k + 1) a0 a1) := by
  intro a0 a1 k
  obtain ⟨ih0, ih1, ih2, ih3⟩ := ledgerlaw08_TlogOrder.mono_l k
  unfold ledgerlaw08_TlogOrder.f
  repeat' first
      | (with_reducible exact ih0 _ _ _)
      | (with_reducible exact ih1 _ _ _ _ _)
      | (with_reducible exact ih2 _ _ _ _)
      | (with_reducible exact ih3 _ _ _ _ _ _ _)
      | (with_reducible exact tlog_SplitIndex.mono _ _)
      | (with_reducible exact LeO.refl _)
      | (with_reducible exact LeO.none _)
      | (with_reducible refine LeO.ite ?_ ?_)
      | (with_reducible refine LeO.bind ?_ (fun _ => ?_))
      | exact ih0 _ _ _
      | exact ih1 _ _ _ _ _
      | exact ih2 _ _ _ _
      | exact ih3 _ _ _ _ _ _ _
      | exact tlog_SplitIndex.mono _ _
      | exact LeO.none _
      | refine LeO.ite ?_ ?_
      | refine LeO.bind ?_ (fun _ => ?_)
set_option maxHeartbeats 8000000 in
set_option maxRecDepth 100000 in
theorem ledgerlaw08_TlogOrder.calls (k : Nat) (a0 : Int) (a1 : Int) (r : Bool) (w : World) (h : ledgerlaw08_TlogOrder.f k a0 a1 = some r) :
    Calls Try.prog 3 #[.int .i64 a0, .int .i64 a1] w fun e w' => e = .returned (.bool r) ∧ Below w.heap.size w w' := by
  have HB := Aside0.mk (Below.refl w.heap.size w)
  have H : ((tlog_Index.f 0 1).bind fun bt109 => (if bt109.1 = 1 then (ledgerlaw08_TlogOrder.j0 k a0 a1 (bt109.2 != 0)) else (ledgerlaw08_TlogOrder.j0 k a0 a1 true))) = some r := h
  clear h
  replace H := Option.bind_eq_some_iff.mp H
  obtain ⟨⟨t109, t110⟩, A30, H⟩ := H
  replace H : (if t109 = 1 then (ledgerlaw08_TlogOrder.j0 k a0 a1 (t110 != 0)) else (ledgerlaw08_TlogOrder.j0 k a0 a1 true)) = some r := H
  have A3 := Aside0.mk A30
  clear A30
  have HC4 := Aside0.mk H
  clear H
  go_enter Try.func3, Try.ntmps3
  go_upto_region 2 with (first | ((with_reducible refine gate_callee (f := 7) rfl ?_); refine goesL_ (some 22) rfl rfl Try.func7 (by kernel_rfl) rfl #[.int .i64 0, .int .i64 1] rfl (by (try simp only [List.map_toArray, List.map_cons, List.map_nil]); first | done | rfl | (simp only [List.length_drop, List.length_take]; rfl)) ?_; (with_reducible refine (tlog_Index.calls 0 1 t109 t110 _ A3.out).mono ?_); rintro e w' ⟨rfl, ⟨nd, rfl⟩⟩; refine ⟨_, rfl, ?_⟩))
  (try simp only [Act.put, List.setIfInBounds_toArray, List.set_cons_zero, List.set_cons_succ])
  go_cut [30] (fun v30 wc => ∃ (kq : Nat) (x30_3 : Bool), v30 = .bool x30_3 ∧ Aside0 (ledgerlaw08_TlogOrder.j0 kq a0 a1 x30_3 = some r) ∧ Aside0 (kq ≤ k) ∧ Aside0 (Below w.heap.size w wc))
  case first =>
    have H := HC4.out
    clear HC4
    by_cases c5 : t109 = 1
    · rw [if_pos c5] at H
      have c5b0 : (t109 == 1) = true := beq_iff_eq.mpr c5
      have c5b1 : (t109 != 1) = false := bne_eq_false_iff_eq.mpr c5
      clear c5
      (first | rw [c5b0] | (simp only [i64_w, i32_w]; rw [c5b0]) | skip)
      have H' := Aside0.mk H
      clear H
      go_wp2
      go_meet
      case rel => exact ⟨_, ((t110 != 0)), (by first | rfl | (simp; done) | (simp [*]; done)), H', ⟨by first | omega | exact Nat.le_refl _⟩, ⟨by repeat (first | (with_reducible first | exact HB.out | apply below_alloc | apply pw_below_drewN | apply below_drew1) | exact HB.out)⟩⟩
    · rw [if_neg c5] at H
      have c5b0 : (t109 == 1) = false := beq_eq_false_iff_ne.mpr c5
      have c5b1 : (t109 != 1) = true := bne_iff_ne.mpr c5
      (first | rw [c5b0] | (simp only [i64_w, i32_w]; rw [c5b0]) | skip)
      have H' := Aside0.mk H
      clear H
      go_wp2
      go_meet
      case rel => exact ⟨_, (true), (by first | rfl | (simp; done) | (simp [*]; done)), H', ⟨by first | omega | exact Nat.le_refl _⟩, ⟨by repeat (first | (with_reducible first | exact HB.out | apply below_alloc | apply pw_below_drewN | apply below_drew1) | exact HB.out)⟩⟩
  case rest =>
    clear HC4
    try clear p2
    try clear c3
    try clear c5
    try clear c5b0
    try clear c5b1
    obtain ⟨kq, x30_3, rfl, HA, HJ3, HB⟩ := hcut
    cases kq with
    | zero => exact absurd HA.out (by simp [ledgerlaw08_TlogOrder.j0])
    | succ kj3 =>
      have H := HA.out
      clear HA
      simp only [ledgerlaw08_TlogOrder.j0] at H
      by_cases c6 : x30_3 = true
      · subst c6
        have H1 : (some false) = some r := by rw [if_pos rfl] at H; exact H
        clear H
        have H := H1
        clear H1
        obtain rfl := Option.some.inj H
        go_wp2
        go_ret
        exact ⟨by first | rfl | (simp [errW_none, errW_some] <;> rfl) | (simp [*, errW_none, errW_some] <;> rfl), by repeat (first | (with_reducible first | exact HB.out | apply below_alloc | apply pw_below_drewN | apply below_drew1) | exact HB.out)⟩
      · replace c6 := Bool.eq_false_iff.mpr c6
        subst c6
        have H1 : ((tlog_Index.f a0 a1).bind fun bt111 => (if a0 ≥ 0 then (if a0 ≤ 48 then (if a1 ≥ 0 then (ledgerlaw08_TlogOrder.j1 kj3 a0 a1 bt111.1 bt111.2 (decide (a1 < (281474976710656 / 2 ^ (mx 0 (mn a0 48)).toNat)))) else (ledgerlaw08_TlogOrder.j1 kj3 a0 a1 bt111.1 bt111.2 false)) else (ledgerlaw08_TlogOrder.j1 kj3 a0 a1 bt111.1 bt111.2 false)) else (ledgerlaw08_TlogOrder.j1 kj3 a0 a1 bt111.1 bt111.2 false))) = some r := by rw [if_neg (show ¬ (false = true) by decide)] at H; exact H
        clear H
        have H := H1
        clear H1
        replace H := Option.bind_eq_some_iff.mp H
        obtain ⟨⟨t111, t112⟩, A70, H⟩ := H
        replace H : (if a0 ≥ 0 then (if a0 ≤ 48 then (if a1 ≥ 0 then (ledgerlaw08_TlogOrder.j1 kj3 a0 a1 t111 t112 (decide (a1 < (281474976710656 / 2 ^ (mx 0 (mn a0 48)).toNat)))) else (ledgerlaw08_TlogOrder.j1 kj3 a0 a1 t111 t112 false)) else (ledgerlaw08_TlogOrder.j1 kj3 a0 a1 t111 t112 false)) else (ledgerlaw08_TlogOrder.j1 kj3 a0 a1 t111 t112 false)) = some r := H
        have A7 := Aside0.mk A70
        clear A70
        have HC8 := Aside0.mk H
        clear H
        go_upto_region 5 with (first | ((with_reducible refine gate_callee (f := 7) rfl ?_); refine goesL_ (some 34) rfl rfl Try.func7 (by kernel_rfl) rfl #[.int .i64 a0, .int .i64 a1] rfl (by (try simp only [List.map_toArray, List.map_cons, List.map_nil]); first | done | rfl | (simp only [List.length_drop, List.length_take]; rfl)) ?_; (with_reducible refine (tlog_Index.calls a0 a1 t111 t112 _ A7.out).mono ?_); rintro e w' ⟨rfl, ⟨nd, rfl⟩⟩; refine ⟨_, rfl, ?_⟩))
        (try simp only [Act.put, List.setIfInBounds_toArray, List.set_cons_zero, List.set_cons_succ])
        go_cut [9] (fun v9 wc => ∃ (kq : Nat) (x9_7 : Bool), v9 = .bool x9_7 ∧ Aside0 (ledgerlaw08_TlogOrder.j1 kq a0 a1 t111 t112 x9_7 = some r) ∧ Aside0 (kq ≤ kj3) ∧ Aside0 (Below w.heap.size w wc))
        case first =>
          have H := HC8.out
          clear HC8
          by_cases c9 : a0 ≥ 0
          · rw [if_pos c9] at H
            have c9b0 : decide (0 ≤ a0) = true := decide_eq_true c9
            clear c9
            (first | rw [c9b0] | (simp only [i64_w, i32_w]; rw [c9b0]) | skip)
            by_cases c10 : a0 ≤ 48
            · rw [if_pos c10] at H
              have c10b0 : decide (a0 ≤ 48) = true := decide_eq_true c10
              clear c10
              by_cases c11 : a1 ≥ 0
              · rw [if_pos c11] at H
                have c11b0 : decide (0 ≤ a1) = true := decide_eq_true c11
                clear c11
                obtain ⟨ji12, hji12⟩ : ∃ j_ : Int, (mn a0 48) = j_ := ⟨_, rfl⟩
                replace H : (ledgerlaw08_TlogOrder.j1 kj3 a0 a1 t111 t112 (decide (a1 < (281474976710656 / 2 ^ (mx 0 (ji12)).toNat)))) = some r := by first | (rw [hji12] at H; exact H) | (simp only [hji12] at H ⊢; exact H)
                have hji12_ : (if 48 < a0 then 48 else a0) = ji12 := hji12
                obtain ⟨ji13, hji13⟩ : ∃ j_ : Int, (mx 0 (ji12)) = j_ := ⟨_, rfl⟩
                replace H : (ledgerlaw08_TlogOrder.j1 kj3 a0 a1 t111 t112 (decide (a1 < (281474976710656 / 2 ^ (ji13).toNat)))) = some r := by first | (rw [hji13] at H; exact H) | (simp only [hji13] at H ⊢; exact H)
                have hji13_ : (if 0 < (ji12) then (ji12) else 0) = ji13 := hji13
                have H' := Aside0.mk H
                clear H
                go_wp2
                go_meet
                case rel => exact ⟨_, (decide (a1 < (281474976710656 / 2 ^ (ji13).toNat))), (by first | rfl | (simp; done) | (simp only [← hji13] <;> (first | rfl | simp)) | (simp [*]; done)), H', ⟨by have := HJ3.out; first | omega | exact Nat.le_refl _⟩, ⟨by repeat (first | (with_reducible first | exact HB.out | apply below_alloc | apply pw_below_drewN | apply below_drew1) | exact HB.out)⟩⟩
              · rw [if_neg c11] at H
                have c11b0 : decide (0 ≤ a1) = false := decide_eq_false c11
                clear c11
                have H' := Aside0.mk H
                clear H
                go_wp2
                go_meet
                case rel => exact ⟨_, (false), (by first | rfl | (simp; done) | (simp [*]; done)), H', ⟨by have := HJ3.out; first | omega | exact Nat.le_refl _⟩, ⟨by repeat (first | (with_reducible first | exact HB.out | apply below_alloc | apply pw_below_drewN | apply below_drew1) | exact HB.out)⟩⟩
            · rw [if_neg c10] at H
              have c10b0 : decide (a0 ≤ 48) = false := decide_eq_false c10
              clear c10
              have H' := Aside0.mk H
              clear H
              go_wp2
              go_meet
              case rel => exact ⟨_, (false), (by first | rfl | (simp; done) | (simp [*]; done)), H', ⟨by have := HJ3.out; first | omega | exact Nat.le_refl _⟩, ⟨by repeat (first | (with_reducible first | exact HB.out | apply below_alloc | apply pw_below_drewN | apply below_drew1) | exact HB.out)⟩⟩
          · rw [if_neg c9] at H
            have c9b0 : decide (0 ≤ a0) = false := decide_eq_false c9
            clear c9
            (first | rw [c9b0] | (simp only [i64_w, i32_w]; rw [c9b0]) | skip)
            have H' := Aside0.mk H
            clear H
            go_wp2
            go_meet
            case rel => exact ⟨_, (false), (by first | rfl | (simp; done) | (simp [*]; done)), H', ⟨by have := HJ3.out; first | omega | exact Nat.le_refl _⟩, ⟨by repeat (first | (with_reducible first | exact HB.out | apply below_alloc | apply pw_below_drewN | apply below_drew1) | exact HB.out)⟩⟩
        case rest =>
          clear HC8
          try clear c1
          try clear p2
          try clear c3
          try clear c5
          try clear c5b0
          try clear c5b1
          try clear c6
          try clear c7
          try clear c9
          try clear c9b0
          try clear c10
          try clear c10b0
          try clear c11
          try clear c11b0
          try clear p2
          obtain ⟨kq, x9_7, rfl, HA, HJ7, HB⟩ := hcut
          cases kq with
          | zero => exact absurd HA.out (by simp [ledgerlaw08_TlogOrder.j1])
          | succ kj7 =>
            have H := HA.out
            clear HA
            simp only [ledgerlaw08_TlogOrder.j1] at H
            by_cases c14 : x9_7 = true
            · subst c14
              have H1 : ((tlog_SplitIndex.f kj7 t111).bind fun bt113 => (if t112 = 0 then (if bt113.2.2 = 0 then (if bt113.1 = a0 then (ledgerlaw08_TlogOrder.j2 kj7 a0 a1 t111 (bt113.2.1 != a1)) else (ledgerlaw08_TlogOrder.j2 kj7 a0 a1 t111 true)) else (ledgerlaw08_TlogOrder.j2 kj7 a0 a1 t111 true)) else (ledgerlaw08_TlogOrder.j2 kj7 a0 a1 t111 true))) = some r := by rw [if_pos rfl] at H; exact H
              clear H
              have H := H1
              clear H1
              replace H := Option.bind_eq_some_iff.mp H
              obtain ⟨⟨t113, t114, t115⟩, A150, H⟩ := H
              replace H : (if t112 = 0 then (if t115 = 0 then (if t113 = a0 then (ledgerlaw08_TlogOrder.j2 kj7 a0 a1 t111 (t114 != a1)) else (ledgerlaw08_TlogOrder.j2 kj7 a0 a1 t111 true)) else (ledgerlaw08_TlogOrder.j2 kj7 a0 a1 t111 true)) else (ledgerlaw08_TlogOrder.j2 kj7 a0 a1 t111 true)) = some r := H
              have A15 := Aside0.mk A150
              clear A150
              have HC16 := Aside0.mk H
              clear H
              go_upto_region 9 with (first | ((with_reducible refine gate_callee (f := 8) rfl ?_); refine goesL_ (some 66) rfl rfl Try.func8 (by kernel_rfl) rfl #[.int .i64 t111] rfl (by (try simp only [List.map_toArray, List.map_cons, List.map_nil]); first | done | rfl | (simp only [List.length_drop, List.length_take]; rfl)) ?_; (with_reducible refine (tlog_SplitIndex.calls kj7 t111 t113 t114 t115 _ A15.out).mono ?_); rintro e w' ⟨rfl, ⟨nd, rfl⟩⟩; refine ⟨_, rfl, ?_⟩))
              (try simp only [Act.put, List.setIfInBounds_toArray, List.set_cons_zero, List.set_cons_succ])
              go_cut [85] (fun v85 wc => ∃ (kq : Nat) (x85_15 : Bool), v85 = .bool x85_15 ∧ Aside0 (ledgerlaw08_TlogOrder.j2 kq a0 a1 t111 x85_15 = some r) ∧ Aside0 (kq ≤ kj7) ∧ Aside0 (Below w.heap.size w wc))
              case first =>
                have H := HC16.out
                clear HC16
                by_cases c17 : t112 = 0
                · rw [if_pos c17] at H
                  have c17b0 : (t112 == 0) = true := beq_iff_eq.mpr c17
                  have c17b1 : (t112 != 0) = false := bne_eq_false_iff_eq.mpr c17
                  clear c17
                  (first | rw [c17b0] | (simp only [i64_w, i32_w]; rw [c17b0]) | skip)
                  by_cases c18 : t115 = 0
                  · rw [if_pos c18] at H
                    have c18b0 : (t115 == 0) = true := beq_iff_eq.mpr c18
                    have c18b1 : (t115 != 0) = false := bne_eq_false_iff_eq.mpr c18
                    clear c18
                    by_cases c19 : t113 = a0
                    · rw [if_pos c19] at H
                      have c19b0 : (t113 == a0) = true := beq_iff_eq.mpr c19
                      have c19b1 : (t113 != a0) = false := bne_eq_false_iff_eq.mpr c19
                      clear c19
                      have H' := Aside0.mk H
                      clear H
                      go_wp2
                      go_meet
                      case rel => exact ⟨_, ((t114 != a1)), (by first | rfl | (simp; done) | (simp [*]; done)), H', ⟨by have := HJ3.out; have := HJ7.out; first | omega | exact Nat.le_refl _⟩, ⟨by repeat (first | (with_reducible first | exact HB.out | apply below_alloc | apply pw_below_drewN | apply below_drew1) | exact HB.out)⟩⟩
                    · rw [if_neg c19] at H
                      have c19b0 : (t113 == a0) = false := beq_eq_false_iff_ne.mpr c19
                      have c19b1 : (t113 != a0) = true := bne_iff_ne.mpr c19
                      have H' := Aside0.mk H
                      clear H
                      go_wp2
                      go_meet
                      case rel => exact ⟨_, (true), (by first | rfl | (simp; done) | (simp [*]; done)), H', ⟨by have := HJ3.out; have := HJ7.out; first | omega | exact Nat.le_refl _⟩, ⟨by repeat (first | (with_reducible first | exact HB.out | apply below_alloc | apply pw_below_drewN | apply below_drew1) | exact HB.out)⟩⟩
                  · rw [if_neg c18] at H
                    have c18b0 : (t115 == 0) = false := beq_eq_false_iff_ne.mpr c18
                    have c18b1 : (t115 != 0) = true := bne_iff_ne.mpr c18
                    have H' := Aside0.mk H
                    clear H
                    go_wp2
                    go_meet
                    case rel => exact ⟨_, (true), (by first | rfl | (simp; done) | (simp [*]; done)), H', ⟨by have := HJ3.out; have := HJ7.out; first | omega | exact Nat.le_refl _⟩, ⟨by repeat (first | (with_reducible first | exact HB.out | apply below_alloc | apply pw_below_drewN | apply below_drew1) | exact HB.out)⟩⟩
                · rw [if_neg c17] at H
                  have c17b0 : (t112 == 0) = false := beq_eq_false_iff_ne.mpr c17
                  have c17b1 : (t112 != 0) = true := bne_iff_ne.mpr c17
                  (first | rw [c17b0] | (simp only [i64_w, i32_w]; rw [c17b0]) | skip)
                  have H' := Aside0.mk H
                  clear H
                  go_wp2
                  go_meet
                  case rel => exact ⟨_, (true), (by first | rfl | (simp; done) | (simp [*]; done)), H', ⟨by have := HJ3.out; have := HJ7.out; first | omega | exact Nat.le_refl _⟩, ⟨by repeat (first | (with_reducible first | exact HB.out | apply below_alloc | apply pw_below_drewN | apply below_drew1) | exact HB.out)⟩⟩
              case rest =>
                clear HC16
                try clear c1
                try clear p2
                try clear c3
                try clear c5
                try clear c5b0
                try clear c5b1
                try clear c6
                try clear c7
                try clear c8
                try clear c9
                try clear c9b0
                try clear c10
                try clear c10b0
                try clear c11
                try clear c11b0
                try clear c14
                try clear c17
                try clear c17b0
                try clear c17b1
                try clear c18
                try clear c18b0
                try clear c18b1
                try clear c19
                try clear c19b0
                try clear c19b1
                try clear p2
                obtain ⟨kq, x85_15, rfl, HA, HJ15, HB⟩ := hcut
                cases kq with
                | zero => exact absurd HA.out (by simp [ledgerlaw08_TlogOrder.j2])
                | succ kj15 =>
                  have H := HA.out
                  clear HA
                  simp only [ledgerlaw08_TlogOrder.j2] at H
                  by_cases c20 : x85_15 = true
                  · subst c20
                    have H1 : (some false) = some r := by rw [if_pos rfl] at H; exact H
                    clear H
                    have H := H1
                    clear H1
                    obtain rfl := Option.some.inj H
                    go_wp2
                    go_ret
                    exact ⟨by first | rfl | (simp [errW_none, errW_some] <;> rfl) | (simp [*, errW_none, errW_some] <;> rfl), by repeat (first | (with_reducible first | exact HB.out | apply below_alloc | apply pw_below_drewN | apply below_drew1) | exact HB.out)⟩
                  · replace c20 := Bool.eq_false_iff.mpr c20
                    subst c20
                    have H1 : (if a0 > 0 then ((tlog_Index.f (wrap64 (a0 - 1)) (wrap64 ((wrap64 (2 * a1)) + 1))).bind fun bt116 => (if bt116.2 = 0 then (some (t111 == (wrap64 (bt116.1 + 1)))) else (some false))) else ((tlog_Count.f a1).bind fun bt118 => ((tlog_Count.f (wrap64 (a1 + 1))).bind fun bt120 => (ledgerlaw08_TlogOrder.l0 kj15 t111 bt118.1 bt118.2 bt120.1 bt120.2 1 (wrap64 (a1 + 1)))))) = some r := by rw [if_neg (show ¬ (false = true) by decide)] at H; exact H
                    clear H
                    have H := H1
                    clear H1
                    by_cases c21 : a0 > 0
                    · rw [if_pos c21] at H
                      have c21b0 : decide (0 < a0) = true := decide_eq_true c21
                      clear c21
                      replace H := Option.bind_eq_some_iff.mp H
                      obtain ⟨⟨t116, t117⟩, A220, H⟩ := H
                      replace H : (if t117 = 0 then (some (t111 == (wrap64 (t116 + 1)))) else (some false)) = some r := H
                      have A22 := Aside0.mk A220
                      clear A220
                      by_cases c23 : t117 = 0
                      · rw [if_pos c23] at H
                        have c23b0 : (t117 == 0) = true := beq_iff_eq.mpr c23
                        have c23b1 : (t117 != 0) = false := bne_eq_false_iff_eq.mpr c23
                        clear c23
                        obtain rfl := Option.some.inj H
                        go_wp2_with (first | ((with_reducible refine gate_callee (f := 7) rfl ?_); refine goesL_ (some 94) rfl rfl Try.func7 (by kernel_rfl) rfl #[.int .i64 (wrap64 (a0 - 1)), .int .i64 (wrap64 ((wrap64 (2 * a1)) + 1))] rfl (by (try simp only [List.map_toArray, List.map_cons, List.map_nil]); first | done | rfl | (simp only [List.length_drop, List.length_take]; rfl)) ?_; (with_reducible refine (tlog_Index.calls (wrap64 (a0 - 1)) (wrap64 ((wrap64 (2 * a1)) + 1)) t116 t117 _ A22.out).mono ?_); rintro e w' ⟨rfl, ⟨nd, rfl⟩⟩; refine ⟨_, rfl, ?_⟩))
                        go_ret
                        exact ⟨by first | rfl | (simp [errW_none, errW_some] <;> rfl) | (simp [*, errW_none, errW_some] <;> rfl), by repeat (first | (with_reducible first | exact HB.out | apply below_alloc | apply pw_below_drewN | apply below_drew1) | exact HB.out)⟩
                      · rw [if_neg c23] at H
                        have c23b0 : (t117 == 0) = false := beq_eq_false_iff_ne.mpr c23
                        have c23b1 : (t117 != 0) = true := bne_iff_ne.mpr c23
                        obtain rfl := Option.some.inj H
                        go_wp2_with (first | ((with_reducible refine gate_callee (f := 7) rfl ?_); refine goesL_ (some 94) rfl rfl Try.func7 (by kernel_rfl) rfl #[.int .i64 (wrap64 (a0 - 1)), .int .i64 (wrap64 ((wrap64 (2 * a1)) + 1))] rfl (by (try simp only [List.map_toArray, List.map_cons, List.map_nil]); first | done | rfl | (simp only [List.length_drop, List.length_take]; rfl)) ?_; (with_reducible refine (tlog_Index.calls (wrap64 (a0 - 1)) (wrap64 ((wrap64 (2 * a1)) + 1)) t116 t117 _ A22.out).mono ?_); rintro e w' ⟨rfl, ⟨nd, rfl⟩⟩; refine ⟨_, rfl, ?_⟩))
                        go_ret
                        exact ⟨by first | rfl | (simp [errW_none, errW_some] <;> rfl) | (simp [*, errW_none, errW_some] <;> rfl), by repeat (first | (with_reducible first | exact HB.out | apply below_alloc | apply pw_below_drewN | apply below_drew1) | exact HB.out)⟩
                    · rw [if_neg c21] at H
                      have c21b0 : decide (0 < a0) = false := decide_eq_false c21
                      clear c21
                      replace H := Option.bind_eq_some_iff.mp H
                      obtain ⟨⟨t118, t119⟩, A240, H⟩ := H
                      replace H : ((tlog_Count.f (wrap64 (a1 + 1))).bind fun bt120 => (ledgerlaw08_TlogOrder.l0 kj15 t111 t118 t119 bt120.1 bt120.2 1 (wrap64 (a1 + 1)))) = some r := H
                      have A24 := Aside0.mk A240
                      clear A240
                      replace H := Option.bind_eq_some_iff.mp H
                      obtain ⟨⟨t120, t121⟩, A250, H⟩ := H
                      replace H : (ledgerlaw08_TlogOrder.l0 kj15 t111 t118 t119 t120 t121 1 (wrap64 (a1 + 1))) = some r := H
                      have A25 := Aside0.mk A250
                      clear A250
                      have H' := Aside0.mk H
                      clear H
                      go_wp2_with (first | ((with_reducible refine gate_callee (f := 9) rfl ?_); refine goesL_ (some 107) rfl rfl Try.func9 (by kernel_rfl) rfl #[.int .i64 a1] rfl (by (try simp only [List.map_toArray, List.map_cons, List.map_nil]); first | done | rfl | (simp only [List.length_drop, List.length_take]; rfl)) ?_; (with_reducible refine (tlog_Count.calls a1 t118 t119 _ A24.out).mono ?_); rintro e w' ⟨rfl, ⟨nd, rfl⟩⟩; refine ⟨_, rfl, ?_⟩) | ((with_reducible refine gate_callee (f := 9) rfl ?_); refine goesL_ (some 113) rfl rfl Try.func9 (by kernel_rfl) rfl #[.int .i64 (wrap64 (a1 + 1))] rfl (by (try simp only [List.map_toArray, List.map_cons, List.map_nil]); first | done | rfl | (simp only [List.length_drop, List.length_take]; rfl)) ?_; (with_reducible refine (tlog_Count.calls (wrap64 (a1 + 1)) t120 t121 _ A25.out).mono ?_); rintro e w' ⟨rfl, ⟨nd, rfl⟩⟩; refine ⟨_, rfl, ?_⟩))
                      go_loopg [19, 20] kj15 (fun kq v19 v20 w' => ∃ (x19_4 : Int) (x20_4 : Int), v19 = .int .i64 x19_4 ∧ v20 = .int .i64 x20_4 ∧ Aside0 (ledgerlaw08_TlogOrder.l0 kq t111 t118 t119 t120 t121 x19_4 x20_4 = some r) ∧ Aside0 (kq ≤ kj15) ∧ Aside0 (Below w.heap.size w w'))
                      case atStart => exact ⟨(1), (wrap64 (a1 + 1)), (by first | rfl | (simp; done) | (simp [*]; done)), (by first | rfl | (simp; done) | (simp [*]; done)), H', ⟨Nat.le_refl _⟩, ⟨by repeat (first | (with_reducible first | exact HB.out | apply below_alloc | apply pw_below_drewN | apply below_drew1) | exact HB.out)⟩⟩
                      case round =>
                        clear H'
                        try clear c1
                        try clear c2
                        try clear p2
                        try clear c3
                        try clear c5
                        try clear c5b0
                        try clear c5b1
                        try clear c6
                        try clear p6
                        try clear c7
                        try clear c8
                        try clear c9
                        try clear c9b0
                        try clear c10
                        try clear c10b0
                        try clear c11
                        try clear c11b0
                        try clear c14
                        try clear c17
                        try clear c17b0
                        try clear c17b1
                        try clear c18
                        try clear c18b0
                        try clear c18b1
                        try clear c19
                        try clear c19b0
                        try clear c19b1
                        try clear c20
                        try clear c21
                        try clear c21b0
                        try clear c23
                        try clear c23b0
                        try clear c23b1
                        try clear p2
                        obtain ⟨x19_4, x20_4, rfl, rfl, HA, HK4, HB⟩ := hrel
                        cases gk with
                        | zero => exact absurd HA.out (by simp [ledgerlaw08_TlogOrder.l0])
                        | succ k4 =>
                          have H := HA.out
                          clear HA
                          simp only [ledgerlaw08_TlogOrder.l0] at H
                          by_cases c26 : (Int.tmod x20_4 2) = 0
                          · rw [if_pos c26] at H
                            have c26b0 : ((Int.tmod x20_4 2) == 0) = true := beq_iff_eq.mpr c26
                            have c26b1 : ((Int.tmod x20_4 2) != 0) = false := bne_eq_false_iff_eq.mpr c26
                            clear c26
                            have H' := Aside0.mk H
                            clear H
                            go_wp2
                            go_roundg k4
                            case measure => have := HJ3.out; have := HJ7.out; have := HJ15.out; have := HK4.out; omega
                            case rel => exact ⟨(wrap64 (x19_4 + 1)), (wrap64 (Int.tdiv x20_4 2)), (by first | rfl | (simp; done) | (simp [*]; done)), (by first | rfl | (simp; done) | (simp [*]; done)), H', ⟨by have := HJ3.out; have := HJ7.out; have := HJ15.out; have := HK4.out; omega⟩, ⟨by repeat (first | (with_reducible first | exact HB.out | apply below_alloc | apply pw_below_drewN | apply below_drew1) | exact HB.out)⟩⟩
                          · rw [if_neg c26] at H
                            have c26b0 : ((Int.tmod x20_4 2) == 0) = false := beq_eq_false_iff_ne.mpr c26
                            have c26b1 : ((Int.tmod x20_4 2) != 0) = true := bne_iff_ne.mpr c26
                            by_cases c27 : t119 = 0
                            · rw [if_pos c27] at H
                              have c27b0 : (t119 == 0) = true := beq_iff_eq.mpr c27
                              have c27b1 : (t119 != 0) = false := bne_eq_false_iff_eq.mpr c27
                              clear c27
                              by_cases c28 : t121 = 0
                              · rw [if_pos c28] at H
                                have c28b0 : (t121 == 0) = true := beq_iff_eq.mpr c28
                                have c28b1 : (t121 != 0) = false := bne_eq_false_iff_eq.mpr c28
                                clear c28
                                by_cases c29 : t118 = t111
                                · rw [if_pos c29] at H
                                  have c29b0 : (t118 == t111) = true := beq_iff_eq.mpr c29
                                  have c29b1 : (t118 != t111) = false := bne_eq_false_iff_eq.mpr c29
                                  clear c29
                                  obtain rfl := Option.some.inj H
                                  go_wp2
                                  go_ret
                                  exact ⟨by first | rfl | (simp [errW_none, errW_some] <;> rfl) | (simp [*, errW_none, errW_some] <;> rfl), by repeat (first | (with_reducible first | exact HB.out | apply below_alloc | apply pw_below_drewN | apply below_drew1) | exact HB.out)⟩
                                · rw [if_neg c29] at H
                                  have c29b0 : (t118 == t111) = false := beq_eq_false_iff_ne.mpr c29
                                  have c29b1 : (t118 != t111) = true := bne_iff_ne.mpr c29
                                  obtain rfl := Option.some.inj H
                                  go_wp2
                                  go_ret
                                  exact ⟨by first | rfl | (simp [errW_none, errW_some] <;> rfl) | (simp [*, errW_none, errW_some] <;> rfl), by repeat (first | (with_reducible first | exact HB.out | apply below_alloc | apply pw_below_drewN | apply below_drew1) | exact HB.out)⟩
                              · rw [if_neg c28] at H
                                have c28b0 : (t121 == 0) = false := beq_eq_false_iff_ne.mpr c28
                                have c28b1 : (t121 != 0) = true := bne_iff_ne.mpr c28
                                obtain rfl := Option.some.inj H
                                go_wp2
                                go_ret
                                exact ⟨by first | rfl | (simp [errW_none, errW_some] <;> rfl) | (simp [*, errW_none, errW_some] <;> rfl), by repeat (first | (with_reducible first | exact HB.out | apply below_alloc | apply pw_below_drewN | apply below_drew1) | exact HB.out)⟩
                            · rw [if_neg c27] at H
                              have c27b0 : (t119 == 0) = false := beq_eq_false_iff_ne.mpr c27
                              have c27b1 : (t119 != 0) = true := bne_iff_ne.mpr c27
                              obtain rfl := Option.some.inj H
                              go_wp2
                              go_ret
                              exact ⟨by first | rfl | (simp [errW_none, errW_some] <;> rfl) | (simp [*, errW_none, errW_some] <;> rfl), by repeat (first | (with_reducible first | exact HB.out | apply below_alloc | apply pw_below_drewN | apply below_drew1) | exact HB.out)⟩
            · replace c14 := Bool.eq_false_iff.mpr c14
              subst c14
              have H1 : (if t112 = 1 then (some (t111 == 0)) else (some false)) = some r := by rw [if_neg (show ¬ (false = true) by decide)] at H; exact H
              clear H
              have H := H1
              clear H1
              by_cases c30 : t112 = 1
              · rw [if_pos c30] at H
                have c30b0 : (t112 == 1) = true := beq_iff_eq.mpr c30
                have c30b1 : (t112 != 1) = false := bne_eq_false_iff_eq.mpr c30
                clear c30
                obtain rfl := Option.some.inj H
                go_wp2
                go_ret
                exact ⟨by first | rfl | (simp [errW_none, errW_some] <;> rfl) | (simp [*, errW_none, errW_some] <;> rfl), by repeat (first | (with_reducible first | exact HB.out | apply below_alloc | apply pw_below_drewN | apply below_drew1) | exact HB.out)⟩
              · rw [if_neg c30] at H
                have c30b0 : (t112 == 1) = false := beq_eq_false_iff_ne.mpr c30
                have c30b1 : (t112 != 1) = true := bne_iff_ne.mpr c30
                obtain rfl := Option.some.inj H
                go_wp2
                go_ret
                exact ⟨by first | rfl | (simp [errW_none, errW_some] <;> rfl) | (simp [*, errW_none, errW_some] <;> rfl), by repeat (first | (with_reducible first | exact HB.out | apply below_alloc | apply pw_below_drewN | apply below_drew1) | exact HB.out)⟩

/-- THE ONE PURE STATEMENT of ledgerlaw08_TlogOrder: yours. -/
def ledgerlaw08_TlogOrder.Pure : Prop := ∀ (a0 : Int) (a1 : Int), (Lit.int .i64 a0).wf = true → (Lit.int .i64 a1).wf = true → ∃ k, ledgerlaw08_TlogOrder.f k a0 a1 = some true
theorem ledgerlaw08_TlogOrder.walk (P : ledgerlaw08_TlogOrder.Pure) (a0 : Int) (a1 : Int) (w : World) (w0 : (Lit.int .i64 a0).wf = true) (w1 : (Lit.int .i64 a1).wf = true) :
    Calls Try.prog 3 #[.int .i64 a0, .int .i64 a1] w fun e w' => e = .returned (.bool true) ∧ Below w.heap.size w w' := by
  obtain ⟨k, h⟩ := P a0 a1 w0 w1
  refine (ledgerlaw08_TlogOrder.calls k a0 a1 true w h).mono ?_
  rintro e w' ⟨rfl, hd⟩
  exact ⟨rfl, hd⟩

end Go.Proofs.Ytjbhaopocabfaaa.PTlogOrder
