/-
  padded: the Go function is the Lean function of its name. (Out of the print for this claim.) padded lays the message with the padding of the rule; a sum is the chain behind the padded message.
-/
import Derived.Test.YtjcfnflkiialbaaDoorPShaConstantsx1
import Derived.Test.YtjcfnflkiialbaaDoorObsDo
namespace Go.Proofs.YtjcfnflkiialbaaDoor.PShaConstants
open Go.RowKit Go.Proofs.YtjcfnflkiialbaaDoorW.PrintWords Go.Proofs.YtjcfnflkiialbaaDoorW.PrintLast Go.Proofs.YtjcfnflkiialbaaDoorW.PrintMore
attribute [local go_sem] max2_int min2_int max_two min_two max_three min_three max_four min_four
set_option linter.unusedVariables false
set_option linter.unusedSimpArgs false
mutual
def ledgerlaw01_padded.l0 : Nat → Int → List Int → List Int → Int → Option (List Int)
  | 0, _, _, _, _ => none
  | k + 1, x0, x1, x5, x6 => if x6 = 0 then (none) else (if (Int.tmod (wrap64 ((x5.length : Int) + (wrap64 (Int.tdiv x6 8)))) x6) = 0 then (if x0 = 512 then ((some (([0, 0, 0, 0, 0, 0, 0, 0] : List Int) : List Int)).bind fun y135 => (if x5.length + y135.length < 140737488355328 then (ledgerlaw01_padded.j1 k x1 (x5 ++ y135)) else (none))) else (ledgerlaw01_padded.j1 k x1 x5)) else (if x5.length < 140737488355328 then (ledgerlaw01_padded.l0 k x0 x1 (x5 ++ [0]) x6) else (none)))
def ledgerlaw01_padded.j1 : Nat → List Int → List Int → Option (List Int)
  | 0, _, _ => none
  | k + 1, x1, x5 => ledgerlaw01_padded.l1 k x5 (IntKind.u64.wrap ((IntKind.u64.wrap ((x1.length : Int))) * 8)) 56
def ledgerlaw01_padded.l1 : Nat → List Int → Int → Int → Option (List Int)
  | 0, _, _, _ => none
  | k + 1, x5, x7, x8 => if x8 ≥ 0 then (if 0 ≤ (IntKind.u64.wrap (x8)) then (if x5.length < 140737488355328 then (ledgerlaw01_padded.l1 k (x5 ++ [(shr .u64 x7 (IntKind.u64.wrap (x8))) % 256]) x7 (wrap64 (x8 - 8))) else (none)) else (none)) else (some x5)
end
def ledgerlaw01_padded.f (k : Nat) (a0 : Int) (l1 : List Int) : Option (List Int) := if ([] : List Int).length + l1.length < 140737488355328 then ((some (([] : List Int) ++ l1 : List Int)).bind fun y126 => (if y126.length < 140737488355328 then (ledgerlaw01_padded.l0 k a0 l1 (y126 ++ [128]) (wrap64 (Int.tdiv a0 4))) else (none))) else (none)
theorem ledgerlaw01_padded.mono_l : ∀ k, (∀ y0 y1 y2 y3, LeO (ledgerlaw01_padded.l0 k y0 y1 y2 y3) (ledgerlaw01_padded.l0 (k + 1) y0 y1 y2 y3)) ∧ (∀ y0 y1, LeO (ledgerlaw01_padded.j1 k y0 y1) (ledgerlaw01_padded.j1 (k + 1) y0 y1)) ∧ (∀ y0 y1 y2, LeO (ledgerlaw01_padded.l1 k y0 y1 y2) (ledgerlaw01_padded.l1 (k + 1) y0 y1 y2))
  | 0 => ⟨fun _ _ _ _ r h => by simp [ledgerlaw01_padded.l0] at h, fun _ _ r h => by simp [ledgerlaw01_padded.j1] at h, fun _ _ _ r h => by simp [ledgerlaw01_padded.l1] at h⟩
  | k + 1 => by
    obtain ⟨ih0, ih1, ih2⟩ := ledgerlaw01_padded.mono_l k
    refine ⟨?_, ?_, ?_⟩
    · intro y0 y1 y2 y3
      unfold ledgerlaw01_padded.l0
      repeat' first
      | (with_reducible exact ih0 _ _ _ _)
      | (with_reducible exact ih1 _ _)
      | (with_reducible exact ih2 _ _ _)
      | (with_reducible exact LeO.refl _)
      | (with_reducible exact LeO.none _)
      | (with_reducible refine LeO.ite ?_ ?_)
      | (with_reducible refine LeO.bind ?_ (fun _ => ?_))
      | exact ih0 _ _ _ _
      | exact ih1 _ _
      | exact ih2 _ _ _
      | exact LeO.none _
      | refine LeO.ite ?_ ?_
      | refine LeO.bind ?_ (fun _ => ?_)
    · intro y0 y1
      unfold ledgerlaw01_padded.j1
      repeat' first
      | (with_reducible exact ih0 _ _ _ _)
      | (with_reducible exact ih1 _ _)
      | (with_reducible exact ih2 _ _ _)
      | (with_reducible exact LeO.refl _)
      | (with_reducible exact LeO.none _)
      | (with_reducible refine LeO.ite ?_ ?_)
      | (with_reducible refine LeO.bind ?_ (fun _ => ?_))
      | exact ih0 _ _ _ _
      | exact ih1 _ _
      | exact ih2 _ _ _
      | exact LeO.none _
      | refine LeO.ite ?_ ?_
      | refine LeO.bind ?_ (fun _ => ?_)
    · intro y0 y1 y2
      unfold ledgerlaw01_padded.l1
      repeat' first
      | (with_reducible exact ih0 _ _ _ _)
      | (with_reducible exact ih1 _ _)
      | (with_reducible exact ih2 _ _ _)
      | (with_reducible exact LeO.refl _)
      | (with_reducible exact LeO.none _)
      | (with_reducible refine LeO.ite ?_ ?_)
      | (with_reducible refine LeO.bind ?_ (fun _ => ?_))
      | exact ih0 _ _ _ _
      | exact ih1 _ _
      | exact ih2 _ _ _
      | exact LeO.none _
      | refine LeO.ite ?_ ?_
      | refine LeO.bind ?_ (fun _ => ?_)
theorem ledgerlaw01_padded.mono : ∀ a0 a1 k, LeO (ledgerlaw01_padded.f k a0 a1) (ledgerlaw01_padded.f (k + 1) a0 a1) := by
  intro a0 a1 k
  obtain ⟨ih0, ih1, ih2⟩ := ledgerlaw01_padded.mono_l k
  unfold ledgerlaw01_padded.f
  repeat' first
      | (with_reducible exact ih0 _ _ _ _)
      | (with_reducible exact ih1 _ _)
      | (with_reducible exact ih2 _ _ _)
      | (with_reducible exact LeO.refl _)
      | (with_reducible exact LeO.none _)
      | (with_reducible refine LeO.ite ?_ ?_)
      | (with_reducible refine LeO.bind ?_ (fun _ => ?_))
      | exact ih0 _ _ _ _
      | exact ih1 _ _
      | exact ih2 _ _ _
      | exact LeO.none _
      | refine LeO.ite ?_ ?_
      | refine LeO.bind ?_ (fun _ => ?_)
set_option maxHeartbeats 8000000 in
set_option maxRecDepth 100000 in
theorem ledgerlaw01_padded.calls (k : Nat) (a0 : Int) (A1 : Option Addr) (c1 : Nat) (l1 : List Int) (r : List Int) (w : World) (hr1 : Kd.C (Kd.int .u8) w A1 l1.length l1) (hc1 : l1.length ≤ c1) (h : ledgerlaw01_padded.f k a0 l1 = some r) :
    Calls Tryd.prog 38 #[.int .i64 a0, .slice A1 l1.length c1] w fun e w' => ∃ v0_ : Value, e = .returned (v0_) ∧ Kd.R (Kd.int .u8) 5 w' w.heap.size (fun _ => True) v0_ r ∧ Below w.heap.size w w' := by
  have HR1 := Aside0.mk hr1
  have HC1 := Aside0.mk hc1
  clear hr1 hc1
  have HB := Aside0.mk (Below.refl w.heap.size w)
  have H : (if ([] : List Int).length + l1.length < 140737488355328 then ((some (([] : List Int) ++ l1 : List Int)).bind fun y126 => (if y126.length < 140737488355328 then (ledgerlaw01_padded.l0 k a0 l1 (y126 ++ [128]) (wrap64 (Int.tdiv a0 4))) else (none))) else (none)) = some r := h
  clear h
  by_cases c3 : ([] : List Int).length + l1.length < 140737488355328
  · rw [if_pos c3] at H
    have LMc3 := Aside0.mk c3
    clear c3
    obtain ⟨y126, hy126⟩ : ∃ y_ : List Int, y_ = (([] : List Int) ++ l1) := ⟨_, rfl⟩
    replace H : (if y126.length < 140737488355328 then (ledgerlaw01_padded.l0 k a0 l1 (y126 ++ [128]) (wrap64 (Int.tdiv a0 4))) else (none)) = some r := by first | (rw [hy126]; with_reducible exact H) | (have H2_ := (Option.bind_some _ _).symm.trans H; rw [hy126]; with_reducible exact H2_) | (have H2_ := (Option.bind_some _ _).symm.trans H; with_reducible exact H2_) | with_reducible exact H | (rw [hy126]; exact H) | exact H
    have Ny126 := Aside0.mk hy126
    clear hy126
    by_cases c4 : y126.length < 140737488355328
    · rw [if_pos c4] at H
      have LMc4 := Aside0.mk c4
      clear c4
      obtain ⟨y129, hy129⟩ : ∃ y_ : List Int, y_ = (y126 ++ [128]) := ⟨_, rfl⟩
      replace H : (ledgerlaw01_padded.l0 k a0 l1 y129 (wrap64 (Int.tdiv a0 4))) = some r := by first | (rw [hy129]; with_reducible exact H) | (have H2_ := (Option.bind_some _ _).symm.trans H; rw [hy129]; with_reducible exact H2_) | (have H2_ := (Option.bind_some _ _).symm.trans H; with_reducible exact H2_) | with_reducible exact H | (rw [hy129]; exact H) | exact H
      have Ny129 := Aside0.mk hy129
      clear hy129
      have H' := Aside0.mk H
      clear H
      go_enter Tryd.func38, Tryd.ntmps38
      go_wp2_with (first | ((with_reducible refine gate_builtin (b := .append) (xs := #[.tmp 9, .tmp 10]) rfl ?_); at_builtin; refine Kd.R_append_rows (Kd.int .u8) (w0 := w) w.heap.size rfl (.tmp 9) (.tmp 10) 23 5 (.int .u8 0) 1 rfl Tryd.underlying23 info5 rfl (by decide) (by omega) (.slice none 0 0) ([] : List Int) l1 _ _ _ (fun _ => True) (fun _ => False) rfl rfl ?aO ?aR (fun _ _ h => h) (fun _ h => h.elim) ?aF ?aB ?aS ?aL ?_; (case aR => repeat (first | exact HR1.out | (with_reducible refine Kd.C_alloc ?_ _) | (with_reducible refine Kd.C_drewN ?_ _) | (with_reducible refine Kd.C_drew ?_))); (case aB => exact (by repeat (first | (with_reducible first | exact HB.out | apply below_alloc | apply pw_below_drewN | apply below_drew1) | exact HB.out))); (case aF => exact (fun _ _ => trivial)); (case aO => exact ((Kd.R_nil _ _ _ _ (fun _ => True)))); (case aS => exact (below_size (by repeat (first | (with_reducible first | exact HB.out | apply below_alloc | apply pw_below_drewN | apply below_drew1) | exact HB.out)))); (case aL => have := LMc3.out; omega); intro v127 w5 ho hb hg hat; rw [← Ny126.out] at ho; have n0_ := Aside0.mk (hb); have n1_ := Aside0.mk (ho); clear HB; have HB := n0_; have HO128 := n1_; clear n0_ n1_; clear ho hb hg hat) | ((with_reducible refine gate_builtin (b := .append) (xs := #[.tmp 12, .tmp 13]) rfl ?_); at_builtin; refine Kd.R_append (Kd.int .u8) (w0 := w) w.heap.size rfl (.tmp 12) (.tmp 13) 23 5 (.int .u8 0) 1 rfl Tryd.underlying23 info5 rfl (by decide) (by omega) v127 y126 128 [.int .u8 128] (fun _ => True) (fun _ => False) rfl rfl ?aP (fun _ hk => hk.elim) ?aF ?aO ?aB ?aS ?aL ?_; (case aP => exact rfl); (case aB => exact (by repeat (first | (with_reducible first | exact HB.out | apply below_alloc | apply pw_below_drewN | apply below_drew1) | exact HB.out))); (case aF => exact (fun _ _ => trivial)); (case aO => exact (by (with_reducible repeat (first | apply Kd.R_alloc | apply Kd.R_drewN | apply Kd.R_drew)); exact HO128.out)); (case aS => exact (below_size (by repeat (first | (with_reducible first | exact HB.out | apply below_alloc | apply pw_below_drewN | apply below_drew1) | exact HB.out)))); (case aL => have := LMc4.out; omega); intro v130 w6 ho hb hg hat; rw [← Ny129.out] at ho; have n0_ := Aside0.mk (hb); have n1_ := Aside0.mk (ho); clear HB; clear HO128; have HB := n0_; have HO131 := n1_; clear n0_ n1_; clear ho hb hg hat))
      go_loopg [5] k (fun kq v5 w' => ∃ (x5_1 : List Int), Aside0 (ledgerlaw01_padded.l0 kq a0 l1 x5_1 (wrap64 (Int.tdiv a0 4)) = some r) ∧ Aside0 (kq ≤ k) ∧ Aside0 (Kd.R (Kd.int .u8) 5 w' w.heap.size (fun _ => True) v5 x5_1) ∧ Aside0 (Below w.heap.size w w'))
      case atStart => exact ⟨(y129), H', ⟨Nat.le_refl _⟩, ⟨by (with_reducible repeat (first | apply Kd.R_alloc | apply Kd.R_drewN | apply Kd.R_drew)); exact HO131.out⟩, ⟨by repeat (first | (with_reducible first | exact HB.out | apply below_alloc | apply pw_below_drewN | apply below_drew1) | exact HB.out)⟩⟩
      case round =>
        clear H'
        try clear c1
        try clear p2
        try clear c3
        try clear c4
        try clear p6
        obtain ⟨x5_1, HA, HK1, HO_5, HB⟩ := hrel
        cases gk with
        | zero => exact absurd HA.out (by simp [ledgerlaw01_padded.l0])
        | succ k1 =>
          have H := HA.out
          clear HA
          simp only [ledgerlaw01_padded.l0] at H
          by_cases c7 : (wrap64 (Int.tdiv a0 4)) = 0
          · rw [if_pos c7] at H
            exact absurd H (by simp)
          · rw [if_neg c7] at H
            have c7b0 : ((wrap64 (Int.tdiv a0 4)) == 0) = false := beq_eq_false_iff_ne.mpr c7
            have c7b1 : ((wrap64 (Int.tdiv a0 4)) != 0) = true := bne_iff_ne.mpr c7
            by_cases c8 : (Int.tmod (wrap64 ((x5_1.length : Int) + (wrap64 (Int.tdiv (wrap64 (Int.tdiv a0 4)) 8)))) (wrap64 (Int.tdiv a0 4))) = 0
            · rw [if_pos c8] at H
              have c8b0 : ((Int.tmod (wrap64 ((x5_1.length : Int) + (wrap64 (Int.tdiv (wrap64 (Int.tdiv a0 4)) 8)))) (wrap64 (Int.tdiv a0 4))) == 0) = true := beq_iff_eq.mpr c8
              have c8b1 : ((Int.tmod (wrap64 ((x5_1.length : Int) + (wrap64 (Int.tdiv (wrap64 (Int.tdiv a0 4)) 8)))) (wrap64 (Int.tdiv a0 4))) != 0) = false := bne_eq_false_iff_eq.mpr c8
              clear c8
              have HC9 := Aside0.mk H
              clear H
              obtain ⟨Ao10, co10, eo10⟩ := Kd.R_slice HO_5.out
              subst eo10
              go_upto_if 29 with (fail)
              go_cut [5] (fun v5 wc => ∃ (kq : Nat) (x5_8 : List Int), Aside0 (ledgerlaw01_padded.j1 kq l1 x5_8 = some r) ∧ Aside0 (kq ≤ k1) ∧ Aside0 (Kd.R (Kd.int .u8) 5 wc w.heap.size (fun _ => True) v5 x5_8) ∧ Aside0 (Below w.heap.size w wc))
              case first =>
                have H := HC9.out
                clear HC9
                by_cases c11 : a0 = 512
                · rw [if_pos c11] at H
                  have c11b0 : (a0 == 512) = true := beq_iff_eq.mpr c11
                  have c11b1 : (a0 != 512) = false := bne_eq_false_iff_eq.mpr c11
                  clear c11
                  (first | rw [c11b0] | (simp only [i64_w, i32_w]; rw [c11b0]) | skip)
                  obtain ⟨y135, hy135⟩ : ∃ y_ : List Int, y_ = (([0, 0, 0, 0, 0, 0, 0, 0] : List Int)) := ⟨_, rfl⟩
                  replace H : (if x5_1.length + y135.length < 140737488355328 then (ledgerlaw01_padded.j1 k1 l1 (x5_1 ++ y135)) else (none)) = some r := by first | (rw [hy135]; with_reducible exact H) | (have H2_ := (Option.bind_some _ _).symm.trans H; rw [hy135]; with_reducible exact H2_) | (have H2_ := (Option.bind_some _ _).symm.trans H; with_reducible exact H2_) | with_reducible exact H | (rw [hy135]; exact H) | exact H
                  have Ny135 := Aside0.mk hy135
                  clear hy135
                  by_cases c12 : x5_1.length + y135.length < 140737488355328
                  · rw [if_pos c12] at H
                    have LMc12 := Aside0.mk c12
                    clear c12
                    obtain ⟨y138, hy138⟩ : ∃ y_ : List Int, y_ = (x5_1 ++ y135) := ⟨_, rfl⟩
                    replace H : (ledgerlaw01_padded.j1 k1 l1 y138) = some r := by first | (rw [hy138]; with_reducible exact H) | (have H2_ := (Option.bind_some _ _).symm.trans H; rw [hy138]; with_reducible exact H2_) | (have H2_ := (Option.bind_some _ _).symm.trans H; with_reducible exact H2_) | with_reducible exact H | (rw [hy138]; exact H) | exact H
                    have Ny138 := Aside0.mk hy138
                    clear hy138
                    have H' := Aside0.mk H
                    clear H
                    go_wp2_with (first | ((with_reducible refine gate_dst (N := 31) rfl ?_); refine Kd.R_lit (Kd.int .u8) _ 5 ?hg (N := 31) ?hd (xs := ([0, 0, 0, 0, 0, 0, 0, 0] : List Int)) (inner := [.int .u8 0, .int .u8 0, .int .u8 0, .int .u8 0, .int .u8 0, .int .u8 0, .int .u8 0, .int .u8 0]) (ok := fun _ => True) (okp := fun _ => True) ?hr ?hp (fun _ hk => hk) trivial (Below.refl _ _) (Nat.le_refl _) (by simp) ?_; (case hd => rfl); (case hg => rfl); (case hr => first | (go_simp; done) | (go_simp; rfl)); (case hp => exact (Reps.one (show Kd.M (Kd.int .u8) _ _ _ 0 [.int .u8 0] from rfl) (Reps.one (show Kd.M (Kd.int .u8) _ _ _ 0 [.int .u8 0] from rfl) (Reps.one (show Kd.M (Kd.int .u8) _ _ _ 0 [.int .u8 0] from rfl) (Reps.one (show Kd.M (Kd.int .u8) _ _ _ 0 [.int .u8 0] from rfl) (Reps.one (show Kd.M (Kd.int .u8) _ _ _ 0 [.int .u8 0] from rfl) (Reps.one (show Kd.M (Kd.int .u8) _ _ _ 0 [.int .u8 0] from rfl) (Reps.one (show Kd.M (Kd.int .u8) _ _ _ 0 [.int .u8 0] from rfl) (Reps.one (show Kd.M (Kd.int .u8) _ _ _ 0 [.int .u8 0] from rfl) (Reps.none _ _)))))))))); intro v136 w13 ho14 hb hg_ hnew_; clear hg_ hnew_; (first | rw [← Ny135.out] at ho14 | (simp only [Int.reduceToNat] at ho14; rw [← Ny135.out] at ho14)); have n0_ := Aside0.mk (Kd.R_elder' (by (with_reducible repeat (first | apply Kd.R_alloc | apply Kd.R_drewN | apply Kd.R_drew)); exact HO_5.out) (Kd.R_base ho14) hb); have n1_ := Aside0.mk (Kd.R_lower (Kd.R_new' ho14 (Kd.R_lt (by (with_reducible repeat (first | apply Kd.R_alloc | apply Kd.R_drewN | apply Kd.R_drew)); exact HO_5.out))) (below_size (by repeat (first | (with_reducible first | exact HB.out | apply below_alloc | apply pw_below_drewN | apply below_drew1) | exact HB.out)))); have n2_ := Aside0.mk (below_step (by repeat (first | (with_reducible first | exact HB.out | apply below_alloc | apply pw_below_drewN | apply below_drew1) | exact HB.out)) hb); clear HO_5; clear HB; have HO_5 := n0_; have HO137 := n1_; have HB := n2_; clear n0_ n1_ n2_; clear hb ho14; obtain ⟨Ao16, co16, eo16⟩ := Kd.R_slice HO137.out; subst eo16) | ((with_reducible refine gate_builtin (b := .append) (xs := #[.tmp 30, .tmp 31]) rfl ?_); at_builtin; refine Kd.R_append_rows (Kd.int .u8) (w0 := w) w.heap.size rfl (.tmp 30) (.tmp 31) 23 5 (.int .u8 0) 1 rfl Tryd.underlying23 info5 rfl (by decide) (by omega) (.slice Ao10 x5_1.length co10) x5_1 y135 _ _ _ (fun k_ => some k_ ≠ (.slice Ao16 y135.length co16 : Value).ownBlock) (fun _ => False) rfl rfl ?aO ?aR (fun _ _ h => h) (fun _ h => h.elim) ?aF ?aB ?aS ?aL ?_; (case aR => repeat (first | exact (Kd.R_reads' HO137.out).2.2 | (with_reducible refine Kd.C_alloc ?_ _) | (with_reducible refine Kd.C_drewN ?_ _) | (with_reducible refine Kd.C_drew ?_))); (case aB => exact (by repeat (first | (with_reducible first | exact HB.out | apply below_alloc | apply pw_below_drewN | apply below_drew1) | exact HB.out))); (case aF => exact (fun k_ hk => Kd.fresh' (Kd.R_lt (by (with_reducible repeat (first | apply Kd.R_alloc | apply Kd.R_drewN | apply Kd.R_drew)); exact HO137.out)) k_ hk)); (case aO => exact (by (with_reducible repeat (first | apply Kd.R_alloc | apply Kd.R_drewN | apply Kd.R_drew)); exact Kd.R_mono HO_5.out (fun _ hk => hk.2))); (case aS => exact (below_size (by repeat (first | (with_reducible first | exact HB.out | apply below_alloc | apply pw_below_drewN | apply below_drew1) | exact HB.out)))); (case aL => have := LMc12.out; omega); intro v139 w15 ho hb hg hat; rw [← Ny138.out] at ho; have n0_ := Aside0.mk (Kd.R_after (ok := (fun _ => True)) (by (with_reducible repeat (first | apply Kd.R_alloc | apply Kd.R_drewN | apply Kd.R_drew)); exact HO137.out) hg hat); have n1_ := Aside0.mk (hb); have n2_ := Aside0.mk (ho); clear HO137; clear HB; clear HO_5; have HO137 := n0_; have HB := n1_; have HO140 := n2_; clear n0_ n1_ n2_; clear ho hb hg hat))
                    go_meet
                    case rel => exact ⟨_, (y138), H', ⟨by have := HK1.out; first | omega | exact Nat.le_refl _⟩, ⟨by (with_reducible repeat (first | apply Kd.R_alloc | apply Kd.R_drewN | apply Kd.R_drew)); exact Kd.R_mono HO140.out (fun _ hk => trivial)⟩, ⟨by repeat (first | (with_reducible first | exact HB.out | apply below_alloc | apply pw_below_drewN | apply below_drew1) | exact HB.out)⟩⟩
                  · rw [if_neg c12] at H
                    exact absurd H (by simp)
                · rw [if_neg c11] at H
                  have c11b0 : (a0 == 512) = false := beq_eq_false_iff_ne.mpr c11
                  have c11b1 : (a0 != 512) = true := bne_iff_ne.mpr c11
                  (first | rw [c11b0] | (simp only [i64_w, i32_w]; rw [c11b0]) | skip)
                  have H' := Aside0.mk H
                  clear H
                  go_wp2
                  go_meet
                  case rel => exact ⟨_, (x5_1), H', ⟨by have := HK1.out; first | omega | exact Nat.le_refl _⟩, ⟨by (with_reducible repeat (first | apply Kd.R_alloc | apply Kd.R_drewN | apply Kd.R_drew)); exact HO_5.out⟩, ⟨by repeat (first | (with_reducible first | exact HB.out | apply below_alloc | apply pw_below_drewN | apply below_drew1) | exact HB.out)⟩⟩
              case rest =>
                clear HC9
                try clear c1
                try clear p2
                try clear c3
                try clear c4
                try clear p6
                try clear c7
                try clear c7b0
                try clear c7b1
                try clear c8
                try clear c8b0
                try clear c8b1
                try clear c11
                try clear c11b0
                try clear c11b1
                try clear c12
                try clear p2
                try clear p6
                obtain ⟨kq, x5_8, HA, HJ8, HO_5, HB⟩ := hcut
                cases kq with
                | zero => exact absurd HA.out (by simp [ledgerlaw01_padded.j1])
                | succ kj8 =>
                  have H := HA.out
                  clear HA
                  simp only [ledgerlaw01_padded.j1] at H
                  have H' := Aside0.mk H
                  clear H
                  go_wp2
                  go_loopg [5, 8] kj8 (fun kq v5 v8 w' => ∃ (x5_3 : List Int) (x8_3 : Int), v8 = .int .i64 x8_3 ∧ Aside0 (ledgerlaw01_padded.l1 kq x5_3 (IntKind.u64.wrap ((IntKind.u64.wrap ((l1.length : Int))) * 8)) x8_3 = some r) ∧ Aside0 (kq ≤ kj8) ∧ Aside0 (Kd.R (Kd.int .u8) 5 w' w.heap.size (fun _ => True) v5 x5_3) ∧ Aside0 (Below w.heap.size w w'))
                  case atStart => exact ⟨(x5_8), (56), (by first | rfl | (simp; done) | (simp [*]; done)), H', ⟨Nat.le_refl _⟩, ⟨by (with_reducible repeat (first | apply Kd.R_alloc | apply Kd.R_drewN | apply Kd.R_drew)); exact HO_5.out⟩, ⟨by repeat (first | (with_reducible first | exact HB.out | apply below_alloc | apply pw_below_drewN | apply below_drew1) | exact HB.out)⟩⟩
                  case round =>
                    clear H'
                    try clear c1
                    try clear p2
                    try clear c3
                    try clear c4
                    try clear p6
                    try clear c7
                    try clear c7b0
                    try clear c7b1
                    try clear c8
                    try clear c8b0
                    try clear c8b1
                    try clear c11
                    try clear c11b0
                    try clear c11b1
                    try clear c12
                    try clear p2
                    try clear p6
                    obtain ⟨x5_3, x8_3, rfl, HA, HK3, HO_5, HB⟩ := hrel
                    cases gk with
                    | zero => exact absurd HA.out (by simp [ledgerlaw01_padded.l1])
                    | succ k3 =>
                      have H := HA.out
                      clear HA
                      simp only [ledgerlaw01_padded.l1] at H
                      by_cases c17 : x8_3 ≥ 0
                      · rw [if_pos c17] at H
                        have c17b0 : decide (0 ≤ x8_3) = true := decide_eq_true c17
                        clear c17
                        obtain ⟨ji18, hji18⟩ : ∃ j_ : Int, (IntKind.u64.wrap (x8_3)) = j_ := ⟨_, rfl⟩
                        replace H : (if 0 ≤ (ji18) then (if x5_3.length < 140737488355328 then (ledgerlaw01_padded.l1 k3 (x5_3 ++ [(shr .u64 (IntKind.u64.wrap ((IntKind.u64.wrap ((l1.length : Int))) * 8)) (ji18)) % 256]) (IntKind.u64.wrap ((IntKind.u64.wrap ((l1.length : Int))) * 8)) (wrap64 (x8_3 - 8))) else (none)) else (none)) = some r := by first | (rw [hji18] at H; exact H) | (simp only [hji18] at H ⊢; exact H)
                        by_cases c19 : 0 ≤ (ji18)
                        · rw [if_pos c19] at H
                          have c19b0 := eq_true c19
                          have c19b1 : decide (0 ≤ (ji18)) = true := decide_eq_true c19
                          clear c19
                          obtain ⟨ji20, hji20⟩ : ∃ j_ : Int, (shr .u64 (IntKind.u64.wrap ((IntKind.u64.wrap ((l1.length : Int))) * 8)) (ji18)) = j_ := ⟨_, rfl⟩
                          replace H : (if x5_3.length < 140737488355328 then (ledgerlaw01_padded.l1 k3 (x5_3 ++ [(ji20) % 256]) (IntKind.u64.wrap ((IntKind.u64.wrap ((l1.length : Int))) * 8)) (wrap64 (x8_3 - 8))) else (none)) = some r := by first | (rw [hji20] at H; exact H) | (simp only [hji20] at H ⊢; exact H)
                          have hji20_ : ((IntKind.u64.wrap ((IntKind.u64.wrap ((l1.length : Int))) * 8)) / 2 ^ min (ji18).toNat 64) = ji20 := hji20
                          have hji20z : (ji18) ≤ 64 → ((IntKind.u64.wrap ((IntKind.u64.wrap ((l1.length : Int))) * 8)) / 2 ^ (ji18).toNat) = ji20 := shr_small hji20
                          by_cases c21 : x5_3.length < 140737488355328
                          · rw [if_pos c21] at H
                            have LMc21 := Aside0.mk c21
                            clear c21
                            obtain ⟨y141, hy141⟩ : ∃ y_ : List Int, y_ = (x5_3 ++ [(ji20) % 256]) := ⟨_, rfl⟩
                            replace H : (ledgerlaw01_padded.l1 k3 y141 (IntKind.u64.wrap ((IntKind.u64.wrap ((l1.length : Int))) * 8)) (wrap64 (x8_3 - 8))) = some r := by first | (rw [hy141]; with_reducible exact H) | (have H2_ := (Option.bind_some _ _).symm.trans H; rw [hy141]; with_reducible exact H2_) | (have H2_ := (Option.bind_some _ _).symm.trans H; with_reducible exact H2_) | with_reducible exact H | (rw [hy141]; exact H) | exact H
                            have Ny141 := Aside0.mk hy141
                            clear hy141
                            have H' := Aside0.mk H
                            clear H
                            go_wp2_with (first | ((with_reducible refine gate_builtin (b := .append) (xs := #[.tmp 41, .tmp 47]) rfl ?_); at_builtin; refine Kd.R_append (Kd.int .u8) (w0 := w) w.heap.size rfl (.tmp 41) (.tmp 47) 23 5 (.int .u8 0) 1 rfl Tryd.underlying23 info5 rfl (by decide) (by omega) u5 x5_3 ((ji20) % 256) [.int .u8 ((ji20) % 256)] (fun _ => True) (fun _ => False) rfl rfl ?aP (fun _ hk => hk.elim) ?aF ?aO ?aB ?aS ?aL ?_; (case aP => exact rfl); (case aB => exact (by repeat (first | (with_reducible first | exact HB.out | apply below_alloc | apply pw_below_drewN | apply below_drew1) | exact HB.out))); (case aF => exact (fun _ _ => trivial)); (case aO => exact (by (with_reducible repeat (first | apply Kd.R_alloc | apply Kd.R_drewN | apply Kd.R_drew)); exact HO_5.out)); (case aS => exact (below_size (by repeat (first | (with_reducible first | exact HB.out | apply below_alloc | apply pw_below_drewN | apply below_drew1) | exact HB.out)))); (case aL => have := LMc21.out; omega); intro v142 w22 ho hb hg hat; rw [← Ny141.out] at ho; have n0_ := Aside0.mk (hb); have n1_ := Aside0.mk (ho); clear HB; clear HO_5; have HB := n0_; have HO143 := n1_; clear n0_ n1_; clear ho hb hg hat))
                            go_roundg k3
                            case measure => have := HK1.out; have := HJ8.out; have := HK3.out; omega
                            case rel => exact ⟨(y141), (wrap64 (x8_3 - 8)), (by first | rfl | (simp; done) | (simp [*]; done)), H', ⟨by have := HK1.out; have := HJ8.out; have := HK3.out; omega⟩, ⟨by (with_reducible repeat (first | apply Kd.R_alloc | apply Kd.R_drewN | apply Kd.R_drew)); exact HO143.out⟩, ⟨by repeat (first | (with_reducible first | exact HB.out | apply below_alloc | apply pw_below_drewN | apply below_drew1) | exact HB.out)⟩⟩
                          · rw [if_neg c21] at H
                            exact absurd H (by simp)
                        · rw [if_neg c19] at H
                          exact absurd H (by simp)
                      · rw [if_neg c17] at H
                        have c17b0 : decide (0 ≤ x8_3) = false := decide_eq_false c17
                        clear c17
                        obtain rfl := Option.some.inj H
                        go_wp2
                        go_ret
                        exact ⟨_, by first | rfl | (simp [errW_none, errW_some] <;> rfl) | (simp [*, errW_none, errW_some] <;> rfl), by (with_reducible repeat (first | apply Kd.R_alloc | apply Kd.R_drewN | apply Kd.R_drew)); exact HO_5.out, by repeat (first | (with_reducible first | exact HB.out | apply below_alloc | apply pw_below_drewN | apply below_drew1) | exact HB.out)⟩
            · rw [if_neg c8] at H
              have c8b0 : ((Int.tmod (wrap64 ((x5_1.length : Int) + (wrap64 (Int.tdiv (wrap64 (Int.tdiv a0 4)) 8)))) (wrap64 (Int.tdiv a0 4))) == 0) = false := beq_eq_false_iff_ne.mpr c8
              have c8b1 : ((Int.tmod (wrap64 ((x5_1.length : Int) + (wrap64 (Int.tdiv (wrap64 (Int.tdiv a0 4)) 8)))) (wrap64 (Int.tdiv a0 4))) != 0) = true := bne_iff_ne.mpr c8
              by_cases c23 : x5_1.length < 140737488355328
              · rw [if_pos c23] at H
                have LMc23 := Aside0.mk c23
                clear c23
                obtain ⟨y132, hy132⟩ : ∃ y_ : List Int, y_ = (x5_1 ++ [0]) := ⟨_, rfl⟩
                replace H : (ledgerlaw01_padded.l0 k1 a0 l1 y132 (wrap64 (Int.tdiv a0 4))) = some r := by first | (rw [hy132]; with_reducible exact H) | (have H2_ := (Option.bind_some _ _).symm.trans H; rw [hy132]; with_reducible exact H2_) | (have H2_ := (Option.bind_some _ _).symm.trans H; with_reducible exact H2_) | with_reducible exact H | (rw [hy132]; exact H) | exact H
                have Ny132 := Aside0.mk hy132
                clear hy132
                have H' := Aside0.mk H
                clear H
                obtain ⟨Ao24, co24, eo24⟩ := Kd.R_slice HO_5.out
                subst eo24
                go_wp2_with (first | ((with_reducible refine gate_builtin (b := .append) (xs := #[.tmp 25, .tmp 26]) rfl ?_); at_builtin; refine Kd.R_append (Kd.int .u8) (w0 := w) w.heap.size rfl (.tmp 25) (.tmp 26) 23 5 (.int .u8 0) 1 rfl Tryd.underlying23 info5 rfl (by decide) (by omega) (.slice Ao24 x5_1.length co24) x5_1 0 [.int .u8 0] (fun _ => True) (fun _ => False) rfl rfl ?aP (fun _ hk => hk.elim) ?aF ?aO ?aB ?aS ?aL ?_; (case aP => exact rfl); (case aB => exact (by repeat (first | (with_reducible first | exact HB.out | apply below_alloc | apply pw_below_drewN | apply below_drew1) | exact HB.out))); (case aF => exact (fun _ _ => trivial)); (case aO => exact (by (with_reducible repeat (first | apply Kd.R_alloc | apply Kd.R_drewN | apply Kd.R_drew)); exact HO_5.out)); (case aS => exact (below_size (by repeat (first | (with_reducible first | exact HB.out | apply below_alloc | apply pw_below_drewN | apply below_drew1) | exact HB.out)))); (case aL => have := LMc23.out; omega); intro v133 w25 ho hb hg hat; rw [← Ny132.out] at ho; have n0_ := Aside0.mk (hb); have n1_ := Aside0.mk (ho); clear HB; clear HO_5; have HB := n0_; have HO134 := n1_; clear n0_ n1_; clear ho hb hg hat))
                go_roundg k1
                case measure => have := HK1.out; omega
                case rel => exact ⟨(y132), H', ⟨by have := HK1.out; omega⟩, ⟨by (with_reducible repeat (first | apply Kd.R_alloc | apply Kd.R_drewN | apply Kd.R_drew)); exact HO134.out⟩, ⟨by repeat (first | (with_reducible first | exact HB.out | apply below_alloc | apply pw_below_drewN | apply below_drew1) | exact HB.out)⟩⟩
              · rw [if_neg c23] at H
                exact absurd H (by simp)
    · rw [if_neg c4] at H
      exact absurd H (by simp)
  · rw [if_neg c3] at H
    exact absurd H (by simp)

end Go.Proofs.YtjcfnflkiialbaaDoor.PShaConstants
namespace Go.Proofs.YtjcfnflkiialbaaDoor.Sha
open Go.RowKit Go.Proofs.YtjcfnflkiialbaaDoor.Mem Go.Proofs.YtjcfnflkiialbaaDoor.PShaConstants Go.Proofs.YtjcfnflkiialbaaDoorW.PrintWords Go.Proofs.YtjcfnflkiialbaaDoorW.PrintLast Go.Proofs.YtjcfnflkiialbaaDoorW.PrintMore
theorem pad_l1_step (k : Nat) (out : List Int) (X : Int) (j : Nat) (hj : j ≤ 56) (h : out.length < 140737488355328) :
    ledgerlaw01_padded.l1 (k + 1) out X (j : Int) = ledgerlaw01_padded.l1 k (out ++ [shr .u64 X (j : Int) % 256]) X ((j : Int) - 8) := by
  have e1 : IntKind.u64.wrap (j : Int) = (j : Int) := by rw [wrap64u]; omega
  have e2 : wrap64 ((j : Int) - 8) = (j : Int) - 8 := by unfold wrap64; omega
  rw [ledgerlaw01_padded.l1, if_pos (by omega), e1, if_pos (by omega), if_pos h, e2]
theorem pad_l1_all (x : BitVec 64) (out : List Int) (c : Nat) (h : out.length + 8 < 140737488355328) :
    ledgerlaw01_padded.l1 (c + 8 + 1) out (x.toNat : Int) 56 = some (out ++ layWord x 8) := by
  have e : layWord x 8 = [shr .u64 (x.toNat : Int) 56 % 256, shr .u64 (x.toNat : Int) 48 % 256, shr .u64 (x.toNat : Int) 40 % 256, shr .u64 (x.toNat : Int) 32 % 256, shr .u64 (x.toNat : Int) 24 % 256, shr .u64 (x.toNat : Int) 16 % 256, shr .u64 (x.toNat : Int) 8 % 256, shr .u64 (x.toNat : Int) 0 % 256] := by
    simp [layWord, List.range_succ, List.range_zero, shr, IntKind.bits, BitVec.toNat_ushiftRight, Nat.shiftRight_eq_div_pow]
  rw [e]
  refine (pad_l1_step _ _ _ 56 (by omega) (by (try simp only [List.length_append, List.length_cons, List.length_nil]); omega)).trans ?_
  refine (pad_l1_step _ _ _ 48 (by omega) (by (try simp only [List.length_append, List.length_cons, List.length_nil]); omega)).trans ?_
  refine (pad_l1_step _ _ _ 40 (by omega) (by (try simp only [List.length_append, List.length_cons, List.length_nil]); omega)).trans ?_
  refine (pad_l1_step _ _ _ 32 (by omega) (by (try simp only [List.length_append, List.length_cons, List.length_nil]); omega)).trans ?_
  refine (pad_l1_step _ _ _ 24 (by omega) (by (try simp only [List.length_append, List.length_cons, List.length_nil]); omega)).trans ?_
  refine (pad_l1_step _ _ _ 16 (by omega) (by (try simp only [List.length_append, List.length_cons, List.length_nil]); omega)).trans ?_
  refine (pad_l1_step _ _ _ 8 (by omega) (by (try simp only [List.length_append, List.length_cons, List.length_nil]); omega)).trans ?_
  refine (pad_l1_step _ _ _ 0 (by omega) (by (try simp only [List.length_append, List.length_cons, List.length_nil]); omega)).trans ?_
  rw [ledgerlaw01_padded.l1, if_neg (by omega)]
  simp [List.append_assoc]
/-- the message with its padding -/
def padOf (B : Bool) (data : List Int) : List Int := data ++ padding B (data.length % blk B) data.length
theorem pad_j1 (data out : List Int) (_hd : data.length ≤ 1000000000) (ho : out.length ≤ 2000000000) : ledgerlaw01_padded.j1 10 data out = some (out ++ be8 (8 * data.length)) := by
  have e : IntKind.u64.wrap (IntKind.u64.wrap (data.length : Int) * 8) = (((BitVec.ofNat 64 (8 * data.length)).toNat : Nat) : Int) := by
    rw [wrap64u, wrap64u, BitVec.toNat_ofNat]; omega
  rw [ledgerlaw01_padded.j1, e]
  exact pad_l1_all _ out 0 (by omega)
theorem pad_l0_false (data : List Int) (hd : data.length ≤ 1000000000) : ∀ n j : Nat, j + n = zerosFor false (data.length % 64) →
    ledgerlaw01_padded.l0 (n + 11) 256 data (data ++ [128] ++ List.replicate j 0) 64 = some (padOf false data)
  | 0, j, h => by
    have hz : zerosFor false (data.length % 64) = (64 + 56 - (data.length % 64 + 1) % 64) % 64 := rfl
    have hl : (data ++ [128] ++ List.replicate j (0 : Int)).length = data.length + 1 + j := by simp; omega
    rw [ledgerlaw01_padded.l0, if_neg (by decide), show wrap64 (Int.tdiv 64 8) = 8 from by unfold wrap64; decide, hl, show wrap64 (((data.length + 1 + j : Nat) : Int) + 8) = ((data.length + 1 + j + 8 : Nat) : Int) from by unfold wrap64; omega,
      Int.tmod_eq_emod_of_nonneg (by omega), if_pos (by omega), if_neg (by decide), pad_j1 _ _ hd (by rw [hl]; omega)]
    have hj : j = zerosFor false (data.length % 64) := by omega
    unfold padOf padding
    rw [hj]
    simp [blk]
  | n + 1, j, h => by
    have hz : zerosFor false (data.length % 64) = (64 + 56 - (data.length % 64 + 1) % 64) % 64 := rfl
    have hl : (data ++ [128] ++ List.replicate j (0 : Int)).length = data.length + 1 + j := by simp; omega
    rw [show n + 1 + 11 = (n + 11) + 1 by omega, ledgerlaw01_padded.l0, if_neg (by decide), show wrap64 (Int.tdiv 64 8) = 8 from by unfold wrap64; decide, hl, show wrap64 (((data.length + 1 + j : Nat) : Int) + 8) = ((data.length + 1 + j + 8 : Nat) : Int) from by unfold wrap64; omega,
      Int.tmod_eq_emod_of_nonneg (by omega), if_neg (by omega), if_pos (by omega), List.append_assoc, ← List.replicate_succ']
    exact pad_l0_false data hd n (j + 1) (by omega)
theorem pad_l0_true (data : List Int) (hd : data.length ≤ 1000000000) : ∀ n j : Nat, j + n = zerosFor true (data.length % 128) →
    ledgerlaw01_padded.l0 (n + 11) 512 data (data ++ [128] ++ List.replicate j 0) 128 = some (padOf true data)
  | 0, j, h => by
    have hz : zerosFor true (data.length % 128) = (128 + 112 - (data.length % 128 + 1) % 128) % 128 := rfl
    have hl : (data ++ [128] ++ List.replicate j (0 : Int)).length = data.length + 1 + j := by simp; omega
    have h8 : ([0, 0, 0, 0, 0, 0, 0, 0] : List Int).length = 8 := rfl
    rw [ledgerlaw01_padded.l0, if_neg (by decide), show wrap64 (Int.tdiv 128 8) = 16 from by unfold wrap64; decide, hl, show wrap64 (((data.length + 1 + j : Nat) : Int) + 16) = ((data.length + 1 + j + 16 : Nat) : Int) from by unfold wrap64; omega,
      Int.tmod_eq_emod_of_nonneg (by omega), if_pos (by omega), if_pos rfl, Option.bind_some, h8, if_pos (by omega), pad_j1 _ _ hd (by rw [List.length_append, hl, h8]; omega)]
    have hj : j = zerosFor true (data.length % 128) := by omega
    unfold padOf padding
    rw [hj]
    simp [blk, List.replicate]
  | n + 1, j, h => by
    have hz : zerosFor true (data.length % 128) = (128 + 112 - (data.length % 128 + 1) % 128) % 128 := rfl
    have hl : (data ++ [128] ++ List.replicate j (0 : Int)).length = data.length + 1 + j := by simp; omega
    rw [show n + 1 + 11 = (n + 11) + 1 by omega, ledgerlaw01_padded.l0, if_neg (by decide), show wrap64 (Int.tdiv 128 8) = 16 from by unfold wrap64; decide, hl, show wrap64 (((data.length + 1 + j : Nat) : Int) + 16) = ((data.length + 1 + j + 16 : Nat) : Int) from by unfold wrap64; omega,
      Int.tmod_eq_emod_of_nonneg (by omega), if_neg (by omega), if_pos (by omega), List.append_assoc, ← List.replicate_succ']
    exact pad_l0_true data hd n (j + 1) (by omega)
theorem padded_is (B : Bool) (data : List Int) (hd : data.length ≤ 1000000000) : ∃ k, ledgerlaw01_padded.f k (kind B : Nat) data = some (padOf B data) := by
  have h0 : ([] : List Int).length + data.length < 140737488355328 := by simp only [List.length_nil]; omega
  cases B
  · refine ⟨zerosFor false (data.length % 64) + 11, ?_⟩
    have h := pad_l0_false data hd (zerosFor false (data.length % 64)) 0 (by omega)
    rw [show List.replicate 0 (0 : Int) = [] from rfl, List.append_nil] at h
    unfold ledgerlaw01_padded.f
    rw [if_pos h0, Option.bind_some, List.nil_append, if_pos (by omega), show wrap64 (Int.tdiv ((kind false : Nat) : Int) 4) = 64 from by unfold wrap64; decide]
    exact h
  · refine ⟨zerosFor true (data.length % 128) + 11, ?_⟩
    have h := pad_l0_true data hd (zerosFor true (data.length % 128)) 0 (by omega)
    rw [show List.replicate 0 (0 : Int) = [] from rfl, List.append_nil] at h
    unfold ledgerlaw01_padded.f
    rw [if_pos h0, Option.bind_some, List.nil_append, if_pos (by omega), show wrap64 (Int.tdiv ((kind true : Nat) : Int) 4) = 128 from by unfold wrap64; decide]
    exact h
theorem zeros_lt (B : Bool) (r : Nat) : zerosFor B r < blk B := Nat.mod_lt _ (blk_pos B)
theorem padOf_length (B : Bool) (data : List Int) : (padOf B data).length = data.length + 1 + zerosFor B (data.length % blk B) + blk B / 8 := by
  unfold padOf padding
  rw [List.length_append, List.length_append, List.length_append, be8_length, List.length_cons, List.length_replicate]
  cases B
  · simp [blk]; omega
  · simp [blk]; omega
theorem padOf_mod (B : Bool) (data : List Int) : (padOf B data).length % blk B = 0 := by
  rw [padOf_length]
  cases B
  · have hz : zerosFor false (data.length % blk false) = (64 + 56 - (data.length % 64 + 1) % 64) % 64 := rfl
    rw [hz]
    show (_ + 64 / 8) % 64 = 0
    omega
  · have hz : zerosFor true (data.length % blk true) = (128 + 112 - (data.length % 128 + 1) % 128) % 128 := rfl
    rw [hz]
    show (_ + 128 / 8) % 128 = 0
    omega
/-- the sum is the chain behind the padded message -/
theorem hash_padOf (B : Bool) (data : List Int) (h : data.length ≤ maxCount) : hash B data = words B (runC B (start B) (padOf B data) ((padOf B data).length / blk B)) := by
  have hp := blk_pos B
  have hr : (data.drop (blk B * (data.length / blk B))).length = data.length % blk B := by
    rw [List.length_drop]
    have := Nat.div_add_mod data.length (blk B)
    omega
  have hb : blk B * (data.length / blk B) ≤ data.length := Nat.mul_div_le _ _
  unfold hash
  rw [write_new B data h]
  show words B (runC B (runC B (start B) data (data.length / blk B)) (data.drop (blk B * (data.length / blk B)) ++ padding B (data.drop (blk B * (data.length / blk B))).length data.length) _) = _
  rw [hr]
  have e1 : (padOf B data).length = blk B * (data.length / blk B) + (data.drop (blk B * (data.length / blk B)) ++ padding B (data.length % blk B) data.length).length := by
    unfold padOf
    rw [List.length_append, List.length_append, List.length_drop]
    omega
  have e2 : (padOf B data).length / blk B = data.length / blk B + (data.drop (blk B * (data.length / blk B)) ++ padding B (data.length % blk B) data.length).length / blk B := by
    rw [e1, Nat.mul_add_div hp]
  rw [e2, runC_add]
  have e3 : runC B (start B) (padOf B data) (data.length / blk B) = runC B (start B) data (data.length / blk B) := by
    unfold padOf
    exact runC_append B _ _ _ _ hb
  have e4 : (padOf B data).drop (blk B * (data.length / blk B)) = data.drop (blk B * (data.length / blk B)) ++ padding B (data.length % blk B) data.length := by
    unfold padOf
    rw [List.drop_append_of_le_length hb]
  rw [e3, e4]
/-- a sum behind the padded message's count is the saved state behind the padded message -/
theorem ext_text (B : Bool) (data : List Int) (h : (padOf B data).length ≤ maxCount) : tag B :: be8 (padOf B data).length ++ hash B data = ((St.new B).write (padOf B data)).save := by
  have hl : data.length ≤ (padOf B data).length := by rw [padOf_length]; omega
  rw [hash_padOf B data (by omega), write_new B _ h]
  unfold St.save
  rw [tag_kind]
  have e : (padOf B data).drop (blk B * ((padOf B data).length / blk B)) = [] := by
    apply List.drop_eq_nil_of_le
    have h1 := Nat.div_add_mod (padOf B data).length (blk B)
    have h2 := padOf_mod B data
    omega
  simp only [e, List.append_nil]
theorem padded_calls (B : Bool) (A : Option Addr) (c : Nat) (data : List Int) (w : World) (hX : Src w (fun _ => False) A c data) (hd : data.length ≤ 1000000000) (hw : low ≤ w.heap.size) :
    Calls Tryd.prog 38 #[.int .i64 (kind B : Nat), .slice A data.length c] w fun e w' => ∃ v, e = .returned v ∧ w'.ownsRow low 5 1 v (padOf B data).length (bytes (padOf B data)) ∧ (∀ k, v.ownBlock = some k → w.heap.size ≤ k) ∧ Below w.heap.size w w' := by
  obtain ⟨k, hk⟩ := padded_is B data hd
  refine (ledgerlaw01_padded.calls k _ A c data _ w (C_of_src hX (by omega)) hX.1 hk).mono ?_
  rintro e w' ⟨v, rfl, hR, hB⟩
  have hO := Kd.own_of_R hR
  exact ⟨v, rfl, own_weaken hO hw, Go.Proofs.YtjcfnflkiialbaaDoorW.PrintWords.own_base hO, hB⟩
end Go.Proofs.YtjcfnflkiialbaaDoor.Sha
