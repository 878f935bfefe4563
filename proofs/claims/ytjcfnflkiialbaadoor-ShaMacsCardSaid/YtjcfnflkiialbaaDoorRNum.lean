/-
  Small functions of the document's answer and of the laws (Block, number, word, turn, lent, whole): each Go function is the Lean function of its name. (Out of the print for this claim.) bytesOf and wide of the document's answer; the constants' high halves. word, turn and number of the document's answer, in words of 32 and of 64 bits. One round of the document's answer. number, Block of the document's answer; append of one word to a list of words.
-/
import Derived.Test.YtjcfnflkiialbaaDoorPShaConstantsx1
import Derived.Test.YtjcfnflkiialbaaDoorLdNum
import Derived.Test.YtjcfnflkiialbaaDoorKept
import Derived.Test.YtjcfnflkiialbaaDoorOwnSrc
import Derived.Test.YtjcfnflkiialbaaDoorRowOk
import Derived.Laws.IdiomCopy
import Derived.BigQuiet
import Derived.Deep.RegionWith
namespace Go.Proofs.YtjcfnflkiialbaaDoor.PShaConstants
open Go.RowKit Go.Proofs.YtjcfnflkiialbaaDoorW.PrintWords Go.Proofs.YtjcfnflkiialbaaDoorW.PrintLast Go.Proofs.YtjcfnflkiialbaaDoorW.PrintMore
attribute [local go_sem] max2_int min2_int max_two min_two max_three min_three max_four min_four
set_option linter.unusedVariables false
set_option linter.unusedSimpArgs false
def ledgerref01_Block.f (a0 : Int) : Option (Int) := some (wrap64 (64 * a0))
set_option maxHeartbeats 8000000 in
set_option maxRecDepth 100000 in
theorem ledgerref01_Block.calls (a0 : Int) (r : Int) (w : World) (h : ledgerref01_Block.f a0 = some r) :
    Calls Tryd.prog 72 #[.int .i64 a0] w fun e w' => e = .returned (.int .i64 r) ∧ Drawn0 w w' := by
  have H : (some (wrap64 (64 * a0))) = some r := h
  clear h
  obtain rfl := Option.some.inj H
  go_enter Tryd.func72, Tryd.ntmps72
  go_wp2
  go_ret
  exact ⟨by first | rfl | (simp; done) | (simp [*]; done), by repeat (first | exact Drawn0.refl _ | apply Drawn0.step)⟩


def ledgerref01_number.l0 : Nat → List Int → Int → Int → Option (Int)
  | 0, _, _, _ => none
  | k + 1, x0, x3, x4 => if x4 < (x0.length : Int) then (if 0 ≤ x4 then (ledgerref01_number.l0 k x0 (IntKind.u64.wrap ((IntKind.u64.wrap (x3 * 256)) + (IntKind.u64.wrap (rd x0 x4)))) (wrap64 (x4 + 1))) else (none)) else (some x3)
def ledgerref01_number.f (k : Nat) (l0 : List Int) : Option (Int) := ledgerref01_number.l0 k l0 0 0
theorem ledgerref01_number.mono_l : ∀ k, (∀ y0 y1 y2, LeO (ledgerref01_number.l0 k y0 y1 y2) (ledgerref01_number.l0 (k + 1) y0 y1 y2))
  | 0 => fun _ _ _ r h => by simp [ledgerref01_number.l0] at h
  | k + 1 => by
    have ih0 := ledgerref01_number.mono_l k
    · intro y0 y1 y2
      unfold ledgerref01_number.l0
      repeat' first
      | (with_reducible exact ih0 _ _ _)
      | (with_reducible exact LeO.refl _)
      | (with_reducible exact LeO.none _)
      | (with_reducible refine LeO.ite ?_ ?_)
      | (with_reducible refine LeO.bind ?_ (fun _ => ?_))
      | exact ih0 _ _ _
      | exact LeO.none _
      | refine LeO.ite ?_ ?_
      | refine LeO.bind ?_ (fun _ => ?_)
theorem ledgerref01_number.mono : ∀ a0 k, LeO (ledgerref01_number.f k a0) (ledgerref01_number.f (k + 1) a0) := by
  intro a0 k
  have ih0 := ledgerref01_number.mono_l k
  unfold ledgerref01_number.f
  repeat' first
      | (with_reducible exact ih0 _ _ _)
      | (with_reducible exact LeO.refl _)
      | (with_reducible exact LeO.none _)
      | (with_reducible refine LeO.ite ?_ ?_)
      | (with_reducible refine LeO.bind ?_ (fun _ => ?_))
      | exact ih0 _ _ _
      | exact LeO.none _
      | refine LeO.ite ?_ ?_
      | refine LeO.bind ?_ (fun _ => ?_)
set_option maxHeartbeats 8000000 in
set_option maxRecDepth 100000 in
theorem ledgerref01_number.calls (k : Nat) (A0 : Option Addr) (c0 : Nat) (l0 : List Int) (r : Int) (w : World) (hr0 : Kd.C (Kd.int .u8) w A0 l0.length l0) (hc0 : l0.length ≤ c0) (h : ledgerref01_number.f k l0 = some r) :
    Calls Tryd.prog 76 #[.slice A0 l0.length c0] w fun e w' => e = .returned (.int .u64 r) ∧ Drawn0 w w' := by
  have HR0 := Aside0.mk hr0
  have HC0 := Aside0.mk hc0
  clear hr0 hc0
  have H : (ledgerref01_number.l0 k l0 0 0) = some r := h
  clear h
  have H' := Aside0.mk H
  clear H
  go_enter Tryd.func76, Tryd.ntmps76
  go_wp2
  go_loopg [3, 4] k (fun kq v3 v4 w' => ∃ (x3_1 : Int) (x4_1 : Int), v3 = .int .u64 x3_1 ∧ v4 = .int .i64 x4_1 ∧ Aside0 (ledgerref01_number.l0 kq l0 x3_1 x4_1 = some r) ∧ Aside0 (kq ≤ k) ∧ Drawn0 w w')
  case atStart => exact ⟨(0), (0), (by first | rfl | (simp; done) | (simp [*]; done)), (by first | rfl | (simp; done) | (simp [*]; done)), H', ⟨Nat.le_refl _⟩, by repeat (first | exact Drawn0.refl _ | apply Drawn0.step)⟩
  case round =>
    clear H'
    obtain ⟨x3_1, x4_1, rfl, rfl, HA, HK1, ⟨m1, rfl⟩⟩ := hrel
    cases gk with
    | zero => exact absurd HA.out (by simp [ledgerref01_number.l0])
    | succ k1 =>
      have H := HA.out
      clear HA
      simp only [ledgerref01_number.l0] at H
      by_cases c2 : x4_1 < (l0.length : Int)
      · rw [if_pos c2] at H
        have c2b0 : decide (x4_1 < (l0.length : Int)) = true := decide_eq_true c2
        clear c2
        by_cases c3 : 0 ≤ x4_1
        · rw [if_pos c3] at H
          have c3b0 : decide (0 ≤ x4_1) = true := decide_eq_true c3
          clear c3
          have H' := Aside0.mk H
          clear H
          have p131 : 0 ≤ (x4_1 : Int) := of_decide_eq_true (by first | (with_reducible assumption) | assumption)
          have q131 : x4_1 < (l0.length : Int) := of_decide_eq_true (by first | (with_reducible assumption) | assumption)
          obtain ⟨ad131, e131, hx131_0⟩ := Kd.at_int HR0.out x4_1 p131 q131
          cases e131
          replace p131 := eq_true p131
          replace q131 := eq_true q131
          go_wp2
          go_roundg k1
          case measure => have := HK1.out; omega
          case rel => exact ⟨(IntKind.u64.wrap ((IntKind.u64.wrap (x3_1 * 256)) + (IntKind.u64.wrap (rd l0 x4_1)))), (wrap64 (x4_1 + 1)), (by first | rfl | (simp; done) | (simp [*]; done)), (by first | rfl | (simp; done) | (simp [*]; done)), H', ⟨by have := HK1.out; omega⟩, by repeat (first | exact Drawn0.refl _ | apply Drawn0.step)⟩
        · rw [if_neg c3] at H
          exact absurd H (by simp)
      · rw [if_neg c2] at H
        have c2b0 : decide (x4_1 < (l0.length : Int)) = false := decide_eq_false c2
        clear c2
        obtain rfl := Option.some.inj H
        go_wp2
        go_ret
        exact ⟨by first | rfl | (simp; done) | (simp [*]; done), by repeat (first | exact Drawn0.refl _ | apply Drawn0.step)⟩


def ledgerref01_word.f (a0 : Int) (a1 : Int) : Option (Int) := if a0 = 1 then (some (Int.tmod a1 4294967296)) else (some a1)
set_option maxHeartbeats 8000000 in
set_option maxRecDepth 100000 in
theorem ledgerref01_word.calls (a0 : Int) (a1 : Int) (r : Int) (w : World) (h : ledgerref01_word.f a0 a1 = some r) :
    Calls Tryd.prog 79 #[.int .i64 a0, .int .u64 a1] w fun e w' => e = .returned (.int .u64 r) ∧ Drawn0 w w' := by
  have H : (if a0 = 1 then (some (Int.tmod a1 4294967296)) else (some a1)) = some r := h
  clear h
  by_cases c3 : a0 = 1
  · rw [if_pos c3] at H
    have c3b0 : (a0 == 1) = true := beq_iff_eq.mpr c3
    have c3b1 : (a0 != 1) = false := bne_eq_false_iff_eq.mpr c3
    clear c3
    obtain rfl := Option.some.inj H
    go_enter Tryd.func79, Tryd.ntmps79
    go_wp2
    go_ret
    exact ⟨by first | rfl | (simp; done) | (simp [*]; done), by repeat (first | exact Drawn0.refl _ | apply Drawn0.step)⟩
  · rw [if_neg c3] at H
    have c3b0 : (a0 == 1) = false := beq_eq_false_iff_ne.mpr c3
    have c3b1 : (a0 != 1) = true := bne_iff_ne.mpr c3
    obtain rfl := Option.some.inj H
    go_enter Tryd.func79, Tryd.ntmps79
    go_wp2
    go_ret
    exact ⟨by first | rfl | (simp; done) | (simp [*]; done), by repeat (first | exact Drawn0.refl _ | apply Drawn0.step)⟩


def ledgerref01_turn.f (a0 : Int) (a1 : Int) (a2 : Int) : Option (Int) := (ledgerref01_wide.f a0).bind fun t132 => (if 0 ≤ a2 then (if 0 ≤ (IntKind.u64.wrap ((IntKind.u64.wrap (wrap64 (8 * t132))) - a2)) then ((ledgerref01_word.f a0 (IntKind.u64.wrap ((shr .u64 a1 a2) + (shl .u64 a1 (IntKind.u64.wrap ((IntKind.u64.wrap (wrap64 (8 * t132))) - a2)))))).bind fun t133 => (some t133)) else (none)) else (none))
set_option maxHeartbeats 8000000 in
set_option maxRecDepth 100000 in
theorem ledgerref01_turn.calls (a0 : Int) (a1 : Int) (a2 : Int) (r : Int) (w : World) (h : ledgerref01_turn.f a0 a1 a2 = some r) :
    Calls Tryd.prog 80 #[.int .i64 a0, .int .u64 a1, .int .u64 a2] w fun e w' => e = .returned (.int .u64 r) ∧ Drawn0 w w' := by
  have H : ((ledgerref01_wide.f a0).bind fun t132 => (if 0 ≤ a2 then (if 0 ≤ (IntKind.u64.wrap ((IntKind.u64.wrap (wrap64 (8 * t132))) - a2)) then ((ledgerref01_word.f a0 (IntKind.u64.wrap ((shr .u64 a1 a2) + (shl .u64 a1 (IntKind.u64.wrap ((IntKind.u64.wrap (wrap64 (8 * t132))) - a2)))))).bind fun t133 => (some t133)) else (none)) else (none))) = some r := h
  clear h
  replace H := Option.bind_eq_some_iff.mp H
  obtain ⟨t132, A40, H⟩ := H
  replace H : (if 0 ≤ a2 then (if 0 ≤ (IntKind.u64.wrap ((IntKind.u64.wrap (wrap64 (8 * t132))) - a2)) then ((ledgerref01_word.f a0 (IntKind.u64.wrap ((shr .u64 a1 a2) + (shl .u64 a1 (IntKind.u64.wrap ((IntKind.u64.wrap (wrap64 (8 * t132))) - a2)))))).bind fun t133 => (some t133)) else (none)) else (none)) = some r := H
  have A4 := Aside0.mk A40
  clear A40
  by_cases c5 : 0 ≤ a2
  · rw [if_pos c5] at H
    have c5b0 := eq_true c5
    have c5b1 : decide (0 ≤ a2) = true := decide_eq_true c5
    clear c5
    obtain ⟨ji6, hji6⟩ : ∃ j_ : Int, (shr .u64 a1 a2) = j_ := ⟨_, rfl⟩
    replace H : (if 0 ≤ (IntKind.u64.wrap ((IntKind.u64.wrap (wrap64 (8 * t132))) - a2)) then ((ledgerref01_word.f a0 (IntKind.u64.wrap ((ji6) + (shl .u64 a1 (IntKind.u64.wrap ((IntKind.u64.wrap (wrap64 (8 * t132))) - a2)))))).bind fun t133 => (some t133)) else (none)) = some r := by first | (rw [hji6] at H; exact H) | (simp only [hji6] at H ⊢; exact H)
    (try rw [hji6] at A4)
    have hji6_ : (a1 / 2 ^ min a2.toNat 64) = ji6 := hji6
    have hji6z : a2 ≤ 64 → (a1 / 2 ^ a2.toNat) = ji6 := shr_small hji6
    obtain ⟨ji7, hji7⟩ : ∃ j_ : Int, (IntKind.u64.wrap ((IntKind.u64.wrap (wrap64 (8 * t132))) - a2)) = j_ := ⟨_, rfl⟩
    replace H : (if 0 ≤ (ji7) then ((ledgerref01_word.f a0 (IntKind.u64.wrap ((ji6) + (shl .u64 a1 (ji7))))).bind fun t133 => (some t133)) else (none)) = some r := by first | (rw [hji7] at H; exact H) | (simp only [hji7] at H ⊢; exact H)
    (try rw [hji7] at A4)
    by_cases c8 : 0 ≤ (ji7)
    · rw [if_pos c8] at H
      have c8b0 := eq_true c8
      have c8b1 : decide (0 ≤ (ji7)) = true := decide_eq_true c8
      clear c8
      obtain ⟨ji9, hji9⟩ : ∃ j_ : Int, (shl .u64 a1 (ji7)) = j_ := ⟨_, rfl⟩
      replace H : ((ledgerref01_word.f a0 (IntKind.u64.wrap ((ji6) + (ji9)))).bind fun t133 => (some t133)) = some r := by first | (rw [hji9] at H; exact H) | (simp only [hji9] at H ⊢; exact H)
      (try rw [hji9] at A4)
      have hji9_ : (IntKind.u64.wrap (a1 * 2 ^ min (ji7).toNat 64)) = ji9 := hji9
      have hji9z : (ji7) ≤ 64 → (IntKind.u64.wrap (a1 * 2 ^ (ji7).toNat)) = ji9 := shl_small hji9
      replace H := Option.bind_eq_some_iff.mp H
      obtain ⟨t133, A100, H⟩ := H
      replace H : (some t133) = some r := H
      have A10 := Aside0.mk A100
      clear A100
      obtain rfl := Option.some.inj H
      go_enter Tryd.func80, Tryd.ntmps80
      go_wp2_with (first | ((with_reducible refine gate_callee (f := 48) rfl ?_); refine goesL_ (some 9) rfl rfl Tryd.func48 (by kernel_rfl) rfl #[.int .i64 a0] rfl (by (try simp only [List.map_toArray, List.map_cons, List.map_nil]); first | done | rfl | (simp only [List.length_drop, List.length_take]; rfl)) ?_; (with_reducible refine (ledgerref01_wide.calls a0 t132 _ A4.out).mono ?_); rintro e w' ⟨rfl, ⟨nd, rfl⟩⟩; refine ⟨_, rfl, ?_⟩) | ((with_reducible refine gate_callee (f := 79) rfl ?_); refine goesL_ (some 22) rfl rfl Tryd.func79 (by kernel_rfl) rfl #[.int .i64 a0, .int .u64 (IntKind.u64.wrap ((ji6) + (ji9)))] rfl (by (try simp only [List.map_toArray, List.map_cons, List.map_nil]); first | done | (simp only [hji6, hji9]; rfl) | rfl | (simp only [List.length_drop, List.length_take]; rfl)) ?_; (with_reducible refine (ledgerref01_word.calls a0 (IntKind.u64.wrap ((ji6) + (ji9))) t133 _ A10.out).mono ?_); rintro e w' ⟨rfl, ⟨nd, rfl⟩⟩; refine ⟨_, rfl, ?_⟩))
      go_ret
      exact ⟨by first | rfl | (simp; done) | (simp only [← hji6, ← hji7, ← hji9] <;> (first | rfl | simp)) | (simp [*]; done), by repeat (first | exact Drawn0.refl _ | apply Drawn0.step)⟩
    · rw [if_neg c8] at H
      exact absurd H (by simp)
  · rw [if_neg c5] at H
    exact absurd H (by simp)

mutual
def ledgerlaw01_lent.l0 : Nat → List Int → List Int → Int → Option (List Int)
  | 0, _, _, _ => none
  | k + 1, x0, x3, x4 => if x4 < (x0.length : Int) then (if 0 ≤ x4 then (if x4 < (x3.length : Int) then (ledgerlaw01_lent.l0 k x0 (x3.set (x4 : Int).toNat (rd x0 x4)) (wrap64 (x4 + 1))) else (none)) else (none)) else (ledgerlaw01_lent.l1 k x0 x3 (x0.length : Int))
def ledgerlaw01_lent.l1 : Nat → List Int → List Int → Int → Option (List Int)
  | 0, _, _, _ => none
  | k + 1, x0, x3, x5 => if x5 < (x3.length : Int) then (if 0 ≤ x5 then (ledgerlaw01_lent.l1 k x0 (x3.set (x5 : Int).toNat ((wrap64 ((wrap64 (192 + x5)) - (x0.length : Int))) % 256)) (wrap64 (x5 + 1))) else (none)) else (some x3)
end
def ledgerlaw01_lent.f (k : Nat) (l0 : List Int) : Option (List Int) := if 0 ≤ (wrap64 ((l0.length : Int) + 200)) then (if (wrap64 ((l0.length : Int) + 200) : Int).toNat ≤ 281474976710656 then (ledgerlaw01_lent.l0 k l0 (List.replicate (wrap64 ((l0.length : Int) + 200) : Int).toNat 0) 0) else (none)) else (none)
theorem ledgerlaw01_lent.mono_l : ∀ k, (∀ y0 y1 y2, LeO (ledgerlaw01_lent.l0 k y0 y1 y2) (ledgerlaw01_lent.l0 (k + 1) y0 y1 y2)) ∧ (∀ y0 y1 y2, LeO (ledgerlaw01_lent.l1 k y0 y1 y2) (ledgerlaw01_lent.l1 (k + 1) y0 y1 y2))
  | 0 => ⟨fun _ _ _ r h => by simp [ledgerlaw01_lent.l0] at h, fun _ _ _ r h => by simp [ledgerlaw01_lent.l1] at h⟩
  | k + 1 => by
    obtain ⟨ih0, ih1⟩ := ledgerlaw01_lent.mono_l k
    refine ⟨?_, ?_⟩
    · intro y0 y1 y2
      unfold ledgerlaw01_lent.l0
      repeat' first
      | (with_reducible exact ih0 _ _ _)
      | (with_reducible exact ih1 _ _ _)
      | (with_reducible exact LeO.refl _)
      | (with_reducible exact LeO.none _)
      | (with_reducible refine LeO.ite ?_ ?_)
      | (with_reducible refine LeO.bind ?_ (fun _ => ?_))
      | exact ih0 _ _ _
      | exact ih1 _ _ _
      | exact LeO.none _
      | refine LeO.ite ?_ ?_
      | refine LeO.bind ?_ (fun _ => ?_)
    · intro y0 y1 y2
      unfold ledgerlaw01_lent.l1
      repeat' first
      | (with_reducible exact ih0 _ _ _)
      | (with_reducible exact ih1 _ _ _)
      | (with_reducible exact LeO.refl _)
      | (with_reducible exact LeO.none _)
      | (with_reducible refine LeO.ite ?_ ?_)
      | (with_reducible refine LeO.bind ?_ (fun _ => ?_))
      | exact ih0 _ _ _
      | exact ih1 _ _ _
      | exact LeO.none _
      | refine LeO.ite ?_ ?_
      | refine LeO.bind ?_ (fun _ => ?_)
theorem ledgerlaw01_lent.mono : ∀ a0 k, LeO (ledgerlaw01_lent.f k a0) (ledgerlaw01_lent.f (k + 1) a0) := by
  intro a0 k
  obtain ⟨ih0, ih1⟩ := ledgerlaw01_lent.mono_l k
  unfold ledgerlaw01_lent.f
  repeat' first
      | (with_reducible exact ih0 _ _ _)
      | (with_reducible exact ih1 _ _ _)
      | (with_reducible exact LeO.refl _)
      | (with_reducible exact LeO.none _)
      | (with_reducible refine LeO.ite ?_ ?_)
      | (with_reducible refine LeO.bind ?_ (fun _ => ?_))
      | exact ih0 _ _ _
      | exact ih1 _ _ _
      | exact LeO.none _
      | refine LeO.ite ?_ ?_
      | refine LeO.bind ?_ (fun _ => ?_)
set_option maxHeartbeats 8000000 in
set_option maxRecDepth 100000 in
theorem ledgerlaw01_lent.calls (k : Nat) (A0 : Option Addr) (c0 : Nat) (l0 : List Int) (r : List Int) (w : World) (hr0 : Kd.C (Kd.int .u8) w A0 l0.length l0) (hc0 : l0.length ≤ c0) (h : ledgerlaw01_lent.f k l0 = some r) :
    Calls Tryd.prog 22 #[.slice A0 l0.length c0] w fun e w' => ∃ v0_ : Value, e = .returned (v0_) ∧ Kd.R (Kd.int .u8) 5 w' w.heap.size (fun _ => True) v0_ r ∧ Below w.heap.size w w' := by
  have HR0 := Aside0.mk hr0
  have HC0 := Aside0.mk hc0
  clear hr0 hc0
  have HB := Aside0.mk (Below.refl w.heap.size w)
  have H : (if 0 ≤ (wrap64 ((l0.length : Int) + 200)) then (if (wrap64 ((l0.length : Int) + 200) : Int).toNat ≤ 281474976710656 then (ledgerlaw01_lent.l0 k l0 (List.replicate (wrap64 ((l0.length : Int) + 200) : Int).toNat 0) 0) else (none)) else (none)) = some r := h
  clear h
  obtain ⟨ji2, hji2⟩ : ∃ j_ : Int, (wrap64 ((l0.length : Int) + 200)) = j_ := ⟨_, rfl⟩
  replace H : (if 0 ≤ (ji2) then (if (ji2 : Int).toNat ≤ 281474976710656 then (ledgerlaw01_lent.l0 k l0 (List.replicate (ji2 : Int).toNat 0) 0) else (none)) else (none)) = some r := by first | (rw [hji2] at H; exact H) | (simp only [hji2] at H ⊢; exact H)
  have hji2w : (IntKind.i64.wrap ((l0.length : Int) + 200)) = ji2 := (i64_w _).trans hji2
  by_cases c3 : 0 ≤ (ji2)
  · rw [if_pos c3] at H
    have c3b0 := eq_true c3
    have c3b1 : decide (0 ≤ (ji2)) = true := decide_eq_true c3
    clear c3
    by_cases c4 : (ji2 : Int).toNat ≤ 281474976710656
    · rw [if_pos c4] at H
      have c4b0 := eq_true c4
      have c4b1 : decide ((ji2 : Int).toNat ≤ 281474976710656) = true := decide_eq_true c4
      clear c4
      obtain ⟨y101, hy101⟩ : ∃ y_ : List Int, y_ = (List.replicate (ji2 : Int).toNat 0) := ⟨_, rfl⟩
      replace H : (ledgerlaw01_lent.l0 k l0 y101 0) = some r := by first | (rw [hy101]; with_reducible exact H) | (have H2_ := (Option.bind_some _ _).symm.trans H; rw [hy101]; with_reducible exact H2_) | (have H2_ := (Option.bind_some _ _).symm.trans H; with_reducible exact H2_) | with_reducible exact H | (rw [hy101]; exact H) | exact H
      have Ny101 := Aside0.mk hy101
      clear hy101
      have H' := Aside0.mk H
      clear H
      go_enter Tryd.func22, Tryd.ntmps22
      go_wp2_with (first | ((with_reducible refine gate_dst (N := 9) rfl ?_); refine Kd.R_make (Kd.int .u8) _ 5 rfl (N := 9) rfl 23 _ _ rfl ji2 rfl rfl Tryd.underlying23 (.int .u8 0) 1 info5 rfl (by decide) (by omega) 0 (ok := fun _ => True) (okp := fun _ => True) rfl (fun _ hk => hk) trivial (of_decide_eq_true (by first | (with_reducible assumption) | assumption)) (Nat.le_trans (Nat.mul_le_mul_right _ (of_decide_eq_true (by first | (with_reducible assumption) | assumption) : ji2.toNat ≤ 281474976710656)) (by omega)) (Below.refl _ _) (Nat.le_refl _) ?_; intro v102 w5 ho6 hb hg_ hnew_; clear hg_ hnew_; (first | rw [← Ny101.out] at ho6 | (simp only [Int.reduceToNat] at ho6; rw [← Ny101.out] at ho6)); have n0_ := Aside0.mk (Kd.R_lower ho6 (below_size (by repeat (first | (with_reducible first | exact HB.out | apply below_alloc | apply pw_below_drewN | apply below_drew1) | exact HB.out)))); have n1_ := Aside0.mk (below_step (by repeat (first | (with_reducible first | exact HB.out | apply below_alloc | apply pw_below_drewN | apply below_drew1) | exact HB.out)) hb); clear HB; have HO103 := n0_; have HB := n1_; clear n0_ n1_; clear hb ho6))
      go_loopg [4] k (fun kq v4 w' => ∃ (x3_1 : List Int) (x4_1 : Int), v4 = .int .i64 x4_1 ∧ Aside0 (ledgerlaw01_lent.l0 kq l0 x3_1 x4_1 = some r) ∧ Aside0 (kq ≤ k) ∧ Aside0 (Kd.R (Kd.int .u8) 5 w' w.heap.size (fun _ => True) v102 x3_1) ∧ Aside0 (Below w.heap.size w w'))
      case atStart => exact ⟨(y101), (0), (by first | rfl | (simp; done) | (simp [*]; done)), H', ⟨Nat.le_refl _⟩, ⟨by (with_reducible repeat (first | apply Kd.R_alloc | apply Kd.R_drewN | apply Kd.R_drew)); exact HO103.out⟩, ⟨by repeat (first | (with_reducible first | exact HB.out | apply below_alloc | apply pw_below_drewN | apply below_drew1) | exact HB.out)⟩⟩
      case round =>
        clear H'
        try clear c2
        try clear p2
        try clear c3
        try clear c3b0
        try clear c3b1
        try clear c4
        try clear c4b0
        try clear c4b1
        try clear p6
        obtain ⟨x3_1, x4_1, rfl, HA, HK1, HO_3, HB⟩ := hrel
        cases gk with
        | zero => exact absurd HA.out (by simp [ledgerlaw01_lent.l0])
        | succ k1 =>
          have H := HA.out
          clear HA
          simp only [ledgerlaw01_lent.l0] at H
          by_cases c7 : x4_1 < (l0.length : Int)
          · rw [if_pos c7] at H
            have c7b0 : decide (x4_1 < (l0.length : Int)) = true := decide_eq_true c7
            clear c7
            by_cases c8 : 0 ≤ x4_1
            · rw [if_pos c8] at H
              have c8b0 : decide (0 ≤ x4_1) = true := decide_eq_true c8
              clear c8
              by_cases c9 : x4_1 < (x3_1.length : Int)
              · rw [if_pos c9] at H
                have c9b0 : decide (x4_1 < (x3_1.length : Int)) = true := decide_eq_true c9
                clear c9
                obtain ⟨y105, hy105⟩ : ∃ y_ : List Int, y_ = (x3_1.set (x4_1 : Int).toNat (rd l0 x4_1)) := ⟨_, rfl⟩
                replace H : (ledgerlaw01_lent.l0 k1 l0 y105 (wrap64 (x4_1 + 1))) = some r := by first | (rw [hy105]; with_reducible exact H) | (have H2_ := (Option.bind_some _ _).symm.trans H; rw [hy105]; with_reducible exact H2_) | (have H2_ := (Option.bind_some _ _).symm.trans H; with_reducible exact H2_) | with_reducible exact H | (rw [hy105]; exact H) | exact H
                have Ny105 := Aside0.mk hy105
                clear hy105
                have H' := Aside0.mk H
                clear H
                have p104 : 0 ≤ (x4_1 : Int) := of_decide_eq_true (by first | (with_reducible assumption) | assumption)
                have q104 : x4_1 < (l0.length : Int) := of_decide_eq_true (by first | (with_reducible assumption) | assumption)
                obtain ⟨ad104, e104, hx104_0⟩ := Kd.at_int HR0.out x4_1 p104 q104
                cases e104
                replace hx104_0 := (HB.out.cell (World.block_lt_of_cell? w _ hx104_0)).trans hx104_0
                replace p104 := eq_true p104
                replace q104 := eq_true q104
                have p10 : 0 ≤ (x4_1 : Int) := of_decide_eq_true (by first | (with_reducible assumption) | assumption)
                have q10 : (x4_1 : Int) < ((x3_1.length : Int) : Int) := of_decide_eq_true (by first | (with_reducible assumption) | assumption)
                obtain ⟨go10, co10, eo10, gb10, gl10, cl10, HG10⟩ := Kd.R_form HO_3.out (by omega)
                (first | cases eo10 | (injection eo10 with ea_ en_ ec_; (first | subst ea_ | (injection ea_ with ea_; subst ea_)); subst ec_; clear en_))
                have GB10 := Aside0.mk gb10
                have GG10 := Aside0.mk HG10
                clear gb10 gl10 HG10
                obtain ⟨hx10_0, hf10_0⟩ := Kd.R_celln 0 HO_3.out (x4_1 : Int) p10 q10
                replace p10 := eq_true p10
                replace q10 := eq_true q10
                have HP11 := Kd.R_putg HO_3.out (x4_1 : Int) (rd l0 x4_1)
                go_wp2_with (first | ((with_reducible refine gate_store (t := 5) (p := 22) rfl ?_); refine store_event (t := 5) (p := 22) (v := ?vo_w12) (w1 := (wr.setCell ⟨go10, (x4_1 : Int).toNat, none⟩ (.int .u8 (rd l0 x4_1)))) ?hg ?ho ?hn ?hr ?_; (case ho => rfl); (case hg => rfl); (case hn => rfl); (case hr => first | (go_simp; done) | (go_simp; rfl)); intro w12 hw; have hg : wr.grownBy w12 (some go10) := (by rw [hw]; exact HP11.2); have hp_ : Kd.R (Kd.int .u8) 5 w12 w.heap.size (fun _ => True) (.slice (some ⟨go10, 0, none⟩) x3_1.length co10) y105 := (by rw [hw, Ny105.out]; exact HP11.1); clear HP11; have n0_ := Aside0.mk (hp_); have n1_ := Aside0.mk ((by rw [hw]; exact below_set (HB.out) GB10.out : Below w.heap.size w w12)); clear HO_3; clear HB; have HO_3 := n0_; have HB := n1_; clear n0_ n1_; clear hg hw hp_))
                go_roundg k1
                case measure => have := HK1.out; omega
                case rel => exact ⟨(y105), (wrap64 (x4_1 + 1)), (by first | rfl | (simp; done) | (simp [*]; done)), H', ⟨by have := HK1.out; omega⟩, ⟨by (with_reducible repeat (first | apply Kd.R_alloc | apply Kd.R_drewN | apply Kd.R_drew)); exact HO_3.out⟩, ⟨by repeat (first | (with_reducible first | exact HB.out | apply below_alloc | apply pw_below_drewN | apply below_drew1) | exact HB.out)⟩⟩
              · rw [if_neg c9] at H
                exact absurd H (by simp)
            · rw [if_neg c8] at H
              exact absurd H (by simp)
          · rw [if_neg c7] at H
            have c7b0 : decide (x4_1 < (l0.length : Int)) = false := decide_eq_false c7
            clear c7
            have H' := Aside0.mk H
            clear H
            go_wp2
            go_loopg [5] k1 (fun kq v5 w' => ∃ (x3_2 : List Int) (x5_2 : Int), v5 = .int .i64 x5_2 ∧ Aside0 (ledgerlaw01_lent.l1 kq l0 x3_2 x5_2 = some r) ∧ Aside0 (kq ≤ k1) ∧ Aside0 (Kd.R (Kd.int .u8) 5 w' w.heap.size (fun _ => True) v102 x3_2) ∧ Aside0 (Below w.heap.size w w'))
            case atStart => exact ⟨(x3_1), ((l0.length : Int)), (by first | rfl | (simp; done) | (simp [*]; done)), H', ⟨Nat.le_refl _⟩, ⟨by (with_reducible repeat (first | apply Kd.R_alloc | apply Kd.R_drewN | apply Kd.R_drew)); exact HO_3.out⟩, ⟨by repeat (first | (with_reducible first | exact HB.out | apply below_alloc | apply pw_below_drewN | apply below_drew1) | exact HB.out)⟩⟩
            case round =>
              clear H'
              try clear p1
              try clear q1
              try clear hx1
              try clear hf1
              try clear c2
              try clear p2
              try clear c3
              try clear c3b0
              try clear c3b1
              try clear c4
              try clear c4b0
              try clear c4b1
              try clear p6
              try clear c7
              try clear c7b0
              try clear c8
              try clear c8b0
              try clear c9
              try clear c9b0
              try clear p10
              try clear q10
              try clear hx10
              try clear hf10
              try clear hx104_0
              try clear hx10_0
              try clear p10
              try clear p104
              try clear p2
              try clear p6
              try clear q10
              try clear q104
              obtain ⟨x3_2, x5_2, rfl, HA, HK2, HO_3, HB⟩ := hrel
              cases gk with
              | zero => exact absurd HA.out (by simp [ledgerlaw01_lent.l1])
              | succ k2 =>
                have H := HA.out
                clear HA
                simp only [ledgerlaw01_lent.l1] at H
                by_cases c13 : x5_2 < (x3_2.length : Int)
                · rw [if_pos c13] at H
                  have c13b0 : decide (x5_2 < (x3_2.length : Int)) = true := decide_eq_true c13
                  clear c13
                  by_cases c14 : 0 ≤ x5_2
                  · rw [if_pos c14] at H
                    have c14b0 : decide (0 ≤ x5_2) = true := decide_eq_true c14
                    clear c14
                    obtain ⟨y106, hy106⟩ : ∃ y_ : List Int, y_ = (x3_2.set (x5_2 : Int).toNat ((wrap64 ((wrap64 (192 + x5_2)) - (l0.length : Int))) % 256)) := ⟨_, rfl⟩
                    replace H : (ledgerlaw01_lent.l1 k2 l0 y106 (wrap64 (x5_2 + 1))) = some r := by first | (rw [hy106]; with_reducible exact H) | (have H2_ := (Option.bind_some _ _).symm.trans H; rw [hy106]; with_reducible exact H2_) | (have H2_ := (Option.bind_some _ _).symm.trans H; with_reducible exact H2_) | with_reducible exact H | (rw [hy106]; exact H) | exact H
                    have Ny106 := Aside0.mk hy106
                    clear hy106
                    have H' := Aside0.mk H
                    clear H
                    obtain ⟨Ao16, co16, eo16⟩ := Kd.R_slice HO_3.out
                    subst eo16
                    have p15 : 0 ≤ (x5_2 : Int) := of_decide_eq_true (by first | (with_reducible assumption) | assumption)
                    have q15 : (x5_2 : Int) < ((x3_2.length : Int) : Int) := of_decide_eq_true (by first | (with_reducible assumption) | assumption)
                    obtain ⟨go15, co15, eo15, gb15, gl15, cl15, HG15⟩ := Kd.R_form HO_3.out (by omega)
                    (first | cases eo15 | (injection eo15 with ea_ en_ ec_; (first | subst ea_ | (injection ea_ with ea_; subst ea_)); subst ec_; clear en_))
                    have GB15 := Aside0.mk gb15
                    have GG15 := Aside0.mk HG15
                    clear gb15 gl15 HG15
                    obtain ⟨hx15_0, hf15_0⟩ := Kd.R_celln 0 HO_3.out (x5_2 : Int) p15 q15
                    replace p15 := eq_true p15
                    replace q15 := eq_true q15
                    have HP17 := Kd.R_putg HO_3.out (x5_2 : Int) ((wrap64 ((wrap64 (192 + x5_2)) - (l0.length : Int))) % 256)
                    go_wp2_with (first | ((with_reducible refine gate_store (t := 5) (p := 39) rfl ?_); refine store_event (t := 5) (p := 39) (v := ?vo_w18) (w1 := (wr.setCell ⟨go15, (x5_2 : Int).toNat, none⟩ (.int .u8 ((wrap64 ((wrap64 (192 + x5_2)) - (l0.length : Int))) % 256)))) ?hg ?ho ?hn ?hr ?_; (case ho => rfl); (case hg => rfl); (case hn => rfl); (case hr => first | (go_simp; done) | (go_simp; rfl)); intro w18 hw; have hg : wr.grownBy w18 (some go15) := (by rw [hw]; exact HP17.2); have hp_ : Kd.R (Kd.int .u8) 5 w18 w.heap.size (fun _ => True) (.slice (some ⟨go15, 0, none⟩) x3_2.length co16) y106 := (by rw [hw, Ny106.out]; exact HP17.1); clear HP17; have n0_ := Aside0.mk (hp_); have n1_ := Aside0.mk ((by rw [hw]; exact below_set (HB.out) GB15.out : Below w.heap.size w w18)); clear HO_3; clear HB; have HO_3 := n0_; have HB := n1_; clear n0_ n1_; clear hg hw hp_))
                    go_roundg k2
                    case measure => have := HK1.out; have := HK2.out; omega
                    case rel => exact ⟨(y106), (wrap64 (x5_2 + 1)), (by first | rfl | (simp; done) | (simp [*]; done)), H', ⟨by have := HK1.out; have := HK2.out; omega⟩, ⟨by (with_reducible repeat (first | apply Kd.R_alloc | apply Kd.R_drewN | apply Kd.R_drew)); exact HO_3.out⟩, ⟨by repeat (first | (with_reducible first | exact HB.out | apply below_alloc | apply pw_below_drewN | apply below_drew1) | exact HB.out)⟩⟩
                  · rw [if_neg c14] at H
                    exact absurd H (by simp)
                · rw [if_neg c13] at H
                  have c13b0 : decide (x5_2 < (x3_2.length : Int)) = false := decide_eq_false c13
                  clear c13
                  obtain rfl := Option.some.inj H
                  obtain ⟨Ao19, co19, eo19⟩ := Kd.R_slice HO_3.out
                  subst eo19
                  go_wp2
                  go_ret
                  exact ⟨_, by first | rfl | (simp [errW_none, errW_some] <;> rfl) | (simp only [← hji2]; first | rfl | (simp [errW_none, errW_some] <;> rfl)) | (simp [*, errW_none, errW_some] <;> rfl), by (with_reducible repeat (first | apply Kd.R_alloc | apply Kd.R_drewN | apply Kd.R_drew)); exact HO_3.out, by repeat (first | (with_reducible first | exact HB.out | apply below_alloc | apply pw_below_drewN | apply below_drew1) | exact HB.out)⟩
    · rw [if_neg c4] at H
      exact absurd H (by simp)
  · rw [if_neg c3] at H
    exact absurd H (by simp)

def ledgerlaw01_whole.f (k : Nat) (l0 : List Int) (l1 : List Int) : Option (Bool) := (ledgerlaw01_lent.f k l1).bind fun t137 => ((ledgerlaw01_same.f k l0 t137).bind fun t140 => (some t140))
theorem ledgerlaw01_whole.mono : ∀ a0 a1 k, LeO (ledgerlaw01_whole.f k a0 a1) (ledgerlaw01_whole.f (k + 1) a0 a1) := by
  intro a0 a1 k
  unfold ledgerlaw01_whole.f
  repeat' first
      | (with_reducible exact ledgerlaw01_lent.mono _ _)
      | (with_reducible exact ledgerlaw01_same.mono _ _ _)
      | (with_reducible exact LeO.refl _)
      | (with_reducible exact LeO.none _)
      | (with_reducible refine LeO.ite ?_ ?_)
      | (with_reducible refine LeO.bind ?_ (fun _ => ?_))
      | exact ledgerlaw01_lent.mono _ _
      | exact ledgerlaw01_same.mono _ _ _
      | exact LeO.none _
      | refine LeO.ite ?_ ?_
      | refine LeO.bind ?_ (fun _ => ?_)
set_option maxHeartbeats 8000000 in
set_option maxRecDepth 100000 in
theorem ledgerlaw01_whole.calls (k : Nat) (A0 : Option Addr) (c0 : Nat) (l0 : List Int) (A1 : Option Addr) (c1 : Nat) (l1 : List Int) (r : Bool) (w : World) (hr0 : Kd.C (Kd.int .u8) w A0 l0.length l0) (hc0 : l0.length ≤ c0) (hr1 : Kd.C (Kd.int .u8) w A1 l1.length l1) (hc1 : l1.length ≤ c1) (h : ledgerlaw01_whole.f k l0 l1 = some r) :
    Calls Tryd.prog 27 #[.slice A0 l0.length c0, .slice A1 l1.length c1] w fun e w' => e = .returned (.bool r) ∧ Below w.heap.size w w' := by
  have HR0 := Aside0.mk hr0
  have HC0 := Aside0.mk hc0
  clear hr0 hc0
  have HR1 := Aside0.mk hr1
  have HC1 := Aside0.mk hc1
  clear hr1 hc1
  have HB := Aside0.mk (Below.refl w.heap.size w)
  have H : ((ledgerlaw01_lent.f k l1).bind fun t137 => ((ledgerlaw01_same.f k l0 t137).bind fun t140 => (some t140))) = some r := h
  clear h
  replace H := Option.bind_eq_some_iff.mp H
  obtain ⟨t137, A30, H⟩ := H
  replace H : ((ledgerlaw01_same.f k l0 t137).bind fun t140 => (some t140)) = some r := H
  have A3 := Aside0.mk A30
  clear A30
  replace H := Option.bind_eq_some_iff.mp H
  obtain ⟨t140, A40, H⟩ := H
  replace H : (some t140) = some r := H
  have A4 := Aside0.mk A40
  clear A40
  obtain rfl := Option.some.inj H
  go_enter Tryd.func27, Tryd.ntmps27
  go_wp2_with (first | ((with_reducible refine gate_callee (f := 22) rfl ?_); refine goesL_ (some 7) rfl rfl Tryd.func22 (by kernel_rfl) rfl #[.slice A1 l1.length c1] rfl (by (try simp only [List.map_toArray, List.map_cons, List.map_nil]); first | done | rfl | (simp only [List.length_drop, List.length_take]; rfl)) ?_; (with_reducible refine (ledgerlaw01_lent.calls k _ _ l1 t137 _ ?side1 ?side2 A3.out).mono ?_); (case side1 => repeat (first | exact HR1.out | (with_reducible refine Kd.C_alloc ?_ _) | (with_reducible refine Kd.C_drewN ?_ _) | (with_reducible refine Kd.C_drew ?_))); (case side2 => exact HC1.out); rintro e w5 ⟨v138, rfl, ho0, hb⟩; refine ⟨_, rfl, ?_⟩; have n0_ := Aside0.mk (Kd.R_lower ho0 (below_size (by repeat (first | (with_reducible first | exact HB.out | apply below_alloc | apply pw_below_drewN | apply below_drew1) | exact HB.out)))); have n1_ := Aside0.mk (below_step (by repeat (first | (with_reducible first | exact HB.out | apply below_alloc | apply pw_below_drewN | apply below_drew1) | exact HB.out)) hb); clear HB; have HO139 := n0_; have HB := n1_; clear n0_ n1_; (try clear hb); (try clear hb2); (try clear hk); (try clear hi); (try clear ho0); obtain ⟨Ao6, co6, eo6⟩ := Kd.R_slice HO139.out; subst eo6) | ((with_reducible refine gate_callee (f := 17) rfl ?_); refine goesL_ (some 8) rfl rfl Tryd.func17 (by kernel_rfl) rfl #[.slice A0 l0.length c0, .slice Ao6 t137.length co6] rfl (by (try simp only [List.map_toArray, List.map_cons, List.map_nil]); first | done | rfl | (simp only [List.length_drop, List.length_take]; rfl)) ?_; (with_reducible refine (ledgerlaw01_same.calls k _ _ l0 _ _ t137 t140 _ ?side1 ?side2 ?side3 ?side4 A4.out).mono ?_); (case side1 => repeat (first | exact (Kd.C_below HR0.out HB.out) | (with_reducible refine Kd.C_alloc ?_ _) | (with_reducible refine Kd.C_drewN ?_ _) | (with_reducible refine Kd.C_drew ?_))); (case side2 => exact HC0.out); (case side3 => repeat (first | exact (Kd.R_reads' HO139.out).2.2 | (with_reducible refine Kd.C_alloc ?_ _) | (with_reducible refine Kd.C_drewN ?_ _) | (with_reducible refine Kd.C_drew ?_))); (case side4 => exact (Kd.R_reads' HO139.out).2.1); rintro e w' ⟨rfl, ⟨nd, rfl⟩⟩; refine ⟨_, rfl, ?_⟩))
  go_ret
  exact ⟨by first | rfl | (simp [errW_none, errW_some] <;> rfl) | (simp [*, errW_none, errW_some] <;> rfl), by repeat (first | (with_reducible first | exact HB.out | apply below_alloc | apply pw_below_drewN | apply below_drew1) | exact HB.out)⟩

end Go.Proofs.YtjcfnflkiialbaaDoor.PShaConstants
namespace Go.Proofs.YtjcfnflkiialbaaDoor.Sha
open Go.RowKit Go.Proofs.YtjcfnflkiialbaaDoor.Mem Go.Proofs.YtjcfnflkiialbaaDoor.PShaConstants Go.Proofs.YtjcfnflkiialbaaDoorW.PrintWords Go.Proofs.YtjcfnflkiialbaaDoorW.PrintLast Go.Proofs.YtjcfnflkiialbaaDoorW.PrintMore
theorem bo_step (k : Nat) (X : Int) (ys : List Int) (j : Nat) (h0 : 0 ≤ X) (h1 : X < 18446744073709551616) (hj : j < ys.length) (hl : ys.length ≤ 1000) :
    ledgerref01_bytesOf.l0 (k + 1) X ys (j : Int) = ledgerref01_bytesOf.l0 k (X / 256) (ys.set j (X % 256)) ((j : Int) - 1) := by
  have e1 : IntKind.u64.wrap (Int.tdiv X 256) = X / 256 := by rw [Int.tdiv_eq_ediv_of_nonneg h0, wrap64u]; omega
  have e2 : Int.tmod X 256 % 256 = X % 256 := by rw [Int.tmod_eq_emod_of_nonneg h0]; omega
  have e3 : wrap64 ((j : Int) - 1) = (j : Int) - 1 := by unfold wrap64; omega
  rw [ledgerref01_bytesOf.l0, if_pos (by omega), if_pos (by omega), if_pos (by omega), e1, e2, e3, Int.toNat_natCast]
theorem bo_end (k : Nat) (X : Int) (ys : List Int) : ledgerref01_bytesOf.l0 (k + 1) X ys (-1) = some ys := by
  rw [ledgerref01_bytesOf.l0, if_neg (by omega)]
theorem bo4 (x : BitVec 32) : ledgerref01_bytesOf.f 5 (x.toNat : Int) 4 = some (layWord x 4) := by
  have hx := x.isLt
  have e : layWord x 4 = [(x.toNat : Int) / 16777216 % 256, (x.toNat : Int) / 65536 % 256, (x.toNat : Int) / 256 % 256, (x.toNat : Int) % 256] := by
    simp [layWord, List.range_succ, List.range_zero, BitVec.toNat_ushiftRight, Nat.shiftRight_eq_div_pow]
  rw [e]
  obtain ⟨X, hX⟩ : ∃ X : Int, X = (x.toNat : Int) := ⟨_, rfl⟩
  rw [← hX]
  have h0 : 0 ≤ X := by omega
  have h1 : X < 4294967296 := by omega
  clear hX e hx
  unfold ledgerref01_bytesOf.f
  rw [if_pos (by omega), if_pos (by decide), show List.replicate (4 : Int).toNat (0 : Int) = [0, 0, 0, 0] from rfl, show wrap64 (4 - 1) = ((3 : Nat) : Int) from by unfold wrap64; decide]
  refine (bo_step _ _ _ 3 h0 (by omega) (by simp) (by simp)).trans ?_
  refine (bo_step _ _ _ 2 (by omega) (by omega) (by simp) (by simp)).trans ?_
  refine (bo_step _ _ _ 1 (by omega) (by omega) (by simp) (by simp)).trans ?_
  refine (bo_step _ _ _ 0 (by omega) (by omega) (by simp) (by simp)).trans ?_
  refine (bo_end _ _ _).trans ?_
  simp only [List.set_cons_succ, List.set_cons_zero, Option.some.injEq, List.cons.injEq, and_true]
  omega
theorem bo8 (x : BitVec 64) : ledgerref01_bytesOf.f 9 (x.toNat : Int) 8 = some (layWord x 8) := by
  have hx := x.isLt
  have e : layWord x 8 = [(x.toNat : Int) / 72057594037927936 % 256, (x.toNat : Int) / 281474976710656 % 256, (x.toNat : Int) / 1099511627776 % 256, (x.toNat : Int) / 4294967296 % 256, (x.toNat : Int) / 16777216 % 256, (x.toNat : Int) / 65536 % 256, (x.toNat : Int) / 256 % 256, (x.toNat : Int) % 256] := by
    simp [layWord, List.range_succ, List.range_zero, BitVec.toNat_ushiftRight, Nat.shiftRight_eq_div_pow]
  rw [e]
  obtain ⟨X, hX⟩ : ∃ X : Int, X = (x.toNat : Int) := ⟨_, rfl⟩
  rw [← hX]
  have h0 : 0 ≤ X := by omega
  have h1 : X < 18446744073709551616 := by omega
  clear hX e hx
  unfold ledgerref01_bytesOf.f
  rw [if_pos (by omega), if_pos (by decide), show List.replicate (8 : Int).toNat (0 : Int) = [0, 0, 0, 0, 0, 0, 0, 0] from rfl, show wrap64 (8 - 1) = ((7 : Nat) : Int) from by unfold wrap64; decide]
  refine (bo_step _ _ _ 7 h0 (by omega) (by simp) (by simp)).trans ?_
  refine (bo_step _ _ _ 6 (by omega) (by omega) (by simp) (by simp)).trans ?_
  refine (bo_step _ _ _ 5 (by omega) (by omega) (by simp) (by simp)).trans ?_
  refine (bo_step _ _ _ 4 (by omega) (by omega) (by simp) (by simp)).trans ?_
  refine (bo_step _ _ _ 3 (by omega) (by omega) (by simp) (by simp)).trans ?_
  refine (bo_step _ _ _ 2 (by omega) (by omega) (by simp) (by simp)).trans ?_
  refine (bo_step _ _ _ 1 (by omega) (by omega) (by simp) (by simp)).trans ?_
  refine (bo_step _ _ _ 0 (by omega) (by omega) (by simp) (by simp)).trans ?_
  refine (bo_end _ _ _).trans ?_
  simp only [List.set_cons_succ, List.set_cons_zero, Option.some.injEq, List.cons.injEq, and_true]
  omega
theorem cubes_high : (List.range 64).all (fun i => (K512.getD i 0).toNat / 4294967296 == (K256.getD i 0).toNat) = true := by decide +kernel
theorem K256_len : K256.length = 64 := by decide +kernel
theorem K512_len : K512.length = 80 := by decide +kernel
theorem bo_calls4 (x : BitVec 32) (w : World) : Calls Tryd.prog 47 #[.int .u64 (x.toNat : Int), .int .i64 4] w fun e w' => ∃ A c, e = .returned (.slice A 4 c) ∧ Src w' (fun _ => False) A c (layWord x 4) ∧ Fr (fun _ => False) w w' := by
  refine (ledgerref01_bytesOf.calls 5 _ 4 _ w (bo4 x)).mono ?_
  rintro e w' ⟨v, rfl, hR, hB⟩
  obtain ⟨A, c, rfl, hs⟩ := Src.of_own (Kd.own_of_R hR) (fun _ => False) (fun _ _ h => h)
  exact ⟨A, c, by simp [layWord], hs, Fr.of_below hB _⟩
theorem bo_calls8 (x : BitVec 64) (w : World) : Calls Tryd.prog 47 #[.int .u64 (x.toNat : Int), .int .i64 8] w fun e w' => ∃ A c, e = .returned (.slice A 8 c) ∧ Src w' (fun _ => False) A c (layWord x 8) ∧ Fr (fun _ => False) w w' := by
  refine (ledgerref01_bytesOf.calls 9 _ 8 _ w (bo8 x)).mono ?_
  rintro e w' ⟨v, rfl, hR, hB⟩
  obtain ⟨A, c, rfl, hs⟩ := Src.of_own (Kd.own_of_R hR) (fun _ => False) (fun _ _ h => h)
  exact ⟨A, c, by simp [layWord], hs, Fr.of_below hB _⟩
theorem wide_calls1 (w : World) : Calls Tryd.prog 48 #[.int .i64 1] w fun e w' => e = .returned (.int .i64 4) ∧ Fr (fun _ => False) w w' :=
  (ledgerref01_wide.calls 1 4 w (by unfold ledgerref01_wide.f wrap64; decide)).mono fun e w' ⟨h1, h2⟩ => ⟨h1, Fr.of_below h2.below _⟩
theorem wide_calls2 (w : World) : Calls Tryd.prog 48 #[.int .i64 2] w fun e w' => e = .returned (.int .i64 8) ∧ Fr (fun _ => False) w w' :=
  (ledgerref01_wide.calls 2 8 w (by unfold ledgerref01_wide.f wrap64; decide)).mono fun e w' ⟨h1, h2⟩ => ⟨h1, Fr.of_below h2.below _⟩
theorem cl_snoc {w : Nat} (l : List (BitVec w)) (sz i : Nat) (h : i < l.length) : ((l.take i).flatMap fun x => layWord x sz) ++ layWord (l.getD i 0) sz = (l.take (i + 1)).flatMap fun x => layWord x sz := by
  rw [List.take_succ_eq_append_getElem h, List.flatMap_append]
  simp [h]
theorem cl_len {w : Nat} (sz : Nat) : ∀ l : List (BitVec w), (l.flatMap fun x => layWord x sz).length = l.length * sz
  | [] => by simp
  | x :: l => by rw [List.flatMap_cons, List.length_append, cl_len sz l, List.length_cons]; simp [layWord, Nat.add_mul]; omega
end Go.Proofs.YtjcfnflkiialbaaDoor.Sha
namespace Go.Proofs.YtjcfnflkiialbaaDoor.Sha
open Go.RowKit Go.Proofs.YtjcfnflkiialbaaDoor.Mem Go.Proofs.YtjcfnflkiialbaaDoor.PShaConstants Go.Proofs.YtjcfnflkiialbaaDoorW.PrintWords Go.Proofs.YtjcfnflkiialbaaDoorW.PrintLast Go.Proofs.YtjcfnflkiialbaaDoorW.PrintMore
theorem rot_add {w : Nat} (x : BitVec w) (n : Nat) (h : n ≤ w) : x >>> n + x <<< (w - n) = rot x n := by
  unfold rot
  apply BitVec.add_eq_or_of_and_eq_zero
  ext i hi
  simp only [BitVec.getElem_and, BitVec.getElem_ushiftRight, BitVec.getElem_shiftLeft, BitVec.getElem_zero, Bool.and_eq_false_imp]
  intro hx
  have : n + i < w := by
    rcases Nat.lt_or_ge (n + i) w with h | h
    · exact h
    · rw [BitVec.getLsbD_of_ge x _ h] at hx; cases hx
  rw [decide_eq_true (by omega)]
  intro h
  cases h
/-- the document's kind -/
def rk : Bool → Int
  | true => 2
  | false => 1
theorem rword32_calls (z : Nat) (w : World) : Calls Tryd.prog 79 #[.int .i64 1, .int .u64 (z : Int)] w fun e w' => e = .returned (.int .u64 ((z % 4294967296 : Nat) : Int)) ∧ Drawn0 w w' :=
  ledgerref01_word.calls 1 z _ w (by unfold ledgerref01_word.f; rw [if_pos rfl, Int.tmod_eq_emod_of_nonneg (by omega)]; congr 1)
theorem rword64_calls (z : Int) (w : World) : Calls Tryd.prog 79 #[.int .i64 2, .int .u64 z] w fun e w' => e = .returned (.int .u64 z) ∧ Drawn0 w w' :=
  ledgerref01_word.calls 2 z _ w (by unfold ledgerref01_word.f; rw [if_neg (by decide)])
theorem rturn64 (x : BitVec 64) (n : Nat) (h0 : 0 < n) (h : n < 64) : ledgerref01_turn.f 2 (x.toNat : Int) (n : Int) = some ((rot x n).toNat : Int) := by
  have hx := x.isLt
  have e0 : ledgerref01_wide.f 2 = some 8 := by unfold ledgerref01_wide.f wrap64; decide
  have e1 : IntKind.u64.wrap (IntKind.u64.wrap (wrap64 (8 * 8)) - (n : Int)) = ((64 - n : Nat) : Int) := by
    rw [show wrap64 (8 * 8) = 64 from by unfold wrap64; decide, wrap64u, wrap64u]; omega
  have es : shl .u64 (x.toNat : Int) ((64 - n : Nat) : Int) = ((x <<< (64 - n)).toNat : Int) := by
    rw [← shl64]
    unfold shl
    rw [Int.toNat_natCast, show min (64 - n) IntKind.u64.bits = 64 - n from Nat.min_eq_left (by show _ ≤ 64; omega)]
  have er : shr .u64 (x.toNat : Int) (n : Int) = ((x >>> n).toNat : Int) := by
    unfold shr
    rw [Int.toNat_natCast, show min n IntKind.u64.bits = n from Nat.min_eq_left (by show n ≤ 64; omega), shr_nat]
  unfold ledgerref01_turn.f
  rw [e0, Option.bind_some, if_pos (by omega), e1, if_pos (by omega), es, er, add64, rot_add x n (by omega)]
  unfold ledgerref01_word.f
  rw [if_neg (by decide), Option.bind_some]
theorem rturn32 (x : BitVec 32) (n : Nat) (h0 : 0 < n) (h : n < 32) : ledgerref01_turn.f 1 (x.toNat : Int) (n : Int) = some ((rot x n).toNat : Int) := by
  have hx := x.isLt
  have e0 : ledgerref01_wide.f 1 = some 4 := by unfold ledgerref01_wide.f wrap64; decide
  have e1 : IntKind.u64.wrap (IntKind.u64.wrap (wrap64 (8 * 4)) - (n : Int)) = ((32 - n : Nat) : Int) := by
    rw [show wrap64 (8 * 4) = 32 from by unfold wrap64; decide, wrap64u, wrap64u]; omega
  have hp : x.toNat * 2 ^ (32 - n) < 18446744073709551616 := by
    have h1 : 2 ^ (32 - n) ≤ 2 ^ 32 := Nat.pow_le_pow_right (by decide) (by omega)
    calc x.toNat * 2 ^ (32 - n) ≤ x.toNat * 2 ^ 32 := Nat.mul_le_mul_left _ h1
      _ < 2 ^ 32 * 2 ^ 32 := Nat.mul_lt_mul_of_pos_right hx (by decide)
      _ = 18446744073709551616 := by decide
  have es : shl .u64 (x.toNat : Int) ((32 - n : Nat) : Int) = ((x.toNat * 2 ^ (32 - n) : Nat) : Int) := by
    unfold shl
    rw [Int.toNat_natCast, show min (32 - n) IntKind.u64.bits = 32 - n from Nat.min_eq_left (by show _ ≤ 64; omega), show (x.toNat : Int) * 2 ^ (32 - n) = ((x.toNat * 2 ^ (32 - n) : Nat) : Int) from by push_cast; rfl]
    generalize x.toNat * 2 ^ (32 - n) = b at hp
    rw [wrap64u]
    omega
  have er : shr .u64 (x.toNat : Int) (n : Int) = ((x.toNat / 2 ^ n : Nat) : Int) := by
    unfold shr
    rw [Int.toNat_natCast, show min n IntKind.u64.bits = n from Nat.min_eq_left (by show n ≤ 64; omega)]
    push_cast
    rfl
  have hrot : (rot x n).toNat = (x.toNat / 2 ^ n + x.toNat * 2 ^ (32 - n)) % 4294967296 := by
    rw [← rot_add x n (by omega), BitVec.toNat_add, BitVec.toNat_ushiftRight, BitVec.toNat_shiftLeft, Nat.shiftRight_eq_div_pow, Nat.shiftLeft_eq]
    show (_ + _ % 4294967296) % 4294967296 = _
    omega
  have hd : x.toNat / 2 ^ n ≤ x.toNat := Nat.div_le_self _ _
  unfold ledgerref01_turn.f
  rw [e0, Option.bind_some, if_pos (by omega), e1, if_pos (by omega), es, er, hrot]
  generalize x.toNat / 2 ^ n = a at hd
  generalize hb : x.toNat * 2 ^ (32 - n) = b at hp
  clear hb hrot es er
  unfold ledgerref01_word.f
  rw [if_pos rfl, Option.bind_some, wrap64u, Int.tmod_eq_emod_of_nonneg (by omega)]
  congr 1
  omega
theorem rturn64_calls (x : BitVec 64) (n : Nat) (h0 : 0 < n) (h : n < 64) (w : World) : Calls Tryd.prog 80 #[.int .i64 2, .int .u64 (x.toNat : Int), .int .u64 (n : Int)] w fun e w' => e = .returned (.int .u64 ((rot x n).toNat : Int)) ∧ Drawn0 w w' :=
  ledgerref01_turn.calls 2 _ _ _ w (rturn64 x n h0 h)
theorem rturn32_calls (x : BitVec 32) (n : Nat) (h0 : 0 < n) (h : n < 32) (w : World) : Calls Tryd.prog 80 #[.int .i64 1, .int .u64 (x.toNat : Int), .int .u64 (n : Int)] w fun e w' => e = .returned (.int .u64 ((rot x n).toNat : Int)) ∧ Drawn0 w w' :=
  ledgerref01_turn.calls 1 _ _ _ w (rturn32 x n h0 h)
end Go.Proofs.YtjcfnflkiialbaaDoor.Sha
namespace Go.Proofs.YtjcfnflkiialbaaDoor.Sha
open Go.RowKit Go.Proofs.YtjcfnflkiialbaaDoor.Mem Go.Proofs.YtjcfnflkiialbaaDoorW.PrintWords
def rtInts : List Int := [0, 0, 0, 0, 0, 0, 0, 0, 0, 0, 0, 0, 2, 13, 22, 6, 11, 25, 7, 18, 3, 17, 19, 10, 28, 34, 39, 14, 18, 41, 1, 8, 7, 19, 61, 6]
def rtCells : List Value := rtInts.map (Value.int .u64)
/-- the document's tables -/
structure RLaid (w : World) : Prop where
  size : low ≤ w.heap.size
  squares : ∀ i, i < 8 → w.cell? ⟨6, i, none⟩ = some (.int .u64 ((start64.list.getD i 0).toNat : Int))
  cubes : ∀ i, i < 80 → w.cell? ⟨2, i, none⟩ = some (.int .u64 ((K512.getD i 0).toNat : Int))
  turns : ∀ i, i < 36 → w.cell? ⟨7, i, none⟩ = rtCells[i]?
theorem RLaid.fr {w w1 : World} (h : RLaid w) (hf : Fr (fun _ => False) w w1) : RLaid w1 := by
  have hb : ∀ k, k < low → w1.heap[k]? = w.heap[k]? := fun k hk => hf.block k (Nat.lt_of_lt_of_le hk h.size) (fun h => h)
  exact ⟨Nat.le_trans h.size hf.size, fun i hi => (World.cell?_of_block (hb (6 : Nat) (by decide))).trans (h.squares i hi),
    fun i hi => (World.cell?_of_block (hb (2 : Nat) (by decide))).trans (h.cubes i hi),
    fun i hi => (World.cell?_of_block (hb (7 : Nat) (by decide))).trans (h.turns i hi)⟩
theorem choice_or {w : Nat} (e f g : BitVec w) : e &&& f ||| ~~~e &&& g = e &&& f ^^^ ~~~e &&& g := by
  ext i hi
  simp only [BitVec.getElem_or, BitVec.getElem_and, BitVec.getElem_xor, BitVec.getElem_not]
  cases e[i] <;> cases f[i] <;> cases g[i] <;> rfl
theorem most_or {w : Nat} (a b c : BitVec w) : a &&& b ||| a &&& c ||| b &&& c = a &&& b ^^^ a &&& c ^^^ b &&& c := by
  ext i hi
  simp only [BitVec.getElem_or, BitVec.getElem_and, BitVec.getElem_xor]
  cases a[i] <;> cases b[i] <;> cases c[i] <;> rfl
theorem rt_range {w : World} (h : RLaid w) (o : Nat) (ho : o + 12 ≤ 36) : w.rangeAt 7 o ((rtCells.drop o).take 12) := fun j v hv => by
  have hj : j < 12 := by
    have := (List.getElem?_eq_some_iff.1 hv).1
    rw [List.length_take] at this
    omega
  rw [h.turns (o + j) (by omega), ← hv, List.getElem?_take_of_lt hj, List.getElem?_drop]
/-- where a whole row lies that is stored to, what is stored -/
def rowBlock : Value → Nat
  | .pointer (some ⟨b, _, _⟩) => b
  | _ => 0
def rowCells : Value → Array Value
  | .agg cs => cs
  | _ => #[]
def v8ok (v : Value) : Bool := match v with
  | .agg cs => cs.size == 8 && cs.all (fun v => v.oneCell')
  | _ => false
theorem wp_store_v8 (W : World) (a : Act) (K : Act → World → Prop) (Q : Exit → Act → World → Prop) (x y : Operand) (ty : TypeId) (pos : String) (af)
    (hx : rowOk W 65 (a.eval x) = true) (hy : v8ok (a.eval y) = true) :
    Oper.wp Tryd.prog { dst := none, op := .store 65 x y, type := ty, pos := pos, after := af, guard := none } a W K Q = K (a.put none undef) (W.setRow (rowBlock (a.eval x)) (rowCells (a.eval y))) := by
  obtain ⟨b, cs, hv, hb, hz⟩ : ∃ b cs, a.eval x = .pointer (some ⟨b, 0, none⟩) ∧ W.heap[b]? = some (.cells cs 65 (0, 0)) ∧ (Tryd.prog.info? 65).map (·.size) = some cs.size := by
    unfold rowOk at hx
    split at hx
    · rename_i b hv
      split at hx
      · rename_i cs t' fr hb
        simp only [Bool.and_eq_true, beq_iff_eq] at hx
        obtain ⟨⟨rfl, rfl⟩, h3⟩ := hx
        exact ⟨b, cs, hv, hb, h3⟩
      · cases hx
    · cases hx
  obtain ⟨ds, hd, h8, h1⟩ : ∃ ds, a.eval y = .agg ds ∧ ds.size = 8 ∧ ds.all (fun v => v.oneCell') = true := by
    unfold v8ok at hy
    split at hy
    · rename_i ds hd
      simp only [Bool.and_eq_true, beq_iff_eq] at hy
      exact ⟨ds, hd, hy.1, hy.2⟩
    · cases hy
  have hi : (Tryd.prog.info? 65).map (·.size) = some 8 := by kernel_rfl
  have h8' : cs.size = ds.size := by
    rw [hi] at hz
    have := Option.some.inj hz
    omega
  have hr := run_storeVar_row (P := Tryd.prog) W b 65 65 cs ds hb (by rw [hi, h8]) h8' h1
  unfold Oper.wp execOp
  simp only [hv, hd, Instr.storeAt, Instr.sureAddr, Sem.run_bind, Sem.run_pure, Result.andThen_ok, hr, rowBlock, rowCells]
  rfl
theorem v8ok_ints (a b c d e f g h : Int) : v8ok (.agg #[.int .u64 a, .int .u64 b, .int .u64 c, .int .u64 d, .int .u64 e, .int .u64 f, .int .u64 g, .int .u64 h]) = true := by
  show ((List.toArray [Value.int .u64 a, .int .u64 b, .int .u64 c, .int .u64 d, .int .u64 e, .int .u64 f, .int .u64 g, .int .u64 h]).size == 8 && (List.toArray [Value.int .u64 a, .int .u64 b, .int .u64 c, .int .u64 d, .int .u64 e, .int .u64 f, .int .u64 g, .int .u64 h]).all (fun v => v.oneCell')) = true
  rw [List.all_toArray]
  rfl
theorem rowOk_setRow (W : World) (T : TypeId) (b : Nat) (cs : Array Value) (h : rowOk W T (.pointer (some ⟨b, 0, none⟩)) = true) (hc : cs.size = 8) (hT : (Tryd.prog.info? T).map (·.size) = some 8) : rowOk (W.setRow b cs) T (.pointer (some ⟨b, 0, none⟩)) = true := by
  unfold rowOk at h
  split at h
  · rename_i b' hv
    simp only [Value.pointer.injEq, Option.some.injEq, Addr.mk.injEq] at hv
    obtain ⟨rfl, _⟩ := hv
    split at h
    · rename_i cs0 t' fr hb
      simp only [Bool.and_eq_true, beq_iff_eq] at h
      obtain ⟨⟨rfl, rfl⟩, h3⟩ := h
      have := setRow_heap W b cs0 cs t' (0, 0) hb
      simp only [rowOk, this]
      simp [hT, hc]
    · cases h
  · cases h
theorem rowOk_drewN (W : World) (t : TypeId) (v : Value) (n : Nat) : rowOk (W.drewN n) t v = rowOk W t v := rfl
theorem cell_setRow_ne (W : World) (g k i : Nat) (cs : Array Value) (v : Value) (h : W.cell? ⟨k, i, none⟩ = some v) (hne : k ≠ g) : (W.setRow g cs).cell? ⟨k, i, none⟩ = some v :=
  (World.cell?_of_block (setRow_other W g k cs hne)).trans h
attribute [local go_sem ↓] wp_store_v8
attribute [local go_sem] rowOk_drew rowOk_drewN rowBlock rowCells v8ok_ints
def v64 (v : Eight 64) : List Value := v.list.map u64
set_option maxHeartbeats 2000000 in
set_option maxRecDepth 100000 in
theorem rround64_calls (v : Eight 64) (k x : BitVec 64) (w : World) (hL : RLaid w) :
    Calls Tryd.prog 78 #[.int .i64 2, .agg (v64 v).toArray, .int .u64 (k.toNat : Int), .int .u64 (x.toNat : Int)] w fun e w' => e = .returned (.agg (v64 (round turns64 v k x)).toArray) ∧ Fr (fun _ => False) w w' := by
  obtain ⟨a, b, c, d, e, f, g, h⟩ := v
  have HL := Kp.mk hL
  clear hL
  simp only [v64, Eight.list, List.map_cons, List.map_nil, u64]
  go_enter Tryd.func78, Tryd.ntmps78
  go_upto_region 1 with (fail)
  obtain ⟨gv, hgv⟩ : ∃ gv, gv = w.heap.size := ⟨_, rfl⟩
  obtain ⟨gr, hgr⟩ : ∃ gr, gr = w.heap.size + 1 := ⟨_, rfl⟩
  rw [← hgr, ← hgv]
  obtain ⟨W2, hW2⟩ : ∃ W2, W2 = (w.alloc (.cells #[.int .u64 (a.toNat : Int), .int .u64 (b.toNat : Int), .int .u64 (c.toNat : Int), .int .u64 (d.toNat : Int), .int .u64 (e.toNat : Int), .int .u64 (f.toNat : Int), .int .u64 (g.toNat : Int), .int .u64 (h.toNat : Int)] 65)).alloc (.cells #[.int .u64 0, .int .u64 0, .int .u64 0, .int .u64 0, .int .u64 0, .int .u64 0, .int .u64 0, .int .u64 0] 65) := ⟨_, rfl⟩
  have HV : Kp (Blk W2 gv 65 [.int .u64 (a.toNat : Int), .int .u64 (b.toNat : Int), .int .u64 (c.toNat : Int), .int .u64 (d.toNat : Int), .int .u64 (e.toNat : Int), .int .u64 (f.toNat : Int), .int .u64 (g.toNat : Int), .int .u64 (h.toNat : Int)]) := ⟨by rw [hW2, hgv]; exact (Blk.new w _ _).alloc _⟩
  have HR : Kp (Blk W2 gr 65 [.int .u64 0, .int .u64 0, .int .u64 0, .int .u64 0, .int .u64 0, .int .u64 0, .int .u64 0, .int .u64 0]) := ⟨by rw [hW2, hgr]; exact Blk.new' _ _ _ (by simp)⟩
  have Hne : Kp (gv ≠ gr) := ⟨by rw [hgv, hgr]; omega⟩
  have Hgr : Kp (w.heap.size ≤ gr) := ⟨by rw [hgr]; omega⟩
  have HF : Kp (Fr (fun _ => False) w W2) := ⟨by rw [hW2]; exact ((Fr.refl _ w).alloc _).alloc _⟩
  rw [← hW2]
  clear hW2 hgv hgr
  have hrow : Kp ((W2.alloc (.cells #[.int .u64 0, .int .u64 0, .int .u64 0, .int .u64 0, .int .u64 0, .int .u64 0, .int .u64 0, .int .u64 0, .int .u64 0, .int .u64 0, .int .u64 0, .int .u64 0] 117)).heap[W2.heap.size]? = some (.cells #[.int .u64 0, .int .u64 0, .int .u64 0, .int .u64 0, .int .u64 0, .int .u64 0, .int .u64 0, .int .u64 0, .int .u64 0, .int .u64 0, .int .u64 0, .int .u64 0] 117 (0, 0))) := ⟨Blk.new W2 _ _⟩
  have hone : (#[.int .u64 28, .int .u64 34, .int .u64 39, .int .u64 14, .int .u64 18, .int .u64 41, .int .u64 1, .int .u64 8, .int .u64 7, .int .u64 19, .int .u64 61, .int .u64 6] : Array Value).all (fun v => v.oneCell') = true := by
    show (([.int .u64 28, .int .u64 34, .int .u64 39, .int .u64 14, .int .u64 18, .int .u64 41, .int .u64 1, .int .u64 8, .int .u64 7, .int .u64 19, .int .u64 61, .int .u64 6] : List Value).toArray).all (fun v => v.oneCell') = true
    rw [List.all_toArray]; rfl
  have hi12 : (Tryd.prog.info? 117).map (·.size) = some 12 := by kernel_rfl
  have hrg : Kp (W2.rangeAt 7 24 [.int .u64 28, .int .u64 34, .int .u64 39, .int .u64 14, .int .u64 18, .int .u64 41, .int .u64 1, .int .u64 8, .int .u64 7, .int .u64 19, .int .u64 61, .int .u64 6]) := ⟨rt_range (HL.out.fr HF.out) 24 (by decide)⟩
  go_wp2_with (first
    | refine wpList_load_mid rfl 117 _ rfl 7 24 rfl [.int .u64 28, .int .u64 34, .int .u64 39, .int .u64 14, .int .u64 18, .int .u64 41, .int .u64 1, .int .u64 8, .int .u64 7, .int .u64 19, .int .u64 61, .int .u64 6] _ hrg.out Tryd.underlying117 rfl hi12 ?_
    | refine wpList_store_row rfl 117 _ _ rfl W2.heap.size #[.int .u64 28, .int .u64 34, .int .u64 39, .int .u64 14, .int .u64 18, .int .u64 41, .int .u64 1, .int .u64 8, .int .u64 7, .int .u64 19, .int .u64 61, .int .u64 6] rfl rfl 117 #[.int .u64 0, .int .u64 0, .int .u64 0, .int .u64 0, .int .u64 0, .int .u64 0, .int .u64 0, .int .u64 0, .int .u64 0, .int .u64 0, .int .u64 0, .int .u64 0] (by exact hrow.out) hi12 rfl hone ?_)
  obtain ⟨gt, hgt⟩ : ∃ gt, gt = W2.heap.size := ⟨_, rfl⟩
  have HT3 : Kp (Blk ((W2.alloc (.cells #[.int .u64 0, .int .u64 0, .int .u64 0, .int .u64 0, .int .u64 0, .int .u64 0, .int .u64 0, .int .u64 0, .int .u64 0, .int .u64 0, .int .u64 0, .int .u64 0] 117)).setRow W2.heap.size #[.int .u64 28, .int .u64 34, .int .u64 39, .int .u64 14, .int .u64 18, .int .u64 41, .int .u64 1, .int .u64 8, .int .u64 7, .int .u64 19, .int .u64 61, .int .u64 6]) gt 117 [.int .u64 28, .int .u64 34, .int .u64 39, .int .u64 14, .int .u64 18, .int .u64 41, .int .u64 1, .int .u64 8, .int .u64 7, .int .u64 19, .int .u64 61, .int .u64 6]) := ⟨by rw [hgt]; exact blk_row W2 _ _ _⟩
  have HV3 := Kp.mk (blk_keep HV.out (Fr.refl (fun _ => False) W2) (fun h => h) (.cells #[.int .u64 0, .int .u64 0, .int .u64 0, .int .u64 0, .int .u64 0, .int .u64 0, .int .u64 0, .int .u64 0, .int .u64 0, .int .u64 0, .int .u64 0, .int .u64 0] 117) #[.int .u64 28, .int .u64 34, .int .u64 39, .int .u64 14, .int .u64 18, .int .u64 41, .int .u64 1, .int .u64 8, .int .u64 7, .int .u64 19, .int .u64 61, .int .u64 6])
  have HR3 := Kp.mk (blk_keep HR.out (Fr.refl (fun _ => False) W2) (fun h => h) (.cells #[.int .u64 0, .int .u64 0, .int .u64 0, .int .u64 0, .int .u64 0, .int .u64 0, .int .u64 0, .int .u64 0, .int .u64 0, .int .u64 0, .int .u64 0, .int .u64 0] 117) #[.int .u64 28, .int .u64 34, .int .u64 39, .int .u64 14, .int .u64 18, .int .u64 41, .int .u64 1, .int .u64 8, .int .u64 7, .int .u64 19, .int .u64 61, .int .u64 6])
  have HF3 := Kp.mk (fr_row HF.out (.cells #[.int .u64 0, .int .u64 0, .int .u64 0, .int .u64 0, .int .u64 0, .int .u64 0, .int .u64 0, .int .u64 0, .int .u64 0, .int .u64 0, .int .u64 0, .int .u64 0] 117) #[.int .u64 28, .int .u64 34, .int .u64 39, .int .u64 14, .int .u64 18, .int .u64 41, .int .u64 1, .int .u64 8, .int .u64 7, .int .u64 19, .int .u64 61, .int .u64 6])
  rw [← hgt] at HT3 HV3 HR3 HF3 ⊢
  generalize hW3 : World.setRow _ gt _ = W3 at HT3 HV3 HR3 HF3 ⊢
  clear hW3 hgt hrow hrg HV HR HF
  have cv0 := HV3.out.cell 0 _ rfl
  have cv1 := HV3.out.cell 1 _ rfl
  have cv2 := HV3.out.cell 2 _ rfl
  have cv3 := HV3.out.cell 3 _ rfl
  have cv4 := HV3.out.cell 4 _ rfl
  have cv5 := HV3.out.cell 5 _ rfl
  have cv6 := HV3.out.cell 6 _ rfl
  have cv7 := HV3.out.cell 7 _ rfl
  have ct0 := HT3.out.cell 0 _ rfl
  have ct1 := HT3.out.cell 1 _ rfl
  have ct2 := HT3.out.cell 2 _ rfl
  have ct3 := HT3.out.cell 3 _ rfl
  have ct4 := HT3.out.cell 4 _ rfl
  have ct5 := HT3.out.cell 5 _ rfl
  have ue14 : ∀ w, Calls Tryd.prog 80 #[.int .i64 2, .int .u64 (e.toNat : Int), .int .u64 14] w fun e' w' => e' = .returned (.int .u64 ((rot e 14).toNat : Int)) ∧ ∃ n, w' = w.drewN n := fun w => (rturn64_calls e 14 (by decide) (by decide) w).mono fun _ _ h => ⟨h.1, h.2.out⟩
  have ue18 : ∀ w, Calls Tryd.prog 80 #[.int .i64 2, .int .u64 (e.toNat : Int), .int .u64 18] w fun e' w' => e' = .returned (.int .u64 ((rot e 18).toNat : Int)) ∧ ∃ n, w' = w.drewN n := fun w => (rturn64_calls e 18 (by decide) (by decide) w).mono fun _ _ h => ⟨h.1, h.2.out⟩
  have ue41 : ∀ w, Calls Tryd.prog 80 #[.int .i64 2, .int .u64 (e.toNat : Int), .int .u64 41] w fun e' w' => e' = .returned (.int .u64 ((rot e 41).toNat : Int)) ∧ ∃ n, w' = w.drewN n := fun w => (rturn64_calls e 41 (by decide) (by decide) w).mono fun _ _ h => ⟨h.1, h.2.out⟩
  have ua28 : ∀ w, Calls Tryd.prog 80 #[.int .i64 2, .int .u64 (a.toNat : Int), .int .u64 28] w fun e' w' => e' = .returned (.int .u64 ((rot a 28).toNat : Int)) ∧ ∃ n, w' = w.drewN n := fun w => (rturn64_calls a 28 (by decide) (by decide) w).mono fun _ _ h => ⟨h.1, h.2.out⟩
  have ua34 : ∀ w, Calls Tryd.prog 80 #[.int .i64 2, .int .u64 (a.toNat : Int), .int .u64 34] w fun e' w' => e' = .returned (.int .u64 ((rot a 34).toNat : Int)) ∧ ∃ n, w' = w.drewN n := fun w => (rturn64_calls a 34 (by decide) (by decide) w).mono fun _ _ h => ⟨h.1, h.2.out⟩
  have ua39 : ∀ w, Calls Tryd.prog 80 #[.int .i64 2, .int .u64 (a.toNat : Int), .int .u64 39] w fun e' w' => e' = .returned (.int .u64 ((rot a 39).toNat : Int)) ∧ ∃ n, w' = w.drewN n := fun w => (rturn64_calls a 39 (by decide) (by decide) w).mono fun _ _ h => ⟨h.1, h.2.out⟩
  go_upto_region 2 with (fail)
  go_quiet (first
    | (go_at_call_of 80 (Value.int IntKind.u64 14); exact Calls.quiet_of (ue14 _))
    | (go_at_call_of 80 (Value.int IntKind.u64 18); exact Calls.quiet_of (ue18 _))
    | (go_at_call_of 80 (Value.int IntKind.u64 41); exact Calls.quiet_of (ue41 _)))
  go_upto_region 5 with (fail)
  have HV4 := Kp.mk (HV3.out.drewN nq)
  have HT4 := Kp.mk (HT3.out.drewN nq)
  have HR4 := Kp.mk (HR3.out.drewN nq)
  have HF4 := Kp.mk (HF3.out.drewN nq)
  generalize World.drewN W3 nq = W4 at HV4 HT4 HR4 HF4 ⊢
  clear cv0 cv1 cv2 cv3 cv4 cv5 cv6 cv7 ct0 ct1 ct2 ct3 ct4 ct5 HV3 HT3 HR3 HF3 ue14 ue18 ue41
  have cv0 := HV4.out.cell 0 _ rfl
  have cv1 := HV4.out.cell 1 _ rfl
  have cv2 := HV4.out.cell 2 _ rfl
  have cv3 := HV4.out.cell 3 _ rfl
  have cv4 := HV4.out.cell 4 _ rfl
  have cv5 := HV4.out.cell 5 _ rfl
  have cv6 := HV4.out.cell 6 _ rfl
  have cv7 := HV4.out.cell 7 _ rfl
  have ct0 := HT4.out.cell 0 _ rfl
  have ct1 := HT4.out.cell 1 _ rfl
  have ct2 := HT4.out.cell 2 _ rfl
  go_quiet (first
    | (go_at_call_of 80 (Value.int IntKind.u64 28); exact Calls.quiet_of (ua28 _))
    | (go_at_call_of 80 (Value.int IntKind.u64 34); exact Calls.quiet_of (ua34 _))
    | (go_at_call_of 80 (Value.int IntKind.u64 39); exact Calls.quiet_of (ua39 _)))
  go_upto_region 7 with (fail)
  have HV5 := Kp.mk (HV4.out.drewN nq)
  have HR5 := Kp.mk (HR4.out.drewN nq)
  have HF5 := Kp.mk (HF4.out.drewN nq)
  generalize World.drewN W4 nq = W5 at HV5 HR5 HF5 ⊢
  clear cv0 cv1 cv2 cv3 cv4 cv5 cv6 cv7 ct0 ct1 ct2 HV4 HT4 HR4 HF4 ua28 ua34 ua39
  have cv0 := HV5.out.cell 0 _ rfl
  have cv1 := HV5.out.cell 1 _ rfl
  have cv2 := HV5.out.cell 2 _ rfl
  have cv3 := HV5.out.cell 3 _ rfl
  have cv4 := HV5.out.cell 4 _ rfl
  have cv5 := HV5.out.cell 5 _ rfl
  have cv6 := HV5.out.cell 6 _ rfl
  have cv7 := HV5.out.cell 7 _ rfl
  have hRO := rowOk_blk HR5.out (by kernel_rfl)
  have hne : gv ≠ gr := Hne.out
  go_region_held3 (fun w' => w'.cell? ⟨gv, 0, none⟩ = some (.int .u64 (a.toNat : Int)) ∧ w'.cell? ⟨gv, 1, none⟩ = some (.int .u64 (b.toNat : Int)) ∧ w'.cell? ⟨gv, 2, none⟩ = some (.int .u64 (c.toNat : Int)) ∧ w'.cell? ⟨gv, 3, none⟩ = some (.int .u64 (d.toNat : Int)) ∧ w'.cell? ⟨gv, 4, none⟩ = some (.int .u64 (e.toNat : Int)) ∧ w'.cell? ⟨gv, 5, none⟩ = some (.int .u64 (f.toNat : Int)) ∧ w'.cell? ⟨gv, 6, none⟩ = some (.int .u64 (g.toNat : Int)) ∧ rowOk w' 65 (.pointer (some ⟨gr, 0, none⟩)) = true) (refine ⟨?_, ?_, ?_, ?_, ?_, ?_, ?_, ?_⟩ <;> first | go_keep | (go_split_ands; first | assumption | (refine cell_setRow_ne _ _ _ _ _ _ ?_ hne; assumption) | (refine rowOk_setRow _ _ _ _ ?_ rfl (by kernel_rfl); assumption))) (first | (go_at_call 79; (refine (rword64_calls _ _).mono ?_); rintro e' w' ⟨rfl, hd⟩; obtain ⟨n, rfl⟩ := hd.out))
  have hnot : bits .xor .u64 IntKind.u64.max (e.toNat : Int) = ((~~~e).toNat : Int) := by
    have h1 : IntKind.u64.max = ((BitVec.allOnes 64).toNat : Int) := by decide
    rw [h1, xor64, BitVec.allOnes_xor]
  have hi8 : (Tryd.prog.info? 65).map (·.size) = some 8 := by kernel_rfl
  simp only [hnot, and64, or64, xor64, add64]
  go_wp2
  refine bodyPost_ret (results_cell_row rfl _ _ gr 65 _ (0, 0) _ rfl (setRow_heap _ gr _ _ _ _ (HR5.out.drewN _)) Tryd.underlying65 rfl hi8) rfl ?_
  refine ⟨?_, ?_⟩
  · simp only [round, choice_or, most_or, BitVec.add_assoc, great0, great1, turns64]
  · exact (HF5.out.drewN _).trans (S' := fun k => k = gr) ⟨rfl, rfl, rfl, by simp [World.setRow], fun k _ hk => setRow_other _ _ k _ hk⟩ (fun k hk he => by have := Hgr.out; omega)
end Go.Proofs.YtjcfnflkiialbaaDoor.Sha
namespace Go.Proofs.YtjcfnflkiialbaaDoor.Sha
open Go.RowKit Go.Proofs.YtjcfnflkiialbaaDoor.Mem Go.Proofs.YtjcfnflkiialbaaDoor.PShaConstants Go.Proofs.YtjcfnflkiialbaaDoorW.PrintWords Go.Proofs.YtjcfnflkiialbaaDoorW.PrintLast Go.Proofs.YtjcfnflkiialbaaDoorW.PrintMore
theorem pow256 (i : Nat) (h : i < 8) : 256 ^ i * 256 ≤ 18446744073709551616 := by
  rcases (show i = 0 ∨ i = 1 ∨ i = 2 ∨ i = 3 ∨ i = 4 ∨ i = 5 ∨ i = 6 ∨ i = 7 by omega) with rfl | rfl | rfl | rfl | rfl | rfl | rfl | rfl <;> decide
theorem number_wrap (a q : Nat) (b : Int) (hn : a < q) (hp : q * 256 ≤ 18446744073709551616) (h0 : 0 ≤ b) (h1 : b < 256) :
    IntKind.u64.wrap (IntKind.u64.wrap ((a : Int) * 256) + IntKind.u64.wrap b) = ((a * 256 + b.toNat : Nat) : Int) := by
  rw [wrap64u, wrap64u, wrap64u]
  omega
theorem num_take (l : List Int) (i : Nat) (hlt : i < l.length) : num (l.take (i + 1)) = num (l.take i) * 256 + (l.getD i 0).toNat := by
  rw [List.take_succ_eq_append_getElem hlt, num_snoc]
  simp [hlt]
theorem number_step (l : List Int) (hb : Bs l) (hl : l.length ≤ 8) (k i : Nat) (hlt : i < l.length) :
    ledgerref01_number.l0 (k + 1) l (num (l.take i) : Int) (i : Int) = ledgerref01_number.l0 k l (num (l.take (i + 1)) : Int) ((i + 1 : Nat) : Int) := by
  have hg := hb.get i
  have hn := num_lt (l.take i) (hb.take i)
  rw [List.length_take, Nat.min_eq_left (Nat.le_of_lt hlt)] at hn
  have hp := pow256 i (Nat.lt_of_lt_of_le hlt hl)
  have hrd : rd l (i : Int) = l.getD i 0 := by simp [rd]
  have e := number_wrap _ _ _ hn hp hg.1 hg.2
  have e2 : wrap64 ((i : Int) + 1) = ((i + 1 : Nat) : Int) := by unfold wrap64; omega
  clear hn hp
  rw [ledgerref01_number.l0, if_pos (by omega), if_pos (by omega), hrd, e, e2, num_take l i hlt]
theorem number_l0 (l : List Int) (hb : Bs l) (hl : l.length ≤ 8) : ∀ n i : Nat, i + n = l.length → ledgerref01_number.l0 (n + 1) l (num (l.take i) : Int) (i : Int) = some (num l : Int)
  | 0, i, h => by
    rw [ledgerref01_number.l0, if_neg (by omega), List.take_of_length_le (by omega)]
  | n + 1, i, h => by
    rw [number_step l hb hl (n + 1) i (by omega)]
    exact number_l0 l hb hl n (i + 1) (by omega)
theorem number_calls (A : Option Addr) (c : Nat) (l : List Int) (hb : Bs l) (hl : l.length ≤ 8) (w : World) {S : Nat → Prop} (hX : Src w S A c l) :
    Calls Tryd.prog 76 #[.slice A l.length c] w fun e w' => e = .returned (.int .u64 (num l : Int)) ∧ Drawn0 w w' :=
  ledgerref01_number.calls (l.length + 1) A c l _ w (C_of_src hX (by omega)) hX.1 (number_l0 l hb hl l.length 0 (by omega))
theorem block_calls1 (w : World) : Calls Tryd.prog 72 #[.int .i64 1] w fun e w' => e = .returned (.int .i64 64) ∧ Drawn0 w w' :=
  ledgerref01_Block.calls 1 64 w (by unfold ledgerref01_Block.f wrap64; decide)
theorem block_calls2 (w : World) : Calls Tryd.prog 72 #[.int .i64 2] w fun e w' => e = .returned (.int .i64 128) ∧ Drawn0 w w' :=
  ledgerref01_Block.calls 2 128 w (by unfold ledgerref01_Block.f wrap64; decide)
/-- one more word behind a list of words of the call's own -/
theorem run_append_W (w : World) (v : Value) (n : Nat) (xs : List Value) (hown : OwnL w 58 1 v n xs) (g : Nat) (x : Int) (hg : w.cell? ⟨g, 0, none⟩ = some (.int .u64 x)) (hn : n ≤ 1000000) :
    ∃ v' w', (Builtin.append_ #[81, 81] 81 #[v, .slice (some ⟨g, 0, none⟩) 1 1]).run Tryd.prog w = .ok v' w' ∧ OwnL w' 58 1 v' (n + 1) (xs ++ [.int .u64 x]) ∧ OwnL w' 58 1 v n xs ∧ w.grownBy w' v.ownBlock ∧
      (v'.ownBlock = v.ownBlock ∨ v'.ownBlock = some w.heap.size) ∧ ∃ A c', v' = .slice A (n + 1) c' :=
  run_append_ownl w 81 81 58 (.int .u64 0) 1 8 Tryd.underlying81 (by kernel_rfl) rfl v n xs hown ⟨g, 0, none⟩ 1 1 [.int .u64 x] rfl
    (fun j u hu => by
      match j, hu with
      | 0, hu => obtain rfl : Value.int .u64 x = u := Option.some.inj hu; rw [Addr.add_zero']; exact hg
      | j + 1, hu => simp at hu)
    (fun u hu => by obtain rfl := List.mem_singleton.1 hu; rfl) (by omega) (by simp only [maxLen]; omega) (by omega)
theorem wpList_append_W {ops : Array Oper} {rest : List Oper} {o : Oper} {a : Act} {w : World} {Q : Exit → Act → World → Prop} (hgd : o.guard = none) (s x : Operand)
    (ho : o.op = .call { callee := .builtin .append, args := #[s, x], argTypes := #[81, 81] }) (hty : o.type = 81) (v : Value) (n : Nat) (xs : List Value) (hs : a.eval s = v) (hown : OwnL w 58 1 v n xs)
    (g : Nat) (y : Int) (hx : a.eval x = .slice (some ⟨g, 0, none⟩) 1 1) (hg : w.cell? ⟨g, 0, none⟩ = some (.int .u64 y)) (hn : n ≤ 1000000)
    (h : ∀ v' w', OwnL w' 58 1 v' (n + 1) (xs ++ [.int .u64 y]) → OwnL w' 58 1 v n xs → w.grownBy w' v.ownBlock → (v'.ownBlock = v.ownBlock ∨ v'.ownBlock = some w.heap.size) → (∃ A c', v' = .slice A (n + 1) c') → wpList Tryd.prog ops Q rest (a.put o.dst v') w') :
    wpList Tryd.prog ops Q (o :: rest) a w := by
  obtain ⟨v', w', hr', h2, h3, h4, h5, h6⟩ := run_append_W w v n xs hown g y hg hn
  refine wpList_plain hgd fun _ hK => ?_
  unfold Oper.wp execOp
  simp only [ho, resolve, invoke, builtin, Sem.run_bind, Sem.run_pure, Result.andThen_ok, List.map_toArray, List.map_cons, List.map_nil, hs, hx, hty, hr']
  exact hK _ _ (h v' w' h2 h3 h4 h5 h6)
theorem step_append_W {ops : Array Oper} {o : Oper} {a : Act} {w : World} {K : Act → World → Prop} {Q : Exit → Act → World → Prop} {E : Prop} (hgd : o.guard = none) (s x : Operand)
    (ho : o.op = .call { callee := .builtin .append, args := #[s, x], argTypes := #[81, 81] }) (hty : o.type = 81) (v : Value) (n : Nat) (xs : List Value) (hs : a.eval s = v) (hown : OwnL w 58 1 v n xs)
    (g : Nat) (y : Int) (hx : a.eval x = .slice (some ⟨g, 0, none⟩) 1 1) (hg : w.cell? ⟨g, 0, none⟩ = some (.int .u64 y)) (hn : n ≤ 1000000)
    (h : ∀ v' w', OwnL w' 58 1 v' (n + 1) (xs ++ [.int .u64 y]) → OwnL w' 58 1 v n xs → w.grownBy w' v.ownBlock → (v'.ownBlock = v.ownBlock ∨ v'.ownBlock = some w.heap.size) → (∃ A c', v' = .slice A (n + 1) c') → K (a.put o.dst v') w') :
    if Region.wanted o (yielded ops a.tmps) = true then Oper.wp Tryd.prog o a w K Q else E := by
  have hw : Region.wanted o (yielded ops a.tmps) = true := by simp [Region.wanted, hgd]
  rw [if_pos hw]
  obtain ⟨v', w', hr', h2, h3, h4, h5, h6⟩ := run_append_W w v n xs hown g y hg hn
  unfold Oper.wp execOp
  simp only [ho, resolve, invoke, builtin, Sem.run_bind, Sem.run_pure, Result.andThen_ok, List.map_toArray, List.map_cons, List.map_nil, hs, hx, hty, hr']
  exact h v' w' h2 h3 h4 h5 h6
end Go.Proofs.YtjcfnflkiialbaaDoor.Sha
