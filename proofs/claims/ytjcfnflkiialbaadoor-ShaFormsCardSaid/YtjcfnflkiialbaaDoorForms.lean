/-
  The walk of ShaForms.
-/
import Derived.Test.YtjcfnflkiialbaaDoorLd
import Derived.Test.YtjcfnflkiialbaaDoorFormed
import Derived.Deep.DeepCutAuto
import Derived.Deep.CutBlock
import Derived.Deep.RegionWith
namespace Go.Proofs.YtjcfnflkiialbaaDoor.Sha
open Go.RowKit Go.Proofs.YtjcfnflkiialbaaDoor.Mem Go.Proofs.YtjcfnflkiialbaaDoorW.PrintWords
/-- Load's two answers -/
def LdRes (w' : World) (t : List Int) (p : Value) (n : Int) : Prop :=
  (∃ B, LoadOk B t ∧ ∃ b rv, p = .pointer (some ⟨b, 0, none⟩) ∧ n = 0 ∧ Dg w' b rv (loadSt B t)) ∨ ((∀ B, ¬ LoadOk B t) ∧ p = .pointer none ∧ n = 11)
theorem ldres_fr {w w' : World} {t : List Int} {p : Value} {n : Int} (h : LdRes w t p n) (hf : Fr (fun _ => False) w w') : LdRes w' t p n := by
  rcases h with ⟨B, h1, b, rv, h2, h3, h4⟩ | h
  · exact .inl ⟨B, h1, b, rv, h2, h3, dg_fr h4 hf (fun _ _ h => h)⟩
  · exact .inr h
theorem ldres_calls (A : Option Addr) (c : Nat) (t : List Int) (hm : t.length ≤ 140737488351232) (w : World) (hL : Laid w) {S : Nat → Prop} (hX : Src w S A c t) :
    Calls Tryd.prog 39 #[.slice A t.length c] w fun e w' => ∃ p n, e = .returned (.tuple #[p, .int .i64 n]) ∧ LdRes w' t p n ∧ Fr (fun _ => False) w w' := by
  refine (ld_calls A c t hm w hL hX).mono ?_
  rintro e w' (⟨B, h, b, rv, rfl, _, hD, hB⟩ | ⟨h, rfl, hB⟩)
  · exact ⟨_, _, rfl, .inl ⟨B, h, b, rv, rfl, rfl, hD⟩, Fr.of_below hB _⟩
  · exact ⟨_, _, rfl, .inr ⟨h, rfl, rfl⟩, Fr.of_below hB _⟩
theorem save_new_len (B : Bool) : (St.new B).save.length = 9 + out B := by
  have h1 := words_length B (start B)
  have h2 := be8_length 0
  show (((kind B / 256 : Nat) : Int) :: be8 0 ++ words B (start B) ++ []).length = _
  rw [List.append_nil, List.cons_append, List.length_cons, List.length_append, h1, h2]
  omega
theorem save_new_drop (B : Bool) : (St.new B).save.drop 9 = words B (start B) := by
  have h2 : (((kind B / 256 : Nat) : Int) :: be8 0).length = 9 := by rw [List.length_cons, be8_length]
  show (((kind B / 256 : Nat) : Int) :: be8 0 ++ words B (start B) ++ []).drop 9 = _
  rw [List.append_nil, List.drop_append_of_le_length (by rw [h2]; exact Nat.le_refl _), List.drop_eq_nil_of_le (by rw [h2]; exact Nat.le_refl _)]
  rfl
set_option maxHeartbeats 2000000 in
set_option maxRecDepth 100000 in
theorem forms_calls (A : Option Addr) (c : Nat) (t : List Int) (w : World) (hL : Laid w) (hX : Src w (fun _ => False) A c t) (hm : t.length ≤ 140737488351232) (hb : Bs t) :
    Calls Tryd.prog 11 #[.slice A t.length c] w fun e w' => e = .returned (.bool true) ∧ Below w.heap.size w w' := by
  have HL := Kp.mk hL
  have HX := Kp.mk hX
  have HB := Kp.mk hb
  have hc := hX.1
  clear hL hX hb
  go_enter Tryd.func11, Tryd.ntmps11
  go_wp2_with fail
  refine (abc_calls w HL.out).mono ?_
  rintro e w1 ⟨rfl, B1⟩
  have F1 : Kp (Fr (fun _ => False) w w1) := ⟨Fr.of_below B1 _⟩
  clear B1
  go_wp2_with fail
  refine (ldres_calls A c t hm w1 (HL.out.fr F1.out (fun _ h => h.elim)) (HX.out.fr F1.out)).mono ?_
  rintro e w2 ⟨p, n, rfl, hR, hf⟩
  have HR := Kp.mk hR
  have F2 := Kp.mk (F1.out.trans hf (fun _ _ h => h))
  clear hR hf F1
  go_wp2_with fail
  refine (formed_calls A c t hm HB.out w2 (HX.out.fr F2.out)).mono ?_
  rintro e w3 ⟨r, rfl, hr, hf⟩
  have HR3 := Kp.mk (ldres_fr HR.out hf)
  have F3 := Kp.mk (F2.out.trans hf (fun _ _ h => h))
  have Hr := Kp.mk hr
  clear hr hf F2 HR
  have hnum := num_calls n
  cases r
  · have hno : ∀ B, ¬ LoadOk B t := fun B h => by
      have := Hr.out.2 ((loadOk_iff HB.out h.tag).1 h).1
      cases this
    obtain ⟨rfl, rfl⟩ : p = .pointer none ∧ n = 11 := by
      rcases HR3.out with ⟨B, h, _⟩ | ⟨_, h1, h2⟩
      · exact absurd h (hno B)
      · exact ⟨h1, h2⟩
    clear hno
    go_wp2_with (first | (go_at_call 16; (with_reducible refine (hnum _).mono ?_); rintro e w' ⟨rfl, rfl⟩))
    go_ret
    exact ⟨rfl, F3.out.below (fun _ _ h => h)⟩
  · have hFP : FormedP t := Hr.out.1 rfl
    obtain ⟨B, hB⟩ : ∃ B, t.getD 0 0 = tag B := by
      rcases hFP.2.1 with h | h
      · exact ⟨false, h⟩
      · exact ⟨true, h⟩
    have HT := Kp.mk hB
    have hl9 : 9 ≤ t.length := hFP.1
    have hll : 9 + out B ≤ t.length := by
      have h1 := hFP.2.2.2
      have h2 : 0 ≤ (t.getD 7 0 * 256 + t.getD 8 0) % (64 * t.getD 0 0) := Int.emod_nonneg _ (by rw [hB]; cases B <;> simp [tag])
      rw [hB] at h1 h2
      cases B
      · simp only [tag, out] at *; omega
      · simp only [tag, out] at *; omega
    have HIff := Kp.mk (loadOk_iff HB.out hB)
    have HF := Kp.mk hFP
    clear hFP hB
    go_wp2_with fail
    refine (early_calls A c t hl9 HF.out.2.1 HB.out w3 (HX.out.fr F3.out)).mono ?_
    rintro e w4 ⟨r2, rfl, hr2, hf⟩
    have HR4 := Kp.mk (ldres_fr HR3.out hf)
    have F4 := Kp.mk (F3.out.trans hf (fun _ _ h => h))
    have Hr2 := Kp.mk hr2
    clear hr2 hf F3 HR3
    go_upto_if 23 with (fail)
    go_cut [5] (fun s5 wx => ∃ g : Bool, s5 = .bool g ∧ Kp (g = true ↔ LoadOk B t) ∧ Kp (Fr (fun _ => False) w wx) ∧ Kp (LdRes wx t p n))
    case first =>
      cases r2
      · go_wp2
        go_meet
        case rel => exact ⟨true, rfl, ⟨⟨fun _ => HIff.out.2 ⟨HF.out, fun h => by have := Hr2.out.2 h; cases this⟩, fun _ => rfl⟩⟩, F4, HR4⟩
      · have hE : EarlyP t := Hr2.out.1 rfl
        have HG := Kp.mk (show decide (words B (start B) = (t.drop 9).take (out B)) = true ↔ LoadOk B t by
          rw [decide_eq_true_iff, HIff.out]
          exact ⟨fun h => ⟨HF.out, fun _ => (start_iff HB.out hll).2 h.symm⟩, fun h => ((start_iff HB.out hll).1 (h.2 hE)).symm⟩)
        obtain ⟨bs, os, rfl, hRd⟩ : ∃ bs os, A = some ⟨bs, os, none⟩ ∧ Reads w bs os t := by
          rcases HX.out.2 with ⟨_, _, h⟩ | ⟨h, _⟩ | ⟨bs, os, rfl, h, _⟩
          · rw [h] at hl9; simp at hl9
          · rw [h] at hl9; simp at hl9
          · exact ⟨bs, os, rfl, h⟩
        have hc0 := (hRd.fr F4.out (fun h => h)).2 0 (by omega)
        rw [Nat.add_zero, HT.out] at hc0
        have HRd := Kp.mk hRd
        have h0 := num_calls 0
        clear hE hRd hnum
        cases B
        case false =>
          simp only [tag] at hc0
          simp only [out] at hll
          go_wp2_with fail
          refine (new_calls false w4 (HL.out.fr F4.out (fun _ h => h.elim))).mono ?_
          rintro e w5 ⟨b, rfl, hb, hD, hBl⟩
          have F5 := Kp.mk (F4.out.then_below hBl)
          have HR5 := Kp.mk (ldres_fr HR4.out (Fr.of_below hBl _))
          have HD := Kp.mk hD
          have hc5 := (HRd.out.fr F5.out (fun h => h)).2 0 (by omega)
          rw [Nat.add_zero, HT.out] at hc5
          simp only [tag] at hc5
          clear hb hD hBl hc0
          go_wp2_with (first | (go_at_call 16; (with_reducible refine (h0 _).mono ?_); rintro e w' ⟨rfl, rfl⟩))
          refine (saveL_calls (St.new false) (new_ok false) b (.slice none 0 0) w' HD.out).mono ?_
          rintro e w6 ⟨g, m, rfl, _, hm', _, _, hS, hBl⟩
          obtain rfl : m = 41 := hm'.trans (save_new_len false)
          have F6 := Kp.mk (F5.out.then_below hBl)
          have HR6 := Kp.mk (ldres_fr HR5.out (Fr.of_below hBl _))
          have hcn : (41 : Int) ≤ (c : Int) := by omega
          have hc9 : ¬ c = 9 := by omega
          obtain ⟨sx, hsx⟩ : ∃ sx, sx = words false (start false) := ⟨_, rfl⟩
          have hsl : sx.length = 32 := by rw [hsx]; exact words_length false (start false)
          have hS9 : Src w6 (fun _ => False) (some ⟨g, 9, none⟩) 32 sx := by
            rcases hS.2 with ⟨h, _⟩ | ⟨h, _⟩ | ⟨bs', os', h, h2, _⟩
            · cases h
            · have := congrArg List.length h; rw [save_new_len] at this; simp [out] at this
            · simp only [Option.some.injEq, Addr.mk.injEq] at h
              obtain ⟨rfl, rfl, _⟩ := h
              have h3 := h2.drop 9
              rw [save_new_drop, ← hsx] at h3
              exact ⟨by rw [hsl]; exact Nat.le_refl _, .inr (.inr ⟨_, _, rfl, h3, fun h => h⟩)⟩
          have hty : ((t.drop 9).take 32).length = 32 := by rw [List.length_take, List.length_drop]; omega
          have hT9 : Src w6 (fun _ => False) (some ⟨bs, os + 9, none⟩) (c - 9) ((t.drop 9).take 32) :=
            ⟨by rw [hty]; omega, .inr (.inr ⟨_, _, rfl, ((HRd.out.fr F6.out (fun h => h)).drop 9).take 32, fun h => h⟩)⟩
          have HSM : Kp (∀ W, Fr (fun _ => False) w6 W → Calls Tryd.prog 17 #[.slice (some ⟨g, 9, none⟩) 32 32, .slice (some ⟨bs, os + 9, none⟩) 32 (c - 9)] W fun e w' => e = .returned (.bool (decide (sx = (t.drop 9).take 32))) ∧ Below W.heap.size W w') := ⟨fun W hW => by
            have h := same_src W (hS9.fr hW) (hT9.fr hW) (by omega) (by omega)
            rw [hsl, hty] at h
            exact h⟩
          have HG2 : Kp (decide (sx = (t.drop 9).take 32) = true ↔ LoadOk false t) := ⟨by rw [hsx]; exact HG.out⟩
          generalize decide (sx = (t.drop 9).take 32) = gv at HSM HG2
          clear hS hBl hm' HR5 HD hc5 hS9 hT9 hsx hsl hty HG
          go_wp2
          refine wp_region_any (by kernel_rfl) ?_
          try (change wpAny _ _ _ _ _ _ _ (World.drew _))
          refine wpAny_take (i := 0) (v := ?_) rfl (by kernel_rfl) (by kernel_rfl) (by kernel_rfl) (fun _ _ _ h => h) (Or.inl ⟨by rfl, ?_⟩) ?_
          rotate_left
          · intro w; go_simp; try with_reducible rfl
          go_simp
          refine wpAny_take (i := 1) (v := ?_) rfl (by kernel_rfl) (by kernel_rfl) (by kernel_rfl) (fun _ _ _ h => h) (Or.inl ⟨by rfl, ?_⟩) ?_
          rotate_left
          · intro w; go_simp; try with_reducible rfl
          go_simp
          refine wpAny_take (i := 2) (v := ?_) rfl (by kernel_rfl) (by kernel_rfl) (by kernel_rfl) (fun _ _ _ h => h) (Or.inl ⟨by rfl, ?_⟩) ?_
          rotate_left
          · intro w; go_simp; try with_reducible rfl
          go_simp
          refine wpAny_take (i := 3) (v := ?_) rfl (by kernel_rfl) (by kernel_rfl) (by kernel_rfl) (fun _ _ _ h => h) (Or.inl ⟨by rfl, ?_⟩) ?_
          rotate_left
          · intro w; go_simp; try with_reducible rfl
          go_simp
          refine wpAny_take (i := 4) (v := ?_) rfl (by kernel_rfl) (by kernel_rfl) (by kernel_rfl) (fun _ _ _ h => h) (Or.inl ⟨by rfl, ?_⟩) ?_
          rotate_left
          · intro w; go_simp; try with_reducible rfl
          go_simp
          refine wpAny_take (i := 5) (v := ?_) rfl (by kernel_rfl) (by kernel_rfl) (by kernel_rfl) (fun _ _ _ h => h) (Or.inl ⟨by rfl, ?_⟩) ?_
          rotate_left
          · intro w; go_simp; try with_reducible rfl
          go_simp
          refine wpAny_take (i := 6) (v := ?_) rfl (by kernel_rfl) (by kernel_rfl) (by kernel_rfl) (fun _ _ _ h => h) (Or.inl ⟨by rfl, ?_⟩) ?_
          rotate_left
          · intro w; go_simp; try with_reducible rfl
          go_simp
          refine wpAny_take (i := 7) (v := ?_) rfl (by kernel_rfl) (by kernel_rfl) (by kernel_rfl) (fun _ _ _ h => h) (Or.inl ⟨by rfl, ?_⟩) ?_
          rotate_left
          · intro w; go_simp; try with_reducible rfl
          go_simp
          refine wpAny_take (i := 8) (v := ?_) rfl (by kernel_rfl) (by kernel_rfl) (by kernel_rfl) (fun _ _ _ h => h) (Or.inl ⟨by rfl, ?_⟩) ?_
          rotate_left
          · intro w; go_simp; try with_reducible rfl
          go_simp
          refine wpAny_take (i := 9) (v := ?_) rfl (by kernel_rfl) (by kernel_rfl) (by kernel_rfl) (fun _ _ _ h => h) (Or.inl ⟨by rfl, ?_⟩) ?_
          rotate_left
          · intro w; go_simp; try with_reducible rfl
          go_simp
          refine wpAny_ready (rs := [10]) (by kernel_rfl) (by simp) ?_
          refine AllReady.cons rfl (fun K hK => ?_) ?_
          · go_simp
            go_wp2_with (go_at_call 17; (refine (HSM.out _ (by repeat (first | exact Fr.refl _ _ | apply Fr.drew))).mono ?_); rintro e w7 ⟨rfl, hBl⟩; have F7 : Kp (Fr (fun _ => False) w6 w7) := ⟨Fr.then_below (by repeat (first | exact Fr.refl _ _ | apply Fr.drew)) hBl⟩; clear hBl)
            (try (refine hK _ _ ?_; clear hK K))
            (try go_simp)
            refine wpAny_take (i := 11) (v := ?_) rfl (by kernel_rfl) (by kernel_rfl) (by kernel_rfl) (fun _ _ _ h => h) (Or.inl ⟨by rfl, ?_⟩) ?_
            rotate_left
            · intro w; go_simp; try with_reducible rfl
            go_simp
            refine wpAny_ready (rs := [12]) (by kernel_rfl) (by simp) ?_
            refine AllReady.cons rfl (fun K hK => ?_) ?_
            · go_simp
              refine hK _ _ ?_; clear hK K
              (try go_simp)
              refine wpAny_done (by kernel_rfl) ?_ _
              (try go_wp2)
              go_meet
              case rel => exact ⟨gv, rfl, HG2, ⟨F6.out.trans F7.out (fun _ _ h => h)⟩, ⟨ldres_fr HR6.out F7.out⟩⟩
            exact AllReady.nil
          exact AllReady.nil
        case true =>
          simp only [tag] at hc0
          simp only [out] at hll
          go_wp2_with fail
          refine (new_calls true w4 (HL.out.fr F4.out (fun _ h => h.elim))).mono ?_
          rintro e w5 ⟨b, rfl, hb, hD, hBl⟩
          have F5 := Kp.mk (F4.out.then_below hBl)
          have HR5 := Kp.mk (ldres_fr HR4.out (Fr.of_below hBl _))
          have HD := Kp.mk hD
          have hc5 := (HRd.out.fr F5.out (fun h => h)).2 0 (by omega)
          rw [Nat.add_zero, HT.out] at hc5
          simp only [tag] at hc5
          clear hb hD hBl hc0
          go_wp2_with (first | (go_at_call 16; (with_reducible refine (h0 _).mono ?_); rintro e w' ⟨rfl, rfl⟩))
          refine (saveL_calls (St.new true) (new_ok true) b (.slice none 0 0) w' HD.out).mono ?_
          rintro e w6 ⟨g, m, rfl, _, hm', _, _, hS, hBl⟩
          obtain rfl : m = 73 := hm'.trans (save_new_len true)
          have F6 := Kp.mk (F5.out.then_below hBl)
          have HR6 := Kp.mk (ldres_fr HR5.out (Fr.of_below hBl _))
          have hcn : (73 : Int) ≤ (c : Int) := by omega
          have hc9 : ¬ c = 9 := by omega
          obtain ⟨sx, hsx⟩ : ∃ sx, sx = words true (start true) := ⟨_, rfl⟩
          have hsl : sx.length = 64 := by rw [hsx]; exact words_length true (start true)
          have hS9 : Src w6 (fun _ => False) (some ⟨g, 9, none⟩) 64 sx := by
            rcases hS.2 with ⟨h, _⟩ | ⟨h, _⟩ | ⟨bs', os', h, h2, _⟩
            · cases h
            · have := congrArg List.length h; rw [save_new_len] at this; simp [out] at this
            · simp only [Option.some.injEq, Addr.mk.injEq] at h
              obtain ⟨rfl, rfl, _⟩ := h
              have h3 := h2.drop 9
              rw [save_new_drop, ← hsx] at h3
              exact ⟨by rw [hsl]; exact Nat.le_refl _, .inr (.inr ⟨_, _, rfl, h3, fun h => h⟩)⟩
          have hty : ((t.drop 9).take 64).length = 64 := by rw [List.length_take, List.length_drop]; omega
          have hT9 : Src w6 (fun _ => False) (some ⟨bs, os + 9, none⟩) (c - 9) ((t.drop 9).take 64) :=
            ⟨by rw [hty]; omega, .inr (.inr ⟨_, _, rfl, ((HRd.out.fr F6.out (fun h => h)).drop 9).take 64, fun h => h⟩)⟩
          have HSM : Kp (∀ W, Fr (fun _ => False) w6 W → Calls Tryd.prog 17 #[.slice (some ⟨g, 9, none⟩) 64 64, .slice (some ⟨bs, os + 9, none⟩) 64 (c - 9)] W fun e w' => e = .returned (.bool (decide (sx = (t.drop 9).take 64))) ∧ Below W.heap.size W w') := ⟨fun W hW => by
            have h := same_src W (hS9.fr hW) (hT9.fr hW) (by omega) (by omega)
            rw [hsl, hty] at h
            exact h⟩
          have HG2 : Kp (decide (sx = (t.drop 9).take 64) = true ↔ LoadOk true t) := ⟨by rw [hsx]; exact HG.out⟩
          generalize decide (sx = (t.drop 9).take 64) = gv at HSM HG2
          clear hS hBl hm' HR5 HD hc5 hS9 hT9 hsx hsl hty HG
          go_wp2
          refine wp_region_any (by kernel_rfl) ?_
          try (change wpAny _ _ _ _ _ _ _ (World.drew _))
          refine wpAny_take (i := 0) (v := ?_) rfl (by kernel_rfl) (by kernel_rfl) (by kernel_rfl) (fun _ _ _ h => h) (Or.inl ⟨by rfl, ?_⟩) ?_
          rotate_left
          · intro w; go_simp; try with_reducible rfl
          go_simp
          refine wpAny_take (i := 1) (v := ?_) rfl (by kernel_rfl) (by kernel_rfl) (by kernel_rfl) (fun _ _ _ h => h) (Or.inl ⟨by rfl, ?_⟩) ?_
          rotate_left
          · intro w; go_simp; try with_reducible rfl
          go_simp
          refine wpAny_take (i := 2) (v := ?_) rfl (by kernel_rfl) (by kernel_rfl) (by kernel_rfl) (fun _ _ _ h => h) (Or.inl ⟨by rfl, ?_⟩) ?_
          rotate_left
          · intro w; go_simp; try with_reducible rfl
          go_simp
          refine wpAny_take (i := 3) (v := ?_) rfl (by kernel_rfl) (by kernel_rfl) (by kernel_rfl) (fun _ _ _ h => h) (Or.inl ⟨by rfl, ?_⟩) ?_
          rotate_left
          · intro w; go_simp; try with_reducible rfl
          go_simp
          refine wpAny_take (i := 4) (v := ?_) rfl (by kernel_rfl) (by kernel_rfl) (by kernel_rfl) (fun _ _ _ h => h) (Or.inl ⟨by rfl, ?_⟩) ?_
          rotate_left
          · intro w; go_simp; try with_reducible rfl
          go_simp
          refine wpAny_take (i := 5) (v := ?_) rfl (by kernel_rfl) (by kernel_rfl) (by kernel_rfl) (fun _ _ _ h => h) (Or.inl ⟨by rfl, ?_⟩) ?_
          rotate_left
          · intro w; go_simp; try with_reducible rfl
          go_simp
          refine wpAny_take (i := 6) (v := ?_) rfl (by kernel_rfl) (by kernel_rfl) (by kernel_rfl) (fun _ _ _ h => h) (Or.inl ⟨by rfl, ?_⟩) ?_
          rotate_left
          · intro w; go_simp; try with_reducible rfl
          go_simp
          refine wpAny_take (i := 7) (v := ?_) rfl (by kernel_rfl) (by kernel_rfl) (by kernel_rfl) (fun _ _ _ h => h) (Or.inl ⟨by rfl, ?_⟩) ?_
          rotate_left
          · intro w; go_simp; try with_reducible rfl
          go_simp
          refine wpAny_take (i := 8) (v := ?_) rfl (by kernel_rfl) (by kernel_rfl) (by kernel_rfl) (fun _ _ _ h => h) (Or.inl ⟨by rfl, ?_⟩) ?_
          rotate_left
          · intro w; go_simp; try with_reducible rfl
          go_simp
          refine wpAny_take (i := 9) (v := ?_) rfl (by kernel_rfl) (by kernel_rfl) (by kernel_rfl) (fun _ _ _ h => h) (Or.inl ⟨by rfl, ?_⟩) ?_
          rotate_left
          · intro w; go_simp; try with_reducible rfl
          go_simp
          refine wpAny_ready (rs := [10]) (by kernel_rfl) (by simp) ?_
          refine AllReady.cons rfl (fun K hK => ?_) ?_
          · go_simp
            go_wp2_with (go_at_call 17; (refine (HSM.out _ (by repeat (first | exact Fr.refl _ _ | apply Fr.drew))).mono ?_); rintro e w7 ⟨rfl, hBl⟩; have F7 : Kp (Fr (fun _ => False) w6 w7) := ⟨Fr.then_below (by repeat (first | exact Fr.refl _ _ | apply Fr.drew)) hBl⟩; clear hBl)
            (try (refine hK _ _ ?_; clear hK K))
            (try go_simp)
            refine wpAny_take (i := 11) (v := ?_) rfl (by kernel_rfl) (by kernel_rfl) (by kernel_rfl) (fun _ _ _ h => h) (Or.inl ⟨by rfl, ?_⟩) ?_
            rotate_left
            · intro w; go_simp; try with_reducible rfl
            go_simp
            refine wpAny_ready (rs := [12]) (by kernel_rfl) (by simp) ?_
            refine AllReady.cons rfl (fun K hK => ?_) ?_
            · go_simp
              refine hK _ _ ?_; clear hK K
              (try go_simp)
              refine wpAny_done (by kernel_rfl) ?_ _
              (try go_wp2)
              go_meet
              case rel => exact ⟨gv, rfl, HG2, ⟨F6.out.trans F7.out (fun _ _ h => h)⟩, ⟨ldres_fr HR6.out F7.out⟩⟩
            exact AllReady.nil
          exact AllReady.nil
    case rest =>
      clear HR4 F4
      obtain ⟨g, rfl, HG, HF5, HRx⟩ := hcut
      have same : ∀ B', LoadOk B' t → B' = B := fun B' h => by
        have h1 := h.tag
        rw [HT.out] at h1
        cases B <;> cases B' <;> simp [tag] at h1 <;> rfl
      cases g
      · obtain ⟨rfl, rfl⟩ : p = .pointer none ∧ n = 11 := by
          rcases HRx.out with ⟨B', h, _⟩ | ⟨_, h1, h2⟩
          · obtain rfl := same B' h
            have := HG.out.2 h
            cases this
          · exact ⟨h1, h2⟩
        clear same
        go_wp2_with (first | (go_at_call 16; (with_reducible refine (hnum _).mono ?_); rintro e w' ⟨rfl, rfl⟩))
        go_ret
        exact ⟨rfl, HF5.out.below (fun _ _ h => h)⟩
      · have hok : LoadOk B t := HG.out.1 rfl
        obtain ⟨b, rv, rfl, rfl, hD⟩ : ∃ b rv, p = .pointer (some ⟨b, 0, none⟩) ∧ n = 0 ∧ Dg wc b rv (loadSt B t) := by
          rcases HRx.out with ⟨B', h, b, rv, h1, h2, h3⟩ | ⟨h1, _⟩
          · obtain rfl := same B' h
            exact ⟨b, rv, h1, h2, h3⟩
          · exact absurd hok (h1 B)
        have HSV : Kp (Calls Tryd.prog 35 #[.pointer (some ⟨b, 0, none⟩)] wc fun e w' => ∃ g, e = .returned (.slice (some ⟨g, 0, none⟩) t.length t.length) ∧ Src w' (fun _ => False) (some ⟨g, 0, none⟩) t.length t ∧ Fr (fun _ => False) wc w') := ⟨by
          refine (saveL_calls (loadSt B t) (loadSt_ok hok) b rv wc hD).mono ?_
          rintro e w' ⟨g, m, rfl, _, rfl, _, _, hS, hB⟩
          rw [save_load HB.out hok] at hS ⊢
          exact ⟨g, rfl, hS, Fr.of_below hB _⟩⟩
        clear same hok hD
        go_wp2_with (first
          | (go_at_call 16; (with_reducible refine (hnum _).mono ?_); rintro e w' ⟨rfl, rfl⟩)
          | (go_at_call 35; (with_reducible refine HSV.out.mono ?_); rintro e w6 ⟨g6, rfl, hs6, hf6⟩; have HS6 := Kp.mk hs6; have F6 := Kp.mk (HF5.out.trans hf6 (fun _ _ h => h)); clear hs6 hf6)
          | (go_at_call 17; (with_reducible refine (same_src _ HS6.out (HX.out.fr F6.out) (by omega) (by omega)).mono ?_); rintro e w7 ⟨rfl, hB7⟩; rw [decide_eq_true rfl]; have F7 := Kp.mk (F6.out.then_below hB7); clear hB7))
        go_ret
        exact ⟨rfl, F7.out.below (fun _ _ h => h)⟩
end Go.Proofs.YtjcfnflkiialbaaDoor.Sha
