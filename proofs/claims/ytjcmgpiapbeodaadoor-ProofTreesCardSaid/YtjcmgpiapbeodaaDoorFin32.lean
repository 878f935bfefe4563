/-
  The walk of Sum for kind 256. The walk of Sum for kind 512. Sum, Written and what a sum's bytes look like: for either kind. The walk of Sum256.
-/
import Derived.Test.YtjcmgpiapbeodaaDoorStore
import Derived.Test.YtjcmgpiapbeodaaDoorMix64
import Derived.Deep.DrawnRows
import Derived.Deep.RegionHeld3
namespace Go.Proofs.YtjcmgpiapbeodaaDoor.Sha.S32
open Go.RowKit Go.Proofs.YtjcmgpiapbeodaaDoor.Mem Go.Proofs.YtjcmgpiapbeodaaDoorW.PrintWords
attribute [local go_sem ↓] Go.wp_at_zero Go.wp_at_succ wp_store_new wp_load_chain
attribute [local go_sem] chainAt_ptr chainOk_ptr good19_agg aggCells_agg Value.oneCell'
set_option maxHeartbeats 4000000 in
set_option maxRecDepth 100000 in
theorem sum_calls (b cnt : Nat) (c : Chain) (rv : Value) (rs : List Int) (hrs : rs.length < 64) (hcnt : cnt ≤ maxCount) (w : World) (hL : Laid w) (hD : Dg w b rv ⟨false, cnt, c, rs⟩) :
    Calls Tryd.prog 40 #[.pointer (some ⟨b, 0, none⟩)] w fun e w' => ∃ v, e = .returned v ∧ Own w' w.heap.size v (St.mk false cnt c rs).sum ∧ Below w.heap.size w w' := by
  obtain ⟨Ar, cr, rfl, hsrc⟩ := Src.of_own hD.rest (fun _ => False) (fun _ _ h => h)
  simp only at hsrc
  have HS := Kp.mk hsrc
  have HD := Kp.mk hD
  have HL := Kp.mk hL
  clear hsrc hD hL
  obtain ⟨⟨c0, c1, c2, c3, c4, c5, c6, c7⟩, ⟨d0, d1, d2, d3, d4, d5, d6, d7⟩⟩ := c
  have h0 := HD.out.blk.cell 0 (.int .i64 ((kind false : Nat) : Int)) rfl
  have h1 := HD.out.blk.cell 1 (.int .i64 (cnt : Int)) rfl
  have h2 := HD.out.blk.cell 2 (.int .u32 (c0.toNat : Int)) rfl
  have h3 := HD.out.blk.cell 3 (.int .u32 (c1.toNat : Int)) rfl
  have h4 := HD.out.blk.cell 4 (.int .u32 (c2.toNat : Int)) rfl
  have h5 := HD.out.blk.cell 5 (.int .u32 (c3.toNat : Int)) rfl
  have h6 := HD.out.blk.cell 6 (.int .u32 (c4.toNat : Int)) rfl
  have h7 := HD.out.blk.cell 7 (.int .u32 (c5.toNat : Int)) rfl
  have h8 := HD.out.blk.cell 8 (.int .u32 (c6.toNat : Int)) rfl
  have h9 := HD.out.blk.cell 9 (.int .u32 (c7.toNat : Int)) rfl
  have h10 := HD.out.blk.cell 10 (.int .u64 (d0.toNat : Int)) rfl
  have h11 := HD.out.blk.cell 11 (.int .u64 (d1.toNat : Int)) rfl
  have h12 := HD.out.blk.cell 12 (.int .u64 (d2.toNat : Int)) rfl
  have h13 := HD.out.blk.cell 13 (.int .u64 (d3.toNat : Int)) rfl
  have h14 := HD.out.blk.cell 14 (.int .u64 (d4.toNat : Int)) rfl
  have h15 := HD.out.blk.cell 15 (.int .u64 (d5.toNat : Int)) rfl
  have h16 := HD.out.blk.cell 16 (.int .u64 (d6.toNat : Int)) rfl
  have h17 := HD.out.blk.cell 17 (.int .u64 (d7.toNat : Int)) rfl
  have ha0 : ∀ o : Obj, (w.alloc o).cell? ⟨b, 0, none⟩ = some (.int .i64 256) := fun o => (HD.out.blk.alloc o).cell 0 _ rfl
  have ha2 : ∀ o : Obj, (w.alloc o).cell? ⟨b, 2, none⟩ = some (.int .u32 (c0.toNat : Int)) := fun o => (HD.out.blk.alloc o).cell 2 _ rfl
  have ha3 : ∀ o : Obj, (w.alloc o).cell? ⟨b, 3, none⟩ = some (.int .u32 (c1.toNat : Int)) := fun o => (HD.out.blk.alloc o).cell 3 _ rfl
  have ha4 : ∀ o : Obj, (w.alloc o).cell? ⟨b, 4, none⟩ = some (.int .u32 (c2.toNat : Int)) := fun o => (HD.out.blk.alloc o).cell 4 _ rfl
  have ha5 : ∀ o : Obj, (w.alloc o).cell? ⟨b, 5, none⟩ = some (.int .u32 (c3.toNat : Int)) := fun o => (HD.out.blk.alloc o).cell 5 _ rfl
  have ha6 : ∀ o : Obj, (w.alloc o).cell? ⟨b, 6, none⟩ = some (.int .u32 (c4.toNat : Int)) := fun o => (HD.out.blk.alloc o).cell 6 _ rfl
  have ha7 : ∀ o : Obj, (w.alloc o).cell? ⟨b, 7, none⟩ = some (.int .u32 (c5.toNat : Int)) := fun o => (HD.out.blk.alloc o).cell 7 _ rfl
  have ha8 : ∀ o : Obj, (w.alloc o).cell? ⟨b, 8, none⟩ = some (.int .u32 (c6.toNat : Int)) := fun o => (HD.out.blk.alloc o).cell 8 _ rfl
  have ha9 : ∀ o : Obj, (w.alloc o).cell? ⟨b, 9, none⟩ = some (.int .u32 (c7.toNat : Int)) := fun o => (HD.out.blk.alloc o).cell 9 _ rfl
  have ha10 : ∀ o : Obj, (w.alloc o).cell? ⟨b, 10, none⟩ = some (.int .u64 (d0.toNat : Int)) := fun o => (HD.out.blk.alloc o).cell 10 _ rfl
  have ha11 : ∀ o : Obj, (w.alloc o).cell? ⟨b, 11, none⟩ = some (.int .u64 (d1.toNat : Int)) := fun o => (HD.out.blk.alloc o).cell 11 _ rfl
  have ha12 : ∀ o : Obj, (w.alloc o).cell? ⟨b, 12, none⟩ = some (.int .u64 (d2.toNat : Int)) := fun o => (HD.out.blk.alloc o).cell 12 _ rfl
  have ha13 : ∀ o : Obj, (w.alloc o).cell? ⟨b, 13, none⟩ = some (.int .u64 (d3.toNat : Int)) := fun o => (HD.out.blk.alloc o).cell 13 _ rfl
  have ha14 : ∀ o : Obj, (w.alloc o).cell? ⟨b, 14, none⟩ = some (.int .u64 (d4.toNat : Int)) := fun o => (HD.out.blk.alloc o).cell 14 _ rfl
  have ha15 : ∀ o : Obj, (w.alloc o).cell? ⟨b, 15, none⟩ = some (.int .u64 (d5.toNat : Int)) := fun o => (HD.out.blk.alloc o).cell 15 _ rfl
  have ha16 : ∀ o : Obj, (w.alloc o).cell? ⟨b, 16, none⟩ = some (.int .u64 (d6.toNat : Int)) := fun o => (HD.out.blk.alloc o).cell 16 _ rfl
  have ha17 : ∀ o : Obj, (w.alloc o).cell? ⟨b, 17, none⟩ = some (.int .u64 (d7.toNat : Int)) := fun o => (HD.out.blk.alloc o).cell 17 _ rfl
  have HB := block_calls b false w h0
  simp only [kind, blk] at h0 HB
  have hcnt' := hcnt
  unfold maxCount at hcnt'
  go_enter Tryd.func40, Tryd.ntmps40
  go_wp2_with (first | (go_at_call 66; (with_reducible refine HB.mono ?_); rintro e w' ⟨rfl, rfl⟩))
  go_region
  have hE : Kp (Blk ((w'.alloc (.cells #[.int .i64 256, .int .i64 0, .int .u32 (c0.toNat : Int), .int .u32 (c1.toNat : Int), .int .u32 (c2.toNat : Int), .int .u32 (c3.toNat : Int), .int .u32 (c4.toNat : Int), .int .u32 (c5.toNat : Int), .int .u32 (c6.toNat : Int), .int .u32 (c7.toNat : Int), .int .u64 (d0.toNat : Int), .int .u64 (d1.toNat : Int), .int .u64 (d2.toNat : Int), .int .u64 (d3.toNat : Int), .int .u64 (d4.toNat : Int), .int .u64 (d5.toNat : Int), .int .u64 (d6.toNat : Int), .int .u64 (d7.toNat : Int), .slice none 0 0] 135)).drew) w'.heap.size 135 (dcells false 0 ⟨⟨c0, c1, c2, c3, c4, c5, c6, c7⟩, ⟨d0, d1, d2, d3, d4, d5, d6, d7⟩⟩ (.slice none 0 0))) := ⟨Blk.new w' _ _⟩
  have hF : Kp (Fr (fun _ => False) w' ((w'.alloc (.cells #[.int .i64 256, .int .i64 0, .int .u32 (c0.toNat : Int), .int .u32 (c1.toNat : Int), .int .u32 (c2.toNat : Int), .int .u32 (c3.toNat : Int), .int .u32 (c4.toNat : Int), .int .u32 (c5.toNat : Int), .int .u32 (c6.toNat : Int), .int .u32 (c7.toNat : Int), .int .u64 (d0.toNat : Int), .int .u64 (d1.toNat : Int), .int .u64 (d2.toNat : Int), .int .u64 (d3.toNat : Int), .int .u64 (d4.toNat : Int), .int .u64 (d5.toNat : Int), .int .u64 (d6.toNat : Int), .int .u64 (d7.toNat : Int), .slice none 0 0] 135)).drew)) := ⟨((Fr.refl _ w').alloc _).drew⟩
  have HRB := Kp.mk (HD.out.blk.fr hF.out (fun h => h))
  have HS1 := Kp.mk (HS.out.fr hF.out)
  have HL1 := Kp.mk (HL.out.below (hF.out.below (fun _ _ h => h)))
  obtain ⟨be, hbe⟩ : ∃ be, be = w'.heap.size := ⟨_, rfl⟩
  have HBE := Kp.mk hbe
  rw [← hbe] at hE ⊢
  clear hbe h0 h1 h2 h3 h4 h5 h6 h7 h8 h9 h10 h11 h12 h13 h14 h15 h16 h17 ha0 ha2 ha3 ha4 ha5 ha6 ha7 ha8 ha9 ha10 ha11 ha12 ha13 ha14 ha15 ha16 ha17 HB HS
  generalize (w'.alloc (.cells #[.int .i64 256, .int .i64 0, .int .u32 (c0.toNat : Int), .int .u32 (c1.toNat : Int), .int .u32 (c2.toNat : Int), .int .u32 (c3.toNat : Int), .int .u32 (c4.toNat : Int), .int .u32 (c5.toNat : Int), .int .u32 (c6.toNat : Int), .int .u32 (c7.toNat : Int), .int .u64 (d0.toNat : Int), .int .u64 (d1.toNat : Int), .int .u64 (d2.toNat : Int), .int .u64 (d3.toNat : Int), .int .u64 (d4.toNat : Int), .int .u64 (d5.toNat : Int), .int .u64 (d6.toNat : Int), .int .u64 (d7.toNat : Int), .slice none 0 0] 135)).drew = W1 at hE hF HRB HS1 HL1 ⊢
  generalize hc : (⟨⟨c0, c1, c2, c3, c4, c5, c6, c7⟩, ⟨d0, d1, d2, d3, d4, d5, d6, d7⟩⟩ : Chain) = c at hE HD HRB ⊢
  have HC := Kp.mk hc
  clear hc
  have h1 := HRB.out.cell 1 (.int .i64 (cnt : Int)) rfl
  have h18 := HRB.out.cell 18 (.slice Ar rs.length cr) rfl
  have ha18 : ∀ o : Obj, (W1.alloc o).cell? ⟨b, 18, none⟩ = some (.slice Ar rs.length cr) := fun o => (HRB.out.alloc o).cell 18 _ rfl
  have hmk : ∀ w, (Instr.makeSlice 22 (.int .i64 0) (.int .i64 128)).run Tryd.prog w = .ok (.slice (some ⟨w.heap.size, 0, none⟩) 0 128) (w.alloc (.cells (Wk.zeros 128) 5)) := Wk.make_bytes 128 (by omega) (by omega)
  have hw2 : IntKind.i64.wrap 128 = 128 := by decide
  have HO0 : Kp ((W1.alloc (.cells (Wk.zeros 128) 5)).ownsRow w'.heap.size 5 1 (.slice (some ⟨W1.heap.size, 0, none⟩) 0 128) ([] : List Int).length (bytes [])) := ⟨own_base (Kd.own_of_R (Wk.own_zeros W1 128 (by omega))) hF.out.size⟩
  have HFA : Kp (Fr (fun _ => False) w' (W1.alloc (.cells (Wk.zeros 128) 5))) := ⟨hF.out.alloc _⟩
  have HEA : Kp (Blk (W1.alloc (.cells (Wk.zeros 128) 5)) be 135 (dcells false 0 c (.slice none 0 0))) := ⟨hE.out.alloc _⟩
  have HSA := Kp.mk (HS1.out.fr ((Fr.refl (fun _ => False) W1).alloc (.cells (Wk.zeros 128) 5)))
  go_wp2
  go_region_held3 (fun w' => w'.cell? ⟨b, 18, none⟩ = some (.slice Ar rs.length cr)) (first | go_keep | exact (hgr.cell_far ⟨b, 18, none⟩ (by have := HRB.out.lt; simp; omega) (by have := HRB.out.lt; simp [Value.ownBlock]; omega)).trans (ha18 _)) ((refine step_appendS (by rfl) _ _ (by rfl) (by rfl) w'.heap.size (.slice (some ⟨W1.heap.size, 0, none⟩) 0 128) [] (by rfl) (by exact HO0.out) Ar rs.length cr rs rfl (by rfl) (by exact HSA.out) (by simp only [List.length_nil]; omega) (by exact HFA.out.size) ?_; intro v2 w2 hown2 hgr hat; have HO2 := Kp.mk hown2; have HG := Kp.mk hgr))
  all_goals
    simp only [List.nil_append] at HO2
    obtain ⟨hF2, hE2⟩ := app_step (W := (W1.alloc (.cells (Wk.zeros 128) 5)).drew) HFA.out.drew (by exact HO0.out) HEA.out.drew (by decide) HG.out
    have HF2 := Kp.mk hF2
    have HE2 := Kp.mk hE2
    clear HO0 HFA HEA HSA HG hF2 hE2 hE hF HS1 HL1 hmk hw2 ha18 h18 h1 HRB
    go_wp2_with (at_builtin; refine wpList_appendS rfl _ _ rfl rfl w'.heap.size v2 rs rfl (by exact own_keep HO2.out ((Fr.refl (fun _ => False) w2).alloc _) (fun _ _ h => h)) (some ⟨w2.heap.size, 0, none⟩) 1 1 [128] rfl rfl (by exact src_new w2 [128] 5 1 (Nat.le_refl _)) (by simp only [List.length_cons, List.length_nil]; omega) (by exact (HF2.out.alloc (.cells #[.int .u8 128] 5)).size) ?_; intro v3 w3 hown3 hgr hat; obtain ⟨g3, cp3, hv3, _⟩ := own_form hown3 (by simp); subst hv3; obtain ⟨hF3, hE3⟩ := app_step (HF2.out.alloc (.cells #[.int .u8 128] 5)) (by exact own_keep HO2.out ((Fr.refl (fun _ => False) w2).alloc _) (fun _ _ h => h)) (HE2.out.alloc _) (by decide) hgr; have HO3 := Kp.mk hown3; have HF3 := Kp.mk hF3; have HE3 := Kp.mk hE3; clear hown3 hgr hat hF3 hE3)
    have HZ : Kp (w3.ownsRow w'.heap.size 5 1 (.slice (some ⟨g3, 0, none⟩) (rs.length + 1 + 0) cp3) (rs.length + 1 + 0) (bytes (rs ++ 128 :: List.replicate 0 0))) := ⟨by have h := HO3.out; rw [List.length_append] at h; exact h⟩
    clear HO3 HO2 HF2 HE2
    go_loopw [5] (fun s5 wr => ∃ k g cp : Nat, s5 = .slice (some ⟨g, 0, none⟩) (rs.length + 1 + k) cp ∧ Kp (k ≤ zerosFor false rs.length) ∧ Kp (wr.ownsRow w'.heap.size 5 1 (.slice (some ⟨g, 0, none⟩) (rs.length + 1 + k) cp) (rs.length + 1 + k) (bytes (rs ++ 128 :: List.replicate k 0))) ∧ Kp (Fr (fun _ => False) w' wr) ∧ Kp (Blk wr be 135 (dcells false 0 c (.slice none 0 0)))) (fun s5 _ => 400 - lenOf s5)
    case atStart => exact ⟨0, g3, cp3, rfl, ⟨Nat.zero_le _⟩, HZ, HF3, HE3⟩
    case round =>
      clear HZ HF3 HE3
      obtain ⟨k, g, cp, rfl, A1, HO, HF, HE⟩ := hrel
      have hk := A1.out
      unfold zerosFor at hk
      simp only [blk] at hk
      have hrem : ((rs.length : Int) + 1 + (k : Int)).tmod 64 = (((rs.length + 1 + k) % 64 : Nat) : Int) := by rw [Int.tmod_eq_emod_of_nonneg (by omega)]; omega
      have HXL : Kp ((rs ++ 128 :: List.replicate k (0 : Int)).length = rs.length + 1 + k) := ⟨by simp; omega⟩
      by_cases hlt : k < zerosFor false rs.length
      · have hne : ((rs.length + 1 + k) % 64 : Nat) ≠ 56 := by unfold zerosFor at hlt; simp only [blk] at hlt; omega
        have hdec : decide ((((rs.length + 1 + k) % 64 : Nat) : Int) = 56) = false := decide_eq_false (by omega)
        have HOx : Kp (wr.ownsRow w'.heap.size 5 1 (.slice (some ⟨g, 0, none⟩) (rs.length + 1 + k) cp) (rs ++ 128 :: List.replicate k (0 : Int)).length (bytes (rs ++ 128 :: List.replicate k 0))) := ⟨by rw [HXL.out]; exact HO.out⟩
        have HS1 : Kp ((rs ++ 128 :: List.replicate k (0 : Int)) ++ [0] = rs ++ 128 :: List.replicate (k + 1) 0) := ⟨by rw [List.replicate_succ', List.append_assoc]; rfl⟩
        have HL2 : Kp ((rs ++ 128 :: List.replicate (k + 1) (0 : Int)).length = rs.length + 1 + (k + 1)) := ⟨by simp; omega⟩
        generalize hxs : rs ++ 128 :: List.replicate k (0 : Int) = xs at HXL HOx HS1
        clear hxs HO
        go_wp2_with (at_builtin; refine wpList_appendS rfl _ _ rfl rfl w'.heap.size (.slice (some ⟨g, 0, none⟩) (rs.length + 1 + k) cp) xs rfl (by exact own_keep HOx.out ((Fr.refl (fun _ => False) wr).alloc _) (fun _ _ h => h)) (some ⟨wr.heap.size, 0, none⟩) 1 1 [0] rfl rfl (by exact src_new wr [0] 5 1 (Nat.le_refl _)) (by rw [HXL.out]; simp only [List.length_cons, List.length_nil]; omega) (by exact (HF.out.alloc (.cells #[.int .u8 0] 5)).size) ?_; intro v5 w5 hown hgr hat; obtain ⟨g5, cp5, hv, _⟩ := own_form hown (by simp); subst hv; obtain ⟨hF, hE⟩ := app_step (HF.out.alloc (.cells #[.int .u8 0] 5)) (by exact own_keep HOx.out ((Fr.refl (fun _ => False) wr).alloc _) (fun _ _ h => h)) (HE.out.alloc _) (by decide) hgr; have HO5 := Kp.mk hown; have HF5 := Kp.mk hF; have HE5 := Kp.mk hE; clear hown hgr hat hF hE)
        go_roundw
        case rel =>
          refine ⟨k + 1, g5, cp5, ?_, ⟨hlt⟩, ⟨?_⟩, HF5, HE5⟩
          · congr 1; have := HXL.out; omega
          · have h := HO5.out
            rw [HS1.out, HL2.out] at h
            exact h
        case measure => simp [lenOf]; have := HXL.out; omega
      · have hz : k = zerosFor false rs.length := Nat.le_antisymm A1.out (Nat.le_of_not_lt hlt)
        have heq : ((rs.length + 1 + k) % 64 : Nat) = 56 := by unfold zerosFor at hz; simp only [blk] at hz; omega
        rw [heq] at hrem
        have HK := Kp.mk hz
        have hkb : k ≤ 64 := by omega
        clear hk hz heq hlt A1
        have HB1 : ∀ (W : World), Fr (fun _ => False) w' W → W.cell? ⟨b, 1, none⟩ = some (.int .i64 (cnt : Int)) := fun W h => (HD.out.blk.fr h (fun h => h)).cell 1 _ rfl
        have hcell := HB1 wr HF.out
        have hsh : IntKind.u64.wrap ((cnt : Int) * 8) = (cnt : Int) * 8 := by rw [wrap64u]; omega
        have hcv : IntKind.u64.wrap (cnt : Int) = (cnt : Int) := by rw [wrap64u]; omega
        go_wp2
        have HF0 : Kp (Fr (fun _ => False) w' wr) := HF
        have HE0 : Kp (Blk wr be 135 (dcells false 0 c (.slice none 0 0))) := HE
        have HX0 : Kp (((rs ++ 128 :: List.replicate k 0) : List Int).length = (rs.length + 1 + k)) := ⟨by simp <;> omega⟩
        have HQ0 : Kp ((wr).ownsRow w'.heap.size 5 1 (.slice (some ⟨g, 0, none⟩) ((rs.length + 1 + k) + 0) cp) ((rs.length + 1 + k) + 0) (bytes (((rs ++ 128 :: List.replicate k 0) : List Int) ++ [].take 0))) := ⟨by simpa using HO.out⟩
        have HPAD : Kp (((rs ++ 128 :: List.replicate k 0) : List Int) ++ be8 (8 * cnt) = rs ++ padding false rs.length cnt) := ⟨by rw [HK.out]; simp [padding]⟩
        have hbe8 := be8_list (8 * cnt) (by omega)
        rw [show ((8 * cnt : Nat) : Int) = (cnt : Int) * 8 by omega] at hbe8
        rw [show (cnt : Int) * 8 / 72057594037927936 % 256 = (cnt : Int) * 8 / 72057594037927936 by omega] at hbe8
        have HBE8 := Kp.mk hbe8
        clear hbe8
        generalize hgx : ((rs ++ 128 :: List.replicate k 0) : List Int) = xs at HX0 HQ0 HPAD
        clear hgx HO HF HE HXL hrem hcell
        go_loopw [5, 7] (fun s5 s7 wr => ∃ (t g cp : Nat) (i : Int), s5 = .slice (some ⟨g, 0, none⟩) ((rs.length + 1 + k) + t) cp ∧ s7 = .int .i64 i ∧ Kp (t ≤ 8 ∧ i = 7 - (t : Int)) ∧ Kp (wr.ownsRow w'.heap.size 5 1 (.slice (some ⟨g, 0, none⟩) ((rs.length + 1 + k) + t) cp) ((rs.length + 1 + k) + t) (bytes (xs ++ (be8 (8 * cnt)).take t))) ∧ Kp (Fr (fun _ => False) w' wr) ∧ Kp (Blk wr be 135 (dcells false 0 c (.slice none 0 0)))) (fun _ s7 _ => (intOf s7 + 1).toNat)
        case atStart => exact ⟨0, g, cp, 7, rfl, rfl, ⟨Nat.zero_le _, rfl⟩, HQ0, HF0, HE0⟩
        case round =>
          clear HQ0 HF0 HE0
          obtain ⟨t, g, cp, i, rfl, rfl, A1, HO, HF, HE⟩ := hrel
          obtain ⟨A1, A2⟩ := A1.out
          rw [HBE8.out] at HO
          have ht8 : t = 0 ∨ t = 1 ∨ t = 2 ∨ t = 3 ∨ t = 4 ∨ t = 5 ∨ t = 6 ∨ t = 7 ∨ t = 8 := by omega
          clear A1
          rcases ht8 with rfl | rfl | rfl | rfl | rfl | rfl | rfl | rfl | rfl
          · obtain rfl : i = 7 := by omega
            clear A2
            have HY : Kp ((xs ++ ([] : List Int)).length = (rs.length + 1 + k) + 0) := ⟨by rw [List.length_append, HX0.out]; rfl⟩
            have HOx : Kp (wr.ownsRow w'.heap.size 5 1 (.slice (some ⟨g, 0, none⟩) ((rs.length + 1 + k) + 0) cp) (xs ++ ([] : List Int)).length (bytes (xs ++ []))) := ⟨by rw [HY.out]; exact HO.out⟩
            have HS1 : Kp ((xs ++ ([] : List Int)) ++ [(cnt : Int) * 8 / 72057594037927936] = xs ++ [(cnt : Int) * 8 / 72057594037927936]) := ⟨by rw [List.append_assoc]; rfl⟩
            have HL2 : Kp ((xs ++ ([(cnt : Int) * 8 / 72057594037927936] : List Int)).length = (rs.length + 1 + k) + 1) := ⟨by rw [List.length_append, HX0.out]; rfl⟩
            generalize hzs : xs ++ ([] : List Int) = zs at HY HOx HS1
            clear hzs HO
            go_wp2_with (at_builtin; refine wpList_appendS rfl _ _ rfl rfl w'.heap.size (.slice (some ⟨g, 0, none⟩) ((rs.length + 1 + k) + 0) cp) zs rfl (by exact own_keep HOx.out ((Fr.refl (fun _ => False) wr).alloc _) (fun _ _ h => h)) (some ⟨wr.heap.size, 0, none⟩) 1 1 [(cnt : Int) * 8 / 72057594037927936] rfl rfl (by exact src_new wr [(cnt : Int) * 8 / 72057594037927936] 5 1 (Nat.le_refl _)) (by rw [HY.out]; simp only [List.length_cons, List.length_nil]; omega) (by exact (HF.out.alloc (.cells #[.int .u8 ((cnt : Int) * 8 / 72057594037927936)] 5)).size) ?_; intro v5 w5 hown hgr hat; obtain ⟨g5, cp5, hv, _⟩ := own_form hown (by simp); subst hv; obtain ⟨hF, hE⟩ := app_step (HF.out.alloc (.cells #[.int .u8 ((cnt : Int) * 8 / 72057594037927936)] 5)) (by exact own_keep HOx.out ((Fr.refl (fun _ => False) wr).alloc _) (fun _ _ h => h)) (HE.out.alloc _) (by decide) hgr; have HO5 := Kp.mk hown; have HF5 := Kp.mk hF; have HE5 := Kp.mk hE; clear hown hgr hat hF hE)
            go_roundw
            case rel =>
              refine ⟨1, g5, cp5, 6, ?_, by go_num, ⟨by omega, by omega⟩, ⟨?_⟩, HF5, HE5⟩
              · congr 1; have := HY.out; omega
              · have h := HO5.out
                rw [HS1.out, HL2.out] at h
                rw [HBE8.out]
                exact h
            case measure => simp [intOf]
          · obtain rfl : i = 6 := by omega
            clear A2
            have HY : Kp ((xs ++ ([(cnt : Int) * 8 / 72057594037927936] : List Int)).length = (rs.length + 1 + k) + 1) := ⟨by rw [List.length_append, HX0.out]; rfl⟩
            have HOx : Kp (wr.ownsRow w'.heap.size 5 1 (.slice (some ⟨g, 0, none⟩) ((rs.length + 1 + k) + 1) cp) (xs ++ ([(cnt : Int) * 8 / 72057594037927936] : List Int)).length (bytes (xs ++ [(cnt : Int) * 8 / 72057594037927936]))) := ⟨by rw [HY.out]; exact HO.out⟩
            have HS1 : Kp ((xs ++ ([(cnt : Int) * 8 / 72057594037927936] : List Int)) ++ [(cnt : Int) * 8 / 281474976710656 % 256] = xs ++ [(cnt : Int) * 8 / 72057594037927936, (cnt : Int) * 8 / 281474976710656 % 256]) := ⟨by rw [List.append_assoc]; rfl⟩
            have HL2 : Kp ((xs ++ ([(cnt : Int) * 8 / 72057594037927936, (cnt : Int) * 8 / 281474976710656 % 256] : List Int)).length = (rs.length + 1 + k) + 2) := ⟨by rw [List.length_append, HX0.out]; rfl⟩
            generalize hzs : xs ++ ([(cnt : Int) * 8 / 72057594037927936] : List Int) = zs at HY HOx HS1
            clear hzs HO
            go_wp2_with (at_builtin; refine wpList_appendS rfl _ _ rfl rfl w'.heap.size (.slice (some ⟨g, 0, none⟩) ((rs.length + 1 + k) + 1) cp) zs rfl (by exact own_keep HOx.out ((Fr.refl (fun _ => False) wr).alloc _) (fun _ _ h => h)) (some ⟨wr.heap.size, 0, none⟩) 1 1 [(cnt : Int) * 8 / 281474976710656 % 256] rfl rfl (by exact src_new wr [(cnt : Int) * 8 / 281474976710656 % 256] 5 1 (Nat.le_refl _)) (by rw [HY.out]; simp only [List.length_cons, List.length_nil]; omega) (by exact (HF.out.alloc (.cells #[.int .u8 ((cnt : Int) * 8 / 281474976710656 % 256)] 5)).size) ?_; intro v5 w5 hown hgr hat; obtain ⟨g5, cp5, hv, _⟩ := own_form hown (by simp); subst hv; obtain ⟨hF, hE⟩ := app_step (HF.out.alloc (.cells #[.int .u8 ((cnt : Int) * 8 / 281474976710656 % 256)] 5)) (by exact own_keep HOx.out ((Fr.refl (fun _ => False) wr).alloc _) (fun _ _ h => h)) (HE.out.alloc _) (by decide) hgr; have HO5 := Kp.mk hown; have HF5 := Kp.mk hF; have HE5 := Kp.mk hE; clear hown hgr hat hF hE)
            go_roundw
            case rel =>
              refine ⟨2, g5, cp5, 5, ?_, by go_num, ⟨by omega, by omega⟩, ⟨?_⟩, HF5, HE5⟩
              · congr 1; have := HY.out; omega
              · have h := HO5.out
                rw [HS1.out, HL2.out] at h
                rw [HBE8.out]
                exact h
            case measure => simp [intOf]
          · obtain rfl : i = 5 := by omega
            clear A2
            have HY : Kp ((xs ++ ([(cnt : Int) * 8 / 72057594037927936, (cnt : Int) * 8 / 281474976710656 % 256] : List Int)).length = (rs.length + 1 + k) + 2) := ⟨by rw [List.length_append, HX0.out]; rfl⟩
            have HOx : Kp (wr.ownsRow w'.heap.size 5 1 (.slice (some ⟨g, 0, none⟩) ((rs.length + 1 + k) + 2) cp) (xs ++ ([(cnt : Int) * 8 / 72057594037927936, (cnt : Int) * 8 / 281474976710656 % 256] : List Int)).length (bytes (xs ++ [(cnt : Int) * 8 / 72057594037927936, (cnt : Int) * 8 / 281474976710656 % 256]))) := ⟨by rw [HY.out]; exact HO.out⟩
            have HS1 : Kp ((xs ++ ([(cnt : Int) * 8 / 72057594037927936, (cnt : Int) * 8 / 281474976710656 % 256] : List Int)) ++ [(cnt : Int) * 8 / 1099511627776 % 256] = xs ++ [(cnt : Int) * 8 / 72057594037927936, (cnt : Int) * 8 / 281474976710656 % 256, (cnt : Int) * 8 / 1099511627776 % 256]) := ⟨by rw [List.append_assoc]; rfl⟩
            have HL2 : Kp ((xs ++ ([(cnt : Int) * 8 / 72057594037927936, (cnt : Int) * 8 / 281474976710656 % 256, (cnt : Int) * 8 / 1099511627776 % 256] : List Int)).length = (rs.length + 1 + k) + 3) := ⟨by rw [List.length_append, HX0.out]; rfl⟩
            generalize hzs : xs ++ ([(cnt : Int) * 8 / 72057594037927936, (cnt : Int) * 8 / 281474976710656 % 256] : List Int) = zs at HY HOx HS1
            clear hzs HO
            go_wp2_with (at_builtin; refine wpList_appendS rfl _ _ rfl rfl w'.heap.size (.slice (some ⟨g, 0, none⟩) ((rs.length + 1 + k) + 2) cp) zs rfl (by exact own_keep HOx.out ((Fr.refl (fun _ => False) wr).alloc _) (fun _ _ h => h)) (some ⟨wr.heap.size, 0, none⟩) 1 1 [(cnt : Int) * 8 / 1099511627776 % 256] rfl rfl (by exact src_new wr [(cnt : Int) * 8 / 1099511627776 % 256] 5 1 (Nat.le_refl _)) (by rw [HY.out]; simp only [List.length_cons, List.length_nil]; omega) (by exact (HF.out.alloc (.cells #[.int .u8 ((cnt : Int) * 8 / 1099511627776 % 256)] 5)).size) ?_; intro v5 w5 hown hgr hat; obtain ⟨g5, cp5, hv, _⟩ := own_form hown (by simp); subst hv; obtain ⟨hF, hE⟩ := app_step (HF.out.alloc (.cells #[.int .u8 ((cnt : Int) * 8 / 1099511627776 % 256)] 5)) (by exact own_keep HOx.out ((Fr.refl (fun _ => False) wr).alloc _) (fun _ _ h => h)) (HE.out.alloc _) (by decide) hgr; have HO5 := Kp.mk hown; have HF5 := Kp.mk hF; have HE5 := Kp.mk hE; clear hown hgr hat hF hE)
            go_roundw
            case rel =>
              refine ⟨3, g5, cp5, 4, ?_, by go_num, ⟨by omega, by omega⟩, ⟨?_⟩, HF5, HE5⟩
              · congr 1; have := HY.out; omega
              · have h := HO5.out
                rw [HS1.out, HL2.out] at h
                rw [HBE8.out]
                exact h
            case measure => simp [intOf]
          · obtain rfl : i = 4 := by omega
            clear A2
            have HY : Kp ((xs ++ ([(cnt : Int) * 8 / 72057594037927936, (cnt : Int) * 8 / 281474976710656 % 256, (cnt : Int) * 8 / 1099511627776 % 256] : List Int)).length = (rs.length + 1 + k) + 3) := ⟨by rw [List.length_append, HX0.out]; rfl⟩
            have HOx : Kp (wr.ownsRow w'.heap.size 5 1 (.slice (some ⟨g, 0, none⟩) ((rs.length + 1 + k) + 3) cp) (xs ++ ([(cnt : Int) * 8 / 72057594037927936, (cnt : Int) * 8 / 281474976710656 % 256, (cnt : Int) * 8 / 1099511627776 % 256] : List Int)).length (bytes (xs ++ [(cnt : Int) * 8 / 72057594037927936, (cnt : Int) * 8 / 281474976710656 % 256, (cnt : Int) * 8 / 1099511627776 % 256]))) := ⟨by rw [HY.out]; exact HO.out⟩
            have HS1 : Kp ((xs ++ ([(cnt : Int) * 8 / 72057594037927936, (cnt : Int) * 8 / 281474976710656 % 256, (cnt : Int) * 8 / 1099511627776 % 256] : List Int)) ++ [(cnt : Int) * 8 / 4294967296 % 256] = xs ++ [(cnt : Int) * 8 / 72057594037927936, (cnt : Int) * 8 / 281474976710656 % 256, (cnt : Int) * 8 / 1099511627776 % 256, (cnt : Int) * 8 / 4294967296 % 256]) := ⟨by rw [List.append_assoc]; rfl⟩
            have HL2 : Kp ((xs ++ ([(cnt : Int) * 8 / 72057594037927936, (cnt : Int) * 8 / 281474976710656 % 256, (cnt : Int) * 8 / 1099511627776 % 256, (cnt : Int) * 8 / 4294967296 % 256] : List Int)).length = (rs.length + 1 + k) + 4) := ⟨by rw [List.length_append, HX0.out]; rfl⟩
            generalize hzs : xs ++ ([(cnt : Int) * 8 / 72057594037927936, (cnt : Int) * 8 / 281474976710656 % 256, (cnt : Int) * 8 / 1099511627776 % 256] : List Int) = zs at HY HOx HS1
            clear hzs HO
            go_wp2_with (at_builtin; refine wpList_appendS rfl _ _ rfl rfl w'.heap.size (.slice (some ⟨g, 0, none⟩) ((rs.length + 1 + k) + 3) cp) zs rfl (by exact own_keep HOx.out ((Fr.refl (fun _ => False) wr).alloc _) (fun _ _ h => h)) (some ⟨wr.heap.size, 0, none⟩) 1 1 [(cnt : Int) * 8 / 4294967296 % 256] rfl rfl (by exact src_new wr [(cnt : Int) * 8 / 4294967296 % 256] 5 1 (Nat.le_refl _)) (by rw [HY.out]; simp only [List.length_cons, List.length_nil]; omega) (by exact (HF.out.alloc (.cells #[.int .u8 ((cnt : Int) * 8 / 4294967296 % 256)] 5)).size) ?_; intro v5 w5 hown hgr hat; obtain ⟨g5, cp5, hv, _⟩ := own_form hown (by simp); subst hv; obtain ⟨hF, hE⟩ := app_step (HF.out.alloc (.cells #[.int .u8 ((cnt : Int) * 8 / 4294967296 % 256)] 5)) (by exact own_keep HOx.out ((Fr.refl (fun _ => False) wr).alloc _) (fun _ _ h => h)) (HE.out.alloc _) (by decide) hgr; have HO5 := Kp.mk hown; have HF5 := Kp.mk hF; have HE5 := Kp.mk hE; clear hown hgr hat hF hE)
            go_roundw
            case rel =>
              refine ⟨4, g5, cp5, 3, ?_, by go_num, ⟨by omega, by omega⟩, ⟨?_⟩, HF5, HE5⟩
              · congr 1; have := HY.out; omega
              · have h := HO5.out
                rw [HS1.out, HL2.out] at h
                rw [HBE8.out]
                exact h
            case measure => simp [intOf]
          · obtain rfl : i = 3 := by omega
            clear A2
            have HY : Kp ((xs ++ ([(cnt : Int) * 8 / 72057594037927936, (cnt : Int) * 8 / 281474976710656 % 256, (cnt : Int) * 8 / 1099511627776 % 256, (cnt : Int) * 8 / 4294967296 % 256] : List Int)).length = (rs.length + 1 + k) + 4) := ⟨by rw [List.length_append, HX0.out]; rfl⟩
            have HOx : Kp (wr.ownsRow w'.heap.size 5 1 (.slice (some ⟨g, 0, none⟩) ((rs.length + 1 + k) + 4) cp) (xs ++ ([(cnt : Int) * 8 / 72057594037927936, (cnt : Int) * 8 / 281474976710656 % 256, (cnt : Int) * 8 / 1099511627776 % 256, (cnt : Int) * 8 / 4294967296 % 256] : List Int)).length (bytes (xs ++ [(cnt : Int) * 8 / 72057594037927936, (cnt : Int) * 8 / 281474976710656 % 256, (cnt : Int) * 8 / 1099511627776 % 256, (cnt : Int) * 8 / 4294967296 % 256]))) := ⟨by rw [HY.out]; exact HO.out⟩
            have HS1 : Kp ((xs ++ ([(cnt : Int) * 8 / 72057594037927936, (cnt : Int) * 8 / 281474976710656 % 256, (cnt : Int) * 8 / 1099511627776 % 256, (cnt : Int) * 8 / 4294967296 % 256] : List Int)) ++ [(cnt : Int) * 8 / 16777216 % 256] = xs ++ [(cnt : Int) * 8 / 72057594037927936, (cnt : Int) * 8 / 281474976710656 % 256, (cnt : Int) * 8 / 1099511627776 % 256, (cnt : Int) * 8 / 4294967296 % 256, (cnt : Int) * 8 / 16777216 % 256]) := ⟨by rw [List.append_assoc]; rfl⟩
            have HL2 : Kp ((xs ++ ([(cnt : Int) * 8 / 72057594037927936, (cnt : Int) * 8 / 281474976710656 % 256, (cnt : Int) * 8 / 1099511627776 % 256, (cnt : Int) * 8 / 4294967296 % 256, (cnt : Int) * 8 / 16777216 % 256] : List Int)).length = (rs.length + 1 + k) + 5) := ⟨by rw [List.length_append, HX0.out]; rfl⟩
            generalize hzs : xs ++ ([(cnt : Int) * 8 / 72057594037927936, (cnt : Int) * 8 / 281474976710656 % 256, (cnt : Int) * 8 / 1099511627776 % 256, (cnt : Int) * 8 / 4294967296 % 256] : List Int) = zs at HY HOx HS1
            clear hzs HO
            go_wp2_with (at_builtin; refine wpList_appendS rfl _ _ rfl rfl w'.heap.size (.slice (some ⟨g, 0, none⟩) ((rs.length + 1 + k) + 4) cp) zs rfl (by exact own_keep HOx.out ((Fr.refl (fun _ => False) wr).alloc _) (fun _ _ h => h)) (some ⟨wr.heap.size, 0, none⟩) 1 1 [(cnt : Int) * 8 / 16777216 % 256] rfl rfl (by exact src_new wr [(cnt : Int) * 8 / 16777216 % 256] 5 1 (Nat.le_refl _)) (by rw [HY.out]; simp only [List.length_cons, List.length_nil]; omega) (by exact (HF.out.alloc (.cells #[.int .u8 ((cnt : Int) * 8 / 16777216 % 256)] 5)).size) ?_; intro v5 w5 hown hgr hat; obtain ⟨g5, cp5, hv, _⟩ := own_form hown (by simp); subst hv; obtain ⟨hF, hE⟩ := app_step (HF.out.alloc (.cells #[.int .u8 ((cnt : Int) * 8 / 16777216 % 256)] 5)) (by exact own_keep HOx.out ((Fr.refl (fun _ => False) wr).alloc _) (fun _ _ h => h)) (HE.out.alloc _) (by decide) hgr; have HO5 := Kp.mk hown; have HF5 := Kp.mk hF; have HE5 := Kp.mk hE; clear hown hgr hat hF hE)
            go_roundw
            case rel =>
              refine ⟨5, g5, cp5, 2, ?_, by go_num, ⟨by omega, by omega⟩, ⟨?_⟩, HF5, HE5⟩
              · congr 1; have := HY.out; omega
              · have h := HO5.out
                rw [HS1.out, HL2.out] at h
                rw [HBE8.out]
                exact h
            case measure => simp [intOf]
          · obtain rfl : i = 2 := by omega
            clear A2
            have HY : Kp ((xs ++ ([(cnt : Int) * 8 / 72057594037927936, (cnt : Int) * 8 / 281474976710656 % 256, (cnt : Int) * 8 / 1099511627776 % 256, (cnt : Int) * 8 / 4294967296 % 256, (cnt : Int) * 8 / 16777216 % 256] : List Int)).length = (rs.length + 1 + k) + 5) := ⟨by rw [List.length_append, HX0.out]; rfl⟩
            have HOx : Kp (wr.ownsRow w'.heap.size 5 1 (.slice (some ⟨g, 0, none⟩) ((rs.length + 1 + k) + 5) cp) (xs ++ ([(cnt : Int) * 8 / 72057594037927936, (cnt : Int) * 8 / 281474976710656 % 256, (cnt : Int) * 8 / 1099511627776 % 256, (cnt : Int) * 8 / 4294967296 % 256, (cnt : Int) * 8 / 16777216 % 256] : List Int)).length (bytes (xs ++ [(cnt : Int) * 8 / 72057594037927936, (cnt : Int) * 8 / 281474976710656 % 256, (cnt : Int) * 8 / 1099511627776 % 256, (cnt : Int) * 8 / 4294967296 % 256, (cnt : Int) * 8 / 16777216 % 256]))) := ⟨by rw [HY.out]; exact HO.out⟩
            have HS1 : Kp ((xs ++ ([(cnt : Int) * 8 / 72057594037927936, (cnt : Int) * 8 / 281474976710656 % 256, (cnt : Int) * 8 / 1099511627776 % 256, (cnt : Int) * 8 / 4294967296 % 256, (cnt : Int) * 8 / 16777216 % 256] : List Int)) ++ [(cnt : Int) * 8 / 65536 % 256] = xs ++ [(cnt : Int) * 8 / 72057594037927936, (cnt : Int) * 8 / 281474976710656 % 256, (cnt : Int) * 8 / 1099511627776 % 256, (cnt : Int) * 8 / 4294967296 % 256, (cnt : Int) * 8 / 16777216 % 256, (cnt : Int) * 8 / 65536 % 256]) := ⟨by rw [List.append_assoc]; rfl⟩
            have HL2 : Kp ((xs ++ ([(cnt : Int) * 8 / 72057594037927936, (cnt : Int) * 8 / 281474976710656 % 256, (cnt : Int) * 8 / 1099511627776 % 256, (cnt : Int) * 8 / 4294967296 % 256, (cnt : Int) * 8 / 16777216 % 256, (cnt : Int) * 8 / 65536 % 256] : List Int)).length = (rs.length + 1 + k) + 6) := ⟨by rw [List.length_append, HX0.out]; rfl⟩
            generalize hzs : xs ++ ([(cnt : Int) * 8 / 72057594037927936, (cnt : Int) * 8 / 281474976710656 % 256, (cnt : Int) * 8 / 1099511627776 % 256, (cnt : Int) * 8 / 4294967296 % 256, (cnt : Int) * 8 / 16777216 % 256] : List Int) = zs at HY HOx HS1
            clear hzs HO
            go_wp2_with (at_builtin; refine wpList_appendS rfl _ _ rfl rfl w'.heap.size (.slice (some ⟨g, 0, none⟩) ((rs.length + 1 + k) + 5) cp) zs rfl (by exact own_keep HOx.out ((Fr.refl (fun _ => False) wr).alloc _) (fun _ _ h => h)) (some ⟨wr.heap.size, 0, none⟩) 1 1 [(cnt : Int) * 8 / 65536 % 256] rfl rfl (by exact src_new wr [(cnt : Int) * 8 / 65536 % 256] 5 1 (Nat.le_refl _)) (by rw [HY.out]; simp only [List.length_cons, List.length_nil]; omega) (by exact (HF.out.alloc (.cells #[.int .u8 ((cnt : Int) * 8 / 65536 % 256)] 5)).size) ?_; intro v5 w5 hown hgr hat; obtain ⟨g5, cp5, hv, _⟩ := own_form hown (by simp); subst hv; obtain ⟨hF, hE⟩ := app_step (HF.out.alloc (.cells #[.int .u8 ((cnt : Int) * 8 / 65536 % 256)] 5)) (by exact own_keep HOx.out ((Fr.refl (fun _ => False) wr).alloc _) (fun _ _ h => h)) (HE.out.alloc _) (by decide) hgr; have HO5 := Kp.mk hown; have HF5 := Kp.mk hF; have HE5 := Kp.mk hE; clear hown hgr hat hF hE)
            go_roundw
            case rel =>
              refine ⟨6, g5, cp5, 1, ?_, by go_num, ⟨by omega, by omega⟩, ⟨?_⟩, HF5, HE5⟩
              · congr 1; have := HY.out; omega
              · have h := HO5.out
                rw [HS1.out, HL2.out] at h
                rw [HBE8.out]
                exact h
            case measure => simp [intOf]
          · obtain rfl : i = 1 := by omega
            clear A2
            have HY : Kp ((xs ++ ([(cnt : Int) * 8 / 72057594037927936, (cnt : Int) * 8 / 281474976710656 % 256, (cnt : Int) * 8 / 1099511627776 % 256, (cnt : Int) * 8 / 4294967296 % 256, (cnt : Int) * 8 / 16777216 % 256, (cnt : Int) * 8 / 65536 % 256] : List Int)).length = (rs.length + 1 + k) + 6) := ⟨by rw [List.length_append, HX0.out]; rfl⟩
            have HOx : Kp (wr.ownsRow w'.heap.size 5 1 (.slice (some ⟨g, 0, none⟩) ((rs.length + 1 + k) + 6) cp) (xs ++ ([(cnt : Int) * 8 / 72057594037927936, (cnt : Int) * 8 / 281474976710656 % 256, (cnt : Int) * 8 / 1099511627776 % 256, (cnt : Int) * 8 / 4294967296 % 256, (cnt : Int) * 8 / 16777216 % 256, (cnt : Int) * 8 / 65536 % 256] : List Int)).length (bytes (xs ++ [(cnt : Int) * 8 / 72057594037927936, (cnt : Int) * 8 / 281474976710656 % 256, (cnt : Int) * 8 / 1099511627776 % 256, (cnt : Int) * 8 / 4294967296 % 256, (cnt : Int) * 8 / 16777216 % 256, (cnt : Int) * 8 / 65536 % 256]))) := ⟨by rw [HY.out]; exact HO.out⟩
            have HS1 : Kp ((xs ++ ([(cnt : Int) * 8 / 72057594037927936, (cnt : Int) * 8 / 281474976710656 % 256, (cnt : Int) * 8 / 1099511627776 % 256, (cnt : Int) * 8 / 4294967296 % 256, (cnt : Int) * 8 / 16777216 % 256, (cnt : Int) * 8 / 65536 % 256] : List Int)) ++ [(cnt : Int) * 8 / 256 % 256] = xs ++ [(cnt : Int) * 8 / 72057594037927936, (cnt : Int) * 8 / 281474976710656 % 256, (cnt : Int) * 8 / 1099511627776 % 256, (cnt : Int) * 8 / 4294967296 % 256, (cnt : Int) * 8 / 16777216 % 256, (cnt : Int) * 8 / 65536 % 256, (cnt : Int) * 8 / 256 % 256]) := ⟨by rw [List.append_assoc]; rfl⟩
            have HL2 : Kp ((xs ++ ([(cnt : Int) * 8 / 72057594037927936, (cnt : Int) * 8 / 281474976710656 % 256, (cnt : Int) * 8 / 1099511627776 % 256, (cnt : Int) * 8 / 4294967296 % 256, (cnt : Int) * 8 / 16777216 % 256, (cnt : Int) * 8 / 65536 % 256, (cnt : Int) * 8 / 256 % 256] : List Int)).length = (rs.length + 1 + k) + 7) := ⟨by rw [List.length_append, HX0.out]; rfl⟩
            generalize hzs : xs ++ ([(cnt : Int) * 8 / 72057594037927936, (cnt : Int) * 8 / 281474976710656 % 256, (cnt : Int) * 8 / 1099511627776 % 256, (cnt : Int) * 8 / 4294967296 % 256, (cnt : Int) * 8 / 16777216 % 256, (cnt : Int) * 8 / 65536 % 256] : List Int) = zs at HY HOx HS1
            clear hzs HO
            go_wp2_with (at_builtin; refine wpList_appendS rfl _ _ rfl rfl w'.heap.size (.slice (some ⟨g, 0, none⟩) ((rs.length + 1 + k) + 6) cp) zs rfl (by exact own_keep HOx.out ((Fr.refl (fun _ => False) wr).alloc _) (fun _ _ h => h)) (some ⟨wr.heap.size, 0, none⟩) 1 1 [(cnt : Int) * 8 / 256 % 256] rfl rfl (by exact src_new wr [(cnt : Int) * 8 / 256 % 256] 5 1 (Nat.le_refl _)) (by rw [HY.out]; simp only [List.length_cons, List.length_nil]; omega) (by exact (HF.out.alloc (.cells #[.int .u8 ((cnt : Int) * 8 / 256 % 256)] 5)).size) ?_; intro v5 w5 hown hgr hat; obtain ⟨g5, cp5, hv, _⟩ := own_form hown (by simp); subst hv; obtain ⟨hF, hE⟩ := app_step (HF.out.alloc (.cells #[.int .u8 ((cnt : Int) * 8 / 256 % 256)] 5)) (by exact own_keep HOx.out ((Fr.refl (fun _ => False) wr).alloc _) (fun _ _ h => h)) (HE.out.alloc _) (by decide) hgr; have HO5 := Kp.mk hown; have HF5 := Kp.mk hF; have HE5 := Kp.mk hE; clear hown hgr hat hF hE)
            go_roundw
            case rel =>
              refine ⟨7, g5, cp5, 0, ?_, by go_num, ⟨by omega, by omega⟩, ⟨?_⟩, HF5, HE5⟩
              · congr 1; have := HY.out; omega
              · have h := HO5.out
                rw [HS1.out, HL2.out] at h
                rw [HBE8.out]
                exact h
            case measure => simp [intOf]
          · obtain rfl : i = 0 := by omega
            clear A2
            have HY : Kp ((xs ++ ([(cnt : Int) * 8 / 72057594037927936, (cnt : Int) * 8 / 281474976710656 % 256, (cnt : Int) * 8 / 1099511627776 % 256, (cnt : Int) * 8 / 4294967296 % 256, (cnt : Int) * 8 / 16777216 % 256, (cnt : Int) * 8 / 65536 % 256, (cnt : Int) * 8 / 256 % 256] : List Int)).length = (rs.length + 1 + k) + 7) := ⟨by rw [List.length_append, HX0.out]; rfl⟩
            have HOx : Kp (wr.ownsRow w'.heap.size 5 1 (.slice (some ⟨g, 0, none⟩) ((rs.length + 1 + k) + 7) cp) (xs ++ ([(cnt : Int) * 8 / 72057594037927936, (cnt : Int) * 8 / 281474976710656 % 256, (cnt : Int) * 8 / 1099511627776 % 256, (cnt : Int) * 8 / 4294967296 % 256, (cnt : Int) * 8 / 16777216 % 256, (cnt : Int) * 8 / 65536 % 256, (cnt : Int) * 8 / 256 % 256] : List Int)).length (bytes (xs ++ [(cnt : Int) * 8 / 72057594037927936, (cnt : Int) * 8 / 281474976710656 % 256, (cnt : Int) * 8 / 1099511627776 % 256, (cnt : Int) * 8 / 4294967296 % 256, (cnt : Int) * 8 / 16777216 % 256, (cnt : Int) * 8 / 65536 % 256, (cnt : Int) * 8 / 256 % 256]))) := ⟨by rw [HY.out]; exact HO.out⟩
            have HS1 : Kp ((xs ++ ([(cnt : Int) * 8 / 72057594037927936, (cnt : Int) * 8 / 281474976710656 % 256, (cnt : Int) * 8 / 1099511627776 % 256, (cnt : Int) * 8 / 4294967296 % 256, (cnt : Int) * 8 / 16777216 % 256, (cnt : Int) * 8 / 65536 % 256, (cnt : Int) * 8 / 256 % 256] : List Int)) ++ [(cnt : Int) * 8 % 256] = xs ++ [(cnt : Int) * 8 / 72057594037927936, (cnt : Int) * 8 / 281474976710656 % 256, (cnt : Int) * 8 / 1099511627776 % 256, (cnt : Int) * 8 / 4294967296 % 256, (cnt : Int) * 8 / 16777216 % 256, (cnt : Int) * 8 / 65536 % 256, (cnt : Int) * 8 / 256 % 256, (cnt : Int) * 8 % 256]) := ⟨by rw [List.append_assoc]; rfl⟩
            have HL2 : Kp ((xs ++ ([(cnt : Int) * 8 / 72057594037927936, (cnt : Int) * 8 / 281474976710656 % 256, (cnt : Int) * 8 / 1099511627776 % 256, (cnt : Int) * 8 / 4294967296 % 256, (cnt : Int) * 8 / 16777216 % 256, (cnt : Int) * 8 / 65536 % 256, (cnt : Int) * 8 / 256 % 256, (cnt : Int) * 8 % 256] : List Int)).length = (rs.length + 1 + k) + 8) := ⟨by rw [List.length_append, HX0.out]; rfl⟩
            generalize hzs : xs ++ ([(cnt : Int) * 8 / 72057594037927936, (cnt : Int) * 8 / 281474976710656 % 256, (cnt : Int) * 8 / 1099511627776 % 256, (cnt : Int) * 8 / 4294967296 % 256, (cnt : Int) * 8 / 16777216 % 256, (cnt : Int) * 8 / 65536 % 256, (cnt : Int) * 8 / 256 % 256] : List Int) = zs at HY HOx HS1
            clear hzs HO
            go_wp2_with (at_builtin; refine wpList_appendS rfl _ _ rfl rfl w'.heap.size (.slice (some ⟨g, 0, none⟩) ((rs.length + 1 + k) + 7) cp) zs rfl (by exact own_keep HOx.out ((Fr.refl (fun _ => False) wr).alloc _) (fun _ _ h => h)) (some ⟨wr.heap.size, 0, none⟩) 1 1 [(cnt : Int) * 8 % 256] rfl rfl (by exact src_new wr [(cnt : Int) * 8 % 256] 5 1 (Nat.le_refl _)) (by rw [HY.out]; simp only [List.length_cons, List.length_nil]; omega) (by exact (HF.out.alloc (.cells #[.int .u8 ((cnt : Int) * 8 % 256)] 5)).size) ?_; intro v5 w5 hown hgr hat; obtain ⟨g5, cp5, hv, _⟩ := own_form hown (by simp); subst hv; obtain ⟨hF, hE⟩ := app_step (HF.out.alloc (.cells #[.int .u8 ((cnt : Int) * 8 % 256)] 5)) (by exact own_keep HOx.out ((Fr.refl (fun _ => False) wr).alloc _) (fun _ _ h => h)) (HE.out.alloc _) (by decide) hgr; have HO5 := Kp.mk hown; have HF5 := Kp.mk hF; have HE5 := Kp.mk hE; clear hown hgr hat hF hE)
            go_roundw
            case rel =>
              refine ⟨8, g5, cp5, -1, ?_, by go_num, ⟨by omega, by omega⟩, ⟨?_⟩, HF5, HE5⟩
              · congr 1; have := HY.out; omega
              · have h := HO5.out
                rw [HS1.out, HL2.out] at h
                rw [HBE8.out]
                exact h
            case measure => simp [intOf]
          · obtain rfl : i = -1 := by omega
            clear A2
            have HT0 : Kp (wr.ownsRow w'.heap.size 5 1 (.slice (some ⟨g, 0, none⟩) ((rs.length + 1 + k) + 8) cp) ((rs.length + 1 + k) + 8) (bytes (rs ++ padding false rs.length cnt))) := ⟨by rw [← HPAD.out, HBE8.out]; exact HO.out⟩
            have HTL : Kp ((rs.length + 1 + k) + 8 = (rs ++ padding false rs.length cnt).length) := ⟨by rw [← HPAD.out, List.length_append, HX0.out, be8_length]⟩
            have hsum : Kp ((St.mk false cnt c rs).sum = words false (runC false c (rs ++ padding false rs.length cnt) ((rs ++ padding false rs.length cnt).length / 64))) := ⟨rfl⟩
            generalize rs ++ padding false rs.length cnt = T at HT0 HTL hsum
            generalize (rs.length + 1 + k) + 8 = n0 at HT0 HTL ⊢
            have HR := Kp.mk (own_reads HT0.out HTL.out)
            have HLr := Kp.mk (HL.out.fr HF.out (fun _ h => h.elim))
            have HGE : Kp (g ≠ be) := ⟨own_ne HT0.out rfl HE.out (by decide)⟩
            have HLow : Kp (low ≤ be) := ⟨by rw [HBE.out]; exact HL.out.size⟩
            clear HO HPAD HBE8 HX0 HB1 hsh hcv HL HD
            go_wp2
            go_loopw [5] (fun s5 wq => ∃ o n m : Nat, s5 = .slice (some ⟨g, o, none⟩) n m ∧ Kp (∃ j, 64 * j ≤ T.length ∧ (0 < n → o = 0 + 64 * j) ∧ n = T.length - 64 * j ∧ n ≤ m ∧ Blk wq be 135 (dcells false 0 (runC false c T j) (.slice none 0 0))) ∧ Kp (Fr (fun k => k = be) wr wq)) (fun s5 _ => lenOf s5)
            case atStart => exact ⟨0, n0, cp, rfl, ⟨0, Nat.zero_le _, fun _ => rfl, HTL.out, HR.out.1, HE.out⟩, ⟨Fr.refl _ _⟩⟩
            case round =>
              obtain ⟨o, n, m, rfl, HJ, HFq⟩ := hrel
              obtain ⟨j, hj, ho, hn, hnm, hB⟩ := HJ.out
              have HBk := Kp.mk hB
              have HLq := Kp.mk (HLr.out.fr HFq.out (fun k hk => hk ▸ HLow.out))
              have HXq := Kp.mk (HR.out.2.fr HFq.out HGE.out)
              have HO := Kp.mk ho
              have HN := Kp.mk hn
              have HJJ := Kp.mk hj
              clear HJ hB ho hn hj
              by_cases hlt : 64 ≤ n
              · have hlen : ((T.drop (64 * j)).take 64).length = 64 := by
                  have := HN.out
                  simp; omega
                have hm64 : 64 ≤ m := by omega
                have hmix := Kp.mk (M32.mix_calls be 0 (runC false c T j) (.slice none 0 0) g o 64 m ((T.drop (64 * j)).take 64) hlen (Nat.le_refl _) hm64 _ HLq.out HBk.out (by rw [HO.out (by omega)]; exact (HXq.out.drop _).take _))
                clear hlen
                go_wp2_with fail
                refine hmix.out.mono ?_
                rintro e wz ⟨r2, rfl, hB2, hF2⟩
                have HB2 := Kp.mk hB2
                have HF2 := Kp.mk (HFq.out.trans hF2 (fun _ _ h => h))
                clear hB2 hF2 hmix
                by_cases hme : m = 64
                · subst hme
                  obtain rfl : n = 64 := by omega
                  go_wp2
                  go_roundw
                  case rel => exact ⟨o, 0, 0, rfl, ⟨j + 1, by have := HN.out; omega, fun h => absurd h (Nat.lt_irrefl _), by have := HN.out; omega, Nat.le_refl _, HB2.out⟩, HF2⟩
                  case measure => simp [lenOf] <;> omega
                · go_wp2
                  go_roundw
                  case rel => exact ⟨o + 64, n - 64, m - 64, rfl, ⟨j + 1, by have := HN.out; omega, fun h => by have := HO.out; omega, by have := HN.out; omega, by omega, HB2.out⟩, HF2⟩
                  case measure => simp [lenOf] <;> omega
              · have hjn : T.length / 64 = j := by have := HN.out; have := HJJ.out; omega
                rw [hjn] at hsum
                have hw := Kp.mk (words_calls false be 0 (runC false c T j) (.slice none 0 0) _ HBk.out)
                have HFz := Kp.mk (Fr.trans (S := fun _ => False) HF.out HFq.out (fun k hk he => by have := HBE.out; omega))
                clear hjn
                go_wp2_with fail
                refine hw.out.mono ?_
                rintro e wz ⟨v, rfl, hO, hB⟩
                have HOz := Kp.mk hO
                have HBz := Kp.mk hB
                clear hO hB hw
                go_wp2
                go_ret
                refine ⟨v, rfl, ?_, ?_⟩
                · rw [HC.out, hsum.out]
                  exact own_base HOz.out HFz.out.size
                · exact (HFz.out.then_below HBz.out).below (fun _ _ h => h)
end Go.Proofs.YtjcmgpiapbeodaaDoor.Sha.S32
namespace Go.Proofs.YtjcmgpiapbeodaaDoor.Sha.S64
open Go.RowKit Go.Proofs.YtjcmgpiapbeodaaDoor.Mem Go.Proofs.YtjcmgpiapbeodaaDoorW.PrintWords
attribute [local go_sem ↓] Go.wp_at_zero Go.wp_at_succ wp_store_new wp_load_chain
attribute [local go_sem] chainAt_ptr chainOk_ptr good19_agg aggCells_agg Value.oneCell'
set_option maxHeartbeats 4000000 in
set_option maxRecDepth 100000 in
theorem sum_calls (b cnt : Nat) (c : Chain) (rv : Value) (rs : List Int) (hrs : rs.length < 128) (hcnt : cnt ≤ maxCount) (w : World) (hL : Laid w) (hD : Dg w b rv ⟨true, cnt, c, rs⟩) :
    Calls Tryd.prog 40 #[.pointer (some ⟨b, 0, none⟩)] w fun e w' => ∃ v, e = .returned v ∧ Own w' w.heap.size v (St.mk true cnt c rs).sum ∧ Below w.heap.size w w' := by
  obtain ⟨Ar, cr, rfl, hsrc⟩ := Src.of_own hD.rest (fun _ => False) (fun _ _ h => h)
  simp only at hsrc
  have HS := Kp.mk hsrc
  have HD := Kp.mk hD
  have HL := Kp.mk hL
  clear hsrc hD hL
  obtain ⟨⟨c0, c1, c2, c3, c4, c5, c6, c7⟩, ⟨d0, d1, d2, d3, d4, d5, d6, d7⟩⟩ := c
  have h0 := HD.out.blk.cell 0 (.int .i64 ((kind true : Nat) : Int)) rfl
  have h1 := HD.out.blk.cell 1 (.int .i64 (cnt : Int)) rfl
  have h2 := HD.out.blk.cell 2 (.int .u32 (c0.toNat : Int)) rfl
  have h3 := HD.out.blk.cell 3 (.int .u32 (c1.toNat : Int)) rfl
  have h4 := HD.out.blk.cell 4 (.int .u32 (c2.toNat : Int)) rfl
  have h5 := HD.out.blk.cell 5 (.int .u32 (c3.toNat : Int)) rfl
  have h6 := HD.out.blk.cell 6 (.int .u32 (c4.toNat : Int)) rfl
  have h7 := HD.out.blk.cell 7 (.int .u32 (c5.toNat : Int)) rfl
  have h8 := HD.out.blk.cell 8 (.int .u32 (c6.toNat : Int)) rfl
  have h9 := HD.out.blk.cell 9 (.int .u32 (c7.toNat : Int)) rfl
  have h10 := HD.out.blk.cell 10 (.int .u64 (d0.toNat : Int)) rfl
  have h11 := HD.out.blk.cell 11 (.int .u64 (d1.toNat : Int)) rfl
  have h12 := HD.out.blk.cell 12 (.int .u64 (d2.toNat : Int)) rfl
  have h13 := HD.out.blk.cell 13 (.int .u64 (d3.toNat : Int)) rfl
  have h14 := HD.out.blk.cell 14 (.int .u64 (d4.toNat : Int)) rfl
  have h15 := HD.out.blk.cell 15 (.int .u64 (d5.toNat : Int)) rfl
  have h16 := HD.out.blk.cell 16 (.int .u64 (d6.toNat : Int)) rfl
  have h17 := HD.out.blk.cell 17 (.int .u64 (d7.toNat : Int)) rfl
  have ha0 : ∀ o : Obj, (w.alloc o).cell? ⟨b, 0, none⟩ = some (.int .i64 512) := fun o => (HD.out.blk.alloc o).cell 0 _ rfl
  have ha2 : ∀ o : Obj, (w.alloc o).cell? ⟨b, 2, none⟩ = some (.int .u32 (c0.toNat : Int)) := fun o => (HD.out.blk.alloc o).cell 2 _ rfl
  have ha3 : ∀ o : Obj, (w.alloc o).cell? ⟨b, 3, none⟩ = some (.int .u32 (c1.toNat : Int)) := fun o => (HD.out.blk.alloc o).cell 3 _ rfl
  have ha4 : ∀ o : Obj, (w.alloc o).cell? ⟨b, 4, none⟩ = some (.int .u32 (c2.toNat : Int)) := fun o => (HD.out.blk.alloc o).cell 4 _ rfl
  have ha5 : ∀ o : Obj, (w.alloc o).cell? ⟨b, 5, none⟩ = some (.int .u32 (c3.toNat : Int)) := fun o => (HD.out.blk.alloc o).cell 5 _ rfl
  have ha6 : ∀ o : Obj, (w.alloc o).cell? ⟨b, 6, none⟩ = some (.int .u32 (c4.toNat : Int)) := fun o => (HD.out.blk.alloc o).cell 6 _ rfl
  have ha7 : ∀ o : Obj, (w.alloc o).cell? ⟨b, 7, none⟩ = some (.int .u32 (c5.toNat : Int)) := fun o => (HD.out.blk.alloc o).cell 7 _ rfl
  have ha8 : ∀ o : Obj, (w.alloc o).cell? ⟨b, 8, none⟩ = some (.int .u32 (c6.toNat : Int)) := fun o => (HD.out.blk.alloc o).cell 8 _ rfl
  have ha9 : ∀ o : Obj, (w.alloc o).cell? ⟨b, 9, none⟩ = some (.int .u32 (c7.toNat : Int)) := fun o => (HD.out.blk.alloc o).cell 9 _ rfl
  have ha10 : ∀ o : Obj, (w.alloc o).cell? ⟨b, 10, none⟩ = some (.int .u64 (d0.toNat : Int)) := fun o => (HD.out.blk.alloc o).cell 10 _ rfl
  have ha11 : ∀ o : Obj, (w.alloc o).cell? ⟨b, 11, none⟩ = some (.int .u64 (d1.toNat : Int)) := fun o => (HD.out.blk.alloc o).cell 11 _ rfl
  have ha12 : ∀ o : Obj, (w.alloc o).cell? ⟨b, 12, none⟩ = some (.int .u64 (d2.toNat : Int)) := fun o => (HD.out.blk.alloc o).cell 12 _ rfl
  have ha13 : ∀ o : Obj, (w.alloc o).cell? ⟨b, 13, none⟩ = some (.int .u64 (d3.toNat : Int)) := fun o => (HD.out.blk.alloc o).cell 13 _ rfl
  have ha14 : ∀ o : Obj, (w.alloc o).cell? ⟨b, 14, none⟩ = some (.int .u64 (d4.toNat : Int)) := fun o => (HD.out.blk.alloc o).cell 14 _ rfl
  have ha15 : ∀ o : Obj, (w.alloc o).cell? ⟨b, 15, none⟩ = some (.int .u64 (d5.toNat : Int)) := fun o => (HD.out.blk.alloc o).cell 15 _ rfl
  have ha16 : ∀ o : Obj, (w.alloc o).cell? ⟨b, 16, none⟩ = some (.int .u64 (d6.toNat : Int)) := fun o => (HD.out.blk.alloc o).cell 16 _ rfl
  have ha17 : ∀ o : Obj, (w.alloc o).cell? ⟨b, 17, none⟩ = some (.int .u64 (d7.toNat : Int)) := fun o => (HD.out.blk.alloc o).cell 17 _ rfl
  have HB := block_calls b true w h0
  simp only [kind, blk] at h0 HB
  have hcnt' := hcnt
  unfold maxCount at hcnt'
  go_enter Tryd.func40, Tryd.ntmps40
  go_wp2_with (first | (go_at_call 66; (with_reducible refine HB.mono ?_); rintro e w' ⟨rfl, rfl⟩))
  go_region
  have hE : Kp (Blk ((w'.alloc (.cells #[.int .i64 512, .int .i64 0, .int .u32 (c0.toNat : Int), .int .u32 (c1.toNat : Int), .int .u32 (c2.toNat : Int), .int .u32 (c3.toNat : Int), .int .u32 (c4.toNat : Int), .int .u32 (c5.toNat : Int), .int .u32 (c6.toNat : Int), .int .u32 (c7.toNat : Int), .int .u64 (d0.toNat : Int), .int .u64 (d1.toNat : Int), .int .u64 (d2.toNat : Int), .int .u64 (d3.toNat : Int), .int .u64 (d4.toNat : Int), .int .u64 (d5.toNat : Int), .int .u64 (d6.toNat : Int), .int .u64 (d7.toNat : Int), .slice none 0 0] 135)).drew) w'.heap.size 135 (dcells true 0 ⟨⟨c0, c1, c2, c3, c4, c5, c6, c7⟩, ⟨d0, d1, d2, d3, d4, d5, d6, d7⟩⟩ (.slice none 0 0))) := ⟨Blk.new w' _ _⟩
  have hF : Kp (Fr (fun _ => False) w' ((w'.alloc (.cells #[.int .i64 512, .int .i64 0, .int .u32 (c0.toNat : Int), .int .u32 (c1.toNat : Int), .int .u32 (c2.toNat : Int), .int .u32 (c3.toNat : Int), .int .u32 (c4.toNat : Int), .int .u32 (c5.toNat : Int), .int .u32 (c6.toNat : Int), .int .u32 (c7.toNat : Int), .int .u64 (d0.toNat : Int), .int .u64 (d1.toNat : Int), .int .u64 (d2.toNat : Int), .int .u64 (d3.toNat : Int), .int .u64 (d4.toNat : Int), .int .u64 (d5.toNat : Int), .int .u64 (d6.toNat : Int), .int .u64 (d7.toNat : Int), .slice none 0 0] 135)).drew)) := ⟨((Fr.refl _ w').alloc _).drew⟩
  have HRB := Kp.mk (HD.out.blk.fr hF.out (fun h => h))
  have HS1 := Kp.mk (HS.out.fr hF.out)
  have HL1 := Kp.mk (HL.out.below (hF.out.below (fun _ _ h => h)))
  obtain ⟨be, hbe⟩ : ∃ be, be = w'.heap.size := ⟨_, rfl⟩
  have HBE := Kp.mk hbe
  rw [← hbe] at hE ⊢
  clear hbe h0 h1 h2 h3 h4 h5 h6 h7 h8 h9 h10 h11 h12 h13 h14 h15 h16 h17 ha0 ha2 ha3 ha4 ha5 ha6 ha7 ha8 ha9 ha10 ha11 ha12 ha13 ha14 ha15 ha16 ha17 HB HS
  generalize (w'.alloc (.cells #[.int .i64 512, .int .i64 0, .int .u32 (c0.toNat : Int), .int .u32 (c1.toNat : Int), .int .u32 (c2.toNat : Int), .int .u32 (c3.toNat : Int), .int .u32 (c4.toNat : Int), .int .u32 (c5.toNat : Int), .int .u32 (c6.toNat : Int), .int .u32 (c7.toNat : Int), .int .u64 (d0.toNat : Int), .int .u64 (d1.toNat : Int), .int .u64 (d2.toNat : Int), .int .u64 (d3.toNat : Int), .int .u64 (d4.toNat : Int), .int .u64 (d5.toNat : Int), .int .u64 (d6.toNat : Int), .int .u64 (d7.toNat : Int), .slice none 0 0] 135)).drew = W1 at hE hF HRB HS1 HL1 ⊢
  generalize hc : (⟨⟨c0, c1, c2, c3, c4, c5, c6, c7⟩, ⟨d0, d1, d2, d3, d4, d5, d6, d7⟩⟩ : Chain) = c at hE HD HRB ⊢
  have HC := Kp.mk hc
  clear hc
  have h1 := HRB.out.cell 1 (.int .i64 (cnt : Int)) rfl
  have h18 := HRB.out.cell 18 (.slice Ar rs.length cr) rfl
  have ha18 : ∀ o : Obj, (W1.alloc o).cell? ⟨b, 18, none⟩ = some (.slice Ar rs.length cr) := fun o => (HRB.out.alloc o).cell 18 _ rfl
  have hmk : ∀ w, (Instr.makeSlice 22 (.int .i64 0) (.int .i64 256)).run Tryd.prog w = .ok (.slice (some ⟨w.heap.size, 0, none⟩) 0 256) (w.alloc (.cells (Wk.zeros 256) 5)) := Wk.make_bytes 256 (by omega) (by omega)
  have hw2 : IntKind.i64.wrap 256 = 256 := by decide
  have HO0 : Kp ((W1.alloc (.cells (Wk.zeros 256) 5)).ownsRow w'.heap.size 5 1 (.slice (some ⟨W1.heap.size, 0, none⟩) 0 256) ([] : List Int).length (bytes [])) := ⟨own_base (Kd.own_of_R (Wk.own_zeros W1 256 (by omega))) hF.out.size⟩
  have HFA : Kp (Fr (fun _ => False) w' (W1.alloc (.cells (Wk.zeros 256) 5))) := ⟨hF.out.alloc _⟩
  have HEA : Kp (Blk (W1.alloc (.cells (Wk.zeros 256) 5)) be 135 (dcells true 0 c (.slice none 0 0))) := ⟨hE.out.alloc _⟩
  have HSA := Kp.mk (HS1.out.fr ((Fr.refl (fun _ => False) W1).alloc (.cells (Wk.zeros 256) 5)))
  go_wp2
  go_region_held3 (fun w' => w'.cell? ⟨b, 18, none⟩ = some (.slice Ar rs.length cr)) (first | go_keep | exact (hgr.cell_far ⟨b, 18, none⟩ (by have := HRB.out.lt; simp; omega) (by have := HRB.out.lt; simp [Value.ownBlock]; omega)).trans (ha18 _)) ((refine step_appendS (by rfl) _ _ (by rfl) (by rfl) w'.heap.size (.slice (some ⟨W1.heap.size, 0, none⟩) 0 256) [] (by rfl) (by exact HO0.out) Ar rs.length cr rs rfl (by rfl) (by exact HSA.out) (by simp only [List.length_nil]; omega) (by exact HFA.out.size) ?_; intro v2 w2 hown2 hgr hat; have HO2 := Kp.mk hown2; have HG := Kp.mk hgr))
  all_goals
    simp only [List.nil_append] at HO2
    obtain ⟨hF2, hE2⟩ := app_step (W := (W1.alloc (.cells (Wk.zeros 256) 5)).drew) HFA.out.drew (by exact HO0.out) HEA.out.drew (by decide) HG.out
    have HF2 := Kp.mk hF2
    have HE2 := Kp.mk hE2
    clear HO0 HFA HEA HSA HG hF2 hE2 hE hF HS1 HL1 hmk hw2 ha18 h18 h1 HRB
    go_wp2_with (at_builtin; refine wpList_appendS rfl _ _ rfl rfl w'.heap.size v2 rs rfl (by exact own_keep HO2.out ((Fr.refl (fun _ => False) w2).alloc _) (fun _ _ h => h)) (some ⟨w2.heap.size, 0, none⟩) 1 1 [128] rfl rfl (by exact src_new w2 [128] 5 1 (Nat.le_refl _)) (by simp only [List.length_cons, List.length_nil]; omega) (by exact (HF2.out.alloc (.cells #[.int .u8 128] 5)).size) ?_; intro v3 w3 hown3 hgr hat; obtain ⟨g3, cp3, hv3, _⟩ := own_form hown3 (by simp); subst hv3; obtain ⟨hF3, hE3⟩ := app_step (HF2.out.alloc (.cells #[.int .u8 128] 5)) (by exact own_keep HO2.out ((Fr.refl (fun _ => False) w2).alloc _) (fun _ _ h => h)) (HE2.out.alloc _) (by decide) hgr; have HO3 := Kp.mk hown3; have HF3 := Kp.mk hF3; have HE3 := Kp.mk hE3; clear hown3 hgr hat hF3 hE3)
    have HZ : Kp (w3.ownsRow w'.heap.size 5 1 (.slice (some ⟨g3, 0, none⟩) (rs.length + 1 + 0) cp3) (rs.length + 1 + 0) (bytes (rs ++ 128 :: List.replicate 0 0))) := ⟨by have h := HO3.out; rw [List.length_append] at h; exact h⟩
    clear HO3 HO2 HF2 HE2
    go_loopw [5] (fun s5 wr => ∃ k g cp : Nat, s5 = .slice (some ⟨g, 0, none⟩) (rs.length + 1 + k) cp ∧ Kp (k ≤ zerosFor true rs.length) ∧ Kp (wr.ownsRow w'.heap.size 5 1 (.slice (some ⟨g, 0, none⟩) (rs.length + 1 + k) cp) (rs.length + 1 + k) (bytes (rs ++ 128 :: List.replicate k 0))) ∧ Kp (Fr (fun _ => False) w' wr) ∧ Kp (Blk wr be 135 (dcells true 0 c (.slice none 0 0)))) (fun s5 _ => 400 - lenOf s5)
    case atStart => exact ⟨0, g3, cp3, rfl, ⟨Nat.zero_le _⟩, HZ, HF3, HE3⟩
    case round =>
      clear HZ HF3 HE3
      obtain ⟨k, g, cp, rfl, A1, HO, HF, HE⟩ := hrel
      have hk := A1.out
      unfold zerosFor at hk
      simp only [blk] at hk
      have hrem : ((rs.length : Int) + 1 + (k : Int)).tmod 128 = (((rs.length + 1 + k) % 128 : Nat) : Int) := by rw [Int.tmod_eq_emod_of_nonneg (by omega)]; omega
      have HXL : Kp ((rs ++ 128 :: List.replicate k (0 : Int)).length = rs.length + 1 + k) := ⟨by simp; omega⟩
      by_cases hlt : k < zerosFor true rs.length
      · have hne : ((rs.length + 1 + k) % 128 : Nat) ≠ 112 := by unfold zerosFor at hlt; simp only [blk] at hlt; omega
        have hdec : decide ((((rs.length + 1 + k) % 128 : Nat) : Int) = 112) = false := decide_eq_false (by omega)
        have HOx : Kp (wr.ownsRow w'.heap.size 5 1 (.slice (some ⟨g, 0, none⟩) (rs.length + 1 + k) cp) (rs ++ 128 :: List.replicate k (0 : Int)).length (bytes (rs ++ 128 :: List.replicate k 0))) := ⟨by rw [HXL.out]; exact HO.out⟩
        have HS1 : Kp ((rs ++ 128 :: List.replicate k (0 : Int)) ++ [0] = rs ++ 128 :: List.replicate (k + 1) 0) := ⟨by rw [List.replicate_succ', List.append_assoc]; rfl⟩
        have HL2 : Kp ((rs ++ 128 :: List.replicate (k + 1) (0 : Int)).length = rs.length + 1 + (k + 1)) := ⟨by simp; omega⟩
        generalize hxs : rs ++ 128 :: List.replicate k (0 : Int) = xs at HXL HOx HS1
        clear hxs HO
        go_wp2_with (at_builtin; refine wpList_appendS rfl _ _ rfl rfl w'.heap.size (.slice (some ⟨g, 0, none⟩) (rs.length + 1 + k) cp) xs rfl (by exact own_keep HOx.out ((Fr.refl (fun _ => False) wr).alloc _) (fun _ _ h => h)) (some ⟨wr.heap.size, 0, none⟩) 1 1 [0] rfl rfl (by exact src_new wr [0] 5 1 (Nat.le_refl _)) (by rw [HXL.out]; simp only [List.length_cons, List.length_nil]; omega) (by exact (HF.out.alloc (.cells #[.int .u8 0] 5)).size) ?_; intro v5 w5 hown hgr hat; obtain ⟨g5, cp5, hv, _⟩ := own_form hown (by simp); subst hv; obtain ⟨hF, hE⟩ := app_step (HF.out.alloc (.cells #[.int .u8 0] 5)) (by exact own_keep HOx.out ((Fr.refl (fun _ => False) wr).alloc _) (fun _ _ h => h)) (HE.out.alloc _) (by decide) hgr; have HO5 := Kp.mk hown; have HF5 := Kp.mk hF; have HE5 := Kp.mk hE; clear hown hgr hat hF hE)
        go_roundw
        case rel =>
          refine ⟨k + 1, g5, cp5, ?_, ⟨hlt⟩, ⟨?_⟩, HF5, HE5⟩
          · congr 1; have := HXL.out; omega
          · have h := HO5.out
            rw [HS1.out, HL2.out] at h
            exact h
        case measure => simp [lenOf]; have := HXL.out; omega
      · have hz : k = zerosFor true rs.length := Nat.le_antisymm A1.out (Nat.le_of_not_lt hlt)
        have heq : ((rs.length + 1 + k) % 128 : Nat) = 112 := by unfold zerosFor at hz; simp only [blk] at hz; omega
        rw [heq] at hrem
        have HK := Kp.mk hz
        have hkb : k ≤ 128 := by omega
        clear hk hz heq hlt A1
        have HB1 : ∀ (W : World), Fr (fun _ => False) w' W → W.cell? ⟨b, 1, none⟩ = some (.int .i64 (cnt : Int)) := fun W h => (HD.out.blk.fr h (fun h => h)).cell 1 _ rfl
        have hcell := HB1 wr HF.out
        have hsh : IntKind.u64.wrap ((cnt : Int) * 8) = (cnt : Int) * 8 := by rw [wrap64u]; omega
        have hcv : IntKind.u64.wrap (cnt : Int) = (cnt : Int) := by rw [wrap64u]; omega
        have HOx : Kp (wr.ownsRow w'.heap.size 5 1 (.slice (some ⟨g, 0, none⟩) (rs.length + 1 + k) cp) (rs ++ 128 :: List.replicate k (0 : Int)).length (bytes (rs ++ 128 :: List.replicate k 0))) := ⟨by rw [HXL.out]; exact HO.out⟩
        have hyb : (rs ++ 128 :: List.replicate k (0 : Int)).length ≤ 400 := by rw [HXL.out]; omega
        generalize hys : rs ++ 128 :: List.replicate k (0 : Int) = ys at HXL HOx hyb
        have HK2 : Kp (rs ++ 128 :: List.replicate (zerosFor true rs.length) (0 : Int) = ys) := ⟨by rw [← HK.out]; exact hys⟩
        clear hys
        go_wp2_with (at_builtin; refine wpList_appendS rfl _ _ rfl rfl w'.heap.size (.slice (some ⟨g, 0, none⟩) (rs.length + 1 + k) cp) ys rfl (by exact own_keep HOx.out ((Fr.refl (fun _ => False) wr).alloc _) (fun _ _ h => h)) (some ⟨wr.heap.size, 0, none⟩) 8 8 [0, 0, 0, 0, 0, 0, 0, 0] rfl rfl (by exact src_new wr [0, 0, 0, 0, 0, 0, 0, 0] 5 8 (Nat.le_refl _)) (by rw [HXL.out]; simp only [List.length_cons, List.length_nil]; omega) (by exact (HF.out.alloc (.cells #[.int .u8 0, .int .u8 0, .int .u8 0, .int .u8 0, .int .u8 0, .int .u8 0, .int .u8 0, .int .u8 0] 5)).size) ?_; intro v6 w6 hown hgr hat; obtain ⟨g6, cp6, hv, _⟩ := own_form hown (by simp); subst hv; obtain ⟨hF, hE⟩ := app_step (HF.out.alloc (.cells #[.int .u8 0, .int .u8 0, .int .u8 0, .int .u8 0, .int .u8 0, .int .u8 0, .int .u8 0, .int .u8 0] 5)) (by exact own_keep HOx.out ((Fr.refl (fun _ => False) wr).alloc _) (fun _ _ h => h)) (HE.out.alloc _) (by decide) hgr; have HO6 := Kp.mk hown; have HF6 := Kp.mk hF; have HE6 := Kp.mk hE; have hcell6 := HB1 w6 hF; clear hown hgr hat hF hE)
        have HF0 : Kp (Fr (fun _ => False) w' w6) := HF6
        have HE0 : Kp (Blk w6 be 135 (dcells true 0 c (.slice none 0 0))) := HE6
        have HX0 : Kp (((ys ++ [0, 0, 0, 0, 0, 0, 0, 0]) : List Int).length = (ys.length + 8)) := ⟨by simp <;> omega⟩
        have HQ0 : Kp ((w6).ownsRow w'.heap.size 5 1 (.slice (some ⟨g6, 0, none⟩) ((ys.length + 8) + 0) cp6) ((ys.length + 8) + 0) (bytes (((ys ++ [0, 0, 0, 0, 0, 0, 0, 0]) : List Int) ++ [].take 0))) := ⟨by have h := HO6.out; rw [List.length_append] at h; simpa using h⟩
        have HPAD : Kp (((ys ++ [0, 0, 0, 0, 0, 0, 0, 0]) : List Int) ++ be8 (8 * cnt) = rs ++ padding true rs.length cnt) := ⟨by rw [← HK2.out]; simp [padding, List.replicate]⟩
        have hbe8 := be8_list (8 * cnt) (by omega)
        rw [show ((8 * cnt : Nat) : Int) = (cnt : Int) * 8 by omega] at hbe8
        rw [show (cnt : Int) * 8 / 72057594037927936 % 256 = (cnt : Int) * 8 / 72057594037927936 by omega] at hbe8
        have HBE8 := Kp.mk hbe8
        clear hbe8
        generalize hgx : ((ys ++ [0, 0, 0, 0, 0, 0, 0, 0]) : List Int) = xs at HX0 HQ0 HPAD
        clear hgx HO HF HE HXL hrem hcell
        go_loopw [5, 7] (fun s5 s7 wr => ∃ (t g cp : Nat) (i : Int), s5 = .slice (some ⟨g, 0, none⟩) ((ys.length + 8) + t) cp ∧ s7 = .int .i64 i ∧ Kp (t ≤ 8 ∧ i = 7 - (t : Int)) ∧ Kp (wr.ownsRow w'.heap.size 5 1 (.slice (some ⟨g, 0, none⟩) ((ys.length + 8) + t) cp) ((ys.length + 8) + t) (bytes (xs ++ (be8 (8 * cnt)).take t))) ∧ Kp (Fr (fun _ => False) w' wr) ∧ Kp (Blk wr be 135 (dcells true 0 c (.slice none 0 0)))) (fun _ s7 _ => (intOf s7 + 1).toNat)
        case atStart => exact ⟨0, g6, cp6, 7, rfl, rfl, ⟨Nat.zero_le _, rfl⟩, HQ0, HF0, HE0⟩
        case round =>
          clear HQ0 HF0 HE0
          obtain ⟨t, g, cp, i, rfl, rfl, A1, HO, HF, HE⟩ := hrel
          obtain ⟨A1, A2⟩ := A1.out
          rw [HBE8.out] at HO
          have ht8 : t = 0 ∨ t = 1 ∨ t = 2 ∨ t = 3 ∨ t = 4 ∨ t = 5 ∨ t = 6 ∨ t = 7 ∨ t = 8 := by omega
          clear A1
          rcases ht8 with rfl | rfl | rfl | rfl | rfl | rfl | rfl | rfl | rfl
          · obtain rfl : i = 7 := by omega
            clear A2
            have HY : Kp ((xs ++ ([] : List Int)).length = (ys.length + 8) + 0) := ⟨by rw [List.length_append, HX0.out]; rfl⟩
            have HOx : Kp (wr.ownsRow w'.heap.size 5 1 (.slice (some ⟨g, 0, none⟩) ((ys.length + 8) + 0) cp) (xs ++ ([] : List Int)).length (bytes (xs ++ []))) := ⟨by rw [HY.out]; exact HO.out⟩
            have HS1 : Kp ((xs ++ ([] : List Int)) ++ [(cnt : Int) * 8 / 72057594037927936] = xs ++ [(cnt : Int) * 8 / 72057594037927936]) := ⟨by rw [List.append_assoc]; rfl⟩
            have HL2 : Kp ((xs ++ ([(cnt : Int) * 8 / 72057594037927936] : List Int)).length = (ys.length + 8) + 1) := ⟨by rw [List.length_append, HX0.out]; rfl⟩
            generalize hzs : xs ++ ([] : List Int) = zs at HY HOx HS1
            clear hzs HO
            go_wp2_with (at_builtin; refine wpList_appendS rfl _ _ rfl rfl w'.heap.size (.slice (some ⟨g, 0, none⟩) ((ys.length + 8) + 0) cp) zs rfl (by exact own_keep HOx.out ((Fr.refl (fun _ => False) wr).alloc _) (fun _ _ h => h)) (some ⟨wr.heap.size, 0, none⟩) 1 1 [(cnt : Int) * 8 / 72057594037927936] rfl rfl (by exact src_new wr [(cnt : Int) * 8 / 72057594037927936] 5 1 (Nat.le_refl _)) (by rw [HY.out]; simp only [List.length_cons, List.length_nil]; omega) (by exact (HF.out.alloc (.cells #[.int .u8 ((cnt : Int) * 8 / 72057594037927936)] 5)).size) ?_; intro v5 w5 hown hgr hat; obtain ⟨g5, cp5, hv, _⟩ := own_form hown (by simp); subst hv; obtain ⟨hF, hE⟩ := app_step (HF.out.alloc (.cells #[.int .u8 ((cnt : Int) * 8 / 72057594037927936)] 5)) (by exact own_keep HOx.out ((Fr.refl (fun _ => False) wr).alloc _) (fun _ _ h => h)) (HE.out.alloc _) (by decide) hgr; have HO5 := Kp.mk hown; have HF5 := Kp.mk hF; have HE5 := Kp.mk hE; clear hown hgr hat hF hE)
            go_roundw
            case rel =>
              refine ⟨1, g5, cp5, 6, ?_, by go_num, ⟨by omega, by omega⟩, ⟨?_⟩, HF5, HE5⟩
              · congr 1; have := HY.out; omega
              · have h := HO5.out
                rw [HS1.out, HL2.out] at h
                rw [HBE8.out]
                exact h
            case measure => simp [intOf]
          · obtain rfl : i = 6 := by omega
            clear A2
            have HY : Kp ((xs ++ ([(cnt : Int) * 8 / 72057594037927936] : List Int)).length = (ys.length + 8) + 1) := ⟨by rw [List.length_append, HX0.out]; rfl⟩
            have HOx : Kp (wr.ownsRow w'.heap.size 5 1 (.slice (some ⟨g, 0, none⟩) ((ys.length + 8) + 1) cp) (xs ++ ([(cnt : Int) * 8 / 72057594037927936] : List Int)).length (bytes (xs ++ [(cnt : Int) * 8 / 72057594037927936]))) := ⟨by rw [HY.out]; exact HO.out⟩
            have HS1 : Kp ((xs ++ ([(cnt : Int) * 8 / 72057594037927936] : List Int)) ++ [(cnt : Int) * 8 / 281474976710656 % 256] = xs ++ [(cnt : Int) * 8 / 72057594037927936, (cnt : Int) * 8 / 281474976710656 % 256]) := ⟨by rw [List.append_assoc]; rfl⟩
            have HL2 : Kp ((xs ++ ([(cnt : Int) * 8 / 72057594037927936, (cnt : Int) * 8 / 281474976710656 % 256] : List Int)).length = (ys.length + 8) + 2) := ⟨by rw [List.length_append, HX0.out]; rfl⟩
            generalize hzs : xs ++ ([(cnt : Int) * 8 / 72057594037927936] : List Int) = zs at HY HOx HS1
            clear hzs HO
            go_wp2_with (at_builtin; refine wpList_appendS rfl _ _ rfl rfl w'.heap.size (.slice (some ⟨g, 0, none⟩) ((ys.length + 8) + 1) cp) zs rfl (by exact own_keep HOx.out ((Fr.refl (fun _ => False) wr).alloc _) (fun _ _ h => h)) (some ⟨wr.heap.size, 0, none⟩) 1 1 [(cnt : Int) * 8 / 281474976710656 % 256] rfl rfl (by exact src_new wr [(cnt : Int) * 8 / 281474976710656 % 256] 5 1 (Nat.le_refl _)) (by rw [HY.out]; simp only [List.length_cons, List.length_nil]; omega) (by exact (HF.out.alloc (.cells #[.int .u8 ((cnt : Int) * 8 / 281474976710656 % 256)] 5)).size) ?_; intro v5 w5 hown hgr hat; obtain ⟨g5, cp5, hv, _⟩ := own_form hown (by simp); subst hv; obtain ⟨hF, hE⟩ := app_step (HF.out.alloc (.cells #[.int .u8 ((cnt : Int) * 8 / 281474976710656 % 256)] 5)) (by exact own_keep HOx.out ((Fr.refl (fun _ => False) wr).alloc _) (fun _ _ h => h)) (HE.out.alloc _) (by decide) hgr; have HO5 := Kp.mk hown; have HF5 := Kp.mk hF; have HE5 := Kp.mk hE; clear hown hgr hat hF hE)
            go_roundw
            case rel =>
              refine ⟨2, g5, cp5, 5, ?_, by go_num, ⟨by omega, by omega⟩, ⟨?_⟩, HF5, HE5⟩
              · congr 1; have := HY.out; omega
              · have h := HO5.out
                rw [HS1.out, HL2.out] at h
                rw [HBE8.out]
                exact h
            case measure => simp [intOf]
          · obtain rfl : i = 5 := by omega
            clear A2
            have HY : Kp ((xs ++ ([(cnt : Int) * 8 / 72057594037927936, (cnt : Int) * 8 / 281474976710656 % 256] : List Int)).length = (ys.length + 8) + 2) := ⟨by rw [List.length_append, HX0.out]; rfl⟩
            have HOx : Kp (wr.ownsRow w'.heap.size 5 1 (.slice (some ⟨g, 0, none⟩) ((ys.length + 8) + 2) cp) (xs ++ ([(cnt : Int) * 8 / 72057594037927936, (cnt : Int) * 8 / 281474976710656 % 256] : List Int)).length (bytes (xs ++ [(cnt : Int) * 8 / 72057594037927936, (cnt : Int) * 8 / 281474976710656 % 256]))) := ⟨by rw [HY.out]; exact HO.out⟩
            have HS1 : Kp ((xs ++ ([(cnt : Int) * 8 / 72057594037927936, (cnt : Int) * 8 / 281474976710656 % 256] : List Int)) ++ [(cnt : Int) * 8 / 1099511627776 % 256] = xs ++ [(cnt : Int) * 8 / 72057594037927936, (cnt : Int) * 8 / 281474976710656 % 256, (cnt : Int) * 8 / 1099511627776 % 256]) := ⟨by rw [List.append_assoc]; rfl⟩
            have HL2 : Kp ((xs ++ ([(cnt : Int) * 8 / 72057594037927936, (cnt : Int) * 8 / 281474976710656 % 256, (cnt : Int) * 8 / 1099511627776 % 256] : List Int)).length = (ys.length + 8) + 3) := ⟨by rw [List.length_append, HX0.out]; rfl⟩
            generalize hzs : xs ++ ([(cnt : Int) * 8 / 72057594037927936, (cnt : Int) * 8 / 281474976710656 % 256] : List Int) = zs at HY HOx HS1
            clear hzs HO
            go_wp2_with (at_builtin; refine wpList_appendS rfl _ _ rfl rfl w'.heap.size (.slice (some ⟨g, 0, none⟩) ((ys.length + 8) + 2) cp) zs rfl (by exact own_keep HOx.out ((Fr.refl (fun _ => False) wr).alloc _) (fun _ _ h => h)) (some ⟨wr.heap.size, 0, none⟩) 1 1 [(cnt : Int) * 8 / 1099511627776 % 256] rfl rfl (by exact src_new wr [(cnt : Int) * 8 / 1099511627776 % 256] 5 1 (Nat.le_refl _)) (by rw [HY.out]; simp only [List.length_cons, List.length_nil]; omega) (by exact (HF.out.alloc (.cells #[.int .u8 ((cnt : Int) * 8 / 1099511627776 % 256)] 5)).size) ?_; intro v5 w5 hown hgr hat; obtain ⟨g5, cp5, hv, _⟩ := own_form hown (by simp); subst hv; obtain ⟨hF, hE⟩ := app_step (HF.out.alloc (.cells #[.int .u8 ((cnt : Int) * 8 / 1099511627776 % 256)] 5)) (by exact own_keep HOx.out ((Fr.refl (fun _ => False) wr).alloc _) (fun _ _ h => h)) (HE.out.alloc _) (by decide) hgr; have HO5 := Kp.mk hown; have HF5 := Kp.mk hF; have HE5 := Kp.mk hE; clear hown hgr hat hF hE)
            go_roundw
            case rel =>
              refine ⟨3, g5, cp5, 4, ?_, by go_num, ⟨by omega, by omega⟩, ⟨?_⟩, HF5, HE5⟩
              · congr 1; have := HY.out; omega
              · have h := HO5.out
                rw [HS1.out, HL2.out] at h
                rw [HBE8.out]
                exact h
            case measure => simp [intOf]
          · obtain rfl : i = 4 := by omega
            clear A2
            have HY : Kp ((xs ++ ([(cnt : Int) * 8 / 72057594037927936, (cnt : Int) * 8 / 281474976710656 % 256, (cnt : Int) * 8 / 1099511627776 % 256] : List Int)).length = (ys.length + 8) + 3) := ⟨by rw [List.length_append, HX0.out]; rfl⟩
            have HOx : Kp (wr.ownsRow w'.heap.size 5 1 (.slice (some ⟨g, 0, none⟩) ((ys.length + 8) + 3) cp) (xs ++ ([(cnt : Int) * 8 / 72057594037927936, (cnt : Int) * 8 / 281474976710656 % 256, (cnt : Int) * 8 / 1099511627776 % 256] : List Int)).length (bytes (xs ++ [(cnt : Int) * 8 / 72057594037927936, (cnt : Int) * 8 / 281474976710656 % 256, (cnt : Int) * 8 / 1099511627776 % 256]))) := ⟨by rw [HY.out]; exact HO.out⟩
            have HS1 : Kp ((xs ++ ([(cnt : Int) * 8 / 72057594037927936, (cnt : Int) * 8 / 281474976710656 % 256, (cnt : Int) * 8 / 1099511627776 % 256] : List Int)) ++ [(cnt : Int) * 8 / 4294967296 % 256] = xs ++ [(cnt : Int) * 8 / 72057594037927936, (cnt : Int) * 8 / 281474976710656 % 256, (cnt : Int) * 8 / 1099511627776 % 256, (cnt : Int) * 8 / 4294967296 % 256]) := ⟨by rw [List.append_assoc]; rfl⟩
            have HL2 : Kp ((xs ++ ([(cnt : Int) * 8 / 72057594037927936, (cnt : Int) * 8 / 281474976710656 % 256, (cnt : Int) * 8 / 1099511627776 % 256, (cnt : Int) * 8 / 4294967296 % 256] : List Int)).length = (ys.length + 8) + 4) := ⟨by rw [List.length_append, HX0.out]; rfl⟩
            generalize hzs : xs ++ ([(cnt : Int) * 8 / 72057594037927936, (cnt : Int) * 8 / 281474976710656 % 256, (cnt : Int) * 8 / 1099511627776 % 256] : List Int) = zs at HY HOx HS1
            clear hzs HO
            go_wp2_with (at_builtin; refine wpList_appendS rfl _ _ rfl rfl w'.heap.size (.slice (some ⟨g, 0, none⟩) ((ys.length + 8) + 3) cp) zs rfl (by exact own_keep HOx.out ((Fr.refl (fun _ => False) wr).alloc _) (fun _ _ h => h)) (some ⟨wr.heap.size, 0, none⟩) 1 1 [(cnt : Int) * 8 / 4294967296 % 256] rfl rfl (by exact src_new wr [(cnt : Int) * 8 / 4294967296 % 256] 5 1 (Nat.le_refl _)) (by rw [HY.out]; simp only [List.length_cons, List.length_nil]; omega) (by exact (HF.out.alloc (.cells #[.int .u8 ((cnt : Int) * 8 / 4294967296 % 256)] 5)).size) ?_; intro v5 w5 hown hgr hat; obtain ⟨g5, cp5, hv, _⟩ := own_form hown (by simp); subst hv; obtain ⟨hF, hE⟩ := app_step (HF.out.alloc (.cells #[.int .u8 ((cnt : Int) * 8 / 4294967296 % 256)] 5)) (by exact own_keep HOx.out ((Fr.refl (fun _ => False) wr).alloc _) (fun _ _ h => h)) (HE.out.alloc _) (by decide) hgr; have HO5 := Kp.mk hown; have HF5 := Kp.mk hF; have HE5 := Kp.mk hE; clear hown hgr hat hF hE)
            go_roundw
            case rel =>
              refine ⟨4, g5, cp5, 3, ?_, by go_num, ⟨by omega, by omega⟩, ⟨?_⟩, HF5, HE5⟩
              · congr 1; have := HY.out; omega
              · have h := HO5.out
                rw [HS1.out, HL2.out] at h
                rw [HBE8.out]
                exact h
            case measure => simp [intOf]
          · obtain rfl : i = 3 := by omega
            clear A2
            have HY : Kp ((xs ++ ([(cnt : Int) * 8 / 72057594037927936, (cnt : Int) * 8 / 281474976710656 % 256, (cnt : Int) * 8 / 1099511627776 % 256, (cnt : Int) * 8 / 4294967296 % 256] : List Int)).length = (ys.length + 8) + 4) := ⟨by rw [List.length_append, HX0.out]; rfl⟩
            have HOx : Kp (wr.ownsRow w'.heap.size 5 1 (.slice (some ⟨g, 0, none⟩) ((ys.length + 8) + 4) cp) (xs ++ ([(cnt : Int) * 8 / 72057594037927936, (cnt : Int) * 8 / 281474976710656 % 256, (cnt : Int) * 8 / 1099511627776 % 256, (cnt : Int) * 8 / 4294967296 % 256] : List Int)).length (bytes (xs ++ [(cnt : Int) * 8 / 72057594037927936, (cnt : Int) * 8 / 281474976710656 % 256, (cnt : Int) * 8 / 1099511627776 % 256, (cnt : Int) * 8 / 4294967296 % 256]))) := ⟨by rw [HY.out]; exact HO.out⟩
            have HS1 : Kp ((xs ++ ([(cnt : Int) * 8 / 72057594037927936, (cnt : Int) * 8 / 281474976710656 % 256, (cnt : Int) * 8 / 1099511627776 % 256, (cnt : Int) * 8 / 4294967296 % 256] : List Int)) ++ [(cnt : Int) * 8 / 16777216 % 256] = xs ++ [(cnt : Int) * 8 / 72057594037927936, (cnt : Int) * 8 / 281474976710656 % 256, (cnt : Int) * 8 / 1099511627776 % 256, (cnt : Int) * 8 / 4294967296 % 256, (cnt : Int) * 8 / 16777216 % 256]) := ⟨by rw [List.append_assoc]; rfl⟩
            have HL2 : Kp ((xs ++ ([(cnt : Int) * 8 / 72057594037927936, (cnt : Int) * 8 / 281474976710656 % 256, (cnt : Int) * 8 / 1099511627776 % 256, (cnt : Int) * 8 / 4294967296 % 256, (cnt : Int) * 8 / 16777216 % 256] : List Int)).length = (ys.length + 8) + 5) := ⟨by rw [List.length_append, HX0.out]; rfl⟩
            generalize hzs : xs ++ ([(cnt : Int) * 8 / 72057594037927936, (cnt : Int) * 8 / 281474976710656 % 256, (cnt : Int) * 8 / 1099511627776 % 256, (cnt : Int) * 8 / 4294967296 % 256] : List Int) = zs at HY HOx HS1
            clear hzs HO
            go_wp2_with (at_builtin; refine wpList_appendS rfl _ _ rfl rfl w'.heap.size (.slice (some ⟨g, 0, none⟩) ((ys.length + 8) + 4) cp) zs rfl (by exact own_keep HOx.out ((Fr.refl (fun _ => False) wr).alloc _) (fun _ _ h => h)) (some ⟨wr.heap.size, 0, none⟩) 1 1 [(cnt : Int) * 8 / 16777216 % 256] rfl rfl (by exact src_new wr [(cnt : Int) * 8 / 16777216 % 256] 5 1 (Nat.le_refl _)) (by rw [HY.out]; simp only [List.length_cons, List.length_nil]; omega) (by exact (HF.out.alloc (.cells #[.int .u8 ((cnt : Int) * 8 / 16777216 % 256)] 5)).size) ?_; intro v5 w5 hown hgr hat; obtain ⟨g5, cp5, hv, _⟩ := own_form hown (by simp); subst hv; obtain ⟨hF, hE⟩ := app_step (HF.out.alloc (.cells #[.int .u8 ((cnt : Int) * 8 / 16777216 % 256)] 5)) (by exact own_keep HOx.out ((Fr.refl (fun _ => False) wr).alloc _) (fun _ _ h => h)) (HE.out.alloc _) (by decide) hgr; have HO5 := Kp.mk hown; have HF5 := Kp.mk hF; have HE5 := Kp.mk hE; clear hown hgr hat hF hE)
            go_roundw
            case rel =>
              refine ⟨5, g5, cp5, 2, ?_, by go_num, ⟨by omega, by omega⟩, ⟨?_⟩, HF5, HE5⟩
              · congr 1; have := HY.out; omega
              · have h := HO5.out
                rw [HS1.out, HL2.out] at h
                rw [HBE8.out]
                exact h
            case measure => simp [intOf]
          · obtain rfl : i = 2 := by omega
            clear A2
            have HY : Kp ((xs ++ ([(cnt : Int) * 8 / 72057594037927936, (cnt : Int) * 8 / 281474976710656 % 256, (cnt : Int) * 8 / 1099511627776 % 256, (cnt : Int) * 8 / 4294967296 % 256, (cnt : Int) * 8 / 16777216 % 256] : List Int)).length = (ys.length + 8) + 5) := ⟨by rw [List.length_append, HX0.out]; rfl⟩
            have HOx : Kp (wr.ownsRow w'.heap.size 5 1 (.slice (some ⟨g, 0, none⟩) ((ys.length + 8) + 5) cp) (xs ++ ([(cnt : Int) * 8 / 72057594037927936, (cnt : Int) * 8 / 281474976710656 % 256, (cnt : Int) * 8 / 1099511627776 % 256, (cnt : Int) * 8 / 4294967296 % 256, (cnt : Int) * 8 / 16777216 % 256] : List Int)).length (bytes (xs ++ [(cnt : Int) * 8 / 72057594037927936, (cnt : Int) * 8 / 281474976710656 % 256, (cnt : Int) * 8 / 1099511627776 % 256, (cnt : Int) * 8 / 4294967296 % 256, (cnt : Int) * 8 / 16777216 % 256]))) := ⟨by rw [HY.out]; exact HO.out⟩
            have HS1 : Kp ((xs ++ ([(cnt : Int) * 8 / 72057594037927936, (cnt : Int) * 8 / 281474976710656 % 256, (cnt : Int) * 8 / 1099511627776 % 256, (cnt : Int) * 8 / 4294967296 % 256, (cnt : Int) * 8 / 16777216 % 256] : List Int)) ++ [(cnt : Int) * 8 / 65536 % 256] = xs ++ [(cnt : Int) * 8 / 72057594037927936, (cnt : Int) * 8 / 281474976710656 % 256, (cnt : Int) * 8 / 1099511627776 % 256, (cnt : Int) * 8 / 4294967296 % 256, (cnt : Int) * 8 / 16777216 % 256, (cnt : Int) * 8 / 65536 % 256]) := ⟨by rw [List.append_assoc]; rfl⟩
            have HL2 : Kp ((xs ++ ([(cnt : Int) * 8 / 72057594037927936, (cnt : Int) * 8 / 281474976710656 % 256, (cnt : Int) * 8 / 1099511627776 % 256, (cnt : Int) * 8 / 4294967296 % 256, (cnt : Int) * 8 / 16777216 % 256, (cnt : Int) * 8 / 65536 % 256] : List Int)).length = (ys.length + 8) + 6) := ⟨by rw [List.length_append, HX0.out]; rfl⟩
            generalize hzs : xs ++ ([(cnt : Int) * 8 / 72057594037927936, (cnt : Int) * 8 / 281474976710656 % 256, (cnt : Int) * 8 / 1099511627776 % 256, (cnt : Int) * 8 / 4294967296 % 256, (cnt : Int) * 8 / 16777216 % 256] : List Int) = zs at HY HOx HS1
            clear hzs HO
            go_wp2_with (at_builtin; refine wpList_appendS rfl _ _ rfl rfl w'.heap.size (.slice (some ⟨g, 0, none⟩) ((ys.length + 8) + 5) cp) zs rfl (by exact own_keep HOx.out ((Fr.refl (fun _ => False) wr).alloc _) (fun _ _ h => h)) (some ⟨wr.heap.size, 0, none⟩) 1 1 [(cnt : Int) * 8 / 65536 % 256] rfl rfl (by exact src_new wr [(cnt : Int) * 8 / 65536 % 256] 5 1 (Nat.le_refl _)) (by rw [HY.out]; simp only [List.length_cons, List.length_nil]; omega) (by exact (HF.out.alloc (.cells #[.int .u8 ((cnt : Int) * 8 / 65536 % 256)] 5)).size) ?_; intro v5 w5 hown hgr hat; obtain ⟨g5, cp5, hv, _⟩ := own_form hown (by simp); subst hv; obtain ⟨hF, hE⟩ := app_step (HF.out.alloc (.cells #[.int .u8 ((cnt : Int) * 8 / 65536 % 256)] 5)) (by exact own_keep HOx.out ((Fr.refl (fun _ => False) wr).alloc _) (fun _ _ h => h)) (HE.out.alloc _) (by decide) hgr; have HO5 := Kp.mk hown; have HF5 := Kp.mk hF; have HE5 := Kp.mk hE; clear hown hgr hat hF hE)
            go_roundw
            case rel =>
              refine ⟨6, g5, cp5, 1, ?_, by go_num, ⟨by omega, by omega⟩, ⟨?_⟩, HF5, HE5⟩
              · congr 1; have := HY.out; omega
              · have h := HO5.out
                rw [HS1.out, HL2.out] at h
                rw [HBE8.out]
                exact h
            case measure => simp [intOf]
          · obtain rfl : i = 1 := by omega
            clear A2
            have HY : Kp ((xs ++ ([(cnt : Int) * 8 / 72057594037927936, (cnt : Int) * 8 / 281474976710656 % 256, (cnt : Int) * 8 / 1099511627776 % 256, (cnt : Int) * 8 / 4294967296 % 256, (cnt : Int) * 8 / 16777216 % 256, (cnt : Int) * 8 / 65536 % 256] : List Int)).length = (ys.length + 8) + 6) := ⟨by rw [List.length_append, HX0.out]; rfl⟩
            have HOx : Kp (wr.ownsRow w'.heap.size 5 1 (.slice (some ⟨g, 0, none⟩) ((ys.length + 8) + 6) cp) (xs ++ ([(cnt : Int) * 8 / 72057594037927936, (cnt : Int) * 8 / 281474976710656 % 256, (cnt : Int) * 8 / 1099511627776 % 256, (cnt : Int) * 8 / 4294967296 % 256, (cnt : Int) * 8 / 16777216 % 256, (cnt : Int) * 8 / 65536 % 256] : List Int)).length (bytes (xs ++ [(cnt : Int) * 8 / 72057594037927936, (cnt : Int) * 8 / 281474976710656 % 256, (cnt : Int) * 8 / 1099511627776 % 256, (cnt : Int) * 8 / 4294967296 % 256, (cnt : Int) * 8 / 16777216 % 256, (cnt : Int) * 8 / 65536 % 256]))) := ⟨by rw [HY.out]; exact HO.out⟩
            have HS1 : Kp ((xs ++ ([(cnt : Int) * 8 / 72057594037927936, (cnt : Int) * 8 / 281474976710656 % 256, (cnt : Int) * 8 / 1099511627776 % 256, (cnt : Int) * 8 / 4294967296 % 256, (cnt : Int) * 8 / 16777216 % 256, (cnt : Int) * 8 / 65536 % 256] : List Int)) ++ [(cnt : Int) * 8 / 256 % 256] = xs ++ [(cnt : Int) * 8 / 72057594037927936, (cnt : Int) * 8 / 281474976710656 % 256, (cnt : Int) * 8 / 1099511627776 % 256, (cnt : Int) * 8 / 4294967296 % 256, (cnt : Int) * 8 / 16777216 % 256, (cnt : Int) * 8 / 65536 % 256, (cnt : Int) * 8 / 256 % 256]) := ⟨by rw [List.append_assoc]; rfl⟩
            have HL2 : Kp ((xs ++ ([(cnt : Int) * 8 / 72057594037927936, (cnt : Int) * 8 / 281474976710656 % 256, (cnt : Int) * 8 / 1099511627776 % 256, (cnt : Int) * 8 / 4294967296 % 256, (cnt : Int) * 8 / 16777216 % 256, (cnt : Int) * 8 / 65536 % 256, (cnt : Int) * 8 / 256 % 256] : List Int)).length = (ys.length + 8) + 7) := ⟨by rw [List.length_append, HX0.out]; rfl⟩
            generalize hzs : xs ++ ([(cnt : Int) * 8 / 72057594037927936, (cnt : Int) * 8 / 281474976710656 % 256, (cnt : Int) * 8 / 1099511627776 % 256, (cnt : Int) * 8 / 4294967296 % 256, (cnt : Int) * 8 / 16777216 % 256, (cnt : Int) * 8 / 65536 % 256] : List Int) = zs at HY HOx HS1
            clear hzs HO
            go_wp2_with (at_builtin; refine wpList_appendS rfl _ _ rfl rfl w'.heap.size (.slice (some ⟨g, 0, none⟩) ((ys.length + 8) + 6) cp) zs rfl (by exact own_keep HOx.out ((Fr.refl (fun _ => False) wr).alloc _) (fun _ _ h => h)) (some ⟨wr.heap.size, 0, none⟩) 1 1 [(cnt : Int) * 8 / 256 % 256] rfl rfl (by exact src_new wr [(cnt : Int) * 8 / 256 % 256] 5 1 (Nat.le_refl _)) (by rw [HY.out]; simp only [List.length_cons, List.length_nil]; omega) (by exact (HF.out.alloc (.cells #[.int .u8 ((cnt : Int) * 8 / 256 % 256)] 5)).size) ?_; intro v5 w5 hown hgr hat; obtain ⟨g5, cp5, hv, _⟩ := own_form hown (by simp); subst hv; obtain ⟨hF, hE⟩ := app_step (HF.out.alloc (.cells #[.int .u8 ((cnt : Int) * 8 / 256 % 256)] 5)) (by exact own_keep HOx.out ((Fr.refl (fun _ => False) wr).alloc _) (fun _ _ h => h)) (HE.out.alloc _) (by decide) hgr; have HO5 := Kp.mk hown; have HF5 := Kp.mk hF; have HE5 := Kp.mk hE; clear hown hgr hat hF hE)
            go_roundw
            case rel =>
              refine ⟨7, g5, cp5, 0, ?_, by go_num, ⟨by omega, by omega⟩, ⟨?_⟩, HF5, HE5⟩
              · congr 1; have := HY.out; omega
              · have h := HO5.out
                rw [HS1.out, HL2.out] at h
                rw [HBE8.out]
                exact h
            case measure => simp [intOf]
          · obtain rfl : i = 0 := by omega
            clear A2
            have HY : Kp ((xs ++ ([(cnt : Int) * 8 / 72057594037927936, (cnt : Int) * 8 / 281474976710656 % 256, (cnt : Int) * 8 / 1099511627776 % 256, (cnt : Int) * 8 / 4294967296 % 256, (cnt : Int) * 8 / 16777216 % 256, (cnt : Int) * 8 / 65536 % 256, (cnt : Int) * 8 / 256 % 256] : List Int)).length = (ys.length + 8) + 7) := ⟨by rw [List.length_append, HX0.out]; rfl⟩
            have HOx : Kp (wr.ownsRow w'.heap.size 5 1 (.slice (some ⟨g, 0, none⟩) ((ys.length + 8) + 7) cp) (xs ++ ([(cnt : Int) * 8 / 72057594037927936, (cnt : Int) * 8 / 281474976710656 % 256, (cnt : Int) * 8 / 1099511627776 % 256, (cnt : Int) * 8 / 4294967296 % 256, (cnt : Int) * 8 / 16777216 % 256, (cnt : Int) * 8 / 65536 % 256, (cnt : Int) * 8 / 256 % 256] : List Int)).length (bytes (xs ++ [(cnt : Int) * 8 / 72057594037927936, (cnt : Int) * 8 / 281474976710656 % 256, (cnt : Int) * 8 / 1099511627776 % 256, (cnt : Int) * 8 / 4294967296 % 256, (cnt : Int) * 8 / 16777216 % 256, (cnt : Int) * 8 / 65536 % 256, (cnt : Int) * 8 / 256 % 256]))) := ⟨by rw [HY.out]; exact HO.out⟩
            have HS1 : Kp ((xs ++ ([(cnt : Int) * 8 / 72057594037927936, (cnt : Int) * 8 / 281474976710656 % 256, (cnt : Int) * 8 / 1099511627776 % 256, (cnt : Int) * 8 / 4294967296 % 256, (cnt : Int) * 8 / 16777216 % 256, (cnt : Int) * 8 / 65536 % 256, (cnt : Int) * 8 / 256 % 256] : List Int)) ++ [(cnt : Int) * 8 % 256] = xs ++ [(cnt : Int) * 8 / 72057594037927936, (cnt : Int) * 8 / 281474976710656 % 256, (cnt : Int) * 8 / 1099511627776 % 256, (cnt : Int) * 8 / 4294967296 % 256, (cnt : Int) * 8 / 16777216 % 256, (cnt : Int) * 8 / 65536 % 256, (cnt : Int) * 8 / 256 % 256, (cnt : Int) * 8 % 256]) := ⟨by rw [List.append_assoc]; rfl⟩
            have HL2 : Kp ((xs ++ ([(cnt : Int) * 8 / 72057594037927936, (cnt : Int) * 8 / 281474976710656 % 256, (cnt : Int) * 8 / 1099511627776 % 256, (cnt : Int) * 8 / 4294967296 % 256, (cnt : Int) * 8 / 16777216 % 256, (cnt : Int) * 8 / 65536 % 256, (cnt : Int) * 8 / 256 % 256, (cnt : Int) * 8 % 256] : List Int)).length = (ys.length + 8) + 8) := ⟨by rw [List.length_append, HX0.out]; rfl⟩
            generalize hzs : xs ++ ([(cnt : Int) * 8 / 72057594037927936, (cnt : Int) * 8 / 281474976710656 % 256, (cnt : Int) * 8 / 1099511627776 % 256, (cnt : Int) * 8 / 4294967296 % 256, (cnt : Int) * 8 / 16777216 % 256, (cnt : Int) * 8 / 65536 % 256, (cnt : Int) * 8 / 256 % 256] : List Int) = zs at HY HOx HS1
            clear hzs HO
            go_wp2_with (at_builtin; refine wpList_appendS rfl _ _ rfl rfl w'.heap.size (.slice (some ⟨g, 0, none⟩) ((ys.length + 8) + 7) cp) zs rfl (by exact own_keep HOx.out ((Fr.refl (fun _ => False) wr).alloc _) (fun _ _ h => h)) (some ⟨wr.heap.size, 0, none⟩) 1 1 [(cnt : Int) * 8 % 256] rfl rfl (by exact src_new wr [(cnt : Int) * 8 % 256] 5 1 (Nat.le_refl _)) (by rw [HY.out]; simp only [List.length_cons, List.length_nil]; omega) (by exact (HF.out.alloc (.cells #[.int .u8 ((cnt : Int) * 8 % 256)] 5)).size) ?_; intro v5 w5 hown hgr hat; obtain ⟨g5, cp5, hv, _⟩ := own_form hown (by simp); subst hv; obtain ⟨hF, hE⟩ := app_step (HF.out.alloc (.cells #[.int .u8 ((cnt : Int) * 8 % 256)] 5)) (by exact own_keep HOx.out ((Fr.refl (fun _ => False) wr).alloc _) (fun _ _ h => h)) (HE.out.alloc _) (by decide) hgr; have HO5 := Kp.mk hown; have HF5 := Kp.mk hF; have HE5 := Kp.mk hE; clear hown hgr hat hF hE)
            go_roundw
            case rel =>
              refine ⟨8, g5, cp5, -1, ?_, by go_num, ⟨by omega, by omega⟩, ⟨?_⟩, HF5, HE5⟩
              · congr 1; have := HY.out; omega
              · have h := HO5.out
                rw [HS1.out, HL2.out] at h
                rw [HBE8.out]
                exact h
            case measure => simp [intOf]
          · obtain rfl : i = -1 := by omega
            clear A2
            have HT0 : Kp (wr.ownsRow w'.heap.size 5 1 (.slice (some ⟨g, 0, none⟩) ((ys.length + 8) + 8) cp) ((ys.length + 8) + 8) (bytes (rs ++ padding true rs.length cnt))) := ⟨by rw [← HPAD.out, HBE8.out]; exact HO.out⟩
            have HTL : Kp ((ys.length + 8) + 8 = (rs ++ padding true rs.length cnt).length) := ⟨by rw [← HPAD.out, List.length_append, HX0.out, be8_length]⟩
            have hsum : Kp ((St.mk true cnt c rs).sum = words true (runC true c (rs ++ padding true rs.length cnt) ((rs ++ padding true rs.length cnt).length / 128))) := ⟨rfl⟩
            generalize rs ++ padding true rs.length cnt = T at HT0 HTL hsum
            generalize (ys.length + 8) + 8 = n0 at HT0 HTL ⊢
            have HR := Kp.mk (own_reads HT0.out HTL.out)
            have HLr := Kp.mk (HL.out.fr HF.out (fun _ h => h.elim))
            have HGE : Kp (g ≠ be) := ⟨own_ne HT0.out rfl HE.out (by decide)⟩
            have HLow : Kp (low ≤ be) := ⟨by rw [HBE.out]; exact HL.out.size⟩
            clear HO HPAD HBE8 HX0 HB1 hsh hcv HL HD
            go_wp2
            go_loopw [5] (fun s5 wq => ∃ o n m : Nat, s5 = .slice (some ⟨g, o, none⟩) n m ∧ Kp (∃ j, 128 * j ≤ T.length ∧ (0 < n → o = 0 + 128 * j) ∧ n = T.length - 128 * j ∧ n ≤ m ∧ Blk wq be 135 (dcells true 0 (runC true c T j) (.slice none 0 0))) ∧ Kp (Fr (fun k => k = be) wr wq)) (fun s5 _ => lenOf s5)
            case atStart => exact ⟨0, n0, cp, rfl, ⟨0, Nat.zero_le _, fun _ => rfl, HTL.out, HR.out.1, HE.out⟩, ⟨Fr.refl _ _⟩⟩
            case round =>
              obtain ⟨o, n, m, rfl, HJ, HFq⟩ := hrel
              obtain ⟨j, hj, ho, hn, hnm, hB⟩ := HJ.out
              have HBk := Kp.mk hB
              have HLq := Kp.mk (HLr.out.fr HFq.out (fun k hk => hk ▸ HLow.out))
              have HXq := Kp.mk (HR.out.2.fr HFq.out HGE.out)
              have HO := Kp.mk ho
              have HN := Kp.mk hn
              have HJJ := Kp.mk hj
              clear HJ hB ho hn hj
              by_cases hlt : 128 ≤ n
              · have hlen : ((T.drop (128 * j)).take 128).length = 128 := by
                  have := HN.out
                  simp; omega
                have hm64 : 128 ≤ m := by omega
                have hmix := Kp.mk (M64.mix_calls be 0 (runC true c T j) (.slice none 0 0) g o 128 m ((T.drop (128 * j)).take 128) hlen (Nat.le_refl _) hm64 _ HLq.out HBk.out (by rw [HO.out (by omega)]; exact (HXq.out.drop _).take _))
                clear hlen
                go_wp2_with fail
                refine hmix.out.mono ?_
                rintro e wz ⟨r2, rfl, hB2, hF2⟩
                have HB2 := Kp.mk hB2
                have HF2 := Kp.mk (HFq.out.trans hF2 (fun _ _ h => h))
                clear hB2 hF2 hmix
                by_cases hme : m = 128
                · subst hme
                  obtain rfl : n = 128 := by omega
                  go_wp2
                  go_roundw
                  case rel => exact ⟨o, 0, 0, rfl, ⟨j + 1, by have := HN.out; omega, fun h => absurd h (Nat.lt_irrefl _), by have := HN.out; omega, Nat.le_refl _, HB2.out⟩, HF2⟩
                  case measure => simp [lenOf] <;> omega
                · go_wp2
                  go_roundw
                  case rel => exact ⟨o + 128, n - 128, m - 128, rfl, ⟨j + 1, by have := HN.out; omega, fun h => by have := HO.out; omega, by have := HN.out; omega, by omega, HB2.out⟩, HF2⟩
                  case measure => simp [lenOf] <;> omega
              · have hjn : T.length / 128 = j := by have := HN.out; have := HJJ.out; omega
                rw [hjn] at hsum
                have hw := Kp.mk (words_calls true be 0 (runC true c T j) (.slice none 0 0) _ HBk.out)
                have HFz := Kp.mk (Fr.trans (S := fun _ => False) HF.out HFq.out (fun k hk he => by have := HBE.out; omega))
                clear hjn
                go_wp2_with fail
                refine hw.out.mono ?_
                rintro e wz ⟨v, rfl, hO, hB⟩
                have HOz := Kp.mk hO
                have HBz := Kp.mk hB
                clear hO hB hw
                go_wp2
                go_ret
                refine ⟨v, rfl, ?_, ?_⟩
                · rw [HC.out, hsum.out]
                  exact own_base HOz.out HFz.out.size
                · exact (HFz.out.then_below HBz.out).below (fun _ _ h => h)
end Go.Proofs.YtjcmgpiapbeodaaDoor.Sha.S64
namespace Go.Proofs.YtjcmgpiapbeodaaDoor.Sha
open Go.RowKit Go.Proofs.YtjcmgpiapbeodaaDoor.Mem Go.Proofs.YtjcmgpiapbeodaaDoorW.PrintWords
theorem rest_lt (s : St) (hs : s.Ok) : s.rest.length < blk s.B := by rw [hs.rest]; exact Nat.mod_lt _ (blk_pos s.B)
theorem sum_calls (s : St) (hs : s.Ok) (b : Nat) (rv : Value) (w : World) (hL : Laid w) (hD : Dg w b rv s) :
    Calls Tryd.prog 40 #[.pointer (some ⟨b, 0, none⟩)] w fun e w' => ∃ v, e = .returned v ∧ Own w' w.heap.size v s.sum ∧ Below w.heap.size w w' := by
  have hr := rest_lt s hs
  have hc := hs.cnt
  obtain ⟨B, cnt, c, rs⟩ := s
  cases B
  · exact S32.sum_calls b cnt c rv rs hr hc w hL hD
  · exact S64.sum_calls b cnt c rv rs hr hc w hL hD
theorem words_length (B : Bool) (c : Chain) : (words B c).length = out B := by
  cases B <;> simp [words, Eight.list, layWord, out]
theorem hash_length (B : Bool) (p : List Int) : (hash B p).length = out B := by
  have h : ((St.new B).write p).B = B := by unfold St.write; split <;> rfl
  unfold hash St.sum
  rw [words_length, h]
theorem bytes_length (l : List Int) : (bytes l).length = l.length := by simp [bytes]
theorem bytes_one (l : List Int) : (bytes l).toArray.all (fun x => x.oneCell') = true := by
  simp [bytes, Value.oneCell']
theorem reads_range {w : World} {b o : Nat} {l : List Int} (h : Reads w b o l) : w.rangeAt b o (bytes l) := fun j v hv => by
  have hj : j < l.length := by
    rcases Nat.lt_or_ge j l.length with h | h
    · exact h
    · rw [List.getElem?_eq_none (by simpa [bytes] using h)] at hv; cases hv
  rw [bytes_get l j hj] at hv
  rw [h.2 j hj, ← hv]
/-- what the call was given lies in old memory -/
theorem src_out {w w1 : World} {A : Option Addr} {c : Nat} {p : List Int} {S : Nat → Prop} (h : Src w (fun _ => False) A c p) (hF : Fr (fun _ => False) w w1) (hS : ∀ k, k < w.heap.size → ¬ S k) : Src w1 S A c p := by
  refine ⟨h.1, ?_⟩
  rcases h.2 with h' | h' | ⟨bs, os, h1, h2, _⟩
  · exact .inl h'
  · exact .inr (.inl h')
  · exact .inr (.inr ⟨bs, os, h1, h2.fr hF (fun h => h), hS bs h2.1⟩)
end Go.Proofs.YtjcmgpiapbeodaaDoor.Sha
namespace Go.Proofs.YtjcmgpiapbeodaaDoor.Sha.F32
open Go.RowKit Go.Proofs.YtjcmgpiapbeodaaDoor.Mem Go.Proofs.YtjcmgpiapbeodaaDoorW.PrintWords
theorem array_at (g c : Nat) (w : World) : (Instr.arrayAt 29 (.slice (some ⟨g, 0, none⟩) 32 c)).run Tryd.prog w = .ok (.pointer (some ⟨g, 0, none⟩)) w := by
  simp [Instr.arrayAt, run_underlying Tryd.underlying29, go_sem]
set_option maxHeartbeats 4000000 in
set_option maxRecDepth 100000 in
theorem hash_calls (A : Option Addr) (cp : Nat) (p : List Int) (w : World) (hL : Laid w) (hX : Src w (fun _ => False) A cp p) (hmax : p.length ≤ maxCount) :
    Calls Tryd.prog 12 #[.slice A p.length cp] w fun e w' => e = .returned (.agg (bytes (hash false p)).toArray) ∧ Below w.heap.size w w' := by
  have HX := Kp.mk hX
  have HL := Kp.mk hL
  clear hX hL
  have hk : kind false = 256 := rfl
  go_enter Tryd.func12, Tryd.ntmps12
  go_wp2_with fail
  have HR0 : Kp (Blk (w.alloc (.cells (List.replicate 32 (Value.int .u8 0)).toArray 29)) w.heap.size 29 (List.replicate 32 (Value.int .u8 0))) := ⟨Blk.new w _ _⟩
  have HF0 : Kp (Fr (fun _ => False) w (w.alloc (.cells (List.replicate 32 (Value.int .u8 0)).toArray 29))) := ⟨(Fr.refl _ w).alloc _⟩
  refine (new_calls false (w.alloc (.cells (List.replicate 32 (Value.int .u8 0)).toArray 29)) (HL.out.fr HF0.out (fun _ h => h.elim))).mono ?_
  rintro e w1 ⟨b, rfl, hb, hD, hB⟩
  have HF1 := Kp.mk (HF0.out.then_below hB)
  have HR1 := Kp.mk (HR0.out.below hB)
  have HD1 := Kp.mk hD
  have HBB := Kp.mk hb
  clear HR0 HF0 hD hB hb
  go_wp2_with fail
  have hnew : ∀ k, k < w.heap.size → ¬ dfoot b (.slice none 0 0) k := fun k hk h => by
    rcases h with h | h
    · have := HBB.out; simp at this; omega
    · cases h
  refine (write_calls (St.new false) (new_ok false) b (.slice none 0 0) A cp p (by show 0 + p.length ≤ maxCount; omega) w1 (HL.out.fr HF1.out (fun _ h => h.elim)) HD1.out (src_out HX.out HF1.out hnew)).mono ?_
  rintro e w2 ⟨r, rv, rfl, hD, hH, hF⟩
  have HR2 := Kp.mk (HR1.out.fr hF (fun h => h.elim (fun h => by have := HBB.out; simp at this; omega) (fun h => by cases h)))
  have HF2 : Kp (Fr (fun _ => False) w w2) := ⟨HF1.out.trans hF (fun k hk h => hnew k hk h)⟩
  have HD2 := Kp.mk hD
  clear hD hH hF HR1 HF1 HD1 hnew
  go_wp2_with fail
  refine (sum_calls ((St.new false).write p) (write_ok _ (new_ok false) p) b rv w2 (HL.out.fr HF2.out (fun _ h => h.elim)) HD2.out).mono ?_
  rintro e w3 ⟨v, rfl, hO, hB⟩
  have hlen : (hash false p).length = 32 := hash_length false p
  have HO : Kp (w3.ownsRow w2.heap.size 5 1 v (hash false p).length (bytes (hash false p))) := ⟨hO⟩
  have HR3 := Kp.mk (HR2.out.below hB)
  have HF3 := Kp.mk (HF2.out.then_below hB)
  clear hO hB HR2 HF2 HD2 HX HL
  generalize hh : hash false p = h at HO hlen ⊢
  have HH := Kp.mk hh
  clear hh
  obtain ⟨g, cg, rfl, hg1, hg2, hg3, hg4⟩ := own_form HO.out (by omega)
  have HRD := Kp.mk hg4
  have HGE : Kp (g ≠ w.heap.size) := ⟨by have := HR3.out.lt; have := HF3.out.size; intro e; exact own_ne HO.out rfl HR3.out (by decide) e⟩
  rw [hlen] at hg3 ⊢
  have HHL := Kp.mk hlen
  clear hg1 hg2 hg4 hlen
  have haa := array_at g cg
  have hsz : (bytes h).toArray.size = 32 := by rw [List.size_toArray, bytes_length, HHL.out]
  have hi1 : Kp ((Tryd.prog.info? 29).map (·.size) = some (bytes h).toArray.size) := ⟨by rw [hsz]; kernel_rfl⟩
  have hi2 : Kp ((Tryd.prog.info? 29).map (·.size) = some (bytes h).length) := ⟨by rw [bytes_length, HHL.out]; kernel_rfl⟩
  have ho1 : Kp ((List.replicate 32 (Value.int .u8 0)).toArray.size = (bytes h).toArray.size) := ⟨by rw [hsz]; rfl⟩
  have hrow : Kp (w3.heap[w.heap.size]? = some (.cells (List.replicate 32 (Value.int .u8 0)).toArray 29 (0, 0))) := ⟨HR3.out⟩
  clear hsz
  go_wp2_with (first | refine wpList_load_mid rfl 29 _ rfl g 0 rfl (bytes h) _ (reads_range HRD.out) Tryd.underlying29 rfl hi2.out ?_ | refine wpList_store_row rfl 29 _ _ rfl w.heap.size (bytes h).toArray rfl rfl 29 (List.replicate 32 (Value.int .u8 0)).toArray hrow.out hi1.out ho1.out (bytes_one h) ?_)
  have hrow2 : (w3.setRow w.heap.size (bytes h).toArray).heap[w.heap.size]? = some (.cells (bytes h).toArray 29 (0, 0)) := setRow_heap w3 w.heap.size _ _ _ _ hrow.out
  (try simp only [Exit.inBlock, Exit.then])
  refine bodyPost_ret (results_cell_row rfl _ _ w.heap.size 29 _ (0, 0) _ rfl hrow2 Tryd.underlying29 rfl hi1.out) rfl ?_
  refine ⟨by rw [HH.out], ?_⟩
  exact Fr.below (HF3.out.trans (S' := fun k => k = w.heap.size) ⟨rfl, rfl, rfl, by simp [World.setRow], fun k _ hk => setRow_other w3 w.heap.size k _ hk⟩ (fun k hk he => absurd hk (by rw [he]; exact Nat.lt_irrefl _))) (fun _ _ h => h)
end Go.Proofs.YtjcmgpiapbeodaaDoor.Sha.F32
