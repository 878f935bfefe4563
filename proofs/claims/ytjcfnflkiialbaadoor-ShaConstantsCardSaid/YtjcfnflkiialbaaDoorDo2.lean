/-
  The walk of Save for kind 256. The walk of Save for kind 512. Save, for either kind.
-/
import Derived.Test.YtjcfnflkiialbaaDoorAux1
namespace Go.Proofs.YtjcfnflkiialbaaDoor.Sha.V32
open Go.RowKit Go.Proofs.YtjcfnflkiialbaaDoor.Mem Go.Proofs.YtjcfnflkiialbaaDoorW.PrintWords
theorem own_cells {w : World} {base g c : Nat} {xs : List Int} (h : w.ownsRow base 5 1 (.slice (some ⟨g, 0, none⟩) xs.length c) xs.length (bytes xs)) : ∃ cur, w.heap[g]? = some (.cells cur 5 (0, 0)) ∧ xs.length ≤ maxLen ∧ xs.length ≤ cur.size ∧ cur.toList.take xs.length = bytes xs := by
  rcases h.2 with ⟨h', _⟩ | ⟨g', cap', cur, h', _, hg, hnc, hm, hs, ht⟩
  · simp at h'
  · simp only [Value.slice.injEq, Option.some.injEq, Addr.mk.injEq, and_true, true_and] at h'
    obtain ⟨rfl, rfl⟩ := h'
    exact ⟨cur, hg, by omega, by omega, by simpa using ht⟩
set_option maxHeartbeats 4000000 in
set_option maxRecDepth 100000 in
theorem save_calls (b cnt : Nat) (c : Chain) (rv : Value) (rs : List Int) (hrs : rs.length < 64) (hcnt : cnt ≤ maxCount) (w : World) (hD : Dg w b rv ⟨false, cnt, c, rs⟩) :
    Calls Tryd.prog 35 #[.pointer (some ⟨b, 0, none⟩)] w fun e w' => ∃ g n, e = .returned (.slice (some ⟨g, 0, none⟩) n n) ∧ n = (St.mk false cnt c rs).save.length ∧ Reads w' g 0 (St.mk false cnt c rs).save ∧ (∃ cur, w'.heap[g]? = some (.cells cur 5 (0, 0)) ∧ n ≤ maxLen ∧ n ≤ cur.size ∧ cur.toList.take n = bytes (St.mk false cnt c rs).save) ∧ w.heap.size ≤ g ∧ Below w.heap.size w w' := by
  obtain ⟨Ar, cr, rfl, hsrc⟩ := Src.of_own hD.rest (fun _ => False) (fun _ _ h => h)
  simp only at hsrc
  have HS := Kp.mk hsrc
  have HD := Kp.mk hD
  have h0 := hD.blk.cell 0 (.int .i64 ((kind false : Nat) : Int)) rfl
  have h1 := hD.blk.cell 1 (.int .i64 (cnt : Int)) rfl
  have HB := block_calls b false w h0
  clear hsrc hD
  simp only [kind, blk] at h0 HB
  have hcnt' := hcnt
  unfold maxCount at hcnt'
  have hmk : ∀ w, (Instr.makeSlice 23 (.int .i64 0) (.int .i64 201)).run Tryd.prog w = .ok (.slice (some ⟨w.heap.size, 0, none⟩) 0 201) (w.alloc (.cells (Wk.zeros 201) 5)) := Wk.make_bytes 201 (by omega) (by omega)
  have hA0 : (w.alloc (.cells (Wk.zeros 201) 5)).cell? ⟨b, 0, none⟩ = some (.int .i64 256) := (HD.out.blk.alloc _).cell 0 _ rfl
  have HO0 : Kp ((w.alloc (.cells (Wk.zeros 201) 5)).ownsRow w.heap.size 5 1 (.slice (some ⟨w.heap.size, 0, none⟩) 0 201) ([] : List Int).length (bytes [])) := ⟨Kd.own_of_R (Wk.own_zeros w 201 (by omega))⟩
  have HF0 : Kp (Fr (fun _ => False) w (w.alloc (.cells (Wk.zeros 201) 5))) := ⟨(Fr.refl _ w).alloc _⟩
  have HE0 : Kp (Blk (w.alloc (.cells (Wk.zeros 201) 5)) b 93 (dcells false cnt c (.slice Ar rs.length cr))) := ⟨HD.out.blk.alloc _⟩
  go_enter Tryd.func35, Tryd.ntmps35
  go_wp2_with fail
  refine HB.mono ?_
  rintro e w' ⟨rfl, rfl⟩
  go_wp2_with (at_builtin; refine wpList_appendS rfl _ _ rfl rfl w'.heap.size (.slice (some ⟨w'.heap.size, 0, none⟩) 0 201) [] rfl (by exact own_keep HO0.out ((Fr.refl (fun _ => False) _).alloc _) (fun _ _ h => h)) (some ⟨w'.heap.size + 1, 0, none⟩) 1 1 [1] rfl rfl (S := fun _ => False) (by have h := src_new (w'.alloc (.cells (Wk.zeros 201) 5)) [1] 5 1 (Nat.le_refl _); have e : (w'.alloc (.cells (Wk.zeros 201) 5)).heap.size = w'.heap.size + 1 := (by simp); rw [e] at h; exact h) (by decide) (by exact (HF0.out.alloc (.cells #[.int .u8 1] 5)).size) ?_; intro v1 w1 hown hgr hat; obtain ⟨g1, cp1, hv, _⟩ := own_form hown (by simp); subst hv; obtain ⟨hF, hE⟩ := app_step (HF0.out.alloc (.cells #[.int .u8 1] 5)) (by exact own_keep HO0.out ((Fr.refl (fun _ => False) _).alloc _) (fun _ _ h => h)) (HE0.out.alloc _) (by decide) hgr; have HO1 := Kp.mk hown; have HF1 := Kp.mk hF; have HE1 := Kp.mk hE; clear hown hgr hat hF hE)
  simp only [List.nil_append] at HO1
  have hcv : IntKind.u64.wrap (cnt : Int) = (cnt : Int) := by rw [wrap64u]; omega
  have hbe8 := be8_list cnt (by omega)
  rw [show (cnt : Int) / 72057594037927936 % 256 = (cnt : Int) / 72057594037927936 by omega] at hbe8
  have HBE8 := Kp.mk hbe8
  have HQ0 : Kp (w1.ownsRow w'.heap.size 5 1 (.slice (some ⟨g1, 0, none⟩) (1 + 0) cp1) (1 + 0) (bytes ([1] ++ (be8 cnt).take 0))) := ⟨HO1.out⟩
  clear hbe8 HO1 HO0 HF0 HE0 h0 h1 hA0 hmk
  go_loopw [3, 4] (fun s3 s4 wr => ∃ (t g cp : Nat) (i : Int), s3 = .slice (some ⟨g, 0, none⟩) (1 + t) cp ∧ s4 = .int .i64 i ∧ Kp (t ≤ 8 ∧ i = 7 - (t : Int)) ∧ Kp (wr.ownsRow w'.heap.size 5 1 (.slice (some ⟨g, 0, none⟩) (1 + t) cp) (1 + t) (bytes ([1] ++ (be8 cnt).take t))) ∧ Kp (Fr (fun _ => False) w' wr) ∧ Kp (Blk wr b 93 (dcells false cnt c (.slice Ar rs.length cr)))) (fun _ s4 _ => (intOf s4 + 1).toNat)
  case atStart => exact ⟨0, g1, cp1, 7, rfl, rfl, ⟨Nat.zero_le _, rfl⟩, HQ0, HF1, HE1⟩
  case round =>
    clear HQ0 HF1 HE1
    obtain ⟨t, g, cp, i, rfl, rfl, A1, HO, HF, HE⟩ := hrel
    obtain ⟨A1, A2⟩ := A1.out
    rw [HBE8.out] at HO
    have hc1 := HE.out.cell 1 (.int .i64 (cnt : Int)) rfl
    have hc1a : ∀ o : Obj, (wr.alloc o).cell? ⟨b, 1, none⟩ = some (.int .i64 (cnt : Int)) := fun o => (HE.out.alloc o).cell 1 _ rfl
    have ht8 : t = 0 ∨ t = 1 ∨ t = 2 ∨ t = 3 ∨ t = 4 ∨ t = 5 ∨ t = 6 ∨ t = 7 ∨ t = 8 := by omega
    clear A1
    rcases ht8 with rfl | rfl | rfl | rfl | rfl | rfl | rfl | rfl | rfl
    · obtain rfl : i = 7 := by omega
      clear A2
      have HY : Kp ((([1] : List Int) ++ []).length = 1 + 0) := ⟨rfl⟩
      have HOx : Kp (wr.ownsRow w'.heap.size 5 1 (.slice (some ⟨g, 0, none⟩) (1 + 0) cp) (([1] : List Int) ++ []).length (bytes ([1] ++ []))) := ⟨HO.out⟩
      have HS1 : Kp ((([1] : List Int) ++ []) ++ [(cnt : Int) / 72057594037927936] = [1] ++ [(cnt : Int) / 72057594037927936]) := ⟨rfl⟩
      generalize hzs : ([1] : List Int) ++ [] = zs at HY HOx HS1
      clear hzs HO
      go_wp2_with (at_builtin; refine wpList_appendS rfl _ _ rfl rfl w'.heap.size (.slice (some ⟨g, 0, none⟩) (1 + 0) cp) zs rfl (by exact own_keep HOx.out ((Fr.refl (fun _ => False) wr).alloc _) (fun _ _ h => h)) (some ⟨wr.heap.size, 0, none⟩) 1 1 [(cnt : Int) / 72057594037927936] rfl rfl (by exact src_new wr [(cnt : Int) / 72057594037927936] 5 1 (Nat.le_refl _)) (by rw [HY.out]; simp only [List.length_cons, List.length_nil]; omega) (by exact (HF.out.alloc (.cells #[.int .u8 ((cnt : Int) / 72057594037927936)] 5)).size) ?_; intro v5 w5 hown hgr hat; obtain ⟨g5, cp5, hv, _⟩ := own_form hown (by simp); subst hv; obtain ⟨hF, hE⟩ := app_step (HF.out.alloc (.cells #[.int .u8 ((cnt : Int) / 72057594037927936)] 5)) (by exact own_keep HOx.out ((Fr.refl (fun _ => False) wr).alloc _) (fun _ _ h => h)) (HE.out.alloc _) (by decide) hgr; have HO5 := Kp.mk hown; have HF5 := Kp.mk hF; have HE5 := Kp.mk hE; clear hown hgr hat hF hE)
      go_roundw
      case rel =>
        refine ⟨1, g5, cp5, 6, ?_, by go_num, ⟨by omega, by omega⟩, ⟨?_⟩, HF5, HE5⟩
        · congr 1; have := HY.out; omega
        · have h := HO5.out
          rw [HS1.out] at h
          rw [HBE8.out]
          exact h
      case measure => simp [intOf]
    · obtain rfl : i = 6 := by omega
      clear A2
      have HY : Kp ((([1] : List Int) ++ [(cnt : Int) / 72057594037927936]).length = 1 + 1) := ⟨rfl⟩
      have HOx : Kp (wr.ownsRow w'.heap.size 5 1 (.slice (some ⟨g, 0, none⟩) (1 + 1) cp) (([1] : List Int) ++ [(cnt : Int) / 72057594037927936]).length (bytes ([1] ++ [(cnt : Int) / 72057594037927936]))) := ⟨HO.out⟩
      have HS1 : Kp ((([1] : List Int) ++ [(cnt : Int) / 72057594037927936]) ++ [(cnt : Int) / 281474976710656 % 256] = [1] ++ [(cnt : Int) / 72057594037927936, (cnt : Int) / 281474976710656 % 256]) := ⟨rfl⟩
      generalize hzs : ([1] : List Int) ++ [(cnt : Int) / 72057594037927936] = zs at HY HOx HS1
      clear hzs HO
      go_wp2_with (at_builtin; refine wpList_appendS rfl _ _ rfl rfl w'.heap.size (.slice (some ⟨g, 0, none⟩) (1 + 1) cp) zs rfl (by exact own_keep HOx.out ((Fr.refl (fun _ => False) wr).alloc _) (fun _ _ h => h)) (some ⟨wr.heap.size, 0, none⟩) 1 1 [(cnt : Int) / 281474976710656 % 256] rfl rfl (by exact src_new wr [(cnt : Int) / 281474976710656 % 256] 5 1 (Nat.le_refl _)) (by rw [HY.out]; simp only [List.length_cons, List.length_nil]; omega) (by exact (HF.out.alloc (.cells #[.int .u8 ((cnt : Int) / 281474976710656 % 256)] 5)).size) ?_; intro v5 w5 hown hgr hat; obtain ⟨g5, cp5, hv, _⟩ := own_form hown (by simp); subst hv; obtain ⟨hF, hE⟩ := app_step (HF.out.alloc (.cells #[.int .u8 ((cnt : Int) / 281474976710656 % 256)] 5)) (by exact own_keep HOx.out ((Fr.refl (fun _ => False) wr).alloc _) (fun _ _ h => h)) (HE.out.alloc _) (by decide) hgr; have HO5 := Kp.mk hown; have HF5 := Kp.mk hF; have HE5 := Kp.mk hE; clear hown hgr hat hF hE)
      go_roundw
      case rel =>
        refine ⟨2, g5, cp5, 5, ?_, by go_num, ⟨by omega, by omega⟩, ⟨?_⟩, HF5, HE5⟩
        · congr 1; have := HY.out; omega
        · have h := HO5.out
          rw [HS1.out] at h
          rw [HBE8.out]
          exact h
      case measure => simp [intOf]
    · obtain rfl : i = 5 := by omega
      clear A2
      have HY : Kp ((([1] : List Int) ++ [(cnt : Int) / 72057594037927936, (cnt : Int) / 281474976710656 % 256]).length = 1 + 2) := ⟨rfl⟩
      have HOx : Kp (wr.ownsRow w'.heap.size 5 1 (.slice (some ⟨g, 0, none⟩) (1 + 2) cp) (([1] : List Int) ++ [(cnt : Int) / 72057594037927936, (cnt : Int) / 281474976710656 % 256]).length (bytes ([1] ++ [(cnt : Int) / 72057594037927936, (cnt : Int) / 281474976710656 % 256]))) := ⟨HO.out⟩
      have HS1 : Kp ((([1] : List Int) ++ [(cnt : Int) / 72057594037927936, (cnt : Int) / 281474976710656 % 256]) ++ [(cnt : Int) / 1099511627776 % 256] = [1] ++ [(cnt : Int) / 72057594037927936, (cnt : Int) / 281474976710656 % 256, (cnt : Int) / 1099511627776 % 256]) := ⟨rfl⟩
      generalize hzs : ([1] : List Int) ++ [(cnt : Int) / 72057594037927936, (cnt : Int) / 281474976710656 % 256] = zs at HY HOx HS1
      clear hzs HO
      go_wp2_with (at_builtin; refine wpList_appendS rfl _ _ rfl rfl w'.heap.size (.slice (some ⟨g, 0, none⟩) (1 + 2) cp) zs rfl (by exact own_keep HOx.out ((Fr.refl (fun _ => False) wr).alloc _) (fun _ _ h => h)) (some ⟨wr.heap.size, 0, none⟩) 1 1 [(cnt : Int) / 1099511627776 % 256] rfl rfl (by exact src_new wr [(cnt : Int) / 1099511627776 % 256] 5 1 (Nat.le_refl _)) (by rw [HY.out]; simp only [List.length_cons, List.length_nil]; omega) (by exact (HF.out.alloc (.cells #[.int .u8 ((cnt : Int) / 1099511627776 % 256)] 5)).size) ?_; intro v5 w5 hown hgr hat; obtain ⟨g5, cp5, hv, _⟩ := own_form hown (by simp); subst hv; obtain ⟨hF, hE⟩ := app_step (HF.out.alloc (.cells #[.int .u8 ((cnt : Int) / 1099511627776 % 256)] 5)) (by exact own_keep HOx.out ((Fr.refl (fun _ => False) wr).alloc _) (fun _ _ h => h)) (HE.out.alloc _) (by decide) hgr; have HO5 := Kp.mk hown; have HF5 := Kp.mk hF; have HE5 := Kp.mk hE; clear hown hgr hat hF hE)
      go_roundw
      case rel =>
        refine ⟨3, g5, cp5, 4, ?_, by go_num, ⟨by omega, by omega⟩, ⟨?_⟩, HF5, HE5⟩
        · congr 1; have := HY.out; omega
        · have h := HO5.out
          rw [HS1.out] at h
          rw [HBE8.out]
          exact h
      case measure => simp [intOf]
    · obtain rfl : i = 4 := by omega
      clear A2
      have HY : Kp ((([1] : List Int) ++ [(cnt : Int) / 72057594037927936, (cnt : Int) / 281474976710656 % 256, (cnt : Int) / 1099511627776 % 256]).length = 1 + 3) := ⟨rfl⟩
      have HOx : Kp (wr.ownsRow w'.heap.size 5 1 (.slice (some ⟨g, 0, none⟩) (1 + 3) cp) (([1] : List Int) ++ [(cnt : Int) / 72057594037927936, (cnt : Int) / 281474976710656 % 256, (cnt : Int) / 1099511627776 % 256]).length (bytes ([1] ++ [(cnt : Int) / 72057594037927936, (cnt : Int) / 281474976710656 % 256, (cnt : Int) / 1099511627776 % 256]))) := ⟨HO.out⟩
      have HS1 : Kp ((([1] : List Int) ++ [(cnt : Int) / 72057594037927936, (cnt : Int) / 281474976710656 % 256, (cnt : Int) / 1099511627776 % 256]) ++ [(cnt : Int) / 4294967296 % 256] = [1] ++ [(cnt : Int) / 72057594037927936, (cnt : Int) / 281474976710656 % 256, (cnt : Int) / 1099511627776 % 256, (cnt : Int) / 4294967296 % 256]) := ⟨rfl⟩
      generalize hzs : ([1] : List Int) ++ [(cnt : Int) / 72057594037927936, (cnt : Int) / 281474976710656 % 256, (cnt : Int) / 1099511627776 % 256] = zs at HY HOx HS1
      clear hzs HO
      go_wp2_with (at_builtin; refine wpList_appendS rfl _ _ rfl rfl w'.heap.size (.slice (some ⟨g, 0, none⟩) (1 + 3) cp) zs rfl (by exact own_keep HOx.out ((Fr.refl (fun _ => False) wr).alloc _) (fun _ _ h => h)) (some ⟨wr.heap.size, 0, none⟩) 1 1 [(cnt : Int) / 4294967296 % 256] rfl rfl (by exact src_new wr [(cnt : Int) / 4294967296 % 256] 5 1 (Nat.le_refl _)) (by rw [HY.out]; simp only [List.length_cons, List.length_nil]; omega) (by exact (HF.out.alloc (.cells #[.int .u8 ((cnt : Int) / 4294967296 % 256)] 5)).size) ?_; intro v5 w5 hown hgr hat; obtain ⟨g5, cp5, hv, _⟩ := own_form hown (by simp); subst hv; obtain ⟨hF, hE⟩ := app_step (HF.out.alloc (.cells #[.int .u8 ((cnt : Int) / 4294967296 % 256)] 5)) (by exact own_keep HOx.out ((Fr.refl (fun _ => False) wr).alloc _) (fun _ _ h => h)) (HE.out.alloc _) (by decide) hgr; have HO5 := Kp.mk hown; have HF5 := Kp.mk hF; have HE5 := Kp.mk hE; clear hown hgr hat hF hE)
      go_roundw
      case rel =>
        refine ⟨4, g5, cp5, 3, ?_, by go_num, ⟨by omega, by omega⟩, ⟨?_⟩, HF5, HE5⟩
        · congr 1; have := HY.out; omega
        · have h := HO5.out
          rw [HS1.out] at h
          rw [HBE8.out]
          exact h
      case measure => simp [intOf]
    · obtain rfl : i = 3 := by omega
      clear A2
      have HY : Kp ((([1] : List Int) ++ [(cnt : Int) / 72057594037927936, (cnt : Int) / 281474976710656 % 256, (cnt : Int) / 1099511627776 % 256, (cnt : Int) / 4294967296 % 256]).length = 1 + 4) := ⟨rfl⟩
      have HOx : Kp (wr.ownsRow w'.heap.size 5 1 (.slice (some ⟨g, 0, none⟩) (1 + 4) cp) (([1] : List Int) ++ [(cnt : Int) / 72057594037927936, (cnt : Int) / 281474976710656 % 256, (cnt : Int) / 1099511627776 % 256, (cnt : Int) / 4294967296 % 256]).length (bytes ([1] ++ [(cnt : Int) / 72057594037927936, (cnt : Int) / 281474976710656 % 256, (cnt : Int) / 1099511627776 % 256, (cnt : Int) / 4294967296 % 256]))) := ⟨HO.out⟩
      have HS1 : Kp ((([1] : List Int) ++ [(cnt : Int) / 72057594037927936, (cnt : Int) / 281474976710656 % 256, (cnt : Int) / 1099511627776 % 256, (cnt : Int) / 4294967296 % 256]) ++ [(cnt : Int) / 16777216 % 256] = [1] ++ [(cnt : Int) / 72057594037927936, (cnt : Int) / 281474976710656 % 256, (cnt : Int) / 1099511627776 % 256, (cnt : Int) / 4294967296 % 256, (cnt : Int) / 16777216 % 256]) := ⟨rfl⟩
      generalize hzs : ([1] : List Int) ++ [(cnt : Int) / 72057594037927936, (cnt : Int) / 281474976710656 % 256, (cnt : Int) / 1099511627776 % 256, (cnt : Int) / 4294967296 % 256] = zs at HY HOx HS1
      clear hzs HO
      go_wp2_with (at_builtin; refine wpList_appendS rfl _ _ rfl rfl w'.heap.size (.slice (some ⟨g, 0, none⟩) (1 + 4) cp) zs rfl (by exact own_keep HOx.out ((Fr.refl (fun _ => False) wr).alloc _) (fun _ _ h => h)) (some ⟨wr.heap.size, 0, none⟩) 1 1 [(cnt : Int) / 16777216 % 256] rfl rfl (by exact src_new wr [(cnt : Int) / 16777216 % 256] 5 1 (Nat.le_refl _)) (by rw [HY.out]; simp only [List.length_cons, List.length_nil]; omega) (by exact (HF.out.alloc (.cells #[.int .u8 ((cnt : Int) / 16777216 % 256)] 5)).size) ?_; intro v5 w5 hown hgr hat; obtain ⟨g5, cp5, hv, _⟩ := own_form hown (by simp); subst hv; obtain ⟨hF, hE⟩ := app_step (HF.out.alloc (.cells #[.int .u8 ((cnt : Int) / 16777216 % 256)] 5)) (by exact own_keep HOx.out ((Fr.refl (fun _ => False) wr).alloc _) (fun _ _ h => h)) (HE.out.alloc _) (by decide) hgr; have HO5 := Kp.mk hown; have HF5 := Kp.mk hF; have HE5 := Kp.mk hE; clear hown hgr hat hF hE)
      go_roundw
      case rel =>
        refine ⟨5, g5, cp5, 2, ?_, by go_num, ⟨by omega, by omega⟩, ⟨?_⟩, HF5, HE5⟩
        · congr 1; have := HY.out; omega
        · have h := HO5.out
          rw [HS1.out] at h
          rw [HBE8.out]
          exact h
      case measure => simp [intOf]
    · obtain rfl : i = 2 := by omega
      clear A2
      have HY : Kp ((([1] : List Int) ++ [(cnt : Int) / 72057594037927936, (cnt : Int) / 281474976710656 % 256, (cnt : Int) / 1099511627776 % 256, (cnt : Int) / 4294967296 % 256, (cnt : Int) / 16777216 % 256]).length = 1 + 5) := ⟨rfl⟩
      have HOx : Kp (wr.ownsRow w'.heap.size 5 1 (.slice (some ⟨g, 0, none⟩) (1 + 5) cp) (([1] : List Int) ++ [(cnt : Int) / 72057594037927936, (cnt : Int) / 281474976710656 % 256, (cnt : Int) / 1099511627776 % 256, (cnt : Int) / 4294967296 % 256, (cnt : Int) / 16777216 % 256]).length (bytes ([1] ++ [(cnt : Int) / 72057594037927936, (cnt : Int) / 281474976710656 % 256, (cnt : Int) / 1099511627776 % 256, (cnt : Int) / 4294967296 % 256, (cnt : Int) / 16777216 % 256]))) := ⟨HO.out⟩
      have HS1 : Kp ((([1] : List Int) ++ [(cnt : Int) / 72057594037927936, (cnt : Int) / 281474976710656 % 256, (cnt : Int) / 1099511627776 % 256, (cnt : Int) / 4294967296 % 256, (cnt : Int) / 16777216 % 256]) ++ [(cnt : Int) / 65536 % 256] = [1] ++ [(cnt : Int) / 72057594037927936, (cnt : Int) / 281474976710656 % 256, (cnt : Int) / 1099511627776 % 256, (cnt : Int) / 4294967296 % 256, (cnt : Int) / 16777216 % 256, (cnt : Int) / 65536 % 256]) := ⟨rfl⟩
      generalize hzs : ([1] : List Int) ++ [(cnt : Int) / 72057594037927936, (cnt : Int) / 281474976710656 % 256, (cnt : Int) / 1099511627776 % 256, (cnt : Int) / 4294967296 % 256, (cnt : Int) / 16777216 % 256] = zs at HY HOx HS1
      clear hzs HO
      go_wp2_with (at_builtin; refine wpList_appendS rfl _ _ rfl rfl w'.heap.size (.slice (some ⟨g, 0, none⟩) (1 + 5) cp) zs rfl (by exact own_keep HOx.out ((Fr.refl (fun _ => False) wr).alloc _) (fun _ _ h => h)) (some ⟨wr.heap.size, 0, none⟩) 1 1 [(cnt : Int) / 65536 % 256] rfl rfl (by exact src_new wr [(cnt : Int) / 65536 % 256] 5 1 (Nat.le_refl _)) (by rw [HY.out]; simp only [List.length_cons, List.length_nil]; omega) (by exact (HF.out.alloc (.cells #[.int .u8 ((cnt : Int) / 65536 % 256)] 5)).size) ?_; intro v5 w5 hown hgr hat; obtain ⟨g5, cp5, hv, _⟩ := own_form hown (by simp); subst hv; obtain ⟨hF, hE⟩ := app_step (HF.out.alloc (.cells #[.int .u8 ((cnt : Int) / 65536 % 256)] 5)) (by exact own_keep HOx.out ((Fr.refl (fun _ => False) wr).alloc _) (fun _ _ h => h)) (HE.out.alloc _) (by decide) hgr; have HO5 := Kp.mk hown; have HF5 := Kp.mk hF; have HE5 := Kp.mk hE; clear hown hgr hat hF hE)
      go_roundw
      case rel =>
        refine ⟨6, g5, cp5, 1, ?_, by go_num, ⟨by omega, by omega⟩, ⟨?_⟩, HF5, HE5⟩
        · congr 1; have := HY.out; omega
        · have h := HO5.out
          rw [HS1.out] at h
          rw [HBE8.out]
          exact h
      case measure => simp [intOf]
    · obtain rfl : i = 1 := by omega
      clear A2
      have HY : Kp ((([1] : List Int) ++ [(cnt : Int) / 72057594037927936, (cnt : Int) / 281474976710656 % 256, (cnt : Int) / 1099511627776 % 256, (cnt : Int) / 4294967296 % 256, (cnt : Int) / 16777216 % 256, (cnt : Int) / 65536 % 256]).length = 1 + 6) := ⟨rfl⟩
      have HOx : Kp (wr.ownsRow w'.heap.size 5 1 (.slice (some ⟨g, 0, none⟩) (1 + 6) cp) (([1] : List Int) ++ [(cnt : Int) / 72057594037927936, (cnt : Int) / 281474976710656 % 256, (cnt : Int) / 1099511627776 % 256, (cnt : Int) / 4294967296 % 256, (cnt : Int) / 16777216 % 256, (cnt : Int) / 65536 % 256]).length (bytes ([1] ++ [(cnt : Int) / 72057594037927936, (cnt : Int) / 281474976710656 % 256, (cnt : Int) / 1099511627776 % 256, (cnt : Int) / 4294967296 % 256, (cnt : Int) / 16777216 % 256, (cnt : Int) / 65536 % 256]))) := ⟨HO.out⟩
      have HS1 : Kp ((([1] : List Int) ++ [(cnt : Int) / 72057594037927936, (cnt : Int) / 281474976710656 % 256, (cnt : Int) / 1099511627776 % 256, (cnt : Int) / 4294967296 % 256, (cnt : Int) / 16777216 % 256, (cnt : Int) / 65536 % 256]) ++ [(cnt : Int) / 256 % 256] = [1] ++ [(cnt : Int) / 72057594037927936, (cnt : Int) / 281474976710656 % 256, (cnt : Int) / 1099511627776 % 256, (cnt : Int) / 4294967296 % 256, (cnt : Int) / 16777216 % 256, (cnt : Int) / 65536 % 256, (cnt : Int) / 256 % 256]) := ⟨rfl⟩
      generalize hzs : ([1] : List Int) ++ [(cnt : Int) / 72057594037927936, (cnt : Int) / 281474976710656 % 256, (cnt : Int) / 1099511627776 % 256, (cnt : Int) / 4294967296 % 256, (cnt : Int) / 16777216 % 256, (cnt : Int) / 65536 % 256] = zs at HY HOx HS1
      clear hzs HO
      go_wp2_with (at_builtin; refine wpList_appendS rfl _ _ rfl rfl w'.heap.size (.slice (some ⟨g, 0, none⟩) (1 + 6) cp) zs rfl (by exact own_keep HOx.out ((Fr.refl (fun _ => False) wr).alloc _) (fun _ _ h => h)) (some ⟨wr.heap.size, 0, none⟩) 1 1 [(cnt : Int) / 256 % 256] rfl rfl (by exact src_new wr [(cnt : Int) / 256 % 256] 5 1 (Nat.le_refl _)) (by rw [HY.out]; simp only [List.length_cons, List.length_nil]; omega) (by exact (HF.out.alloc (.cells #[.int .u8 ((cnt : Int) / 256 % 256)] 5)).size) ?_; intro v5 w5 hown hgr hat; obtain ⟨g5, cp5, hv, _⟩ := own_form hown (by simp); subst hv; obtain ⟨hF, hE⟩ := app_step (HF.out.alloc (.cells #[.int .u8 ((cnt : Int) / 256 % 256)] 5)) (by exact own_keep HOx.out ((Fr.refl (fun _ => False) wr).alloc _) (fun _ _ h => h)) (HE.out.alloc _) (by decide) hgr; have HO5 := Kp.mk hown; have HF5 := Kp.mk hF; have HE5 := Kp.mk hE; clear hown hgr hat hF hE)
      go_roundw
      case rel =>
        refine ⟨7, g5, cp5, 0, ?_, by go_num, ⟨by omega, by omega⟩, ⟨?_⟩, HF5, HE5⟩
        · congr 1; have := HY.out; omega
        · have h := HO5.out
          rw [HS1.out] at h
          rw [HBE8.out]
          exact h
      case measure => simp [intOf]
    · obtain rfl : i = 0 := by omega
      clear A2
      have HY : Kp ((([1] : List Int) ++ [(cnt : Int) / 72057594037927936, (cnt : Int) / 281474976710656 % 256, (cnt : Int) / 1099511627776 % 256, (cnt : Int) / 4294967296 % 256, (cnt : Int) / 16777216 % 256, (cnt : Int) / 65536 % 256, (cnt : Int) / 256 % 256]).length = 1 + 7) := ⟨rfl⟩
      have HOx : Kp (wr.ownsRow w'.heap.size 5 1 (.slice (some ⟨g, 0, none⟩) (1 + 7) cp) (([1] : List Int) ++ [(cnt : Int) / 72057594037927936, (cnt : Int) / 281474976710656 % 256, (cnt : Int) / 1099511627776 % 256, (cnt : Int) / 4294967296 % 256, (cnt : Int) / 16777216 % 256, (cnt : Int) / 65536 % 256, (cnt : Int) / 256 % 256]).length (bytes ([1] ++ [(cnt : Int) / 72057594037927936, (cnt : Int) / 281474976710656 % 256, (cnt : Int) / 1099511627776 % 256, (cnt : Int) / 4294967296 % 256, (cnt : Int) / 16777216 % 256, (cnt : Int) / 65536 % 256, (cnt : Int) / 256 % 256]))) := ⟨HO.out⟩
      have HS1 : Kp ((([1] : List Int) ++ [(cnt : Int) / 72057594037927936, (cnt : Int) / 281474976710656 % 256, (cnt : Int) / 1099511627776 % 256, (cnt : Int) / 4294967296 % 256, (cnt : Int) / 16777216 % 256, (cnt : Int) / 65536 % 256, (cnt : Int) / 256 % 256]) ++ [(cnt : Int) % 256] = [1] ++ [(cnt : Int) / 72057594037927936, (cnt : Int) / 281474976710656 % 256, (cnt : Int) / 1099511627776 % 256, (cnt : Int) / 4294967296 % 256, (cnt : Int) / 16777216 % 256, (cnt : Int) / 65536 % 256, (cnt : Int) / 256 % 256, (cnt : Int) % 256]) := ⟨rfl⟩
      generalize hzs : ([1] : List Int) ++ [(cnt : Int) / 72057594037927936, (cnt : Int) / 281474976710656 % 256, (cnt : Int) / 1099511627776 % 256, (cnt : Int) / 4294967296 % 256, (cnt : Int) / 16777216 % 256, (cnt : Int) / 65536 % 256, (cnt : Int) / 256 % 256] = zs at HY HOx HS1
      clear hzs HO
      go_wp2_with (at_builtin; refine wpList_appendS rfl _ _ rfl rfl w'.heap.size (.slice (some ⟨g, 0, none⟩) (1 + 7) cp) zs rfl (by exact own_keep HOx.out ((Fr.refl (fun _ => False) wr).alloc _) (fun _ _ h => h)) (some ⟨wr.heap.size, 0, none⟩) 1 1 [(cnt : Int) % 256] rfl rfl (by exact src_new wr [(cnt : Int) % 256] 5 1 (Nat.le_refl _)) (by rw [HY.out]; simp only [List.length_cons, List.length_nil]; omega) (by exact (HF.out.alloc (.cells #[.int .u8 ((cnt : Int) % 256)] 5)).size) ?_; intro v5 w5 hown hgr hat; obtain ⟨g5, cp5, hv, _⟩ := own_form hown (by simp); subst hv; obtain ⟨hF, hE⟩ := app_step (HF.out.alloc (.cells #[.int .u8 ((cnt : Int) % 256)] 5)) (by exact own_keep HOx.out ((Fr.refl (fun _ => False) wr).alloc _) (fun _ _ h => h)) (HE.out.alloc _) (by decide) hgr; have HO5 := Kp.mk hown; have HF5 := Kp.mk hF; have HE5 := Kp.mk hE; clear hown hgr hat hF hE)
      go_roundw
      case rel =>
        refine ⟨8, g5, cp5, -1, ?_, by go_num, ⟨by omega, by omega⟩, ⟨?_⟩, HF5, HE5⟩
        · congr 1; have := HY.out; omega
        · have h := HO5.out
          rw [HS1.out] at h
          rw [HBE8.out]
          exact h
      case measure => simp [intOf]
    · obtain rfl : i = -1 := by omega
      clear A2
      have HO8 : Kp (wr.ownsRow w'.heap.size 5 1 (.slice (some ⟨g, 0, none⟩) (1 + 8) cp) ([1] ++ be8 cnt).length (bytes ([1] ++ be8 cnt))) := ⟨by rw [HBE8.out]; exact HO.out⟩
      have hl8 : Kp ((([1] : List Int) ++ be8 cnt).length = 9) := ⟨by rw [HBE8.out]; rfl⟩
      have hwl : Kp ((words false c).length = 32) := ⟨words_length false c⟩
      have hsv : Kp ((St.mk false cnt c rs).save = ([1] ++ be8 cnt) ++ words false c ++ rs) := ⟨by simp [St.save, kind]⟩
      have hw := Kp.mk (words_calls false b cnt c (.slice Ar rs.length cr) wr HE.out)
      clear HO hc1 hc1a HBE8
      generalize ([1] : List Int) ++ be8 cnt = xs8 at HO8 hl8 hsv
      go_wp2_with fail
      refine hw.out.mono ?_
      rintro e w2 ⟨v2, rfl, hO2, hB2⟩
      generalize words false c = ws at hO2 hwl hsv hw
      obtain ⟨Aw, cw, rfl, hsw⟩ := Src.of_own hO2 (fun _ => False) (fun _ _ h => h)
      have HSW := Kp.mk hsw
      have HF2 := Kp.mk (HF.out.then_below hB2)
      have HE2 := Kp.mk (HE.out.below hB2)
      have HO8b := Kp.mk (show w2.ownsRow w'.heap.size 5 1 (.slice (some ⟨g, 0, none⟩) (1 + 8) cp) xs8.length (bytes xs8) from own_keep HO8.out (Fr.of_below hB2 (fun _ => False)) (fun _ _ h => h))
      clear hsw hO2 hB2 hw HO8 HF HE
      have h18 := HE2.out.cell 18 (.slice Ar rs.length cr) rfl
      go_wp2_with (first
        | (at_builtin; refine wpList_appendS rfl _ _ rfl rfl w'.heap.size (.slice (some ⟨g, 0, none⟩) (1 + 8) cp) xs8 rfl (by exact HO8b.out) Aw ws.length cw ws rfl rfl (by exact HSW.out) (by rw [hl8.out, hwl.out]; decide) (by exact HF2.out.size) ?_; intro v3 w3 hown hgr hat; obtain ⟨hF, hE⟩ := app_step HF2.out (by exact HO8b.out) HE2.out (by decide) hgr; obtain ⟨A3, c3, hv3, _⟩ := own_shape hown; subst hv3; have HO3q : Kp (w3.ownsRow w'.heap.size 5 1 (.slice A3 (xs8.length + ws.length) c3) (xs8.length + ws.length) (bytes (xs8 ++ ws))) := ⟨by rw [← List.length_append]; exact hown⟩; have HF3 := Kp.mk hF; have HE3 := Kp.mk hE; have h18c := hE.cell 18 (.slice Ar rs.length cr) rfl; clear hown hgr hat hF hE)
        | (at_builtin; refine wpList_appendS rfl _ _ rfl rfl w'.heap.size (.slice A3 (xs8.length + ws.length) c3) (xs8 ++ ws) rfl (by have h := HO3q.out; simpa only [List.length_append] using h) Ar rs.length cr rs rfl rfl (by exact HS.out.fr HF3.out) (by rw [List.length_append, hl8.out, hwl.out]; omega) (by exact HF3.out.size) ?_; intro v4 w4 hown hgr hat; obtain ⟨hF, hE⟩ := app_step (v := .slice A3 (xs8.length + ws.length) c3) HF3.out HO3q.out HE3.out (by decide) hgr; obtain ⟨g4, c4, hv4, hg4, hlt4, hc4, hr4⟩ := own_form hown (by rw [List.length_append, List.length_append, hl8.out]; omega); subst hv4; simp only [List.length_append] at hc4; have HR4 := Kp.mk hr4; have HC4 := Kp.mk (own_cells hown); have HF4 := Kp.mk hF; clear hown hgr hat hF hE hr4))
      go_ret
      refine ⟨g4, _, rfl, ?_, ?_, ?_, hg4, HF4.out.below (fun _ _ h => h)⟩
      · rw [hsv.out]; simp [List.length_append]
      · rw [hsv.out]; exact HR4.out
      · obtain ⟨cur, q1, q2, q3, q4⟩ := HC4.out
        rw [hsv.out]
        have e : (xs8 ++ ws ++ rs).length = xs8.length + ws.length + rs.length := by simp only [List.length_append]
        rw [e] at q2 q3 q4
        exact ⟨cur, q1, by omega, by omega, by simpa only [Nat.add_assoc] using q4⟩
end Go.Proofs.YtjcfnflkiialbaaDoor.Sha.V32
namespace Go.Proofs.YtjcfnflkiialbaaDoor.Sha.V64
open Go.RowKit Go.Proofs.YtjcfnflkiialbaaDoor.Mem Go.Proofs.YtjcfnflkiialbaaDoorW.PrintWords
theorem own_cells {w : World} {base g c : Nat} {xs : List Int} (h : w.ownsRow base 5 1 (.slice (some ⟨g, 0, none⟩) xs.length c) xs.length (bytes xs)) : ∃ cur, w.heap[g]? = some (.cells cur 5 (0, 0)) ∧ xs.length ≤ maxLen ∧ xs.length ≤ cur.size ∧ cur.toList.take xs.length = bytes xs := by
  rcases h.2 with ⟨h', _⟩ | ⟨g', cap', cur, h', _, hg, hnc, hm, hs, ht⟩
  · simp at h'
  · simp only [Value.slice.injEq, Option.some.injEq, Addr.mk.injEq, and_true, true_and] at h'
    obtain ⟨rfl, rfl⟩ := h'
    exact ⟨cur, hg, by omega, by omega, by simpa using ht⟩
set_option maxHeartbeats 4000000 in
set_option maxRecDepth 100000 in
theorem save_calls (b cnt : Nat) (c : Chain) (rv : Value) (rs : List Int) (hrs : rs.length < 128) (hcnt : cnt ≤ maxCount) (w : World) (hD : Dg w b rv ⟨true, cnt, c, rs⟩) :
    Calls Tryd.prog 35 #[.pointer (some ⟨b, 0, none⟩)] w fun e w' => ∃ g n, e = .returned (.slice (some ⟨g, 0, none⟩) n n) ∧ n = (St.mk true cnt c rs).save.length ∧ Reads w' g 0 (St.mk true cnt c rs).save ∧ (∃ cur, w'.heap[g]? = some (.cells cur 5 (0, 0)) ∧ n ≤ maxLen ∧ n ≤ cur.size ∧ cur.toList.take n = bytes (St.mk true cnt c rs).save) ∧ w.heap.size ≤ g ∧ Below w.heap.size w w' := by
  obtain ⟨Ar, cr, rfl, hsrc⟩ := Src.of_own hD.rest (fun _ => False) (fun _ _ h => h)
  simp only at hsrc
  have HS := Kp.mk hsrc
  have HD := Kp.mk hD
  have h0 := hD.blk.cell 0 (.int .i64 ((kind true : Nat) : Int)) rfl
  have h1 := hD.blk.cell 1 (.int .i64 (cnt : Int)) rfl
  have HB := block_calls b true w h0
  clear hsrc hD
  simp only [kind, blk] at h0 HB
  have hcnt' := hcnt
  unfold maxCount at hcnt'
  have hmk : ∀ w, (Instr.makeSlice 23 (.int .i64 0) (.int .i64 201)).run Tryd.prog w = .ok (.slice (some ⟨w.heap.size, 0, none⟩) 0 201) (w.alloc (.cells (Wk.zeros 201) 5)) := Wk.make_bytes 201 (by omega) (by omega)
  have hA0 : (w.alloc (.cells (Wk.zeros 201) 5)).cell? ⟨b, 0, none⟩ = some (.int .i64 512) := (HD.out.blk.alloc _).cell 0 _ rfl
  have HO0 : Kp ((w.alloc (.cells (Wk.zeros 201) 5)).ownsRow w.heap.size 5 1 (.slice (some ⟨w.heap.size, 0, none⟩) 0 201) ([] : List Int).length (bytes [])) := ⟨Kd.own_of_R (Wk.own_zeros w 201 (by omega))⟩
  have HF0 : Kp (Fr (fun _ => False) w (w.alloc (.cells (Wk.zeros 201) 5))) := ⟨(Fr.refl _ w).alloc _⟩
  have HE0 : Kp (Blk (w.alloc (.cells (Wk.zeros 201) 5)) b 93 (dcells true cnt c (.slice Ar rs.length cr))) := ⟨HD.out.blk.alloc _⟩
  go_enter Tryd.func35, Tryd.ntmps35
  go_wp2_with fail
  refine HB.mono ?_
  rintro e w' ⟨rfl, rfl⟩
  go_wp2_with (at_builtin; refine wpList_appendS rfl _ _ rfl rfl w'.heap.size (.slice (some ⟨w'.heap.size, 0, none⟩) 0 201) [] rfl (by exact own_keep HO0.out ((Fr.refl (fun _ => False) _).alloc _) (fun _ _ h => h)) (some ⟨w'.heap.size + 1, 0, none⟩) 1 1 [2] rfl rfl (S := fun _ => False) (by have h := src_new (w'.alloc (.cells (Wk.zeros 201) 5)) [2] 5 1 (Nat.le_refl _); have e : (w'.alloc (.cells (Wk.zeros 201) 5)).heap.size = w'.heap.size + 1 := (by simp); rw [e] at h; exact h) (by decide) (by exact (HF0.out.alloc (.cells #[.int .u8 2] 5)).size) ?_; intro v1 w1 hown hgr hat; obtain ⟨g1, cp1, hv, _⟩ := own_form hown (by simp); subst hv; obtain ⟨hF, hE⟩ := app_step (HF0.out.alloc (.cells #[.int .u8 2] 5)) (by exact own_keep HO0.out ((Fr.refl (fun _ => False) _).alloc _) (fun _ _ h => h)) (HE0.out.alloc _) (by decide) hgr; have HO1 := Kp.mk hown; have HF1 := Kp.mk hF; have HE1 := Kp.mk hE; clear hown hgr hat hF hE)
  simp only [List.nil_append] at HO1
  have hcv : IntKind.u64.wrap (cnt : Int) = (cnt : Int) := by rw [wrap64u]; omega
  have hbe8 := be8_list cnt (by omega)
  rw [show (cnt : Int) / 72057594037927936 % 256 = (cnt : Int) / 72057594037927936 by omega] at hbe8
  have HBE8 := Kp.mk hbe8
  have HQ0 : Kp (w1.ownsRow w'.heap.size 5 1 (.slice (some ⟨g1, 0, none⟩) (1 + 0) cp1) (1 + 0) (bytes ([2] ++ (be8 cnt).take 0))) := ⟨HO1.out⟩
  clear hbe8 HO1 HO0 HF0 HE0 h0 h1 hA0 hmk
  go_loopw [3, 4] (fun s3 s4 wr => ∃ (t g cp : Nat) (i : Int), s3 = .slice (some ⟨g, 0, none⟩) (1 + t) cp ∧ s4 = .int .i64 i ∧ Kp (t ≤ 8 ∧ i = 7 - (t : Int)) ∧ Kp (wr.ownsRow w'.heap.size 5 1 (.slice (some ⟨g, 0, none⟩) (1 + t) cp) (1 + t) (bytes ([2] ++ (be8 cnt).take t))) ∧ Kp (Fr (fun _ => False) w' wr) ∧ Kp (Blk wr b 93 (dcells true cnt c (.slice Ar rs.length cr)))) (fun _ s4 _ => (intOf s4 + 1).toNat)
  case atStart => exact ⟨0, g1, cp1, 7, rfl, rfl, ⟨Nat.zero_le _, rfl⟩, HQ0, HF1, HE1⟩
  case round =>
    clear HQ0 HF1 HE1
    obtain ⟨t, g, cp, i, rfl, rfl, A1, HO, HF, HE⟩ := hrel
    obtain ⟨A1, A2⟩ := A1.out
    rw [HBE8.out] at HO
    have hc1 := HE.out.cell 1 (.int .i64 (cnt : Int)) rfl
    have hc1a : ∀ o : Obj, (wr.alloc o).cell? ⟨b, 1, none⟩ = some (.int .i64 (cnt : Int)) := fun o => (HE.out.alloc o).cell 1 _ rfl
    have ht8 : t = 0 ∨ t = 1 ∨ t = 2 ∨ t = 3 ∨ t = 4 ∨ t = 5 ∨ t = 6 ∨ t = 7 ∨ t = 8 := by omega
    clear A1
    rcases ht8 with rfl | rfl | rfl | rfl | rfl | rfl | rfl | rfl | rfl
    · obtain rfl : i = 7 := by omega
      clear A2
      have HY : Kp ((([2] : List Int) ++ []).length = 1 + 0) := ⟨rfl⟩
      have HOx : Kp (wr.ownsRow w'.heap.size 5 1 (.slice (some ⟨g, 0, none⟩) (1 + 0) cp) (([2] : List Int) ++ []).length (bytes ([2] ++ []))) := ⟨HO.out⟩
      have HS1 : Kp ((([2] : List Int) ++ []) ++ [(cnt : Int) / 72057594037927936] = [2] ++ [(cnt : Int) / 72057594037927936]) := ⟨rfl⟩
      generalize hzs : ([2] : List Int) ++ [] = zs at HY HOx HS1
      clear hzs HO
      go_wp2_with (at_builtin; refine wpList_appendS rfl _ _ rfl rfl w'.heap.size (.slice (some ⟨g, 0, none⟩) (1 + 0) cp) zs rfl (by exact own_keep HOx.out ((Fr.refl (fun _ => False) wr).alloc _) (fun _ _ h => h)) (some ⟨wr.heap.size, 0, none⟩) 1 1 [(cnt : Int) / 72057594037927936] rfl rfl (by exact src_new wr [(cnt : Int) / 72057594037927936] 5 1 (Nat.le_refl _)) (by rw [HY.out]; simp only [List.length_cons, List.length_nil]; omega) (by exact (HF.out.alloc (.cells #[.int .u8 ((cnt : Int) / 72057594037927936)] 5)).size) ?_; intro v5 w5 hown hgr hat; obtain ⟨g5, cp5, hv, _⟩ := own_form hown (by simp); subst hv; obtain ⟨hF, hE⟩ := app_step (HF.out.alloc (.cells #[.int .u8 ((cnt : Int) / 72057594037927936)] 5)) (by exact own_keep HOx.out ((Fr.refl (fun _ => False) wr).alloc _) (fun _ _ h => h)) (HE.out.alloc _) (by decide) hgr; have HO5 := Kp.mk hown; have HF5 := Kp.mk hF; have HE5 := Kp.mk hE; clear hown hgr hat hF hE)
      go_roundw
      case rel =>
        refine ⟨1, g5, cp5, 6, ?_, by go_num, ⟨by omega, by omega⟩, ⟨?_⟩, HF5, HE5⟩
        · congr 1; have := HY.out; omega
        · have h := HO5.out
          rw [HS1.out] at h
          rw [HBE8.out]
          exact h
      case measure => simp [intOf]
    · obtain rfl : i = 6 := by omega
      clear A2
      have HY : Kp ((([2] : List Int) ++ [(cnt : Int) / 72057594037927936]).length = 1 + 1) := ⟨rfl⟩
      have HOx : Kp (wr.ownsRow w'.heap.size 5 1 (.slice (some ⟨g, 0, none⟩) (1 + 1) cp) (([2] : List Int) ++ [(cnt : Int) / 72057594037927936]).length (bytes ([2] ++ [(cnt : Int) / 72057594037927936]))) := ⟨HO.out⟩
      have HS1 : Kp ((([2] : List Int) ++ [(cnt : Int) / 72057594037927936]) ++ [(cnt : Int) / 281474976710656 % 256] = [2] ++ [(cnt : Int) / 72057594037927936, (cnt : Int) / 281474976710656 % 256]) := ⟨rfl⟩
      generalize hzs : ([2] : List Int) ++ [(cnt : Int) / 72057594037927936] = zs at HY HOx HS1
      clear hzs HO
      go_wp2_with (at_builtin; refine wpList_appendS rfl _ _ rfl rfl w'.heap.size (.slice (some ⟨g, 0, none⟩) (1 + 1) cp) zs rfl (by exact own_keep HOx.out ((Fr.refl (fun _ => False) wr).alloc _) (fun _ _ h => h)) (some ⟨wr.heap.size, 0, none⟩) 1 1 [(cnt : Int) / 281474976710656 % 256] rfl rfl (by exact src_new wr [(cnt : Int) / 281474976710656 % 256] 5 1 (Nat.le_refl _)) (by rw [HY.out]; simp only [List.length_cons, List.length_nil]; omega) (by exact (HF.out.alloc (.cells #[.int .u8 ((cnt : Int) / 281474976710656 % 256)] 5)).size) ?_; intro v5 w5 hown hgr hat; obtain ⟨g5, cp5, hv, _⟩ := own_form hown (by simp); subst hv; obtain ⟨hF, hE⟩ := app_step (HF.out.alloc (.cells #[.int .u8 ((cnt : Int) / 281474976710656 % 256)] 5)) (by exact own_keep HOx.out ((Fr.refl (fun _ => False) wr).alloc _) (fun _ _ h => h)) (HE.out.alloc _) (by decide) hgr; have HO5 := Kp.mk hown; have HF5 := Kp.mk hF; have HE5 := Kp.mk hE; clear hown hgr hat hF hE)
      go_roundw
      case rel =>
        refine ⟨2, g5, cp5, 5, ?_, by go_num, ⟨by omega, by omega⟩, ⟨?_⟩, HF5, HE5⟩
        · congr 1; have := HY.out; omega
        · have h := HO5.out
          rw [HS1.out] at h
          rw [HBE8.out]
          exact h
      case measure => simp [intOf]
    · obtain rfl : i = 5 := by omega
      clear A2
      have HY : Kp ((([2] : List Int) ++ [(cnt : Int) / 72057594037927936, (cnt : Int) / 281474976710656 % 256]).length = 1 + 2) := ⟨rfl⟩
      have HOx : Kp (wr.ownsRow w'.heap.size 5 1 (.slice (some ⟨g, 0, none⟩) (1 + 2) cp) (([2] : List Int) ++ [(cnt : Int) / 72057594037927936, (cnt : Int) / 281474976710656 % 256]).length (bytes ([2] ++ [(cnt : Int) / 72057594037927936, (cnt : Int) / 281474976710656 % 256]))) := ⟨HO.out⟩
      have HS1 : Kp ((([2] : List Int) ++ [(cnt : Int) / 72057594037927936, (cnt : Int) / 281474976710656 % 256]) ++ [(cnt : Int) / 1099511627776 % 256] = [2] ++ [(cnt : Int) / 72057594037927936, (cnt : Int) / 281474976710656 % 256, (cnt : Int) / 1099511627776 % 256]) := ⟨rfl⟩
      generalize hzs : ([2] : List Int) ++ [(cnt : Int) / 72057594037927936, (cnt : Int) / 281474976710656 % 256] = zs at HY HOx HS1
      clear hzs HO
      go_wp2_with (at_builtin; refine wpList_appendS rfl _ _ rfl rfl w'.heap.size (.slice (some ⟨g, 0, none⟩) (1 + 2) cp) zs rfl (by exact own_keep HOx.out ((Fr.refl (fun _ => False) wr).alloc _) (fun _ _ h => h)) (some ⟨wr.heap.size, 0, none⟩) 1 1 [(cnt : Int) / 1099511627776 % 256] rfl rfl (by exact src_new wr [(cnt : Int) / 1099511627776 % 256] 5 1 (Nat.le_refl _)) (by rw [HY.out]; simp only [List.length_cons, List.length_nil]; omega) (by exact (HF.out.alloc (.cells #[.int .u8 ((cnt : Int) / 1099511627776 % 256)] 5)).size) ?_; intro v5 w5 hown hgr hat; obtain ⟨g5, cp5, hv, _⟩ := own_form hown (by simp); subst hv; obtain ⟨hF, hE⟩ := app_step (HF.out.alloc (.cells #[.int .u8 ((cnt : Int) / 1099511627776 % 256)] 5)) (by exact own_keep HOx.out ((Fr.refl (fun _ => False) wr).alloc _) (fun _ _ h => h)) (HE.out.alloc _) (by decide) hgr; have HO5 := Kp.mk hown; have HF5 := Kp.mk hF; have HE5 := Kp.mk hE; clear hown hgr hat hF hE)
      go_roundw
      case rel =>
        refine ⟨3, g5, cp5, 4, ?_, by go_num, ⟨by omega, by omega⟩, ⟨?_⟩, HF5, HE5⟩
        · congr 1; have := HY.out; omega
        · have h := HO5.out
          rw [HS1.out] at h
          rw [HBE8.out]
          exact h
      case measure => simp [intOf]
    · obtain rfl : i = 4 := by omega
      clear A2
      have HY : Kp ((([2] : List Int) ++ [(cnt : Int) / 72057594037927936, (cnt : Int) / 281474976710656 % 256, (cnt : Int) / 1099511627776 % 256]).length = 1 + 3) := ⟨rfl⟩
      have HOx : Kp (wr.ownsRow w'.heap.size 5 1 (.slice (some ⟨g, 0, none⟩) (1 + 3) cp) (([2] : List Int) ++ [(cnt : Int) / 72057594037927936, (cnt : Int) / 281474976710656 % 256, (cnt : Int) / 1099511627776 % 256]).length (bytes ([2] ++ [(cnt : Int) / 72057594037927936, (cnt : Int) / 281474976710656 % 256, (cnt : Int) / 1099511627776 % 256]))) := ⟨HO.out⟩
      have HS1 : Kp ((([2] : List Int) ++ [(cnt : Int) / 72057594037927936, (cnt : Int) / 281474976710656 % 256, (cnt : Int) / 1099511627776 % 256]) ++ [(cnt : Int) / 4294967296 % 256] = [2] ++ [(cnt : Int) / 72057594037927936, (cnt : Int) / 281474976710656 % 256, (cnt : Int) / 1099511627776 % 256, (cnt : Int) / 4294967296 % 256]) := ⟨rfl⟩
      generalize hzs : ([2] : List Int) ++ [(cnt : Int) / 72057594037927936, (cnt : Int) / 281474976710656 % 256, (cnt : Int) / 1099511627776 % 256] = zs at HY HOx HS1
      clear hzs HO
      go_wp2_with (at_builtin; refine wpList_appendS rfl _ _ rfl rfl w'.heap.size (.slice (some ⟨g, 0, none⟩) (1 + 3) cp) zs rfl (by exact own_keep HOx.out ((Fr.refl (fun _ => False) wr).alloc _) (fun _ _ h => h)) (some ⟨wr.heap.size, 0, none⟩) 1 1 [(cnt : Int) / 4294967296 % 256] rfl rfl (by exact src_new wr [(cnt : Int) / 4294967296 % 256] 5 1 (Nat.le_refl _)) (by rw [HY.out]; simp only [List.length_cons, List.length_nil]; omega) (by exact (HF.out.alloc (.cells #[.int .u8 ((cnt : Int) / 4294967296 % 256)] 5)).size) ?_; intro v5 w5 hown hgr hat; obtain ⟨g5, cp5, hv, _⟩ := own_form hown (by simp); subst hv; obtain ⟨hF, hE⟩ := app_step (HF.out.alloc (.cells #[.int .u8 ((cnt : Int) / 4294967296 % 256)] 5)) (by exact own_keep HOx.out ((Fr.refl (fun _ => False) wr).alloc _) (fun _ _ h => h)) (HE.out.alloc _) (by decide) hgr; have HO5 := Kp.mk hown; have HF5 := Kp.mk hF; have HE5 := Kp.mk hE; clear hown hgr hat hF hE)
      go_roundw
      case rel =>
        refine ⟨4, g5, cp5, 3, ?_, by go_num, ⟨by omega, by omega⟩, ⟨?_⟩, HF5, HE5⟩
        · congr 1; have := HY.out; omega
        · have h := HO5.out
          rw [HS1.out] at h
          rw [HBE8.out]
          exact h
      case measure => simp [intOf]
    · obtain rfl : i = 3 := by omega
      clear A2
      have HY : Kp ((([2] : List Int) ++ [(cnt : Int) / 72057594037927936, (cnt : Int) / 281474976710656 % 256, (cnt : Int) / 1099511627776 % 256, (cnt : Int) / 4294967296 % 256]).length = 1 + 4) := ⟨rfl⟩
      have HOx : Kp (wr.ownsRow w'.heap.size 5 1 (.slice (some ⟨g, 0, none⟩) (1 + 4) cp) (([2] : List Int) ++ [(cnt : Int) / 72057594037927936, (cnt : Int) / 281474976710656 % 256, (cnt : Int) / 1099511627776 % 256, (cnt : Int) / 4294967296 % 256]).length (bytes ([2] ++ [(cnt : Int) / 72057594037927936, (cnt : Int) / 281474976710656 % 256, (cnt : Int) / 1099511627776 % 256, (cnt : Int) / 4294967296 % 256]))) := ⟨HO.out⟩
      have HS1 : Kp ((([2] : List Int) ++ [(cnt : Int) / 72057594037927936, (cnt : Int) / 281474976710656 % 256, (cnt : Int) / 1099511627776 % 256, (cnt : Int) / 4294967296 % 256]) ++ [(cnt : Int) / 16777216 % 256] = [2] ++ [(cnt : Int) / 72057594037927936, (cnt : Int) / 281474976710656 % 256, (cnt : Int) / 1099511627776 % 256, (cnt : Int) / 4294967296 % 256, (cnt : Int) / 16777216 % 256]) := ⟨rfl⟩
      generalize hzs : ([2] : List Int) ++ [(cnt : Int) / 72057594037927936, (cnt : Int) / 281474976710656 % 256, (cnt : Int) / 1099511627776 % 256, (cnt : Int) / 4294967296 % 256] = zs at HY HOx HS1
      clear hzs HO
      go_wp2_with (at_builtin; refine wpList_appendS rfl _ _ rfl rfl w'.heap.size (.slice (some ⟨g, 0, none⟩) (1 + 4) cp) zs rfl (by exact own_keep HOx.out ((Fr.refl (fun _ => False) wr).alloc _) (fun _ _ h => h)) (some ⟨wr.heap.size, 0, none⟩) 1 1 [(cnt : Int) / 16777216 % 256] rfl rfl (by exact src_new wr [(cnt : Int) / 16777216 % 256] 5 1 (Nat.le_refl _)) (by rw [HY.out]; simp only [List.length_cons, List.length_nil]; omega) (by exact (HF.out.alloc (.cells #[.int .u8 ((cnt : Int) / 16777216 % 256)] 5)).size) ?_; intro v5 w5 hown hgr hat; obtain ⟨g5, cp5, hv, _⟩ := own_form hown (by simp); subst hv; obtain ⟨hF, hE⟩ := app_step (HF.out.alloc (.cells #[.int .u8 ((cnt : Int) / 16777216 % 256)] 5)) (by exact own_keep HOx.out ((Fr.refl (fun _ => False) wr).alloc _) (fun _ _ h => h)) (HE.out.alloc _) (by decide) hgr; have HO5 := Kp.mk hown; have HF5 := Kp.mk hF; have HE5 := Kp.mk hE; clear hown hgr hat hF hE)
      go_roundw
      case rel =>
        refine ⟨5, g5, cp5, 2, ?_, by go_num, ⟨by omega, by omega⟩, ⟨?_⟩, HF5, HE5⟩
        · congr 1; have := HY.out; omega
        · have h := HO5.out
          rw [HS1.out] at h
          rw [HBE8.out]
          exact h
      case measure => simp [intOf]
    · obtain rfl : i = 2 := by omega
      clear A2
      have HY : Kp ((([2] : List Int) ++ [(cnt : Int) / 72057594037927936, (cnt : Int) / 281474976710656 % 256, (cnt : Int) / 1099511627776 % 256, (cnt : Int) / 4294967296 % 256, (cnt : Int) / 16777216 % 256]).length = 1 + 5) := ⟨rfl⟩
      have HOx : Kp (wr.ownsRow w'.heap.size 5 1 (.slice (some ⟨g, 0, none⟩) (1 + 5) cp) (([2] : List Int) ++ [(cnt : Int) / 72057594037927936, (cnt : Int) / 281474976710656 % 256, (cnt : Int) / 1099511627776 % 256, (cnt : Int) / 4294967296 % 256, (cnt : Int) / 16777216 % 256]).length (bytes ([2] ++ [(cnt : Int) / 72057594037927936, (cnt : Int) / 281474976710656 % 256, (cnt : Int) / 1099511627776 % 256, (cnt : Int) / 4294967296 % 256, (cnt : Int) / 16777216 % 256]))) := ⟨HO.out⟩
      have HS1 : Kp ((([2] : List Int) ++ [(cnt : Int) / 72057594037927936, (cnt : Int) / 281474976710656 % 256, (cnt : Int) / 1099511627776 % 256, (cnt : Int) / 4294967296 % 256, (cnt : Int) / 16777216 % 256]) ++ [(cnt : Int) / 65536 % 256] = [2] ++ [(cnt : Int) / 72057594037927936, (cnt : Int) / 281474976710656 % 256, (cnt : Int) / 1099511627776 % 256, (cnt : Int) / 4294967296 % 256, (cnt : Int) / 16777216 % 256, (cnt : Int) / 65536 % 256]) := ⟨rfl⟩
      generalize hzs : ([2] : List Int) ++ [(cnt : Int) / 72057594037927936, (cnt : Int) / 281474976710656 % 256, (cnt : Int) / 1099511627776 % 256, (cnt : Int) / 4294967296 % 256, (cnt : Int) / 16777216 % 256] = zs at HY HOx HS1
      clear hzs HO
      go_wp2_with (at_builtin; refine wpList_appendS rfl _ _ rfl rfl w'.heap.size (.slice (some ⟨g, 0, none⟩) (1 + 5) cp) zs rfl (by exact own_keep HOx.out ((Fr.refl (fun _ => False) wr).alloc _) (fun _ _ h => h)) (some ⟨wr.heap.size, 0, none⟩) 1 1 [(cnt : Int) / 65536 % 256] rfl rfl (by exact src_new wr [(cnt : Int) / 65536 % 256] 5 1 (Nat.le_refl _)) (by rw [HY.out]; simp only [List.length_cons, List.length_nil]; omega) (by exact (HF.out.alloc (.cells #[.int .u8 ((cnt : Int) / 65536 % 256)] 5)).size) ?_; intro v5 w5 hown hgr hat; obtain ⟨g5, cp5, hv, _⟩ := own_form hown (by simp); subst hv; obtain ⟨hF, hE⟩ := app_step (HF.out.alloc (.cells #[.int .u8 ((cnt : Int) / 65536 % 256)] 5)) (by exact own_keep HOx.out ((Fr.refl (fun _ => False) wr).alloc _) (fun _ _ h => h)) (HE.out.alloc _) (by decide) hgr; have HO5 := Kp.mk hown; have HF5 := Kp.mk hF; have HE5 := Kp.mk hE; clear hown hgr hat hF hE)
      go_roundw
      case rel =>
        refine ⟨6, g5, cp5, 1, ?_, by go_num, ⟨by omega, by omega⟩, ⟨?_⟩, HF5, HE5⟩
        · congr 1; have := HY.out; omega
        · have h := HO5.out
          rw [HS1.out] at h
          rw [HBE8.out]
          exact h
      case measure => simp [intOf]
    · obtain rfl : i = 1 := by omega
      clear A2
      have HY : Kp ((([2] : List Int) ++ [(cnt : Int) / 72057594037927936, (cnt : Int) / 281474976710656 % 256, (cnt : Int) / 1099511627776 % 256, (cnt : Int) / 4294967296 % 256, (cnt : Int) / 16777216 % 256, (cnt : Int) / 65536 % 256]).length = 1 + 6) := ⟨rfl⟩
      have HOx : Kp (wr.ownsRow w'.heap.size 5 1 (.slice (some ⟨g, 0, none⟩) (1 + 6) cp) (([2] : List Int) ++ [(cnt : Int) / 72057594037927936, (cnt : Int) / 281474976710656 % 256, (cnt : Int) / 1099511627776 % 256, (cnt : Int) / 4294967296 % 256, (cnt : Int) / 16777216 % 256, (cnt : Int) / 65536 % 256]).length (bytes ([2] ++ [(cnt : Int) / 72057594037927936, (cnt : Int) / 281474976710656 % 256, (cnt : Int) / 1099511627776 % 256, (cnt : Int) / 4294967296 % 256, (cnt : Int) / 16777216 % 256, (cnt : Int) / 65536 % 256]))) := ⟨HO.out⟩
      have HS1 : Kp ((([2] : List Int) ++ [(cnt : Int) / 72057594037927936, (cnt : Int) / 281474976710656 % 256, (cnt : Int) / 1099511627776 % 256, (cnt : Int) / 4294967296 % 256, (cnt : Int) / 16777216 % 256, (cnt : Int) / 65536 % 256]) ++ [(cnt : Int) / 256 % 256] = [2] ++ [(cnt : Int) / 72057594037927936, (cnt : Int) / 281474976710656 % 256, (cnt : Int) / 1099511627776 % 256, (cnt : Int) / 4294967296 % 256, (cnt : Int) / 16777216 % 256, (cnt : Int) / 65536 % 256, (cnt : Int) / 256 % 256]) := ⟨rfl⟩
      generalize hzs : ([2] : List Int) ++ [(cnt : Int) / 72057594037927936, (cnt : Int) / 281474976710656 % 256, (cnt : Int) / 1099511627776 % 256, (cnt : Int) / 4294967296 % 256, (cnt : Int) / 16777216 % 256, (cnt : Int) / 65536 % 256] = zs at HY HOx HS1
      clear hzs HO
      go_wp2_with (at_builtin; refine wpList_appendS rfl _ _ rfl rfl w'.heap.size (.slice (some ⟨g, 0, none⟩) (1 + 6) cp) zs rfl (by exact own_keep HOx.out ((Fr.refl (fun _ => False) wr).alloc _) (fun _ _ h => h)) (some ⟨wr.heap.size, 0, none⟩) 1 1 [(cnt : Int) / 256 % 256] rfl rfl (by exact src_new wr [(cnt : Int) / 256 % 256] 5 1 (Nat.le_refl _)) (by rw [HY.out]; simp only [List.length_cons, List.length_nil]; omega) (by exact (HF.out.alloc (.cells #[.int .u8 ((cnt : Int) / 256 % 256)] 5)).size) ?_; intro v5 w5 hown hgr hat; obtain ⟨g5, cp5, hv, _⟩ := own_form hown (by simp); subst hv; obtain ⟨hF, hE⟩ := app_step (HF.out.alloc (.cells #[.int .u8 ((cnt : Int) / 256 % 256)] 5)) (by exact own_keep HOx.out ((Fr.refl (fun _ => False) wr).alloc _) (fun _ _ h => h)) (HE.out.alloc _) (by decide) hgr; have HO5 := Kp.mk hown; have HF5 := Kp.mk hF; have HE5 := Kp.mk hE; clear hown hgr hat hF hE)
      go_roundw
      case rel =>
        refine ⟨7, g5, cp5, 0, ?_, by go_num, ⟨by omega, by omega⟩, ⟨?_⟩, HF5, HE5⟩
        · congr 1; have := HY.out; omega
        · have h := HO5.out
          rw [HS1.out] at h
          rw [HBE8.out]
          exact h
      case measure => simp [intOf]
    · obtain rfl : i = 0 := by omega
      clear A2
      have HY : Kp ((([2] : List Int) ++ [(cnt : Int) / 72057594037927936, (cnt : Int) / 281474976710656 % 256, (cnt : Int) / 1099511627776 % 256, (cnt : Int) / 4294967296 % 256, (cnt : Int) / 16777216 % 256, (cnt : Int) / 65536 % 256, (cnt : Int) / 256 % 256]).length = 1 + 7) := ⟨rfl⟩
      have HOx : Kp (wr.ownsRow w'.heap.size 5 1 (.slice (some ⟨g, 0, none⟩) (1 + 7) cp) (([2] : List Int) ++ [(cnt : Int) / 72057594037927936, (cnt : Int) / 281474976710656 % 256, (cnt : Int) / 1099511627776 % 256, (cnt : Int) / 4294967296 % 256, (cnt : Int) / 16777216 % 256, (cnt : Int) / 65536 % 256, (cnt : Int) / 256 % 256]).length (bytes ([2] ++ [(cnt : Int) / 72057594037927936, (cnt : Int) / 281474976710656 % 256, (cnt : Int) / 1099511627776 % 256, (cnt : Int) / 4294967296 % 256, (cnt : Int) / 16777216 % 256, (cnt : Int) / 65536 % 256, (cnt : Int) / 256 % 256]))) := ⟨HO.out⟩
      have HS1 : Kp ((([2] : List Int) ++ [(cnt : Int) / 72057594037927936, (cnt : Int) / 281474976710656 % 256, (cnt : Int) / 1099511627776 % 256, (cnt : Int) / 4294967296 % 256, (cnt : Int) / 16777216 % 256, (cnt : Int) / 65536 % 256, (cnt : Int) / 256 % 256]) ++ [(cnt : Int) % 256] = [2] ++ [(cnt : Int) / 72057594037927936, (cnt : Int) / 281474976710656 % 256, (cnt : Int) / 1099511627776 % 256, (cnt : Int) / 4294967296 % 256, (cnt : Int) / 16777216 % 256, (cnt : Int) / 65536 % 256, (cnt : Int) / 256 % 256, (cnt : Int) % 256]) := ⟨rfl⟩
      generalize hzs : ([2] : List Int) ++ [(cnt : Int) / 72057594037927936, (cnt : Int) / 281474976710656 % 256, (cnt : Int) / 1099511627776 % 256, (cnt : Int) / 4294967296 % 256, (cnt : Int) / 16777216 % 256, (cnt : Int) / 65536 % 256, (cnt : Int) / 256 % 256] = zs at HY HOx HS1
      clear hzs HO
      go_wp2_with (at_builtin; refine wpList_appendS rfl _ _ rfl rfl w'.heap.size (.slice (some ⟨g, 0, none⟩) (1 + 7) cp) zs rfl (by exact own_keep HOx.out ((Fr.refl (fun _ => False) wr).alloc _) (fun _ _ h => h)) (some ⟨wr.heap.size, 0, none⟩) 1 1 [(cnt : Int) % 256] rfl rfl (by exact src_new wr [(cnt : Int) % 256] 5 1 (Nat.le_refl _)) (by rw [HY.out]; simp only [List.length_cons, List.length_nil]; omega) (by exact (HF.out.alloc (.cells #[.int .u8 ((cnt : Int) % 256)] 5)).size) ?_; intro v5 w5 hown hgr hat; obtain ⟨g5, cp5, hv, _⟩ := own_form hown (by simp); subst hv; obtain ⟨hF, hE⟩ := app_step (HF.out.alloc (.cells #[.int .u8 ((cnt : Int) % 256)] 5)) (by exact own_keep HOx.out ((Fr.refl (fun _ => False) wr).alloc _) (fun _ _ h => h)) (HE.out.alloc _) (by decide) hgr; have HO5 := Kp.mk hown; have HF5 := Kp.mk hF; have HE5 := Kp.mk hE; clear hown hgr hat hF hE)
      go_roundw
      case rel =>
        refine ⟨8, g5, cp5, -1, ?_, by go_num, ⟨by omega, by omega⟩, ⟨?_⟩, HF5, HE5⟩
        · congr 1; have := HY.out; omega
        · have h := HO5.out
          rw [HS1.out] at h
          rw [HBE8.out]
          exact h
      case measure => simp [intOf]
    · obtain rfl : i = -1 := by omega
      clear A2
      have HO8 : Kp (wr.ownsRow w'.heap.size 5 1 (.slice (some ⟨g, 0, none⟩) (1 + 8) cp) ([2] ++ be8 cnt).length (bytes ([2] ++ be8 cnt))) := ⟨by rw [HBE8.out]; exact HO.out⟩
      have hl8 : Kp ((([2] : List Int) ++ be8 cnt).length = 9) := ⟨by rw [HBE8.out]; rfl⟩
      have hwl : Kp ((words true c).length = 64) := ⟨words_length true c⟩
      have hsv : Kp ((St.mk true cnt c rs).save = ([2] ++ be8 cnt) ++ words true c ++ rs) := ⟨by simp [St.save, kind]⟩
      have hw := Kp.mk (words_calls true b cnt c (.slice Ar rs.length cr) wr HE.out)
      clear HO hc1 hc1a HBE8
      generalize ([2] : List Int) ++ be8 cnt = xs8 at HO8 hl8 hsv
      go_wp2_with fail
      refine hw.out.mono ?_
      rintro e w2 ⟨v2, rfl, hO2, hB2⟩
      generalize words true c = ws at hO2 hwl hsv hw
      obtain ⟨Aw, cw, rfl, hsw⟩ := Src.of_own hO2 (fun _ => False) (fun _ _ h => h)
      have HSW := Kp.mk hsw
      have HF2 := Kp.mk (HF.out.then_below hB2)
      have HE2 := Kp.mk (HE.out.below hB2)
      have HO8b := Kp.mk (show w2.ownsRow w'.heap.size 5 1 (.slice (some ⟨g, 0, none⟩) (1 + 8) cp) xs8.length (bytes xs8) from own_keep HO8.out (Fr.of_below hB2 (fun _ => False)) (fun _ _ h => h))
      clear hsw hO2 hB2 hw HO8 HF HE
      have h18 := HE2.out.cell 18 (.slice Ar rs.length cr) rfl
      go_wp2_with (first
        | (at_builtin; refine wpList_appendS rfl _ _ rfl rfl w'.heap.size (.slice (some ⟨g, 0, none⟩) (1 + 8) cp) xs8 rfl (by exact HO8b.out) Aw ws.length cw ws rfl rfl (by exact HSW.out) (by rw [hl8.out, hwl.out]; decide) (by exact HF2.out.size) ?_; intro v3 w3 hown hgr hat; obtain ⟨hF, hE⟩ := app_step HF2.out (by exact HO8b.out) HE2.out (by decide) hgr; obtain ⟨A3, c3, hv3, _⟩ := own_shape hown; subst hv3; have HO3q : Kp (w3.ownsRow w'.heap.size 5 1 (.slice A3 (xs8.length + ws.length) c3) (xs8.length + ws.length) (bytes (xs8 ++ ws))) := ⟨by rw [← List.length_append]; exact hown⟩; have HF3 := Kp.mk hF; have HE3 := Kp.mk hE; have h18c := hE.cell 18 (.slice Ar rs.length cr) rfl; clear hown hgr hat hF hE)
        | (at_builtin; refine wpList_appendS rfl _ _ rfl rfl w'.heap.size (.slice A3 (xs8.length + ws.length) c3) (xs8 ++ ws) rfl (by have h := HO3q.out; simpa only [List.length_append] using h) Ar rs.length cr rs rfl rfl (by exact HS.out.fr HF3.out) (by rw [List.length_append, hl8.out, hwl.out]; omega) (by exact HF3.out.size) ?_; intro v4 w4 hown hgr hat; obtain ⟨hF, hE⟩ := app_step (v := .slice A3 (xs8.length + ws.length) c3) HF3.out HO3q.out HE3.out (by decide) hgr; obtain ⟨g4, c4, hv4, hg4, hlt4, hc4, hr4⟩ := own_form hown (by rw [List.length_append, List.length_append, hl8.out]; omega); subst hv4; simp only [List.length_append] at hc4; have HR4 := Kp.mk hr4; have HC4 := Kp.mk (own_cells hown); have HF4 := Kp.mk hF; clear hown hgr hat hF hE hr4))
      go_ret
      refine ⟨g4, _, rfl, ?_, ?_, ?_, hg4, HF4.out.below (fun _ _ h => h)⟩
      · rw [hsv.out]; simp [List.length_append]
      · rw [hsv.out]; exact HR4.out
      · obtain ⟨cur, q1, q2, q3, q4⟩ := HC4.out
        rw [hsv.out]
        have e : (xs8 ++ ws ++ rs).length = xs8.length + ws.length + rs.length := by simp only [List.length_append]
        rw [e] at q2 q3 q4
        exact ⟨cur, q1, by omega, by omega, by simpa only [Nat.add_assoc] using q4⟩
end Go.Proofs.YtjcfnflkiialbaaDoor.Sha.V64
namespace Go.Proofs.YtjcfnflkiialbaaDoor.Sha
open Go.RowKit Go.Proofs.YtjcfnflkiialbaaDoor.Mem Go.Proofs.YtjcfnflkiialbaaDoorW.PrintWords
theorem save_calls (s : St) (hs : s.Ok) (b : Nat) (rv : Value) (w : World) (hD : Dg w b rv s) :
    Calls Tryd.prog 35 #[.pointer (some ⟨b, 0, none⟩)] w fun e w' => ∃ g n, e = .returned (.slice (some ⟨g, 0, none⟩) n n) ∧ n = s.save.length ∧ Reads w' g 0 s.save ∧ (∃ cur, w'.heap[g]? = some (.cells cur 5 (0, 0)) ∧ n ≤ maxLen ∧ n ≤ cur.size ∧ cur.toList.take n = bytes s.save) ∧ w.heap.size ≤ g ∧ Below w.heap.size w w' := by
  have hr := rest_lt s hs
  have hc := hs.cnt
  obtain ⟨B, cnt, c, rs⟩ := s
  cases B
  · exact V32.save_calls b cnt c rv rs hr hc w hD
  · exact V64.save_calls b cnt c rv rs hr hc w hD
end Go.Proofs.YtjcfnflkiialbaaDoor.Sha
