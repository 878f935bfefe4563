/-
  The walk of Write for kind 256, of nothing (a nil list). The walk of Write for kind 512, of nothing (a nil list).
-/
import Derived.Test.YtjcmgpiapbeodaaDoorApp
namespace Go.Proofs.YtjcmgpiapbeodaaDoor.Sha.N32
open Go.RowKit Go.Proofs.YtjcmgpiapbeodaaDoor.Mem Go.Proofs.YtjcmgpiapbeodaaDoorW.PrintWords
theorem run_append_emptyB (w : World) (base : Nat) (v : Value) (n : Nat) (xs : List Value) (ad : Addr) (c : Nat) (hown : w.ownsRow base 5 1 v n xs) : (Builtin.append_ #[22, 22] 22 #[v, .slice (some ad) 0 c]).run Tryd.prog w = .ok v w := by
  obtain ⟨i0, hi, hz0, hz1, hz2⟩ := info_parts Wk.info_u8
  rcases hown.2 with ⟨rfl, rfl⟩ | ⟨g, cap, cur, rfl, _, _, hnc, _⟩
  · simp [Builtin.append_, run_underlying Tryd.underlying22, sizeOf, typeInfo, hi, Builtin.lenOf, Builtin.firstCells, loadCells, loadCellsFrom]
  · simp [Builtin.append_, run_underlying Tryd.underlying22, sizeOf, typeInfo, hi, Builtin.lenOf, Builtin.firstCells, hnc, storeCells, loadCells, loadCellsFrom]
set_option maxHeartbeats 4000000 in
set_option maxRecDepth 100000 in
theorem write_nil0 (b cnt : Nat) (c : Chain) (A : Option Addr) (cr : Nat) (hmax : cnt ≤ maxCount) (w : World) (hD : Dg w b (.slice A 0 cr) ⟨false, cnt, c, []⟩) :
    Calls Tryd.prog 39 #[.pointer (some ⟨b, 0, none⟩), .slice none 0 0] w fun e w' =>
      ∃ r, e = .returned r ∧ Dg w' b (.slice A 0 cr) ⟨false, cnt, c, []⟩ ∧ Fr (fun k => k = b) w w' := by
  have h0 := hD.blk.cell 0 _ rfl
  have h1 := hD.blk.cell 1 _ rfl
  have h18 := hD.blk.cell 18 (.slice A 0 cr) rfl
  have hf1 := hD.blk.free 1
  have hf18 := hD.blk.free 18
  have HB := block_calls b false w h0
  have HD := Kp.mk hD
  clear hD
  simp only [kind, blk] at h0 h1 HB
  have hmax' := hmax
  unfold maxCount at hmax'
  have hdec : decide ((2305843009213693951 : Int) - (cnt : Int) < 0) = false := decide_eq_false (by omega)
  go_enter Tryd.func39, Tryd.ntmps39
  go_wp2_with (first | (go_at_call 66; (with_reducible refine HB.mono ?_); rintro e w' ⟨rfl, rfl⟩))
  have HD1 : Kp (Blk (w'.setCell ⟨b, 1, none⟩ (.int .i64 (cnt : Int))) b 135 (dcells false cnt c (.slice A 0 cr))) := ⟨by
    rw [← dcells_set1 false cnt cnt]; exact HD.out.blk.set 1 _⟩
  have HF1 : Kp (Fr (fun k => k = b) w' (w'.setCell ⟨b, 1, none⟩ (.int .i64 (cnt : Int)))) := ⟨Fr.set (S := fun k => k = b) (a := ⟨b, 1, none⟩) (Fr.refl _ _) (fun _ => rfl) _⟩
  have HOW : Kp ((w'.setCell ⟨b, 1, none⟩ (.int .i64 (cnt : Int))).ownsRow low 5 1 (.slice A 0 cr) 0 (bytes [])) := ⟨own_keep HD.out.rest HF1.out (fun k hk e => own_ne HD.out.rest hk HD.out.blk (by decide) e)⟩
  clear h0 h1 h18 hf1 hf18 HB
  generalize w'.setCell ⟨b, 1, none⟩ (.int .i64 (cnt : Int)) = W1 at HD1 HF1 HOW ⊢
  have h18 := HD1.out.cell 18 (.slice A 0 cr) rfl
  have hf18 := HD1.out.free 18
  have happ := run_append_nilB W1 low _ _ _ HOW.out
  go_loopw [1] (fun s1 wr => s1 = .slice none 0 0 ∧ wr = W1) (fun s1 _ => lenOf s1)
  case atStart => exact ⟨rfl, rfl⟩
  case round =>
    obtain ⟨rfl, rfl⟩ := hrel
    cases A
    all_goals
      go_wp2
      go_end0
      refine ⟨_, rfl, ⟨?_, ?_, HD.out.low⟩, HF1.out.set (a := ⟨b, 18, none⟩) (fun _ => rfl) _⟩
      · exact HD1.out.set 18 _
      · exact own_keep HOW.out (Fr.set (S := fun k => k = b) (a := ⟨b, 18, none⟩) (Fr.refl _ _) (fun _ => rfl) _) (fun k hk e => own_ne HOW.out hk HD1.out (by decide) e)
set_option maxHeartbeats 4000000 in
set_option maxRecDepth 100000 in
theorem write_nil1 (b cnt : Nat) (c : Chain) (g cr : Nat) (rs : List Int) (hr0 : 0 < rs.length) (hrs : rs.length < 64) (hcr : rs.length ≤ cr) (hmax : cnt ≤ maxCount) (w : World) (hD : Dg w b (.slice (some ⟨g, 0, none⟩) rs.length cr) ⟨false, cnt, c, rs⟩) :
    Calls Tryd.prog 39 #[.pointer (some ⟨b, 0, none⟩), .slice none 0 0] w fun e w' =>
      ∃ r, e = .returned r ∧ Dg w' b (.slice (some ⟨g, 0, none⟩) rs.length cr) ⟨false, cnt, c, rs⟩ ∧ Fr (fun k => k = b) w w' := by
  have h0 := hD.blk.cell 0 _ rfl
  have h1 := hD.blk.cell 1 _ rfl
  have h18 := hD.blk.cell 18 (.slice (some ⟨g, 0, none⟩) rs.length cr) rfl
  have hf1 := hD.blk.free 1
  have hf18 := hD.blk.free 18
  have HB := block_calls b false w h0
  have HD := Kp.mk hD
  clear hD
  simp only [kind, blk] at h0 h1 HB
  have hmax' := hmax
  unfold maxCount at hmax'
  have hdec : decide ((2305843009213693951 : Int) - (cnt : Int) < 0) = false := decide_eq_false (by omega)
  go_enter Tryd.func39, Tryd.ntmps39
  go_wp2_with (first | (go_at_call 66; (with_reducible refine HB.mono ?_); rintro e w' ⟨rfl, rfl⟩))
  have HD1 : Kp (Blk (w'.setCell ⟨b, 1, none⟩ (.int .i64 (cnt : Int))) b 135 (dcells false cnt c (.slice (some ⟨g, 0, none⟩) rs.length cr))) := ⟨by
    rw [← dcells_set1 false cnt cnt]; exact HD.out.blk.set 1 _⟩
  have HF1 : Kp (Fr (fun k => k = b) w' (w'.setCell ⟨b, 1, none⟩ (.int .i64 (cnt : Int)))) := ⟨Fr.set (S := fun k => k = b) (a := ⟨b, 1, none⟩) (Fr.refl _ _) (fun _ => rfl) _⟩
  have HOW : Kp ((w'.setCell ⟨b, 1, none⟩ (.int .i64 (cnt : Int))).ownsRow low 5 1 (.slice (some ⟨g, 0, none⟩) rs.length cr) rs.length (bytes rs)) := ⟨own_keep HD.out.rest HF1.out (fun k hk e => own_ne HD.out.rest hk HD.out.blk (by decide) e)⟩
  clear h0 h1 h18 hf1 hf18 HB
  generalize w'.setCell ⟨b, 1, none⟩ (.int .i64 (cnt : Int)) = W1 at HD1 HF1 HOW ⊢
  have h18 := HD1.out.cell 18 (.slice (some ⟨g, 0, none⟩) rs.length cr) rfl
  have hf18 := HD1.out.free 18
  have hown' : W1.drew.ownsRow low 5 1 (.slice (some ⟨g, 0, none⟩) rs.length cr) rs.length (bytes rs) := HOW.out
  have happ := run_append_nilB W1.drew low _ _ _ hown'
  clear hown'
  go_region
  go_wp2
  (try simp only [Exit.inBlock, Exit.then])
  refine bodyPost_ret (results_none rfl _ _ _) rfl ?_
  refine ⟨_, rfl, ⟨?_, ?_, HD.out.low⟩, HF1.out.drew.set (a := ⟨b, 18, none⟩) (fun _ => rfl) _⟩
  · rw [← dcells_set18 false _ _ (.slice (some ⟨g, 0, none⟩) rs.length cr)]
    exact HD1.out.drew.set 18 _
  · exact own_keep HOW.out (Fr.set (S := fun k => k = b) (a := ⟨b, 18, none⟩) (Fr.drew (Fr.refl _ _)) (fun _ => rfl) _) (fun k hk e => own_ne HOW.out hk HD1.out (by decide) e)
set_option maxHeartbeats 4000000 in
set_option maxRecDepth 100000 in
theorem write_e0 (b cnt : Nat) (c : Chain) (ad : Addr) (ca : Nat) (A : Option Addr) (cr : Nat) (hmax : cnt ≤ maxCount) (w : World) (hD : Dg w b (.slice A 0 cr) ⟨false, cnt, c, []⟩) :
    Calls Tryd.prog 39 #[.pointer (some ⟨b, 0, none⟩), .slice (some ad) 0 ca] w fun e w' =>
      ∃ r, e = .returned r ∧ Dg w' b (.slice A 0 cr) ⟨false, cnt, c, []⟩ ∧ Fr (fun k => k = b) w w' := by
  have h0 := hD.blk.cell 0 _ rfl
  have h1 := hD.blk.cell 1 _ rfl
  have h18 := hD.blk.cell 18 (.slice A 0 cr) rfl
  have hf1 := hD.blk.free 1
  have hf18 := hD.blk.free 18
  have HB := block_calls b false w h0
  have HD := Kp.mk hD
  clear hD
  simp only [kind, blk] at h0 h1 HB
  have hmax' := hmax
  unfold maxCount at hmax'
  have hdec : decide ((2305843009213693951 : Int) - (cnt : Int) < 0) = false := decide_eq_false (by omega)
  go_enter Tryd.func39, Tryd.ntmps39
  go_wp2_with (first | (go_at_call 66; (with_reducible refine HB.mono ?_); rintro e w' ⟨rfl, rfl⟩))
  have HD1 : Kp (Blk (w'.setCell ⟨b, 1, none⟩ (.int .i64 (cnt : Int))) b 135 (dcells false cnt c (.slice A 0 cr))) := ⟨by
    rw [← dcells_set1 false cnt cnt]; exact HD.out.blk.set 1 _⟩
  have HF1 : Kp (Fr (fun k => k = b) w' (w'.setCell ⟨b, 1, none⟩ (.int .i64 (cnt : Int)))) := ⟨Fr.set (S := fun k => k = b) (a := ⟨b, 1, none⟩) (Fr.refl _ _) (fun _ => rfl) _⟩
  have HOW : Kp ((w'.setCell ⟨b, 1, none⟩ (.int .i64 (cnt : Int))).ownsRow low 5 1 (.slice A 0 cr) 0 (bytes [])) := ⟨own_keep HD.out.rest HF1.out (fun k hk e => own_ne HD.out.rest hk HD.out.blk (by decide) e)⟩
  clear h0 h1 h18 hf1 hf18 HB
  generalize w'.setCell ⟨b, 1, none⟩ (.int .i64 (cnt : Int)) = W1 at HD1 HF1 HOW ⊢
  have h18 := HD1.out.cell 18 (.slice A 0 cr) rfl
  have hf18 := HD1.out.free 18
  have happ := run_append_emptyB W1 low _ _ _ ad ca HOW.out
  go_loopw [1] (fun s1 wr => s1 = .slice (some ad) 0 ca ∧ wr = W1) (fun s1 _ => lenOf s1)
  case atStart => exact ⟨rfl, rfl⟩
  case round =>
    obtain ⟨rfl, rfl⟩ := hrel
    cases A
    all_goals
      go_wp2
      go_end0
      refine ⟨_, rfl, ⟨?_, ?_, HD.out.low⟩, HF1.out.set (a := ⟨b, 18, none⟩) (fun _ => rfl) _⟩
      · exact HD1.out.set 18 _
      · exact own_keep HOW.out (Fr.set (S := fun k => k = b) (a := ⟨b, 18, none⟩) (Fr.refl _ _) (fun _ => rfl) _) (fun k hk e => own_ne HOW.out hk HD1.out (by decide) e)
set_option maxHeartbeats 4000000 in
set_option maxRecDepth 100000 in
theorem write_e1 (b cnt : Nat) (c : Chain) (ad : Addr) (ca : Nat) (g cr : Nat) (rs : List Int) (hr0 : 0 < rs.length) (hrs : rs.length < 64) (hcr : rs.length ≤ cr) (hmax : cnt ≤ maxCount) (w : World) (hD : Dg w b (.slice (some ⟨g, 0, none⟩) rs.length cr) ⟨false, cnt, c, rs⟩) :
    Calls Tryd.prog 39 #[.pointer (some ⟨b, 0, none⟩), .slice (some ad) 0 ca] w fun e w' =>
      ∃ r, e = .returned r ∧ Dg w' b (.slice (some ⟨g, 0, none⟩) rs.length cr) ⟨false, cnt, c, rs⟩ ∧ Fr (fun k => k = b) w w' := by
  have h0 := hD.blk.cell 0 _ rfl
  have h1 := hD.blk.cell 1 _ rfl
  have h18 := hD.blk.cell 18 (.slice (some ⟨g, 0, none⟩) rs.length cr) rfl
  have hf1 := hD.blk.free 1
  have hf18 := hD.blk.free 18
  have HB := block_calls b false w h0
  have HD := Kp.mk hD
  clear hD
  simp only [kind, blk] at h0 h1 HB
  have hmax' := hmax
  unfold maxCount at hmax'
  have hdec : decide ((2305843009213693951 : Int) - (cnt : Int) < 0) = false := decide_eq_false (by omega)
  go_enter Tryd.func39, Tryd.ntmps39
  go_wp2_with (first | (go_at_call 66; (with_reducible refine HB.mono ?_); rintro e w' ⟨rfl, rfl⟩))
  have HD1 : Kp (Blk (w'.setCell ⟨b, 1, none⟩ (.int .i64 (cnt : Int))) b 135 (dcells false cnt c (.slice (some ⟨g, 0, none⟩) rs.length cr))) := ⟨by
    rw [← dcells_set1 false cnt cnt]; exact HD.out.blk.set 1 _⟩
  have HF1 : Kp (Fr (fun k => k = b) w' (w'.setCell ⟨b, 1, none⟩ (.int .i64 (cnt : Int)))) := ⟨Fr.set (S := fun k => k = b) (a := ⟨b, 1, none⟩) (Fr.refl _ _) (fun _ => rfl) _⟩
  have HOW : Kp ((w'.setCell ⟨b, 1, none⟩ (.int .i64 (cnt : Int))).ownsRow low 5 1 (.slice (some ⟨g, 0, none⟩) rs.length cr) rs.length (bytes rs)) := ⟨own_keep HD.out.rest HF1.out (fun k hk e => own_ne HD.out.rest hk HD.out.blk (by decide) e)⟩
  clear h0 h1 h18 hf1 hf18 HB
  generalize w'.setCell ⟨b, 1, none⟩ (.int .i64 (cnt : Int)) = W1 at HD1 HF1 HOW ⊢
  have h18 := HD1.out.cell 18 (.slice (some ⟨g, 0, none⟩) rs.length cr) rfl
  have hf18 := HD1.out.free 18
  have hown' : W1.drew.ownsRow low 5 1 (.slice (some ⟨g, 0, none⟩) rs.length cr) rs.length (bytes rs) := HOW.out
  have happ := run_append_emptyB W1.drew low _ _ _ ad ca hown'
  clear hown'
  by_cases hca : ca = 0
  all_goals
    go_region
    go_wp2
    (try simp only [Exit.inBlock, Exit.then])
    refine bodyPost_ret (results_none rfl _ _ _) rfl ?_
    refine ⟨_, rfl, ⟨?_, ?_, HD.out.low⟩, HF1.out.drew.set (a := ⟨b, 18, none⟩) (fun _ => rfl) _⟩
    · rw [← dcells_set18 false _ _ (.slice (some ⟨g, 0, none⟩) rs.length cr)]
      exact HD1.out.drew.set 18 _
    · exact own_keep HOW.out (Fr.set (S := fun k => k = b) (a := ⟨b, 18, none⟩) (Fr.drew (Fr.refl _ _)) (fun _ => rfl) _) (fun k hk e => own_ne HOW.out hk HD1.out (by decide) e)
theorem write_empty (b cnt : Nat) (c : Chain) (ad : Addr) (ca : Nat) (rv : Value) (rs : List Int) (hrs : rs.length < 64) (hmax : cnt ≤ maxCount) (w : World) (hD : Dg w b rv ⟨false, cnt, c, rs⟩) :
    Calls Tryd.prog 39 #[.pointer (some ⟨b, 0, none⟩), .slice (some ad) 0 ca] w fun e w' =>
      ∃ r, e = .returned r ∧ Dg w' b rv ⟨false, cnt, c, rs⟩ ∧ Fr (fun k => k = b) w w' := by
  rcases Nat.eq_zero_or_pos rs.length with h | h
  · obtain rfl := List.eq_nil_of_length_eq_zero h
    obtain ⟨A, cr, rfl, _⟩ := own_shape hD.rest
    exact write_e0 b cnt c ad ca A cr hmax w hD
  · obtain ⟨g, cr, rfl, _, _, hcr, _⟩ := own_form hD.rest h
    exact write_e1 b cnt c ad ca g cr rs h hrs hcr hmax w hD
theorem write_nil (b cnt : Nat) (c : Chain) (rv : Value) (rs : List Int) (hrs : rs.length < 64) (hmax : cnt ≤ maxCount) (w : World) (hD : Dg w b rv ⟨false, cnt, c, rs⟩) :
    Calls Tryd.prog 39 #[.pointer (some ⟨b, 0, none⟩), .slice none 0 0] w fun e w' =>
      ∃ r, e = .returned r ∧ Dg w' b rv ⟨false, cnt, c, rs⟩ ∧ Fr (fun k => k = b) w w' := by
  rcases Nat.eq_zero_or_pos rs.length with h | h
  · obtain rfl := List.eq_nil_of_length_eq_zero h
    obtain ⟨A, cr, rfl, _⟩ := own_shape hD.rest
    exact write_nil0 b cnt c A cr hmax w hD
  · obtain ⟨g, cr, rfl, _, _, hcr, _⟩ := own_form hD.rest h
    exact write_nil1 b cnt c g cr rs h hrs hcr hmax w hD
end Go.Proofs.YtjcmgpiapbeodaaDoor.Sha.N32
namespace Go.Proofs.YtjcmgpiapbeodaaDoor.Sha.N64
open Go.RowKit Go.Proofs.YtjcmgpiapbeodaaDoor.Mem Go.Proofs.YtjcmgpiapbeodaaDoorW.PrintWords
theorem run_append_emptyB (w : World) (base : Nat) (v : Value) (n : Nat) (xs : List Value) (ad : Addr) (c : Nat) (hown : w.ownsRow base 5 1 v n xs) : (Builtin.append_ #[22, 22] 22 #[v, .slice (some ad) 0 c]).run Tryd.prog w = .ok v w := by
  obtain ⟨i0, hi, hz0, hz1, hz2⟩ := info_parts Wk.info_u8
  rcases hown.2 with ⟨rfl, rfl⟩ | ⟨g, cap, cur, rfl, _, _, hnc, _⟩
  · simp [Builtin.append_, run_underlying Tryd.underlying22, sizeOf, typeInfo, hi, Builtin.lenOf, Builtin.firstCells, loadCells, loadCellsFrom]
  · simp [Builtin.append_, run_underlying Tryd.underlying22, sizeOf, typeInfo, hi, Builtin.lenOf, Builtin.firstCells, hnc, storeCells, loadCells, loadCellsFrom]
set_option maxHeartbeats 4000000 in
set_option maxRecDepth 100000 in
theorem write_nil0 (b cnt : Nat) (c : Chain) (A : Option Addr) (cr : Nat) (hmax : cnt ≤ maxCount) (w : World) (hD : Dg w b (.slice A 0 cr) ⟨true, cnt, c, []⟩) :
    Calls Tryd.prog 39 #[.pointer (some ⟨b, 0, none⟩), .slice none 0 0] w fun e w' =>
      ∃ r, e = .returned r ∧ Dg w' b (.slice A 0 cr) ⟨true, cnt, c, []⟩ ∧ Fr (fun k => k = b) w w' := by
  have h0 := hD.blk.cell 0 _ rfl
  have h1 := hD.blk.cell 1 _ rfl
  have h18 := hD.blk.cell 18 (.slice A 0 cr) rfl
  have hf1 := hD.blk.free 1
  have hf18 := hD.blk.free 18
  have HB := block_calls b true w h0
  have HD := Kp.mk hD
  clear hD
  simp only [kind, blk] at h0 h1 HB
  have hmax' := hmax
  unfold maxCount at hmax'
  have hdec : decide ((2305843009213693951 : Int) - (cnt : Int) < 0) = false := decide_eq_false (by omega)
  go_enter Tryd.func39, Tryd.ntmps39
  go_wp2_with (first | (go_at_call 66; (with_reducible refine HB.mono ?_); rintro e w' ⟨rfl, rfl⟩))
  have HD1 : Kp (Blk (w'.setCell ⟨b, 1, none⟩ (.int .i64 (cnt : Int))) b 135 (dcells true cnt c (.slice A 0 cr))) := ⟨by
    rw [← dcells_set1 true cnt cnt]; exact HD.out.blk.set 1 _⟩
  have HF1 : Kp (Fr (fun k => k = b) w' (w'.setCell ⟨b, 1, none⟩ (.int .i64 (cnt : Int)))) := ⟨Fr.set (S := fun k => k = b) (a := ⟨b, 1, none⟩) (Fr.refl _ _) (fun _ => rfl) _⟩
  have HOW : Kp ((w'.setCell ⟨b, 1, none⟩ (.int .i64 (cnt : Int))).ownsRow low 5 1 (.slice A 0 cr) 0 (bytes [])) := ⟨own_keep HD.out.rest HF1.out (fun k hk e => own_ne HD.out.rest hk HD.out.blk (by decide) e)⟩
  clear h0 h1 h18 hf1 hf18 HB
  generalize w'.setCell ⟨b, 1, none⟩ (.int .i64 (cnt : Int)) = W1 at HD1 HF1 HOW ⊢
  have h18 := HD1.out.cell 18 (.slice A 0 cr) rfl
  have hf18 := HD1.out.free 18
  have happ := run_append_nilB W1 low _ _ _ HOW.out
  go_loopw [1] (fun s1 wr => s1 = .slice none 0 0 ∧ wr = W1) (fun s1 _ => lenOf s1)
  case atStart => exact ⟨rfl, rfl⟩
  case round =>
    obtain ⟨rfl, rfl⟩ := hrel
    cases A
    all_goals
      go_wp2
      go_end0
      refine ⟨_, rfl, ⟨?_, ?_, HD.out.low⟩, HF1.out.set (a := ⟨b, 18, none⟩) (fun _ => rfl) _⟩
      · exact HD1.out.set 18 _
      · exact own_keep HOW.out (Fr.set (S := fun k => k = b) (a := ⟨b, 18, none⟩) (Fr.refl _ _) (fun _ => rfl) _) (fun k hk e => own_ne HOW.out hk HD1.out (by decide) e)
set_option maxHeartbeats 4000000 in
set_option maxRecDepth 100000 in
theorem write_nil1 (b cnt : Nat) (c : Chain) (g cr : Nat) (rs : List Int) (hr0 : 0 < rs.length) (hrs : rs.length < 128) (hcr : rs.length ≤ cr) (hmax : cnt ≤ maxCount) (w : World) (hD : Dg w b (.slice (some ⟨g, 0, none⟩) rs.length cr) ⟨true, cnt, c, rs⟩) :
    Calls Tryd.prog 39 #[.pointer (some ⟨b, 0, none⟩), .slice none 0 0] w fun e w' =>
      ∃ r, e = .returned r ∧ Dg w' b (.slice (some ⟨g, 0, none⟩) rs.length cr) ⟨true, cnt, c, rs⟩ ∧ Fr (fun k => k = b) w w' := by
  have h0 := hD.blk.cell 0 _ rfl
  have h1 := hD.blk.cell 1 _ rfl
  have h18 := hD.blk.cell 18 (.slice (some ⟨g, 0, none⟩) rs.length cr) rfl
  have hf1 := hD.blk.free 1
  have hf18 := hD.blk.free 18
  have HB := block_calls b true w h0
  have HD := Kp.mk hD
  clear hD
  simp only [kind, blk] at h0 h1 HB
  have hmax' := hmax
  unfold maxCount at hmax'
  have hdec : decide ((2305843009213693951 : Int) - (cnt : Int) < 0) = false := decide_eq_false (by omega)
  go_enter Tryd.func39, Tryd.ntmps39
  go_wp2_with (first | (go_at_call 66; (with_reducible refine HB.mono ?_); rintro e w' ⟨rfl, rfl⟩))
  have HD1 : Kp (Blk (w'.setCell ⟨b, 1, none⟩ (.int .i64 (cnt : Int))) b 135 (dcells true cnt c (.slice (some ⟨g, 0, none⟩) rs.length cr))) := ⟨by
    rw [← dcells_set1 true cnt cnt]; exact HD.out.blk.set 1 _⟩
  have HF1 : Kp (Fr (fun k => k = b) w' (w'.setCell ⟨b, 1, none⟩ (.int .i64 (cnt : Int)))) := ⟨Fr.set (S := fun k => k = b) (a := ⟨b, 1, none⟩) (Fr.refl _ _) (fun _ => rfl) _⟩
  have HOW : Kp ((w'.setCell ⟨b, 1, none⟩ (.int .i64 (cnt : Int))).ownsRow low 5 1 (.slice (some ⟨g, 0, none⟩) rs.length cr) rs.length (bytes rs)) := ⟨own_keep HD.out.rest HF1.out (fun k hk e => own_ne HD.out.rest hk HD.out.blk (by decide) e)⟩
  clear h0 h1 h18 hf1 hf18 HB
  generalize w'.setCell ⟨b, 1, none⟩ (.int .i64 (cnt : Int)) = W1 at HD1 HF1 HOW ⊢
  have h18 := HD1.out.cell 18 (.slice (some ⟨g, 0, none⟩) rs.length cr) rfl
  have hf18 := HD1.out.free 18
  have hown' : W1.drew.ownsRow low 5 1 (.slice (some ⟨g, 0, none⟩) rs.length cr) rs.length (bytes rs) := HOW.out
  have happ := run_append_nilB W1.drew low _ _ _ hown'
  clear hown'
  go_region
  go_wp2
  (try simp only [Exit.inBlock, Exit.then])
  refine bodyPost_ret (results_none rfl _ _ _) rfl ?_
  refine ⟨_, rfl, ⟨?_, ?_, HD.out.low⟩, HF1.out.drew.set (a := ⟨b, 18, none⟩) (fun _ => rfl) _⟩
  · rw [← dcells_set18 true _ _ (.slice (some ⟨g, 0, none⟩) rs.length cr)]
    exact HD1.out.drew.set 18 _
  · exact own_keep HOW.out (Fr.set (S := fun k => k = b) (a := ⟨b, 18, none⟩) (Fr.drew (Fr.refl _ _)) (fun _ => rfl) _) (fun k hk e => own_ne HOW.out hk HD1.out (by decide) e)
set_option maxHeartbeats 4000000 in
set_option maxRecDepth 100000 in
theorem write_e0 (b cnt : Nat) (c : Chain) (ad : Addr) (ca : Nat) (A : Option Addr) (cr : Nat) (hmax : cnt ≤ maxCount) (w : World) (hD : Dg w b (.slice A 0 cr) ⟨true, cnt, c, []⟩) :
    Calls Tryd.prog 39 #[.pointer (some ⟨b, 0, none⟩), .slice (some ad) 0 ca] w fun e w' =>
      ∃ r, e = .returned r ∧ Dg w' b (.slice A 0 cr) ⟨true, cnt, c, []⟩ ∧ Fr (fun k => k = b) w w' := by
  have h0 := hD.blk.cell 0 _ rfl
  have h1 := hD.blk.cell 1 _ rfl
  have h18 := hD.blk.cell 18 (.slice A 0 cr) rfl
  have hf1 := hD.blk.free 1
  have hf18 := hD.blk.free 18
  have HB := block_calls b true w h0
  have HD := Kp.mk hD
  clear hD
  simp only [kind, blk] at h0 h1 HB
  have hmax' := hmax
  unfold maxCount at hmax'
  have hdec : decide ((2305843009213693951 : Int) - (cnt : Int) < 0) = false := decide_eq_false (by omega)
  go_enter Tryd.func39, Tryd.ntmps39
  go_wp2_with (first | (go_at_call 66; (with_reducible refine HB.mono ?_); rintro e w' ⟨rfl, rfl⟩))
  have HD1 : Kp (Blk (w'.setCell ⟨b, 1, none⟩ (.int .i64 (cnt : Int))) b 135 (dcells true cnt c (.slice A 0 cr))) := ⟨by
    rw [← dcells_set1 true cnt cnt]; exact HD.out.blk.set 1 _⟩
  have HF1 : Kp (Fr (fun k => k = b) w' (w'.setCell ⟨b, 1, none⟩ (.int .i64 (cnt : Int)))) := ⟨Fr.set (S := fun k => k = b) (a := ⟨b, 1, none⟩) (Fr.refl _ _) (fun _ => rfl) _⟩
  have HOW : Kp ((w'.setCell ⟨b, 1, none⟩ (.int .i64 (cnt : Int))).ownsRow low 5 1 (.slice A 0 cr) 0 (bytes [])) := ⟨own_keep HD.out.rest HF1.out (fun k hk e => own_ne HD.out.rest hk HD.out.blk (by decide) e)⟩
  clear h0 h1 h18 hf1 hf18 HB
  generalize w'.setCell ⟨b, 1, none⟩ (.int .i64 (cnt : Int)) = W1 at HD1 HF1 HOW ⊢
  have h18 := HD1.out.cell 18 (.slice A 0 cr) rfl
  have hf18 := HD1.out.free 18
  have happ := run_append_emptyB W1 low _ _ _ ad ca HOW.out
  go_loopw [1] (fun s1 wr => s1 = .slice (some ad) 0 ca ∧ wr = W1) (fun s1 _ => lenOf s1)
  case atStart => exact ⟨rfl, rfl⟩
  case round =>
    obtain ⟨rfl, rfl⟩ := hrel
    cases A
    all_goals
      go_wp2
      go_end0
      refine ⟨_, rfl, ⟨?_, ?_, HD.out.low⟩, HF1.out.set (a := ⟨b, 18, none⟩) (fun _ => rfl) _⟩
      · exact HD1.out.set 18 _
      · exact own_keep HOW.out (Fr.set (S := fun k => k = b) (a := ⟨b, 18, none⟩) (Fr.refl _ _) (fun _ => rfl) _) (fun k hk e => own_ne HOW.out hk HD1.out (by decide) e)
set_option maxHeartbeats 4000000 in
set_option maxRecDepth 100000 in
theorem write_e1 (b cnt : Nat) (c : Chain) (ad : Addr) (ca : Nat) (g cr : Nat) (rs : List Int) (hr0 : 0 < rs.length) (hrs : rs.length < 128) (hcr : rs.length ≤ cr) (hmax : cnt ≤ maxCount) (w : World) (hD : Dg w b (.slice (some ⟨g, 0, none⟩) rs.length cr) ⟨true, cnt, c, rs⟩) :
    Calls Tryd.prog 39 #[.pointer (some ⟨b, 0, none⟩), .slice (some ad) 0 ca] w fun e w' =>
      ∃ r, e = .returned r ∧ Dg w' b (.slice (some ⟨g, 0, none⟩) rs.length cr) ⟨true, cnt, c, rs⟩ ∧ Fr (fun k => k = b) w w' := by
  have h0 := hD.blk.cell 0 _ rfl
  have h1 := hD.blk.cell 1 _ rfl
  have h18 := hD.blk.cell 18 (.slice (some ⟨g, 0, none⟩) rs.length cr) rfl
  have hf1 := hD.blk.free 1
  have hf18 := hD.blk.free 18
  have HB := block_calls b true w h0
  have HD := Kp.mk hD
  clear hD
  simp only [kind, blk] at h0 h1 HB
  have hmax' := hmax
  unfold maxCount at hmax'
  have hdec : decide ((2305843009213693951 : Int) - (cnt : Int) < 0) = false := decide_eq_false (by omega)
  go_enter Tryd.func39, Tryd.ntmps39
  go_wp2_with (first | (go_at_call 66; (with_reducible refine HB.mono ?_); rintro e w' ⟨rfl, rfl⟩))
  have HD1 : Kp (Blk (w'.setCell ⟨b, 1, none⟩ (.int .i64 (cnt : Int))) b 135 (dcells true cnt c (.slice (some ⟨g, 0, none⟩) rs.length cr))) := ⟨by
    rw [← dcells_set1 true cnt cnt]; exact HD.out.blk.set 1 _⟩
  have HF1 : Kp (Fr (fun k => k = b) w' (w'.setCell ⟨b, 1, none⟩ (.int .i64 (cnt : Int)))) := ⟨Fr.set (S := fun k => k = b) (a := ⟨b, 1, none⟩) (Fr.refl _ _) (fun _ => rfl) _⟩
  have HOW : Kp ((w'.setCell ⟨b, 1, none⟩ (.int .i64 (cnt : Int))).ownsRow low 5 1 (.slice (some ⟨g, 0, none⟩) rs.length cr) rs.length (bytes rs)) := ⟨own_keep HD.out.rest HF1.out (fun k hk e => own_ne HD.out.rest hk HD.out.blk (by decide) e)⟩
  clear h0 h1 h18 hf1 hf18 HB
  generalize w'.setCell ⟨b, 1, none⟩ (.int .i64 (cnt : Int)) = W1 at HD1 HF1 HOW ⊢
  have h18 := HD1.out.cell 18 (.slice (some ⟨g, 0, none⟩) rs.length cr) rfl
  have hf18 := HD1.out.free 18
  have hown' : W1.drew.ownsRow low 5 1 (.slice (some ⟨g, 0, none⟩) rs.length cr) rs.length (bytes rs) := HOW.out
  have happ := run_append_emptyB W1.drew low _ _ _ ad ca hown'
  clear hown'
  by_cases hca : ca = 0
  all_goals
    go_region
    go_wp2
    (try simp only [Exit.inBlock, Exit.then])
    refine bodyPost_ret (results_none rfl _ _ _) rfl ?_
    refine ⟨_, rfl, ⟨?_, ?_, HD.out.low⟩, HF1.out.drew.set (a := ⟨b, 18, none⟩) (fun _ => rfl) _⟩
    · rw [← dcells_set18 true _ _ (.slice (some ⟨g, 0, none⟩) rs.length cr)]
      exact HD1.out.drew.set 18 _
    · exact own_keep HOW.out (Fr.set (S := fun k => k = b) (a := ⟨b, 18, none⟩) (Fr.drew (Fr.refl _ _)) (fun _ => rfl) _) (fun k hk e => own_ne HOW.out hk HD1.out (by decide) e)
theorem write_empty (b cnt : Nat) (c : Chain) (ad : Addr) (ca : Nat) (rv : Value) (rs : List Int) (hrs : rs.length < 128) (hmax : cnt ≤ maxCount) (w : World) (hD : Dg w b rv ⟨true, cnt, c, rs⟩) :
    Calls Tryd.prog 39 #[.pointer (some ⟨b, 0, none⟩), .slice (some ad) 0 ca] w fun e w' =>
      ∃ r, e = .returned r ∧ Dg w' b rv ⟨true, cnt, c, rs⟩ ∧ Fr (fun k => k = b) w w' := by
  rcases Nat.eq_zero_or_pos rs.length with h | h
  · obtain rfl := List.eq_nil_of_length_eq_zero h
    obtain ⟨A, cr, rfl, _⟩ := own_shape hD.rest
    exact write_e0 b cnt c ad ca A cr hmax w hD
  · obtain ⟨g, cr, rfl, _, _, hcr, _⟩ := own_form hD.rest h
    exact write_e1 b cnt c ad ca g cr rs h hrs hcr hmax w hD
theorem write_nil (b cnt : Nat) (c : Chain) (rv : Value) (rs : List Int) (hrs : rs.length < 128) (hmax : cnt ≤ maxCount) (w : World) (hD : Dg w b rv ⟨true, cnt, c, rs⟩) :
    Calls Tryd.prog 39 #[.pointer (some ⟨b, 0, none⟩), .slice none 0 0] w fun e w' =>
      ∃ r, e = .returned r ∧ Dg w' b rv ⟨true, cnt, c, rs⟩ ∧ Fr (fun k => k = b) w w' := by
  rcases Nat.eq_zero_or_pos rs.length with h | h
  · obtain rfl := List.eq_nil_of_length_eq_zero h
    obtain ⟨A, cr, rfl, _⟩ := own_shape hD.rest
    exact write_nil0 b cnt c A cr hmax w hD
  · obtain ⟨g, cr, rfl, _, _, hcr, _⟩ := own_form hD.rest h
    exact write_nil1 b cnt c g cr rs h hrs hcr hmax w hD
end Go.Proofs.YtjcmgpiapbeodaaDoor.Sha.N64
