/-
  wide and kept. The hashes of a tree at places that are there. spare: 300 bytes as a string; conversions between bytes and strings. Bytes to a string and back. The walk of TlogGiven.
-/
import Derived.Test.YtjbhaopocabfaaaDoorTRoot
import Derived.Test.YtjbhaopocabfaaaDoorReg
import Derived.Test.YtjbhaopocabfaaaDoorTree2
import Derived.Laws.BytesArg
import Derived.Lib.ConvBytes
import Derived.Test.YtjbhaopocabfaaaDoorTold
import Derived.Test.YtjbhaopocabfaaaDoorGrown
import Derived.Test.YtjbhaopocabfaaaDoorHArg
namespace Go.Proofs.YtjbhaopocabfaaaDoor.Sha
open Go.RowKit Go.Proofs.YtjbhaopocabfaaaDoor.Mem Go.Proofs.YtjbhaopocabfaaaDoorW.PrintWords Go.Proofs.YtjbhaopocabfaaaDoorW.PrintLast Go.Proofs.YtjbhaopocabfaaaDoor.Pl Go.Proofs.YtjbhaopocabfaaaDoor.Wk
attribute [local go_sem ↓] Go.wp_at_zero Go.wp_at_succ wp_load_hash wp_store_hash wp_load_mid23 wp_load_mid25 wp_store_mid25 wp_build_hash
attribute [local go_sem] rowAt_drew rowOk_drew midOk_drew midAt_drew rowBlock rowCells rowOff midFree_drew
/-- the hash that stands behind a list as spare room -/
def fill (i : Nat) : List Int := 91 :: ((i : Int) % 256) :: List.replicate 30 0
/-- a list with 300 hashes more behind it -/
def wideL (L : List (List Int)) : List (List Int) := L ++ (List.range 300).map fill
theorem fill_len (i : Nat) : (fill i).length = 32 := by simp [fill]
theorem wideL_len (L : List (List Int)) : (wideL L).length = L.length + 300 := by simp [wideL]
theorem fills_succ (i : Nat) : (List.range (i + 1)).map fill = (List.range i).map fill ++ [fill i] := by rw [List.range_succ, List.map_append]; rfl
theorem fills_len (i : Nat) : ((List.range i).map fill).length = i := by simp
theorem run_fill (ev : Operand → Value) (o : Oper) (y : Operand) (w : World) (v : Int) (ho : o.op = .build 25 #[(0, .const (.int .u8 91)), (1, y)]) (hc : ev (.const (.int .u8 91)) = .int .u8 91) (hy : ev y = .int .u8 v) :
    (execOp ev o).run Tryd.prog w = .ok (.value (.agg (bytes (91 :: v :: List.replicate 30 0)).toArray)) w := by
  unfold execOp
  simp only [ho]
  go_simp
  rfl
theorem wpList_fill {ops : Array Oper} {rest : List Oper} {o : Oper} {a : Act} {w : World} {Q : Exit → Act → World → Prop} (hg : o.guard = none) (y : Operand) (ho : o.op = .build 25 #[(0, .const (.int .u8 91)), (1, y)]) (v : Int) (hy : a.eval y = .int .u8 v) (x : List Int) (hx : x = 91 :: v :: List.replicate 30 0)
    (h : wpList Tryd.prog ops Q rest (a.put o.dst (.agg (bytes x).toArray)) w) : wpList Tryd.prog ops Q (o :: rest) a w := by
  refine wpList_plain hg fun _ hK => ?_
  unfold Oper.wp
  rw [run_fill a.eval o y w v ho rfl hy, ← hx]
  exact hK _ _ h
set_option maxHeartbeats 4000000 in
set_option maxRecDepth 100000 in
/-- wide: the list and 300 hashes more, new memory -/
theorem wide_calls (A : Option Addr) (c : Nat) (L : List (List Int)) (w : World) (hX : HRow w (fun _ => False) A c L) (hb : L.length ≤ 1000000) :
    Calls Tryd.prog 49 #[.slice A L.length c] w fun e w' => ∃ v, e = .returned v ∧ HOwn w' w.heap.size v (wideL L) ∧ Fr (fun _ => False) w w' := by
  have HX := Kp.mk hX
  have HB := Kp.mk hb
  obtain ⟨n, hn⟩ : ∃ n, n = L.length := ⟨_, rfl⟩
  rw [← hn]
  have HN := Kp.mk hn
  have hnl : n ≤ 1000000 := by omega
  clear hX hb hn
  go_enter Tryd.func49, Tryd.ntmps49
  go_wp2_with (at_builtin; refine wpList_appendH rfl _ _ rfl rfl w.heap.size (.slice none 0 0) [] rfl (HOwn.nil _ _) A n c L HN.out rfl HX.out (by have := HB.out; simp only [List.length_nil]; omega) (Nat.le_refl _) ?_; intro v1 w1 hown hgr hat; have HO := Kp.mk hown; have HG := Kp.mk hgr; clear hown hgr hat)
  have HF1 : Kp (Fr (fun _ => False) w w1) := ⟨(Fr.refl (fun _ => False) w).grown HG.out (fun q _ h => by cases h)⟩
  clear HG
  go_loopw [3, 4] (fun v a wr => ∃ i : Nat, a = .int .i64 i ∧ i ≤ 300 ∧ Kp (HOwn wr w.heap.size v (L ++ (List.range i).map fill)) ∧ Kp (Fr (fun _ => False) w wr)) (fun _ a _ => 300 - (intOf a).toNat)
  case atStart => exact ⟨0, rfl, Nat.zero_le _, ⟨by have h := HO.out; rw [List.nil_append] at h; rw [List.range_zero, List.map_nil, List.append_nil]; exact h⟩, HF1⟩
  case round =>
    clear HO HF1
    obtain ⟨i, rfl, hi, HO, HF⟩ := hrel
    by_cases h : i < 300
    · obtain ⟨x, hx⟩ : ∃ x, x = fill i := ⟨_, rfl⟩
      have hx32 : x.length = 32 := by rw [hx, fill_len]
      have HT := Kp.mk (show L ++ (List.range (i + 1)).map fill = (L ++ (List.range i).map fill) ++ [x] by rw [fills_succ, hx, List.append_assoc])
      have HXE := Kp.mk hx
      have hk := hashOk_bytes x hx32
      have HX32 := Kp.mk hx32
      clear hx32 hx
      have HXn : Kp (HRow (wr.alloc (.cells (bytes x).toArray 25)) (fun _ => False) (some ⟨wr.heap.size, 0, none⟩) 1 [x]) := ⟨hrow_new wr x HX32.out⟩
      have HOa := Kp.mk (HO.out.keep ((Fr.refl (fun _ => False) wr).alloc (.cells (bytes x).toArray 25)) (fun _ _ h => h))
      go_wp2_with (first | refine wpList_fill rfl _ rfl ((i : Int) % 256) (by rfl) x HXE.out ?_ | (at_builtin; refine wpList_appendH rfl _ _ rfl rfl w.heap.size u3 (L ++ (List.range i).map fill) rfl HOa.out (some ⟨wr.heap.size, 0, none⟩) 1 1 [x] rfl rfl HXn.out (by have := HN.out; rw [List.length_append, fills_len]; simp only [List.length_singleton]; omega) (by exact (HF.out.alloc (.cells (bytes x).toArray 25)).size) ?_; intro v5 w5 hown hgr hat; have HO5 := Kp.mk hown; have HG5 := Kp.mk hgr; clear hown hgr hat))
      refine ⟨⟨i + 1, rfl, by omega, ⟨by rw [HT.out]; exact HO5.out⟩, ⟨(HF.out.alloc (.cells (bytes x).toArray 25)).grown HG5.out (fun q hq h => absurd (HO.out.lt q h).2 (by omega))⟩⟩, ?_⟩
      simp only [intOf]
      omega
    · obtain rfl : i = 300 := by omega
      clear h
      go_wp2_with fail
      go_ret
      exact ⟨_, rfl, HO.out, HF.out⟩
set_option maxHeartbeats 4000000 in
set_option maxRecDepth 100000 in
/-- kept: of a list that is as wide makes it -/
theorem kept_calls (A1 A2 : Option Addr) (c1 c2 : Nat) (L : List (List Int)) (w : World) (hX1 : HRow w (fun _ => False) A1 c1 (wideL L)) (hX2 : HRow w (fun _ => False) A2 c2 L) (hb : L.length ≤ 1000000) :
    Calls Tryd.prog 50 #[.slice A1 (wideL L).length c1, .slice A2 L.length c2] w fun e w' => e = .returned (.bool true) ∧ Fr (fun _ => False) w w' := by
  have CW := Kp.mk (wide_calls A2 c2 L w hX2 hb)
  have HX1 := Kp.mk hX1
  have hwl := wideL_len L
  obtain ⟨M, hM⟩ : ∃ M, M = wideL L := ⟨_, rfl⟩
  rw [← hM] at HX1 CW hwl ⊢
  obtain ⟨n, hn⟩ : ∃ n, n = M.length := ⟨_, rfl⟩
  have hnl : n ≤ 1000300 := by omega
  rw [← hn]
  have HN := Kp.mk hn
  clear hX1 hX2 hn hwl hM hb
  go_enter Tryd.func50, Tryd.ntmps50
  go_wp2_with fail
  refine CW.out.mono ?_
  rintro e W1 ⟨v, rfl, hO, hf⟩
  obtain ⟨A3, c3, hv, hR⟩ := hO.row (fun _ => False) (fun _ _ h => h)
  subst hv
  have HX3 := Kp.mk hR
  have HF1 := Kp.mk hf
  clear hO hR hf CW
  rw [← HN.out]
  go_wp2_with fail
  go_loopw [6] (fun a wr => ∃ i : Nat, a = .int .i64 i ∧ i ≤ n ∧ Kp (Fr (fun _ => False) W1 wr)) (fun a _ => n - (intOf a).toNat)
  case atStart => exact ⟨0, rfl, Nat.zero_le _, ⟨Fr.refl _ _⟩⟩
  case round =>
    obtain ⟨i, rfl, hi, HF⟩ := hrel
    by_cases h : i < n
    · have hil : i < M.length := by rw [← HN.out]; exact h
      obtain ⟨b1, o1, hA1, _, _, _⟩ := HX1.out.at i hil
      obtain ⟨b2, o2, hA2, _, _, _⟩ := HX3.out.at i hil
      subst hA1 hA2
      have hx32 : (M[i]'hil).length = 32 := HX1.out.1 _ (List.getElem_mem _)
      have HL1 : Kp (∀ W, Fr (fun _ => False) wr W → Lds W 25 (.pointer (some ⟨b1, o1 + i * 32, none⟩)) (.agg (bytes (M[i]'hil)).toArray)) := ⟨fun W hf => lds_row ((HX1.out.fr (HF1.out.trans HF.out (fun _ _ h => h))).fr hf) i hil⟩
      have HL2 : Kp (∀ W, Fr (fun _ => False) wr W → Lds W 25 (.pointer (some ⟨b2, o2 + i * 32, none⟩)) (.agg (bytes (M[i]'hil)).toArray)) := ⟨fun W hf => lds_row ((HX3.out.fr HF.out).fr hf) i hil⟩
      generalize M[i]'hil = x at hx32 HL1 HL2
      have sE : ∀ W, (Op.equalIn 10000 25 (.agg (bytes x).toArray) (.agg (bytes x).toArray)).run Tryd.prog W = .ok true W := fun W => by
        have h := eq32 x x hx32 hx32 W
        rw [decide_eq_true rfl] at h
        exact h
      have hii : (i : Int) < (n : Int) := Int.ofNat_lt.2 h
      clear hx32 hil
      go_upto_region 7 with (fail)
      refine start_ (n := 9) (S := fun w' => Lds w' 25 (.pointer (some ⟨b1, o1 + i * 32, none⟩)) (.agg (bytes x).toArray) ∧ Lds w' 25 (.pointer (some ⟨b2, o2 + i * 32, none⟩)) (.agg (bytes x).toArray)) (ds := []) #[false, false, false, false, false, false, false, false, false] (by kernel_rfl) rfl rfl ⟨HL1.out _ ((Fr.refl (fun _ => False) wr).drew), HL2.out _ ((Fr.refl (fun _ => False) wr).drew)⟩ (fun hHeld => ?_)
      refine pure_ (i := 0) (N := some 20) (v := ?_) (a' := ?_) #[true, false, false, false, false, false, false, false, false] rfl rfl (by kernel_rfl) (fun _ _ _ h => h) (Or.inl ⟨by rfl, ?_⟩) ?_ ?_
      rotate_left
      · intro w'
        go_simp
        with_reducible rfl
      rotate_left
      · simp only [Act.put, List.setIfInBounds_toArray, List.set_cons_zero, List.set_cons_succ]
        rfl
      refine pure_ (i := 1) (N := some 21) (v := ?_) (a' := ?_) #[true, true, false, false, false, false, false, false, false] rfl rfl (by kernel_rfl) (fun _ _ _ h => h) (Or.inl ⟨by rfl, ?_⟩) ?_ ?_
      rotate_left
      · intro w'
        go_simp
        with_reducible rfl
      rotate_left
      · simp only [Act.put, List.setIfInBounds_toArray, List.set_cons_zero, List.set_cons_succ]
        rfl
      refine pure_ (i := 2) (N := some 22) (v := ?_) (a' := ?_) #[true, true, true, false, false, false, false, false, false] rfl rfl (by kernel_rfl) (fun _ _ _ h => h) (Or.inl ⟨by rfl, ?_⟩) ?_ ?_
      rotate_left
      · intro w'
        go_simp
        with_reducible rfl
      rotate_left
      · simp only [Act.put, List.setIfInBounds_toArray, List.set_cons_zero, List.set_cons_succ]
        rfl
      refine pure_ (i := 4) (N := some 24) (v := ?_) (a' := ?_) #[true, true, true, false, true, false, false, false, false] rfl rfl (by kernel_rfl) (fun _ _ _ h => h) (Or.inl ⟨by rfl, ?_⟩) ?_ ?_
      rotate_left
      · intro w'
        go_simp
        with_reducible rfl
      rotate_left
      · simp only [Act.put, List.setIfInBounds_toArray, List.set_cons_zero, List.set_cons_succ]
        rfl
      refine pure_ (i := 5) (N := some 25) (v := ?_) (a' := ?_) #[true, true, true, false, true, true, false, false, false] rfl rfl (by kernel_rfl) (fun _ _ _ h => h) (Or.inl ⟨by rfl, ?_⟩) ?_ ?_
      rotate_left
      · intro w'
        go_simp
        with_reducible rfl
      rotate_left
      · simp only [Act.put, List.setIfInBounds_toArray, List.set_cons_zero, List.set_cons_succ]
        rfl
      refine pure_ (i := 6) (N := some 26) (v := ?_) (a' := ?_) #[true, true, true, false, true, true, true, false, false] rfl rfl (by kernel_rfl) (fun _ _ _ h => h) (Or.inl ⟨by rfl, ?_⟩) ?_ ?_
      rotate_left
      · intro w'
        go_simp
        with_reducible rfl
      rotate_left
      · simp only [Act.put, List.setIfInBounds_toArray, List.set_cons_zero, List.set_cons_succ]
        rfl
      refine take_ (i := 3) (N := some 23) (v := ?_) (a' := ?_) #[true, true, true, true, true, true, true, false, false] rfl rfl (by kernel_rfl) (fun _ _ _ h => h) (Or.inl ⟨by rfl, ?_⟩) hHeld ?_ ?_
      rotate_left
      · rintro w' ⟨s0, s1⟩
        refine Lds.run s0 (x := ?_) ?_ ?_
        · exact (Operand.tmp 22)
        · rfl
        · rfl
      rotate_left
      · simp only [Act.put, List.setIfInBounds_toArray, List.set_cons_zero, List.set_cons_succ]
        rfl
      refine take_ (i := 7) (N := some 27) (v := ?_) (a' := ?_) #[true, true, true, true, true, true, true, true, false] rfl rfl (by kernel_rfl) (fun _ _ _ h => h) (Or.inl ⟨by rfl, ?_⟩) hHeld ?_ ?_
      rotate_left
      · rintro w' ⟨s0, s1⟩
        refine Lds.run s1 (x := ?_) ?_ ?_
        · exact (Operand.tmp 26)
        · rfl
        · rfl
      rotate_left
      · simp only [Act.put, List.setIfInBounds_toArray, List.set_cons_zero, List.set_cons_succ]
        rfl
      refine pure_ (i := 8) (N := some 28) (v := ?_) (a' := ?_) #[true, true, true, true, true, true, true, true, true] rfl rfl (by kernel_rfl) (fun _ _ _ h => h) (Or.inl ⟨by rfl, ?_⟩) ?_ ?_
      rotate_left
      · intro w'
        go_simp
        with_reducible rfl
      rotate_left
      · simp only [Act.put, List.setIfInBounds_toArray, List.set_cons_zero, List.set_cons_succ]
        rfl
      refine done_ (by kernel_rfl) ?_
      clear HL1 HL2 sE
      go_wp2_with fail
      refine ⟨⟨i + 1, by go_num, by omega, ⟨HF.out.drew⟩⟩, ?_⟩
      simp only [intOf]
      omega
    · obtain rfl : i = n := by omega
      clear h
      go_wp2_with fail
      go_ret
      exact ⟨rfl, HF1.out.trans HF.out (fun _ _ h => h)⟩
end Go.Proofs.YtjbhaopocabfaaaDoor.Sha
namespace Go.Proofs.YtjbhaopocabfaaaDoor.Sha
open Go.RowKit Go.Proofs.YtjbhaopocabfaaaDoor.Mem Go.Proofs.YtjbhaopocabfaaaDoorW.PrintWords Go.Proofs.YtjbhaopocabfaaaDoorW.PrintLast Go.Proofs.YtjbhaopocabfaaaDoor.Pl Go.Proofs.YtjbhaopocabfaaaDoor.Wk
attribute [local go_sem ↓] Go.wp_at_zero Go.wp_at_succ wp_load_hash wp_store_hash wp_load_mid23 wp_load_mid25 wp_store_mid25 wp_build_hash
attribute [local go_sem] rowAt_drew rowOk_drew midOk_drew midAt_drew rowBlock rowCells rowOff midFree_drew
set_option maxHeartbeats 4000000 in
set_option maxRecDepth 100000 in
theorem Hashes_calls (B g s : Nat) (ls : List (List Int)) (F : Nat → Prop) (A2 : Option Addr) (c2 : Nat) (P : List Int) (hP : ∀ i, i < P.length → 0 ≤ P.getD i 0 ∧ P.getD i 0 < (storedL s ls).length) (hPl : P.length ≤ 65536) (w : World) (hT : Tr w B g s ls F) (hI : IRow w (fun _ => False) A2 c2 P) :
    Calls Tryd.prog 24 #[.pointer (some ⟨g, 0, none⟩), .slice A2 P.length c2] w fun e w' => ∃ v, e = .returned (.tuple #[v, .int .i64 0]) ∧ HOwn w' w.heap.size v (P.map fun p => (storedL s ls).getD p.toNat []) ∧ Fr (fun _ => False) w w' ∧ ∃ q c, v = .slice q P.length c := by
  obtain ⟨gk, go, v0, h1, h2, h3, h4, h5, h6, h7, h8, h9, h10⟩ := hT
  have hlen := storedL_len s ls
  have hcl := cnt_le ls.length
  have hST : (storedL s ls).length ≤ 131072 := by omega
  obtain ⟨A, c, hv, hr⟩ := h3.row (fun _ => False) (fun _ _ h => h)
  generalize storedL s ls = ST at *
  have CP : Kp (∀ W, Fr (fun _ => False) w W → Calls Tryd.prog 60 #[.slice A ST.length c, .slice A2 P.length c2] W fun e w' => ∃ g, W.heap.size ≤ g ∧ e = .returned (.slice (some ⟨g, 0, none⟩) P.length P.length) ∧ HOwn w' W.heap.size (.slice (some ⟨g, 0, none⟩) P.length P.length) (P.map fun p => ST.getD p.toNat []) ∧ Fr (fun _ => False) W w') :=
    ⟨fun W hf => pick_calls A c ST A2 c2 P hP W (hr.fr hf) (hI.fr hf) (by omega)⟩
  obtain ⟨n, hn⟩ : ∃ n, n = ST.length := ⟨_, rfl⟩
  obtain ⟨m, hm⟩ : ∃ m, m = P.length := ⟨_, rfl⟩
  rw [← hn] at hv CP hP
  rw [← hm] at CP hPl ⊢
  subst hv
  have C4 : Kp (∀ W, Fr (fun _ => False) w W → W.cell? ⟨g, 4, none⟩ = some (.slice A n c)) := ⟨fun W hf => (h1.fr hf (fun h => h)).cell 4 _ rfl⟩
  have HP := Kp.mk hP
  have HI := Kp.mk hI
  have HM := Kp.mk hm
  have hbb : decide ((65536 : Int) < (m : Int)) = false := decide_eq_false (by omega)
  clear h1 h2 h3 h4 h5 h6 h7 h8 h9 h10 hn hST hlen hcl hr hP hI hm
  go_enter Tryd.func24, Tryd.ntmps24
  go_wp2_with fail
  go_loopw [13] (fun a wr => ∃ i : Nat, a = .int .i64 i ∧ i ≤ m ∧ Kp (Fr (fun _ => False) w wr)) (fun a _ => m - (intOf a).toNat)
  case atStart => exact ⟨0, rfl, Nat.zero_le _, ⟨Fr.refl _ _⟩⟩
  case round =>
    obtain ⟨i, rfl, hi, HF⟩ := hrel
    by_cases h : i < m
    · have him : i < P.length := by rw [← HM.out]; exact h
      obtain ⟨p0, p1⟩ := HP.out i him
      obtain ⟨b2, o2, hA2, _, hc⟩ := (HI.out.fr HF.out).at i him
      subst hA2
      obtain ⟨q, hq⟩ : ∃ q : Nat, P.getD i 0 = (q : Int) := ⟨(P.getD i 0).toNat, by omega⟩
      rw [hq] at hc p0 p1
      have hqn : q < n := by omega
      have c4 := C4.out wr HF.out
      clear hq p0 p1 him
      go_wp2_with fail
      refine ⟨⟨i + 1, by go_num, by omega, HF⟩, ?_⟩
      simp only [intOf]
      omega
    · obtain rfl : i = m := by omega
      clear h
      have c4 := C4.out wr HF.out
      have CP1 := Kp.mk (CP.out wr HF.out)
      clear CP
      go_wp2_with fail
      refine CP1.out.mono ?_
      rintro e W1 ⟨g1, hg, rfl, hO, hf⟩
      have HO := Kp.mk hO
      have HF1 := Kp.mk hf
      have HS := Kp.mk HF.out.size
      clear hO hf hg CP1
      go_wp2_with fail
      go_ret2
      exact ⟨_, rfl, HO.out.low HS.out, HF.out.trans HF1.out (fun _ _ h => h), _, _, rfl⟩
end Go.Proofs.YtjbhaopocabfaaaDoor.Sha
namespace Go.Proofs.YtjbhaopocabfaaaDoor.Sha
open Go.RowKit Go.Proofs.YtjbhaopocabfaaaDoor.Mem Go.Proofs.YtjbhaopocabfaaaDoorW.PrintWords Go.Proofs.YtjbhaopocabfaaaDoorW.PrintLast Go.Proofs.YtjbhaopocabfaaaDoor.Pl Go.Proofs.YtjbhaopocabfaaaDoor.Wk
attribute [local go_sem ↓] Go.wp_at_zero Go.wp_at_succ wp_load_hash wp_store_hash wp_load_mid23 wp_load_mid25 wp_store_mid25 wp_build_hash
attribute [local go_sem] rowAt_drew rowOk_drew midOk_drew midAt_drew rowBlock rowCells rowOff midFree_drew
def twos (n : Nat) : List Int := (List.range n).flatMap fun i : Nat => [(120 : Int), (i : Int) % 256]
def spareN : List Int := (twos 300).take 300
theorem twos_succ (i : Nat) : twos (i + 1) = twos i ++ [120, (i : Int) % 256] := by unfold twos; rw [List.range_succ, List.flatMap_append]; rfl
theorem twos_len : ∀ (i : Nat), (twos i).length = 2 * i
  | 0 => rfl
  | i + 1 => by rw [twos_succ, List.length_append, twos_len i]; simp only [List.length_cons, List.length_nil]; omega
theorem reads_new2 (w : World) (u v : Int) : Reads (w.alloc (.cells #[.int .u8 u, .int .u8 v] 5)) w.heap.size 0 [u, v] := by
  have hh : (w.alloc (.cells #[.int .u8 u, .int .u8 v] 5)).heap[w.heap.size]? = some (.cells #[.int .u8 u, .int .u8 v] 5 (0, 0)) := heap_alloc_new w _
  refine ⟨by simp, fun i hi => ?_⟩
  unfold World.cell?
  simp only [hh]
  rcases i with _ | _ | i
  · rfl
  · rfl
  · simp only [List.length_cons, List.length_nil] at hi; omega
theorem run_strOf {w : World} {b o : Nat} {p : List Int} (h : Reads w b o p) (c : Nat) : (convert 22 9 (.slice (some ⟨b, o, none⟩) p.length c)).run Tryd.prog w = .ok (.string (strOfNums p)) w :=
  run_convert_bytes_arg w 22 5 Tryd.underlying22 Tryd.underlying5 b o p.length c p rfl h.2 9 Tryd.underlying9
set_option maxHeartbeats 4000000 in
set_option maxRecDepth 100000 in
theorem spare_calls (w : World) : Calls Tryd.prog 48 #[] w fun e w' => e = .returned (.string (strOfNums spareN)) ∧ Fr (fun _ => False) w w' := by
  go_enter Tryd.func48, Tryd.ntmps48
  go_wp2_with fail
  go_loopw [1, 2] (fun v a wr => ∃ i : Nat, a = .int .i64 (i : Int) ∧ i ≤ 300 ∧ Kp (wr.ownsRow w.heap.size 5 1 v (twos i).length (bytes (twos i))) ∧ Kp (Fr (fun _ => False) w wr)) (fun _ a _ => 300 - (intOf a).toNat)
  case atStart => exact ⟨0, rfl, Nat.zero_le _, ⟨⟨rfl, .inl ⟨rfl, rfl⟩⟩⟩, ⟨Fr.refl _ _⟩⟩
  case round =>
    obtain ⟨i, rfl, hi, HO, HF⟩ := hrel
    by_cases h : i < 300
    · have HR : Kp (Reads (wr.alloc (.cells #[.int .u8 120, .int .u8 ((i : Int) % 256)] 5)) wr.heap.size 0 [120, (i : Int) % 256]) := ⟨reads_new2 wr _ _⟩
      have HOa := Kp.mk (own_keep HO.out ((Fr.refl (fun _ => False) wr).alloc (.cells #[.int .u8 120, .int .u8 ((i : Int) % 256)] 5)) (fun _ _ h => h))
      have HT := Kp.mk (twos_succ i)
      have HL := Kp.mk (twos_len i)
      go_wp2_with (at_builtin; refine wpList_appendB rfl _ _ rfl rfl w.heap.size u1 (twos i) rfl HOa.out wr.heap.size 0 2 2 [120, (i : Int) % 256] rfl rfl HR.out (by rw [HL.out]; simp only [List.length_cons, List.length_nil]; omega) (by exact (HF.out.alloc (.cells #[.int .u8 120, .int .u8 ((i : Int) % 256)] 5)).size) ?_; intro v5 w5 hown hgr hat; have HO5 := Kp.mk hown; have HG5 := Kp.mk hgr; clear hown hgr hat)
      refine ⟨⟨i + 1, rfl, by omega, ⟨by rw [HT.out]; exact HO5.out⟩, ⟨(HF.out.alloc (.cells #[.int .u8 120, .int .u8 ((i : Int) % 256)] 5)).grown HG5.out (fun q hq h => absurd (own_lt HO.out h).2 (by omega))⟩⟩, ?_⟩
      simp only [intOf]
      omega
    · obtain rfl : i = 300 := by omega
      clear h
      have hl := twos_len 300
      obtain ⟨g, cap, hv, hg, hgl, hcap, hr⟩ := own_form HO.out (by rw [hl]; decide)
      have HS : Kp (Reads wr g 0 spareN) := ⟨hr.take 300⟩
      have hsl : spareN.length = 300 := by unfold spareN; rw [List.length_take, hl]; rfl
      have CS := run_strOf HS.out cap
      rw [hsl] at CS
      rw [hl] at hcap
      have hci : (300 : Int) ≤ (cap : Int) := by omega
      subst hv
      clear hr hl hsl
      go_wp2_with fail
      go_ret
      exact ⟨rfl, HF.out⟩
end Go.Proofs.YtjbhaopocabfaaaDoor.Sha
namespace Go.Proofs.YtjbhaopocabfaaaDoor.Sha
open Go.RowKit Go.Proofs.YtjbhaopocabfaaaDoor.Mem Go.Proofs.YtjbhaopocabfaaaDoorW.PrintWords Go.Proofs.YtjbhaopocabfaaaDoorW.PrintLast Go.Proofs.YtjbhaopocabfaaaDoor.Pl Go.Proofs.YtjbhaopocabfaaaDoor.Wk
attribute [local go_sem ↓] Go.wp_at_zero Go.wp_at_succ wp_load_hash wp_store_hash wp_load_mid23 wp_load_mid25 wp_store_mid25 wp_build_hash
attribute [local go_sem] rowAt_drew rowOk_drew midOk_drew midAt_drew rowBlock rowCells rowOff midFree_drew
theorem strOf_app (a b : List Int) : strOfNums a ++ strOfNums b = strOfNums (a ++ b) := by
  apply ByteArray.ext
  simp [strOfNums]
def Cvs (w : World) (v : Value) (s : ByteArray) : Prop := ∀ (ev : Operand → Value) (o : Oper) (x : Operand), o.op = .convert 22 9 x → ev x = v → (execOp ev o).run Tryd.prog w = .ok (.value (.string s)) w
theorem Cvs.run {w : World} {v : Value} {s : ByteArray} (h : Cvs w v s) {ev : Operand → Value} {o : Oper} {x : Operand} (ho : o.op = .convert 22 9 x) (hx : ev x = v) : (execOp ev o).run Tryd.prog w = .ok (.value (.string s)) w := h ev o x ho hx
theorem cvs_of {w : World} {v : Value} {s : ByteArray} (h : (convert 22 9 v).run Tryd.prog w = .ok (.string s) w) : Cvs w v s := by
  intro ev o x ho hx
  unfold execOp
  simp only [ho, hx]
  simp only [Sem.run_bind, h, Result.andThen_ok, Sem.run_pure]
theorem strOf_nil : strOfNums [] = ByteArray.empty := rfl
theorem cvs_src {w : World} {S : Nat → Prop} {A : Option Addr} {c : Nat} {p : List Int} (h : Src w S A c p) : Cvs w (.slice A p.length c) (strOfNums p) := by
  refine cvs_of ?_
  rcases h.2 with ⟨rfl, rfl, rfl⟩ | ⟨rfl, ad, rfl⟩ | ⟨b, o, rfl, hr, _⟩
  · rw [strOf_nil]
    exact run_convert_bytes_nil w 22 5 Tryd.underlying22 Tryd.underlying5 _ _ 9 Tryd.underlying9
  · rw [run_convert_bytes_string w 22 9 5 _ _ _ Tryd.underlying22 Tryd.underlying5 Tryd.underlying9]
    have h0 : (loadCells ad 0).run Tryd.prog w = .ok (([] : List Int).map (Value.int .u8)).toArray w := by
      have := run_loadCells_list (P := Tryd.prog) w ad [] (fun j v hj => by simp at hj)
      simpa using this
    exact run_bytesToString w _ 0 c [] h0
  · exact run_strOf hr c
theorem run_toB (ev : Operand → Value) (o : Oper) (x : Operand) (w : World) (p : List Int) (ho : o.op = .convert 9 22 x) (hx : ev x = .string (strOfNums p)) :
    (execOp ev o).run Tryd.prog w = .ok (.value (.slice (some ⟨w.heap.size, 0, none⟩) p.length (grownCap w p.length 0 5))) (Lib.bytesWorld w 5 (strOfNums p)) := by
  have h := Lib.run_convert_string_bytes (P := Tryd.prog) w 9 22 5 (strOfNums p) Tryd.underlying9 Tryd.underlying22 Tryd.underlying5
  rw [strOfNums_size] at h
  unfold execOp
  simp only [ho, hx]
  simp only [Sem.run_bind, h, Result.andThen_ok, Sem.run_pure]
theorem fr_bytes (w : World) (s : ByteArray) : Fr (fun _ => False) w (Lib.bytesWorld w 5 s) :=
  ⟨rfl, rfl, rfl, by rw [Lib.bytesWorld_size]; omega, fun k hk _ => Lib.bytesWorld_at_old w _ s k hk⟩
theorem reads_bytes (w : World) (p : List Int) (hp : ∀ x ∈ p, 0 ≤ x ∧ x < 256) : Reads (Lib.bytesWorld w 5 (strOfNums p)) w.heap.size 0 p := by
  refine ⟨by rw [Lib.bytesWorld_size]; omega, fun i hi => ?_⟩
  rw [Nat.zero_add, Lib.bytesWorld_cell w _ _ i (by rw [strOfNums_size]; exact hi), strOfNums_data]
  obtain ⟨h0, h1⟩ := hp _ (List.getElem_mem hi)
  simp only [List.getD, List.getElem?_map, List.getElem?_eq_getElem hi, Option.map_some, Option.getD_some]
  congr 2
  rw [UInt8.toNat_ofNat', Nat.mod_eq_of_lt (by omega)]
  omega
theorem spareN_bytes : ∀ x ∈ spareN, 0 ≤ x ∧ x < 256 := by
  intro x hx
  have h := List.mem_of_mem_take hx
  unfold twos at h
  obtain ⟨i, _, hi⟩ := List.mem_flatMap.1 h
  simp only [List.mem_cons, List.not_mem_nil, or_false] at hi
  rcases hi with rfl | rfl <;> omega
theorem spareN_len : spareN.length = 300 := by unfold spareN; rw [List.length_take, twos_len]; rfl
/-- a part of the bytes -/
theorem src_part {w : World} {b c : Nat} {p q : List Int} (h : Reads w b 0 (p ++ q)) (hc : (p ++ q).length ≤ c) : Src w (fun _ => False) (some ⟨b, 0, none⟩) c p := by
  refine ⟨by rw [List.length_append] at hc; omega, .inr (.inr ⟨b, 0, rfl, ?_, fun h => h⟩)⟩
  have h1 := h.take p.length
  rwa [List.take_left] at h1
end Go.Proofs.YtjbhaopocabfaaaDoor.Sha
namespace Go.Proofs.YtjbhaopocabfaaaDoor.Sha
open Go.RowKit Go.Proofs.YtjbhaopocabfaaaDoor.Mem Go.Proofs.YtjbhaopocabfaaaDoorW.PrintWords Go.Proofs.YtjbhaopocabfaaaDoorW.PrintLast Go.Proofs.YtjbhaopocabfaaaDoor.Pl Go.Proofs.YtjbhaopocabfaaaDoor.Wk
attribute [local go_sem ↓] Go.wp_at_zero Go.wp_at_succ wp_load_hash wp_store_hash wp_load_mid23 wp_load_mid25 wp_store_mid25 wp_build_hash
attribute [local go_sem] rowAt_drew rowOk_drew midOk_drew midAt_drew rowBlock rowCells rowOff midFree_drew
theorem info_n64 : (Tryd.prog.info? 2).map (fun i => (i.zero, i.size, i.bytes)) = some (some (.int .i64 0), 1, 8) := by kernel_rfl
def zs300 : List Int := List.replicate 300 0
theorem zs300_made : (madeCells (Value.cells (.int .i64 0)) (300 * 1)).toList = zs300.map (Value.int .i64) := by kernel_rfl
theorem zs300_getD (n i : Nat) : (zs300.take n).getD i 0 = 0 := by
  simp only [zs300, List.getD, List.getElem?_take, List.getElem?_replicate]
  repeat (first | rfl | split)
theorem zs300_len : zs300.length = 300 := by unfold zs300; rw [List.length_replicate]
theorem hown_form {w : World} {base : Nat} {v : Value} {L : List (List Int)} (h : HOwn w base v L) (hL : 0 < L.length) : ∃ g cap vs, v = .slice (some ⟨g, 0, none⟩) L.length cap ∧ base ≤ g ∧ g < w.heap.size ∧ L.length ≤ cap ∧ Blk w g 25 (bytes L.flatten ++ vs) := by
  have hl := flat_len h.1
  rcases h.2.2 with ⟨_, h0⟩ | ⟨g, cap, cur, rfl, hb, hg, hnc, _, hsz, htk⟩
  · omega
  · refine ⟨g, cap, cur.toList.drop (32 * L.length), rfl, hb, ?_, hnc, ?_⟩
    · exact (Array.getElem?_eq_some_iff.1 hg).1
    · have e : bytes L.flatten ++ cur.toList.drop (32 * L.length) = cur.toList := by
        rw [← htk, Nat.mul_comm]
        exact List.take_append_drop _ _
      rw [e]
      exact hg
theorem run_77 (ev : Operand → Value) (o : Oper) (w : World) (ho : o.op = .build 25 #[(0, .const (.int .u8 77))]) (hc : ev (.const (.int .u8 77)) = .int .u8 77) :
    (execOp ev o).run Tryd.prog w = .ok (.value (.agg (bytes (77 :: List.replicate 31 0)).toArray)) w := by
  unfold execOp
  simp only [ho]
  go_simp
  rfl
theorem wpList_77 {ops : Array Oper} {rest : List Oper} {o : Oper} {a : Act} {w : World} {Q : Exit → Act → World → Prop} (hg : o.guard = none) (ho : o.op = .build 25 #[(0, .const (.int .u8 77))]) (x : List Int) (hx : x = 77 :: List.replicate 31 0)
    (h : wpList Tryd.prog ops Q rest (a.put o.dst (.agg (bytes x).toArray)) w) : wpList Tryd.prog ops Q (o :: rest) a w := by
  refine wpList_plain hg fun _ hK => ?_
  unfold Oper.wp
  rw [run_77 a.eval o w ho rfl, ← hx]
  exact hK _ _ h
theorem blk_types {w : World} {b : Nat} {T T' : TypeId} {vs vs' : List Value} (h : Blk w b T vs) (h' : Blk w b T' vs') : T = T' := by
  unfold Blk at h h'
  rw [h] at h'
  simp only [Option.some.injEq, Obj.cells.injEq] at h'
  exact h'.2.1
theorem blk_over {w : World} {b i : Nat} {T : TypeId} {vs xs : List Value} (h : Blk w b T vs) (hx : xs.length = 32) (hi : i * 32 + 32 ≤ vs.length) : ∃ vs', Blk (w.setCells b (i * 32) xs) b T vs' ∧ vs'.length = vs.length := by
  have e : vs = vs.take (i * 32) ++ ((vs.drop (i * 32)).take 32 ++ (vs.drop (i * 32)).drop 32) := by rw [List.take_append_drop, List.take_append_drop]
  rw [e] at h
  have h2 := Blk.setCells b T ((vs.drop (i * 32)).drop 32) xs (vs.take (i * 32)) ((vs.drop (i * 32)).take 32) w (by rw [List.length_take, List.length_drop, hx]; omega) h
  rw [show (vs.take (i * 32)).length = i * 32 by rw [List.length_take]; omega] at h2
  refine ⟨_, h2, ?_⟩
  simp only [List.length_append, List.length_take, List.length_drop, hx]
  omega
set_option maxHeartbeats 16000000 in
set_option maxRecDepth 100000 in
theorem given_calls (k : Int) (AD : Option Addr) (cD : Nat) (D : List Int) (A : Option Addr) (c : Nat) (L : List (List Int)) (w : World) (hL : Laid w) (hD : Src w (fun _ => False) AD cD D) (hDb : ∀ x ∈ D, 0 ≤ x ∧ x < 256) (hDl : D.length ≤ 140737488351232) (hX : HRow w (fun _ => False) A c L) :
    Calls Tryd.prog 10 #[.int .i64 k, .slice AD D.length cD, .slice A L.length c] w fun e w' => e = .returned (.bool true) ∧ Fr (fun _ => False) w w' := by
  by_cases hbig : 65536 < L.length
  · obtain ⟨n, hn⟩ : ∃ n, n = L.length := ⟨_, rfl⟩
    rw [← hn] at hbig ⊢
    have hbb : decide ((65536 : Int) < (n : Int)) = true := decide_eq_true (by omega)
    clear hn hbig hX hL hD hDb hDl
    go_enter Tryd.func10, Tryd.ntmps10
    go_wp2_with fail
    go_ret
    exact ⟨rfl, Fr.refl _ _⟩
  have LW : ∀ W, Fr (fun _ => False) w W → Laid W := fun W hf => hL.fr hf (fun _ h => h.elim)
  have hs1 := strength_le k
  have hN := storedL_len (strength k) L
  have hcm := cnt_mono (show L.length ≤ 65536 by omega)
  have h65 : cnt 65536 = 131071 := by decide +kernel
  rw [h65] at hcm
  have hll : (leafL (strength k) D).length = 32 := ofL_len _ _ hs1
  have hfl : (foldL (strength k) L).length = 32 := foldL_len _ hs1 L hX.1
  have hst32 := storedL_32 (strength k) hs1 L hX.1
  have hgood := goodL_stored (strength k) L
  have CH := Kp.mk (hashes8_calls A c L w hX (by omega))
  have CSp := Kp.mk (fun W => spare_calls W)
  have CLf : Kp (∀ W A1 c1, Fr (fun _ => False) w W → Src W (fun _ => False) A1 c1 D → Calls Tryd.prog 14 #[.int .i64 k, .slice A1 D.length c1] W fun e w' => e = .returned (.agg (bytes (leafL (strength k) D)).toArray) ∧ Fr (fun _ => False) W w') := ⟨fun W A1 c1 hf hx => leafHash_calls k A1 c1 D W (LW W hf) hx hDl⟩
  have CFo : Kp (∀ W A1 c1, Fr (fun _ => False) w W → HRow W (fun _ => False) A1 c1 L → Calls Tryd.prog 31 #[.int .i64 k, .slice A1 L.length c1] W fun e w' => e = .returned (.agg (bytes (foldL (strength k) L)).toArray) ∧ Fr (fun _ => False) W w') := ⟨fun W A1 c1 hf hx => Fold_calls k A1 c1 L W (LW W hf) hx (by omega)⟩
  have CB : Kp (∀ W A1 c1, Fr (fun _ => False) w W → HRow W (fun _ => False) A1 c1 L → Calls Tryd.prog 26 #[.int .i64 k, .slice A1 L.length c1] W fun e w' => ∃ v, e = .returned (.tuple #[v, .int .i64 0]) ∧ HLst w' W.heap.size v (storedL (strength k) L) ∧ Fr (fun _ => False) W w') := ⟨fun W A1 c1 hf hx => Build_calls k A1 c1 L W (LW W hf) hx (by omega)⟩
  have CT : Kp (∀ W, Fr (fun _ => False) w W → Calls Tryd.prog 32 #[] W fun e w' => e = .returned (.bool true) ∧ Fr (fun _ => False) W w') := ⟨fun W hf => told_calls W (LW W hf)⟩
  have HCV : Kp (∀ W, Fr (fun _ => False) w W → Cvs W (.slice AD D.length cD) (strOfNums D)) := ⟨fun W hf => cvs_src (hD.fr hf)⟩
  have HSD : Kp (∀ W, Fr (fun _ => False) w W → Src W (fun _ => False) AD cD D) := ⟨fun W hf => hD.fr hf⟩
  obtain ⟨s, hs⟩ : ∃ s, s = strength k := ⟨_, rfl⟩
  rw [← hs] at CLf CFo CB hN hll hfl hst32 hgood
  obtain ⟨LF, hLF⟩ : ∃ LF, LF = leafL s D := ⟨_, rfl⟩
  obtain ⟨FO, hFO⟩ : ∃ FO, FO = foldL s L := ⟨_, rfl⟩
  obtain ⟨ST, hST⟩ : ∃ ST, ST = storedL s L := ⟨_, rfl⟩
  rw [← hLF] at CLf hll
  rw [← hFO] at CFo hfl
  have hcat : (9223372036854775807 < (strOfNums D).size + (strOfNums spareN).size) = False := by rw [strOfNums_size, strOfNums_size, spareN_len]; exact eq_false (by omega)
  have HST := Kp.mk hST
  rw [← hST] at CB hN hst32 hgood
  have HLF := Kp.mk hll
  have HFO := Kp.mk hfl
  have H32 := Kp.mk hst32
  have HGD := Kp.mk hgood
  obtain ⟨DS, hDS⟩ : ∃ DS, DS = D ++ spareN := ⟨_, rfl⟩
  replace LW := Kp.mk LW
  have HDS : Kp (strOfNums D ++ strOfNums spareN = strOfNums DS) := ⟨by rw [strOf_app, hDS]⟩
  have HDE := Kp.mk hDS
  have HDB : Kp (∀ x ∈ DS, 0 ≤ x ∧ x < 256) := ⟨fun x hx => by rw [hDS] at hx; rcases List.mem_append.1 hx with h | h; exact hDb x h; exact spareN_bytes x h⟩
  have HDL : Kp (DS.length = D.length + 300) := ⟨by rw [hDS, List.length_append, spareN_len]⟩
  obtain ⟨len, hlen⟩ : ∃ len, len = L.length := ⟨_, rfl⟩
  obtain ⟨dn, hdn⟩ : ∃ dn, dn = D.length := ⟨_, rfl⟩
  obtain ⟨sn, hsn⟩ : ∃ sn, sn = ST.length := ⟨_, rfl⟩
  have HLEN := Kp.mk hlen
  have HDN := Kp.mk hdn
  have HSN := Kp.mk hsn
  rw [← hlen] at CFo CB hbig hN hcm ⊢
  rw [← hdn] at CLf HCV hDl HDL ⊢
  rw [← hsn] at hN
  have hbb : decide ((65536 : Int) < (len : Int)) = false := decide_eq_false (by omega)
  have HBIG : Kp (len ≤ 65536) := ⟨by omega⟩
  have HNN : Kp (sn = cnt len ∧ sn ≤ 131071) := ⟨hN, by omega⟩
  have hdl : dn ≤ 140737488351232 := hDl
  have hlenle : len ≤ 65536 := HBIG.out
  have HSK := Kp.mk hs
  clear hs hN hcm h65 hs1 hlen hST hL hX hbig hll hfl hst32 hgood hLF hFO hDS hdn hsn hD hDb hDl
  go_enter Tryd.func10, Tryd.ntmps10
  go_wp2_with fail
  rw [HLEN.out]
  refine CH.out.mono ?_
  rintro e W1 ⟨v, rfl, hO, hf⟩
  have HF1 := Kp.mk hf
  obtain ⟨A7, c7, hv, hR⟩ := hO.row (fun _ => False) (fun _ _ h => h)
  subst hv
  have HR1 := Kp.mk hR
  rw [← HLEN.out]
  clear hO hf hR CH
  replace HCV : Kp (∀ W, Fr (fun _ => False) W1 W → Cvs W (.slice AD dn cD) (strOfNums D)) := ⟨fun W hf => HCV.out W (HF1.out.trans hf (fun _ _ h => h))⟩
  go_upto_region 4 with (fail)
  refine start_ (n := 6) (S := fun w' => Cvs w' (.slice AD dn cD) (strOfNums D)) (ds := [4]) #[false, false, false, false, false, false] (by kernel_rfl) rfl rfl (HCV.out _ ((Fr.refl (fun _ => False) W1).drew)) (fun hHeld => ?_)
  refine pure_ (i := 0) (N := some 33) (v := ?_) (a' := ?_) #[true, false, false, false, false, false] rfl rfl (by kernel_rfl) (fun _ _ _ h => h) (Or.inl ⟨by rfl, ?_⟩) ?_ ?_
  rotate_left
  · intro w'
    go_simp
    with_reducible rfl
  rotate_left
  · simp only [Act.put, List.setIfInBounds_toArray, List.set_cons_zero, List.set_cons_succ]
    rfl
  refine take_ (i := 1) (N := some 34) (v := ?_) (a' := ?_) #[true, true, false, false, false, false] rfl rfl (by kernel_rfl) (fun _ _ _ h => h) (Or.inl ⟨by rfl, ?_⟩) hHeld ?_ ?_
  rotate_left
  · intro w' s0
    refine Cvs.run s0 (x := ?_) ?_ ?_
    · exact (Operand.tmp 33)
    · rfl
    · rfl
  rotate_left
  · simp only [Act.put, List.setIfInBounds_toArray, List.set_cons_zero, List.set_cons_succ]
    rfl
  refine one_ (i := 2) (N := some 35) #[true, true, true, false, false, false] rfl rfl (by kernel_rfl) (by decide) (fun K hK => ?_)
  refine goes_ Tryd.func48 (by kernel_rfl) rfl #[] (by rfl) rfl rfl (by simp only [List.map_toArray, List.map_nil]) ?_
  with_reducible refine (CSp.out _).mono ?_
  rintro e a1 ⟨rfl, hq⟩
  refine ⟨_, rfl, ?_⟩
  have Fa1 : Kp (Fr (fun _ => False) W1 a1) := ⟨((Fr.refl (fun _ => False) W1).drew).trans hq (fun _ _ h => h)⟩
  clear hq
  refine hK.out _ _ (HCV.out _ Fa1.out) (fun hHeld => ?_)
  clear hK K
  refine norm_ (a' := ?_) ?_ ?_
  rotate_left
  · show Act.put _ (some 35) _ = _
    simp only [Act.put, List.setIfInBounds_toArray, List.set_cons_zero, List.set_cons_succ]
    rfl
  refine pure_ (i := 3) (N := some 36) (v := ?_) (a' := ?_) #[true, true, true, true, false, false] rfl rfl (by kernel_rfl) (fun _ _ _ h => h) (Or.inl ⟨by rfl, ?_⟩) ?_ ?_
  rotate_left
  · intro w'
    go_simp
    with_reducible rfl
  rotate_left
  · simp only [Act.put, List.setIfInBounds_toArray, List.set_cons_zero, List.set_cons_succ, HDS.out]
    rfl
  refine last_ (i := 4) (N := some 37) #[true, true, true, true, true, false] rfl rfl (by kernel_rfl) (by decide) (fun K hK => ?_)
  refine value_ (by rfl) rfl (run_toB _ _ (Operand.tmp 36) a1 DS rfl rfl) ?_
  refine hK.out _ _ ?_
  clear hK K
  refine norm_ (a' := ?_) ?_ ?_
  rotate_left
  · show Act.put _ (some 37) _ = _
    simp only [Act.put, List.setIfInBounds_toArray, List.set_cons_zero, List.set_cons_succ]
    rfl
  refine pure_ (i := 5) (N := some 8) (v := ?_) (a' := ?_) #[true, true, true, true, true, true] rfl rfl (by kernel_rfl) (fun _ _ _ h => h) (Or.inl ⟨by rfl, ?_⟩) ?_ ?_
  rotate_left
  · intro w'
    go_simp
    with_reducible rfl
  rotate_left
  · simp only [Act.put, List.setIfInBounds_toArray, List.set_cons_zero, List.set_cons_succ]
    rfl
  refine done_ (by kernel_rfl) ?_
  have HRD0 : Kp (Reads (Lib.bytesWorld a1 5 (strOfNums DS)) a1.heap.size 0 DS) := ⟨reads_bytes a1 DS HDB.out⟩
  have HF2 : Kp (Fr (fun _ => False) W1 (Lib.bytesWorld a1 5 (strOfNums DS))) := ⟨Fa1.out.trans (fr_bytes a1 (strOfNums DS)) (fun _ _ h => h)⟩
  have hge8 : DS.length ≤ grownCap a1 DS.length 0 5 := grownCap_ge _ _ _ _
  generalize grownCap a1 DS.length 0 5 = c8 at hge8 ⊢
  obtain ⟨W2, hW2⟩ : ∃ W2, W2 = Lib.bytesWorld a1 5 (strOfNums DS) := ⟨_, rfl⟩
  rw [← hW2] at HF2 HRD0 ⊢
  obtain ⟨g8, hg8⟩ : ∃ g8, g8 = a1.heap.size := ⟨_, rfl⟩
  rw [← hg8] at HRD0 ⊢
  clear hW2 hg8 Fa1 HCV
  have hd8 : dn ≤ c8 := by have := HDL.out; omega
  have hd8i : (dn : Int) ≤ (c8 : Int) := by omega
  have HS8 : Kp (Src W2 (fun _ => False) (some ⟨g8, 0, none⟩) c8 D) := ⟨src_part (by rw [← HDE.out]; exact HRD0.out) (by rw [← HDE.out]; exact hge8)⟩
  have CL5 := Kp.mk (CLf.out W2 _ _ (HF1.out.trans HF2.out (fun _ _ h => h)) HS8.out)
  have HGE8 := Kp.mk hge8
  clear hge8 HS8
  go_wp2_with fail
  refine CL5.out.mono ?_
  rintro e W3 ⟨rfl, hf⟩
  have HF3 := Kp.mk (HF2.out.trans hf (fun _ _ h => h))
  have HR3 := Kp.mk (HR1.out.fr HF3.out)
  have HRD3 := Kp.mk (HRD0.out.fr hf (fun h => h))
  clear hf CL5 HF2 HRD0
  have hnew : Blk (W3.alloc (.cells #[.int .u8 0, .int .u8 0, .int .u8 0, .int .u8 0, .int .u8 0, .int .u8 0, .int .u8 0, .int .u8 0, .int .u8 0, .int .u8 0, .int .u8 0, .int .u8 0, .int .u8 0, .int .u8 0, .int .u8 0, .int .u8 0, .int .u8 0, .int .u8 0, .int .u8 0, .int .u8 0, .int .u8 0, .int .u8 0, .int .u8 0, .int .u8 0, .int .u8 0, .int .u8 0, .int .u8 0, .int .u8 0, .int .u8 0, .int .u8 0, .int .u8 0, .int .u8 0] 25)) W3.heap.size 25 [.int .u8 0, .int .u8 0, .int .u8 0, .int .u8 0, .int .u8 0, .int .u8 0, .int .u8 0, .int .u8 0, .int .u8 0, .int .u8 0, .int .u8 0, .int .u8 0, .int .u8 0, .int .u8 0, .int .u8 0, .int .u8 0, .int .u8 0, .int .u8 0, .int .u8 0, .int .u8 0, .int .u8 0, .int .u8 0, .int .u8 0, .int .u8 0, .int .u8 0, .int .u8 0, .int .u8 0, .int .u8 0, .int .u8 0, .int .u8 0, .int .u8 0, .int .u8 0] := Blk.new W3 _ _
  have HNEW := Kp.mk hnew
  clear hnew
  go_wp2_with (refine wpList_storeH rfl rfl (Operand.tmp 9) (Operand.tmp 43) rfl W3.heap.size _ _ LF rfl rfl HNEW.out rfl HLF.out ?_)
  obtain ⟨g9, hg9⟩ : ∃ g9, g9 = W3.heap.size := ⟨_, rfl⟩
  obtain ⟨W4, hW2⟩ : ∃ W4, W4 = (W3.alloc (.cells #[.int .u8 0, .int .u8 0, .int .u8 0, .int .u8 0, .int .u8 0, .int .u8 0, .int .u8 0, .int .u8 0, .int .u8 0, .int .u8 0, .int .u8 0, .int .u8 0, .int .u8 0, .int .u8 0, .int .u8 0, .int .u8 0, .int .u8 0, .int .u8 0, .int .u8 0, .int .u8 0, .int .u8 0, .int .u8 0, .int .u8 0, .int .u8 0, .int .u8 0, .int .u8 0, .int .u8 0, .int .u8 0, .int .u8 0, .int .u8 0, .int .u8 0, .int .u8 0] 25)).setRow W3.heap.size (bytes LF).toArray := ⟨_, rfl⟩
  have hfr := fr_row (Fr.refl (fun _ => False) W3) (.cells #[.int .u8 0, .int .u8 0, .int .u8 0, .int .u8 0, .int .u8 0, .int .u8 0, .int .u8 0, .int .u8 0, .int .u8 0, .int .u8 0, .int .u8 0, .int .u8 0, .int .u8 0, .int .u8 0, .int .u8 0, .int .u8 0, .int .u8 0, .int .u8 0, .int .u8 0, .int .u8 0, .int .u8 0, .int .u8 0, .int .u8 0, .int .u8 0, .int .u8 0, .int .u8 0, .int .u8 0, .int .u8 0, .int .u8 0, .int .u8 0, .int .u8 0, .int .u8 0] 25) (bytes LF).toArray
  rw [← hW2] at hfr
  have HBg9 : Kp (Blk W4 g9 25 (bytes LF)) := ⟨by rw [hW2, hg9]; exact blk_row W3 _ _ _⟩
  have hfrK := Kp.mk hfr
  have HGg9 : Kp (W3.heap.size ≤ g9) := ⟨by omega⟩
  rw [← hW2, ← hg9]
  clear hW2 hg9 hfr HNEW
  have HF4 := Kp.mk (HF3.out.trans hfrK.out (fun _ _ h => h))
  have HR4 := Kp.mk (HR3.out.fr hfrK.out)
  have HRD4 := Kp.mk (HRD3.out.fr hfrK.out (fun h => h))
  clear hfrK HF3 HR3 HRD3
  have CW6 := wide_calls A7 c7 L W4 HR4.out (by have := HBIG.out; rw [← HLEN.out]; omega)
  rw [← HLEN.out] at CW6
  have CW6 := Kp.mk CW6
  refine CW6.out.mono ?_
  rintro e W5 ⟨v, rfl, hO, hf⟩
  have HF5 := Kp.mk (HF4.out.trans hf (fun _ _ h => h))
  have HR5 := Kp.mk (HR4.out.fr hf)
  have HRD5 := Kp.mk (HRD4.out.fr hf (fun h => h))
  have HBg95 := Kp.mk (HBg9.out.fr hf (fun h => h))
  obtain ⟨A10, c10, hv, hR⟩ := hO.row (fun _ => False) (fun _ _ h => h)
  have HWL : Kp ((wideL L).length = len + 300) := ⟨by rw [wideL_len, ← HLEN.out]⟩
  obtain ⟨wn, hwn⟩ : ∃ wn, wn = (wideL L).length := ⟨_, rfl⟩
  rw [← hwn] at hv
  have HWN := Kp.mk hwn
  subst hv
  have HW5 := Kp.mk hR
  have hlw : len ≤ c10 := by have h1 := hR.1; have h2 := hR.2.1; have := HWL.out; omega
  have hlwi : (len : Int) ≤ (c10 : Int) := by omega
  clear hO hf hR CW6 HF4 HR4 HRD4 HBg9 hwn
  have HWT : Kp (∀ W, HRow W (fun _ => False) A10 c10 (wideL L) → HRow W (fun _ => False) A10 c10 L) := ⟨fun W h => by
    have h1 := h.take L.length
    unfold wideL at h1
    rwa [List.take_left] at h1⟩
  have CF7 := Kp.mk (CFo.out W5 A10 c10 (HF1.out.trans HF5.out (fun _ _ h => h)) (HWT.out _ HW5.out))
  go_wp2_with fail
  refine CF7.out.mono ?_
  rintro e W6 ⟨rfl, hf⟩
  have HF6 := Kp.mk (HF5.out.trans hf (fun _ _ h => h))
  have HR6 := Kp.mk (HR5.out.fr hf)
  have HRD6 := Kp.mk (HRD5.out.fr hf (fun h => h))
  have HBg96 := Kp.mk (HBg95.out.fr hf (fun h => h))
  have HW6 := Kp.mk (HW5.out.fr hf)
  clear hf CF7 HF5 HR5 HRD5 HBg95 HW5
  have hnew : Blk (W6.alloc (.cells #[.int .u8 0, .int .u8 0, .int .u8 0, .int .u8 0, .int .u8 0, .int .u8 0, .int .u8 0, .int .u8 0, .int .u8 0, .int .u8 0, .int .u8 0, .int .u8 0, .int .u8 0, .int .u8 0, .int .u8 0, .int .u8 0, .int .u8 0, .int .u8 0, .int .u8 0, .int .u8 0, .int .u8 0, .int .u8 0, .int .u8 0, .int .u8 0, .int .u8 0, .int .u8 0, .int .u8 0, .int .u8 0, .int .u8 0, .int .u8 0, .int .u8 0, .int .u8 0] 25)) W6.heap.size 25 [.int .u8 0, .int .u8 0, .int .u8 0, .int .u8 0, .int .u8 0, .int .u8 0, .int .u8 0, .int .u8 0, .int .u8 0, .int .u8 0, .int .u8 0, .int .u8 0, .int .u8 0, .int .u8 0, .int .u8 0, .int .u8 0, .int .u8 0, .int .u8 0, .int .u8 0, .int .u8 0, .int .u8 0, .int .u8 0, .int .u8 0, .int .u8 0, .int .u8 0, .int .u8 0, .int .u8 0, .int .u8 0, .int .u8 0, .int .u8 0, .int .u8 0, .int .u8 0] := Blk.new W6 _ _
  have HNEW := Kp.mk hnew
  clear hnew
  go_wp2_with (refine wpList_storeH rfl rfl (Operand.tmp 11) (Operand.tmp 51) rfl W6.heap.size _ _ FO rfl rfl HNEW.out rfl HFO.out ?_)
  obtain ⟨g11, hg11⟩ : ∃ g11, g11 = W6.heap.size := ⟨_, rfl⟩
  obtain ⟨W7, hW2⟩ : ∃ W7, W7 = (W6.alloc (.cells #[.int .u8 0, .int .u8 0, .int .u8 0, .int .u8 0, .int .u8 0, .int .u8 0, .int .u8 0, .int .u8 0, .int .u8 0, .int .u8 0, .int .u8 0, .int .u8 0, .int .u8 0, .int .u8 0, .int .u8 0, .int .u8 0, .int .u8 0, .int .u8 0, .int .u8 0, .int .u8 0, .int .u8 0, .int .u8 0, .int .u8 0, .int .u8 0, .int .u8 0, .int .u8 0, .int .u8 0, .int .u8 0, .int .u8 0, .int .u8 0, .int .u8 0, .int .u8 0] 25)).setRow W6.heap.size (bytes FO).toArray := ⟨_, rfl⟩
  have hfr := fr_row (Fr.refl (fun _ => False) W6) (.cells #[.int .u8 0, .int .u8 0, .int .u8 0, .int .u8 0, .int .u8 0, .int .u8 0, .int .u8 0, .int .u8 0, .int .u8 0, .int .u8 0, .int .u8 0, .int .u8 0, .int .u8 0, .int .u8 0, .int .u8 0, .int .u8 0, .int .u8 0, .int .u8 0, .int .u8 0, .int .u8 0, .int .u8 0, .int .u8 0, .int .u8 0, .int .u8 0, .int .u8 0, .int .u8 0, .int .u8 0, .int .u8 0, .int .u8 0, .int .u8 0, .int .u8 0, .int .u8 0] 25) (bytes FO).toArray
  rw [← hW2] at hfr
  have HBg11 : Kp (Blk W7 g11 25 (bytes FO)) := ⟨by rw [hW2, hg11]; exact blk_row W6 _ _ _⟩
  have hfrK := Kp.mk hfr
  have HGg11 : Kp (W6.heap.size ≤ g11) := ⟨by omega⟩
  rw [← hW2, ← hg11]
  clear hW2 hg11 hfr HNEW
  have HF7 := Kp.mk (HF6.out.trans hfrK.out (fun _ _ h => h))
  have HR7 := Kp.mk (HR6.out.fr hfrK.out)
  have HRD7 := Kp.mk (HRD6.out.fr hfrK.out (fun h => h))
  have HBg97 := Kp.mk (HBg96.out.fr hfrK.out (fun h => h))
  have HW7 := Kp.mk (HW6.out.fr hfrK.out)
  clear hfrK HF6 HR6 HRD6 HBg96 HW6
  refine (CB.out W7 A10 c10 (HF1.out.trans HF7.out (fun _ _ h => h)) (HWT.out _ HW7.out)).mono ?_
  rintro e W8 ⟨v, rfl, hO, hf⟩
  have HF8 := Kp.mk (HF7.out.trans hf (fun _ _ h => h))
  have HR8 := Kp.mk (HR7.out.fr hf)
  have HRD8 := Kp.mk (HRD7.out.fr hf (fun h => h))
  have HBg98 := Kp.mk (HBg97.out.fr hf (fun h => h))
  have HBg118 := Kp.mk (HBg11.out.fr hf (fun h => h))
  have HW8 := Kp.mk (HW7.out.fr hf)
  obtain ⟨A12, c12, hv, hR⟩ := hO.row (fun _ => False) (fun _ _ h => h)
  rw [← HSN.out] at hv
  subst hv
  have HS8 := Kp.mk hR
  clear hO hf hR CB HF7 HR7 HRD7 HBg97 HBg11 HW7
  have HC8 : Kp (∀ W, Fr (fun _ => False) W8 W → Cvs W (.slice (some ⟨g8, 0, none⟩) DS.length c8) (strOfNums DS)) := ⟨fun W hf => cvs_src (S := fun _ => False) ⟨HGE8.out, .inr (.inr ⟨g8, 0, rfl, HRD8.out.fr hf (fun h => h), fun h => h⟩)⟩⟩
  have HCV8 : Kp (∀ W, Fr (fun _ => False) W8 W → Cvs W (.slice AD dn cD) (strOfNums D)) := ⟨fun W hf => by
    have h := cvs_src (HSD.out W ((HF1.out.trans HF8.out (fun _ _ h => h)).trans hf (fun _ _ h => h)))
    rwa [← HDN.out] at h⟩
  have CK9 : Kp (∀ W, Fr (fun _ => False) W8 W → Calls Tryd.prog 50 #[.slice A10 wn c10, .slice A7 len c7] W fun e w' => e = .returned (.bool true) ∧ Fr (fun _ => False) W w') := ⟨fun W hf => by
    have h := kept_calls A10 A7 c10 c7 L W (HW8.out.fr hf) (HR8.out.fr hf) (by have := HBIG.out; rw [← HLEN.out]; omega)
    rwa [← HWN.out, ← HLEN.out] at h⟩
  have HFw8 := Kp.mk (HF1.out.trans HF8.out (fun _ _ h => h))
  go_upto_region 9 with (fail)
  refine start_ (n := 21) (S := fun w' => Cvs w' (.slice (some ⟨g8, 0, none⟩) DS.length c8) (strOfNums DS) ∧ Cvs w' (.slice AD dn cD) (strOfNums D)) (ds := []) #[false, false, false, false, false, false, false, false, false, false, false, false, false, false, false, false, false, false, false, false, false] (by kernel_rfl) rfl rfl ⟨HC8.out _ ((Fr.refl (fun _ => False) W8).drew), HCV8.out _ ((Fr.refl (fun _ => False) W8).drew)⟩ (fun hHeld => ?_)
  refine pure_ (i := 0) (N := some 61) (v := ?_) (a' := ?_) #[true, false, false, false, false, false, false, false, false, false, false, false, false, false, false, false, false, false, false, false, false] rfl rfl (by kernel_rfl) (fun _ _ _ h => h) (Or.inl ⟨by rfl, ?_⟩) ?_ ?_
  rotate_left
  · intro w'
    go_simp
    with_reducible rfl
  rotate_left
  · simp only [Act.put, List.setIfInBounds_toArray, List.set_cons_zero, List.set_cons_succ]
    rfl
  refine pure_ (i := 2) (N := some 63) (v := ?_) (a' := ?_) #[true, false, true, false, false, false, false, false, false, false, false, false, false, false, false, false, false, false, false, false, false] rfl rfl (by kernel_rfl) (fun _ _ _ h => h) (Or.inl ⟨by rfl, ?_⟩) ?_ ?_
  rotate_left
  · intro w'
    go_simp
    with_reducible rfl
  rotate_left
  · simp only [Act.put, List.setIfInBounds_toArray, List.set_cons_zero, List.set_cons_succ]
    rfl
  refine take_ (i := 1) (N := some 62) (v := ?_) (a' := ?_) #[true, true, true, false, false, false, false, false, false, false, false, false, false, false, false, false, false, false, false, false, false] rfl rfl (by kernel_rfl) (fun _ _ _ h => h) (Or.inl ⟨by rfl, ?_⟩) hHeld ?_ ?_
  rotate_left
  · rintro w' ⟨s0, s1⟩
    refine Cvs.run s0 (x := ?_) ?_ ?_
    · exact (Operand.tmp 61)
    · rfl
    · rfl
  rotate_left
  · simp only [Act.put, List.setIfInBounds_toArray, List.set_cons_zero, List.set_cons_succ]
    rfl
  refine take_ (i := 3) (N := some 64) (v := ?_) (a' := ?_) #[true, true, true, true, false, false, false, false, false, false, false, false, false, false, false, false, false, false, false, false, false] rfl rfl (by kernel_rfl) (fun _ _ _ h => h) (Or.inl ⟨by rfl, ?_⟩) hHeld ?_ ?_
  rotate_left
  · rintro w' ⟨s0, s1⟩
    refine Cvs.run s1 (x := ?_) ?_ ?_
    · exact (Operand.tmp 63)
    · rfl
    · rfl
  rotate_left
  · simp only [Act.put, List.setIfInBounds_toArray, List.set_cons_zero, List.set_cons_succ]
    rfl
  refine one_ (i := 4) (N := some 65) #[true, true, true, true, true, false, false, false, false, false, false, false, false, false, false, false, false, false, false, false, false] rfl rfl (by kernel_rfl) (by decide) (fun K hK => ?_)
  refine goes_ Tryd.func48 (by kernel_rfl) rfl #[] (by rfl) rfl rfl (by simp only [List.map_toArray, List.map_nil]) ?_
  with_reducible refine (CSp.out _).mono ?_
  rintro e a2 ⟨rfl, hq⟩
  refine ⟨_, rfl, ?_⟩
  have Fa2 : Kp (Fr (fun _ => False) W8 a2) := ⟨((Fr.refl (fun _ => False) W8).drew).trans hq (fun _ _ h => h)⟩
  clear hq
  refine hK.out _ _ ⟨HC8.out _ Fa2.out, HCV8.out _ Fa2.out⟩ (fun hHeld => ?_)
  clear hK K
  refine norm_ (a' := ?_) ?_ ?_
  rotate_left
  · show Act.put _ (some 65) _ = _
    simp only [Act.put, List.setIfInBounds_toArray, List.set_cons_zero, List.set_cons_succ]
    rfl
  refine pure_ (i := 5) (N := some 66) (v := ?_) (a' := ?_) #[true, true, true, true, true, true, false, false, false, false, false, false, false, false, false, false, false, false, false, false, false] rfl rfl (by kernel_rfl) (fun _ _ _ h => h) (Or.inl ⟨by rfl, ?_⟩) ?_ ?_
  rotate_left
  · intro w'
    go_simp
    with_reducible rfl
  rotate_left
  · simp only [Act.put, List.setIfInBounds_toArray, List.set_cons_zero, List.set_cons_succ, HDS.out]
    rfl
  refine pure_ (i := 6) (N := some 67) (v := ?_) (a' := ?_) #[true, true, true, true, true, true, true, false, false, false, false, false, false, false, false, false, false, false, false, false, false] rfl rfl (by kernel_rfl) (fun _ _ _ h => h) (Or.inl ⟨by rfl, ?_⟩) ?_ ?_
  rotate_left
  · intro w'
    go_simp
    with_reducible rfl
  rotate_left
  · simp only [Act.put, List.setIfInBounds_toArray, List.set_cons_zero, List.set_cons_succ]
    rfl
  refine pure_ (i := 7) (N := some 68) (v := ?_) (a' := ?_) #[true, true, true, true, true, true, true, true, false, false, false, false, false, false, false, false, false, false, false, false, false] rfl rfl (by kernel_rfl) (fun _ _ _ h => h) (Or.inl ⟨by rfl, ?_⟩) ?_ ?_
  rotate_left
  · intro w'
    go_simp
    with_reducible rfl
  rotate_left
  · simp only [Act.put, List.setIfInBounds_toArray, List.set_cons_zero, List.set_cons_succ]
    rfl
  refine pure_ (i := 8) (N := some 69) (v := ?_) (a' := ?_) #[true, true, true, true, true, true, true, true, true, false, false, false, false, false, false, false, false, false, false, false, false] rfl rfl (by kernel_rfl) (fun _ _ _ h => h) (Or.inl ⟨by rfl, ?_⟩) ?_ ?_
  rotate_left
  · intro w'
    go_simp
    with_reducible rfl
  rotate_left
  · simp only [Act.put, List.setIfInBounds_toArray, List.set_cons_zero, List.set_cons_succ]
    rfl
  refine pure_ (i := 9) (N := some 70) (v := ?_) (a' := ?_) #[true, true, true, true, true, true, true, true, true, true, false, false, false, false, false, false, false, false, false, false, false] rfl rfl (by kernel_rfl) (fun _ _ _ h => h) (Or.inl ⟨by rfl, ?_⟩) ?_ ?_
  rotate_left
  · intro w'
    go_simp
    with_reducible rfl
  rotate_left
  · simp only [Act.put, List.setIfInBounds_toArray, List.set_cons_zero, List.set_cons_succ]
    rfl
  refine one_ (i := 10) (N := some 71) #[true, true, true, true, true, true, true, true, true, true, true, false, false, false, false, false, false, false, false, false, false] rfl rfl (by kernel_rfl) (by decide) (fun K hK => ?_)
  refine goes_ Tryd.func50 (by kernel_rfl) rfl #[.slice A10 wn c10, .slice A7 len c7] (by rfl) rfl rfl (by simp only [List.map_toArray, List.map_cons, List.map_nil]; rfl) ?_
  with_reducible refine (CK9.out _ Fa2.out).mono ?_
  rintro e a3 ⟨rfl, hq⟩
  refine ⟨_, rfl, ?_⟩
  have Fa3 : Kp (Fr (fun _ => False) W8 a3) := ⟨Fa2.out.trans hq (fun _ _ h => h)⟩
  clear hq
  refine hK.out _ _ ⟨HC8.out _ Fa3.out, HCV8.out _ Fa3.out⟩ (fun hHeld => ?_)
  clear hK K
  refine norm_ (a' := ?_) ?_ ?_
  rotate_left
  · show Act.put _ (some 71) _ = _
    simp only [Act.put, List.setIfInBounds_toArray, List.set_cons_zero, List.set_cons_succ]
    rfl
  refine pure_ (i := 11) (N := some 72) (v := ?_) (a' := ?_) #[true, true, true, true, true, true, true, true, true, true, true, true, false, false, false, false, false, false, false, false, false] rfl rfl (by kernel_rfl) (fun _ _ _ h => h) (Or.inl ⟨by rfl, ?_⟩) ?_ ?_
  rotate_left
  · intro w'
    go_simp
    with_reducible rfl
  rotate_left
  · simp only [Act.put, List.setIfInBounds_toArray, List.set_cons_zero, List.set_cons_succ]
    rfl
  refine pure_ (i := 12) (N := some 73) (v := ?_) (a' := ?_) #[true, true, true, true, true, true, true, true, true, true, true, true, true, false, false, false, false, false, false, false, false] rfl rfl (by kernel_rfl) (fun _ _ _ h => h) (Or.inl ⟨by rfl, ?_⟩) ?_ ?_
  rotate_left
  · intro w'
    go_simp
    with_reducible rfl
  rotate_left
  · simp only [Act.put, List.setIfInBounds_toArray, List.set_cons_zero, List.set_cons_succ]
    rfl
  refine pure_ (i := 13) (N := some 74) (v := ?_) (a' := ?_) #[true, true, true, true, true, true, true, true, true, true, true, true, true, true, false, false, false, false, false, false, false] rfl rfl (by kernel_rfl) (fun _ _ _ h => h) (Or.inl ⟨by rfl, ?_⟩) ?_ ?_
  rotate_left
  · intro w'
    go_simp
    with_reducible rfl
  rotate_left
  · simp only [Act.put, List.setIfInBounds_toArray, List.set_cons_zero, List.set_cons_succ]
    rfl
  refine pure_ (i := 14) (N := some 75) (v := ?_) (a' := ?_) #[true, true, true, true, true, true, true, true, true, true, true, true, true, true, true, false, false, false, false, false, false] rfl rfl (by kernel_rfl) (fun _ _ _ h => h) (Or.inl ⟨by rfl, ?_⟩) ?_ ?_
  rotate_left
  · intro w'
    go_simp
    with_reducible rfl
  rotate_left
  · simp only [Act.put, List.setIfInBounds_toArray, List.set_cons_zero, List.set_cons_succ]
    rfl
  refine pure_ (i := 15) (N := some 76) (v := ?_) (a' := ?_) #[true, true, true, true, true, true, true, true, true, true, true, true, true, true, true, true, false, false, false, false, false] rfl rfl (by kernel_rfl) (fun _ _ _ h => h) (Or.inl ⟨by rfl, ?_⟩) ?_ ?_
  rotate_left
  · intro w'
    go_simp
    with_reducible rfl
  rotate_left
  · simp only [Act.put, List.setIfInBounds_toArray, List.set_cons_zero, List.set_cons_succ]
    rfl
  refine pure_ (i := 16) (N := some 77) (v := ?_) (a' := ?_) #[true, true, true, true, true, true, true, true, true, true, true, true, true, true, true, true, true, false, false, false, false] rfl rfl (by kernel_rfl) (fun _ _ _ h => h) (Or.inl ⟨by rfl, ?_⟩) ?_ ?_
  rotate_left
  · intro w'
    go_simp
    with_reducible rfl
  rotate_left
  · simp only [Act.put, List.setIfInBounds_toArray, List.set_cons_zero, List.set_cons_succ]
    rfl
  refine pure_ (i := 17) (N := some 78) (v := ?_) (a' := ?_) #[true, true, true, true, true, true, true, true, true, true, true, true, true, true, true, true, true, true, false, false, false] rfl rfl (by kernel_rfl) (fun _ _ _ h => h) (Or.inl ⟨by rfl, ?_⟩) ?_ ?_
  rotate_left
  · intro w'
    go_simp
    with_reducible rfl
  rotate_left
  · simp only [Act.put, List.setIfInBounds_toArray, List.set_cons_zero, List.set_cons_succ]
    rfl
  refine one_ (i := 18) (N := some 79) #[true, true, true, true, true, true, true, true, true, true, true, true, true, true, true, true, true, true, true, false, false] rfl rfl (by kernel_rfl) (by decide) (fun K hK => ?_)
  refine goes_ Tryd.func32 (by kernel_rfl) rfl #[] (by rfl) rfl rfl (by simp only [List.map_toArray, List.map_nil]) ?_
  with_reducible refine (CT.out _ (HFw8.out.trans Fa3.out (fun _ _ h => h))).mono ?_
  rintro e a4 ⟨rfl, hq⟩
  refine ⟨_, rfl, ?_⟩
  have Fa4 : Kp (Fr (fun _ => False) W8 a4) := ⟨Fa3.out.trans hq (fun _ _ h => h)⟩
  clear hq
  refine hK.out _ _ ⟨HC8.out _ Fa4.out, HCV8.out _ Fa4.out⟩ (fun hHeld => ?_)
  clear hK K
  refine norm_ (a' := ?_) ?_ ?_
  rotate_left
  · show Act.put _ (some 79) _ = _
    simp only [Act.put, List.setIfInBounds_toArray, List.set_cons_zero, List.set_cons_succ]
    rfl
  refine pure_ (i := 19) (N := some 80) (v := ?_) (a' := ?_) #[true, true, true, true, true, true, true, true, true, true, true, true, true, true, true, true, true, true, true, true, false] rfl rfl (by kernel_rfl) (fun _ _ _ h => h) (Or.inl ⟨by rfl, ?_⟩) ?_ ?_
  rotate_left
  · intro w'
    go_simp
    with_reducible rfl
  rotate_left
  · simp only [Act.put, List.setIfInBounds_toArray, List.set_cons_zero, List.set_cons_succ]
    rfl
  refine pure_ (i := 20) (N := some 81) (v := ?_) (a' := ?_) #[true, true, true, true, true, true, true, true, true, true, true, true, true, true, true, true, true, true, true, true, true] rfl rfl (by kernel_rfl) (fun _ _ _ h => h) (Or.inl ⟨by rfl, ?_⟩) ?_ ?_
  rotate_left
  · intro w'
    go_simp
    with_reducible rfl
  rotate_left
  · simp only [Act.put, List.setIfInBounds_toArray, List.set_cons_zero, List.set_cons_succ]
    rfl
  refine done_ (by kernel_rfl) ?_
  have HF9 := Kp.mk (HF8.out.trans Fa4.out (fun _ _ h => h))
  have HR9 := Kp.mk (HR8.out.fr Fa4.out)
  have HBg99 := Kp.mk (HBg98.out.fr Fa4.out (fun h => h))
  have HBg119 := Kp.mk (HBg118.out.fr Fa4.out (fun h => h))
  have HS9 := Kp.mk (HS8.out.fr Fa4.out)
  generalize a4 = W9 at HF9 HR9 HBg99 HBg119 HS9 Fa4 ⊢
  clear Fa2 Fa3 Fa4 HF8 HR8 HBg98 HBg118 HS8 HRD8 HW8 HC8 HCV8 CK9 HFw8 HWT HGE8
  have CW11 := wide_calls A12 c12 ST W9 HS9.out (by have := HNN.out.2; rw [← HSN.out]; omega)
  rw [← HSN.out] at CW11
  have CW11 := Kp.mk CW11
  go_wp2_with fail
  refine CW11.out.mono ?_
  rintro e W10 ⟨v, rfl, hO, hf⟩
  have HF10 := Kp.mk (HF9.out.trans hf (fun _ _ h => h))
  have HF910 := Kp.mk hf
  have HS10 := Kp.mk (HS9.out.fr hf)
  have HWL2 : Kp ((wideL ST).length = sn + 300) := ⟨by rw [wideL_len, ← HSN.out]⟩
  obtain ⟨g14, c14, vs14, hv, hg14, hl14, hc14, hB14⟩ := hown_form hO (by have := HWL2.out; omega)
  obtain ⟨A14, c14', hv', hR⟩ := hO.row (fun _ => False) (fun _ _ h => h)
  obtain ⟨vn, hvn⟩ : ∃ vn, vn = (wideL ST).length := ⟨_, rfl⟩
  rw [← hvn] at hv hv' hc14
  rw [hv] at hv'
  cases hv'
  subst hv
  have HVN := Kp.mk hvn
  have HV10 := Kp.mk hR
  have HB10 := Kp.mk hB14
  have HG14 : Kp (W9.heap.size ≤ g14 ∧ g14 < W10.heap.size) := ⟨hg14, hl14⟩
  have hsv : sn ≤ c14 := by have := HWL2.out; omega
  have hsvi : (sn : Int) ≤ (c14 : Int) := by omega
  have HVT : Kp (∀ W, HRow W (fun _ => False) (some ⟨g14, 0, none⟩) c14 (wideL ST) → HRow W (fun _ => False) (some ⟨g14, 0, none⟩) c14 ST) := ⟨fun W h => by
    have h1 := h.take ST.length
    unfold wideL at h1
    rwa [List.take_left] at h1⟩
  have HST10 := Kp.mk (HVT.out _ HV10.out)
  clear hO hf hR CW11 hg14 hl14 hB14 hvn hc14
  have hlv := leavesOf_stored (nodeL s) [] L
  rw [show storedN (nodeL s) [] L L.length = ST from HST.out.symm, ← HLEN.out] at hlv
  have hgd := HGD.out
  rw [← HLEN.out] at hgd
  have CL12 := Load_calls k (some ⟨g14, 0, none⟩) c14 ST len W10 (LW.out W10 (HF1.out.trans HF10.out (fun _ _ h => h))) HST10.out (by rw [← HSN.out]; exact HNN.out.2) (by rw [← HSN.out]; exact HNN.out.1.symm) HBIG.out (by rw [← HSK.out]; exact hgd)
  rw [← HSN.out, hlv, ← HSK.out] at CL12
  have CL12 := Kp.mk CL12
  have hck : chkCode s ST len = 0 := by rw [chkCode, if_pos hgd]
  have CC13 : Kp (∀ W, Fr (fun _ => False) W10 W → Calls Tryd.prog 39 #[.int .i64 k, .slice (some ⟨g14, 0, none⟩) sn c14] W fun e w' => e = .returned (.int .i64 0) ∧ Fr (fun _ => False) W w') := ⟨fun W hf => by
    have h := Check_calls k (some ⟨g14, 0, none⟩) c14 ST len W (LW.out W ((HF1.out.trans HF10.out (fun _ _ h => h)).trans hf (fun _ _ h => h))) (HST10.out.fr hf) (by rw [← HSN.out]; exact HNN.out.2) (by rw [← HSN.out]; exact HNN.out.1.symm) HBIG.out
    rw [← HSN.out, ← HSK.out, hck] at h
    exact h⟩
  obtain ⟨RT, hRT⟩ : ∃ RT, RT = rootL s ST len := ⟨_, rfl⟩
  have CR14 : Kp (∀ W, Fr (fun _ => False) W10 W → Calls Tryd.prog 34 #[.int .i64 k, .slice (some ⟨g14, 0, none⟩) sn c14, .int .i64 (len : Int)] W fun e w' => e = .returned (.tuple #[.agg (bytes RT).toArray, .int .i64 0]) ∧ Fr (fun _ => False) W w') := ⟨fun W hf => by
    have h := Root_yes k (some ⟨g14, 0, none⟩) c14 ST len len W (LW.out W ((HF1.out.trans HF10.out (fun _ _ h => h)).trans hf (fun _ _ h => h))) (HST10.out.fr hf) (by rw [← HSN.out]; exact HNN.out.2) (by rw [← HSN.out]; exact HNN.out.1.symm) (by have := HBIG.out; omega) (Nat.le_refl _)
    rw [← HSN.out, ← HSK.out, ← hRT] at h
    exact h⟩
  have HRL : Kp (RT.length = 32) := ⟨by rw [hRT]; exact rootLen s (by rw [HSK.out]; exact strength_le k) ST H32.out len len (by rw [← HSN.out]; exact HNN.out.1.symm) (by have := HBIG.out; omega) (Nat.le_refl _)⟩
  have HRT := Kp.mk hRT
  clear hlv hgd hck hRT
  go_wp2_with fail
  refine CL12.out.mono ?_
  rintro e W11 ⟨g15, F, rfl, hT, hf⟩
  have HF11 := Kp.mk hf
  have HT11 := Kp.mk hT
  clear hf hT CL12
  go_wp2_with fail
  refine (CC13.out W11 HF11.out).mono ?_
  rintro e W12 ⟨rfl, hf⟩
  have HF12 := Kp.mk (HF11.out.trans hf (fun _ _ h => h))
  have HT12 := Kp.mk (HT11.out.keep hf (fun _ _ h => h) (fun _ _ _ _ _ => ⟨fun h => h, fun h => h⟩))
  clear hf CC13 HF11 HT11
  go_wp2_with fail
  refine (CR14.out W12 HF12.out).mono ?_
  rintro e W13 ⟨rfl, hf⟩
  have HF13 := Kp.mk (HF12.out.trans hf (fun _ _ h => h))
  have HT13 := Kp.mk (HT12.out.keep hf (fun _ _ h => h) (fun _ _ _ _ _ => ⟨fun h => h, fun h => h⟩))
  clear hf CR14 HF12 HT12
  have hnew : Blk (W13.alloc (.cells #[.int .u8 0, .int .u8 0, .int .u8 0, .int .u8 0, .int .u8 0, .int .u8 0, .int .u8 0, .int .u8 0, .int .u8 0, .int .u8 0, .int .u8 0, .int .u8 0, .int .u8 0, .int .u8 0, .int .u8 0, .int .u8 0, .int .u8 0, .int .u8 0, .int .u8 0, .int .u8 0, .int .u8 0, .int .u8 0, .int .u8 0, .int .u8 0, .int .u8 0, .int .u8 0, .int .u8 0, .int .u8 0, .int .u8 0, .int .u8 0, .int .u8 0, .int .u8 0] 25)) W13.heap.size 25 [.int .u8 0, .int .u8 0, .int .u8 0, .int .u8 0, .int .u8 0, .int .u8 0, .int .u8 0, .int .u8 0, .int .u8 0, .int .u8 0, .int .u8 0, .int .u8 0, .int .u8 0, .int .u8 0, .int .u8 0, .int .u8 0, .int .u8 0, .int .u8 0, .int .u8 0, .int .u8 0, .int .u8 0, .int .u8 0, .int .u8 0, .int .u8 0, .int .u8 0, .int .u8 0, .int .u8 0, .int .u8 0, .int .u8 0, .int .u8 0, .int .u8 0, .int .u8 0] := Blk.new W13 _ _
  have HNEW := Kp.mk hnew
  clear hnew
  go_wp2_with (refine wpList_storeH rfl rfl (Operand.tmp 18) (Operand.tmp 108) rfl W13.heap.size _ _ RT rfl rfl HNEW.out rfl HRL.out ?_)
  obtain ⟨g18, hg18⟩ : ∃ g18, g18 = W13.heap.size := ⟨_, rfl⟩
  obtain ⟨W14, hW2⟩ : ∃ W14, W14 = (W13.alloc (.cells #[.int .u8 0, .int .u8 0, .int .u8 0, .int .u8 0, .int .u8 0, .int .u8 0, .int .u8 0, .int .u8 0, .int .u8 0, .int .u8 0, .int .u8 0, .int .u8 0, .int .u8 0, .int .u8 0, .int .u8 0, .int .u8 0, .int .u8 0, .int .u8 0, .int .u8 0, .int .u8 0, .int .u8 0, .int .u8 0, .int .u8 0, .int .u8 0, .int .u8 0, .int .u8 0, .int .u8 0, .int .u8 0, .int .u8 0, .int .u8 0, .int .u8 0, .int .u8 0] 25)).setRow W13.heap.size (bytes RT).toArray := ⟨_, rfl⟩
  have hfr := fr_row (Fr.refl (fun _ => False) W13) (.cells #[.int .u8 0, .int .u8 0, .int .u8 0, .int .u8 0, .int .u8 0, .int .u8 0, .int .u8 0, .int .u8 0, .int .u8 0, .int .u8 0, .int .u8 0, .int .u8 0, .int .u8 0, .int .u8 0, .int .u8 0, .int .u8 0, .int .u8 0, .int .u8 0, .int .u8 0, .int .u8 0, .int .u8 0, .int .u8 0, .int .u8 0, .int .u8 0, .int .u8 0, .int .u8 0, .int .u8 0, .int .u8 0, .int .u8 0, .int .u8 0, .int .u8 0, .int .u8 0] 25) (bytes RT).toArray
  rw [← hW2] at hfr
  have HBg18 : Kp (Blk W14 g18 25 (bytes RT)) := ⟨by rw [hW2, hg18]; exact blk_row W13 _ _ _⟩
  have hfrK := Kp.mk hfr
  have HGg18 : Kp (W13.heap.size ≤ g18) := ⟨by omega⟩
  rw [← hW2, ← hg18]
  clear hW2 hg18 hfr HNEW
  have HGG18 : Kp (W10.heap.size ≤ g18) := ⟨by have h1 := HF13.out.size; have h2 := HGg18.out; omega⟩
  have HF14 := Kp.mk (HF13.out.trans hfrK.out (fun _ _ h => h))
  have HT14 := Kp.mk (HT13.out.keep hfrK.out (fun _ _ h => h) (fun _ _ _ _ _ => ⟨fun h => h, fun h => h⟩))
  clear hfrK HF13 HT13
  have CK15 := kept_calls (some ⟨g14, 0, none⟩) A12 c14 c12 ST W14 (HV10.out.fr HF14.out) (HS10.out.fr HF14.out) (by have := HNN.out.2; rw [← HSN.out]; omega)
  rw [← HVN.out, ← HSN.out] at CK15
  have CK15 := Kp.mk CK15
  go_wp2_with fail
  refine CK15.out.mono ?_
  rintro e W15 ⟨rfl, hf⟩
  have HF15 := Kp.mk (HF14.out.trans hf (fun _ _ h => h))
  have HT15 := Kp.mk (HT14.out.keep hf (fun _ _ h => h) (fun _ _ _ _ _ => ⟨fun h => h, fun h => h⟩))
  have HBg1815 := Kp.mk (HBg18.out.fr hf (fun h => h))
  clear hf CK15 HF14 HT14 HBg18
  obtain ⟨i0, hi, hz0, hz1, hz2⟩ := info_parts info_n64
  go_wp2_with (at_make; refine wpList_make_full _ rfl _ _ 52 rfl W15.heap.size 2 i0 (.int .i64 0) 1 Tryd.underlying52 hi hz0 hz1 _ _ (300 : Int) (300 : Int) 300 rfl rfl rfl rfl (by rw [hz2]; omega) (by unfold maxLen; omega) (Nat.le_refl _) ?_; intro W16 hown hgr; have HO16 := Kp.mk hown; have HG16 := Kp.mk hgr; clear hown hgr)
  obtain ⟨n2, hn2, hn2b⟩ : ∃ n2 : Nat, min (sn : Int) 2 = (n2 : Int) ∧ (n2 ≤ 2 ∧ n2 ≤ sn) := ⟨min sn 2, by omega, by omega⟩
  simp only [hn2, Int.toNat_natCast]
  have HF16 : Kp (Fr (fun _ => False) W10 W16) := ⟨HF15.out.grown HG16.out (fun q _ h => by cases h)⟩
  have hf16 : Fr (fun _ => False) W15 W16 := (Fr.refl (fun _ => False) W15).grown HG16.out (fun q _ h => by cases h)
  have HT16 := Kp.mk (HT15.out.keep hf16 (fun _ _ h => h) (fun _ _ _ _ _ => ⟨fun h => h, fun h => h⟩))
  have HBg1816 := Kp.mk (HBg1815.out.fr hf16 (fun h => h))
  obtain ⟨g20, hg20⟩ : ∃ g20, g20 = W15.heap.size := ⟨_, rfl⟩
  have HI16 : Kp (IRow W16 (fun _ => False) (some ⟨g20, 0, none⟩) 300 zs300) := ⟨by
    have h1 := HO16.out
    rw [zs300_made] at h1
    have h2 : W16.ownsRow W15.heap.size 2 1 (.slice (some ⟨W15.heap.size, 0, none⟩) zs300.length 300) zs300.length (zs300.map (Value.int .i64)) := by rw [zs300_len]; exact h1
    obtain ⟨A, c, hv, hi⟩ := IRow.of_own h2 (fun _ => False) (fun _ _ h => h)
    simp only [Value.slice.injEq] at hv
    obtain ⟨hv1, _, hv2⟩ := hv
    rw [← hv1, ← hv2, ← hg20] at hi
    exact hi⟩
  rw [← hg20]
  clear hf16 hg20 hi hz0 hz1 hz2 HO16 HG16 HF15 HT15 HBg1815
  have CH19 := Hashes_calls W10.heap.size g15 s L F (some ⟨g20, 0, none⟩) 300 (zs300.take n2) (fun i hi => by
    rw [zs300_getD, show (storedL s L) = ST from HST.out.symm, ← HSN.out]
    rw [List.length_take] at hi
    omega) (by rw [List.length_take]; omega) W16 HT16.out (HI16.out.take n2)
  rw [show (zs300.take n2).length = n2 by rw [List.length_take, zs300_len]; omega] at CH19
  have CH19 := Kp.mk CH19
  refine CH19.out.mono ?_
  rintro e W17 ⟨v, rfl, _, hf, q22, c22, rfl⟩
  have HF17 := Kp.mk (HF16.out.trans hf (fun _ _ h => h))
  have HT17 := Kp.mk (HT16.out.keep hf (fun _ _ h => h) (fun _ _ _ _ _ => ⟨fun h => h, fun h => h⟩))
  have HBg1817 := Kp.mk (HBg1816.out.fr hf (fun h => h))
  have HI17 := Kp.mk (HI16.out.fr hf)
  clear hf CH19 HF16 HT16 HBg1816 HI16 hn2b hn2
  have HC20 : Kp (∀ W, Fr (fun _ => False) W17 W → ∀ j, j < 300 → W.cell? ⟨g20, j, none⟩ = some (.int .i64 0)) := ⟨fun W hf j hj => by
    obtain ⟨b, o, h1, _, h3⟩ := (HI17.out.fr hf).at j (by rw [zs300_len]; exact hj)
    simp only [Option.some.injEq, Addr.mk.injEq, and_true] at h1
    obtain ⟨rfl, rfl⟩ := h1
    rw [Nat.zero_add, show zs300.getD j 0 = 0 by have h := zs300_getD 300 j; rwa [List.take_of_length_le (by rw [zs300_len]; exact Nat.le_refl _)] at h] at h3
    exact h3⟩
  go_wp2_with fail
  go_loopw [24] (fun a wr => ∃ i : Nat, a = .int .i64 (i : Int) ∧ i ≤ 300 ∧ Kp (Fr (fun _ => False) W17 wr)) (fun a _ => 300 - (intOf a).toNat)
  case atStart => exact ⟨0, rfl, Nat.zero_le _, ⟨Fr.refl _ _⟩⟩
  case round =>
    obtain ⟨i, rfl, hi, HFr⟩ := hrel
    by_cases h : i < 300
    · have c20 := HC20.out wr HFr.out i h
      have hii : (i : Int) < 300 := by omega
      go_wp2_with fail
      refine ⟨⟨i + 1, by go_num, by omega, HFr⟩, ?_⟩
      simp only [intOf]
      omega
    · obtain rfl : i = 300 := by omega
      clear h
      rw [show ((300 : Nat) : Int) = 300 from rfl]
      have HF18 := Kp.mk (HF17.out.trans HFr.out (fun _ _ h => h))
      have HT18 := Kp.mk (HT17.out.keep HFr.out (fun _ _ h => h) (fun _ _ _ _ _ => ⟨fun h => h, fun h => h⟩))
      have HBg1818 := Kp.mk (HBg1817.out.fr HFr.out (fun h => h))
      have HB18 := Kp.mk (HB10.out.fr HF18.out (fun h => h))
      have HBL : Kp (32 * vn ≤ (bytes (wideL ST).flatten ++ vs14).length) := ⟨by rw [List.length_append, bytes_length, flat_len HV10.out.1, ← HVN.out]; omega⟩
      have hvnb : vn ≤ 200000 := by have h1 := HWL2.out; have h2 := HNN.out.2; have h3 := HVN.out; omega
      obtain ⟨vs18, hvs⟩ : ∃ vs, vs = bytes (wideL ST).flatten ++ vs14 := ⟨_, rfl⟩
      rw [← hvs] at HB18 HBL
      clear hvs HC20 HI17 HFr HF17 HT17 HBg1817 HB10
      generalize wr = W18 at HF18 HT18 HBg1818 HB18 ⊢
      go_wp2_with fail
      go_loopw [25] (fun a w2 => ∃ (i : Nat) (vs : List Value), a = .int .i64 (i : Int) ∧ i ≤ vn ∧ Kp (32 * vn ≤ vs.length) ∧ Kp (Blk w2 g14 25 vs) ∧ Kp (Fr (fun q => q = g14) W18 w2)) (fun a _ => vn - (intOf a).toNat)
      case atStart => exact ⟨0, vs18, rfl, Nat.zero_le _, HBL, HB18, ⟨Fr.refl _ _⟩⟩
      case round =>
        clear HBL
        obtain ⟨i, vs, rfl, hi, HVL, HBV, HF2⟩ := hrel
        by_cases h : i < vn
        · obtain ⟨x, hx⟩ : ∃ x : List Int, x = 77 :: List.replicate 31 0 := ⟨_, rfl⟩
          have hx32 : x.length = 32 := by rw [hx]; rfl
          have HXE := Kp.mk hx
          have hk := hashOk_bytes x hx32
          have hmf := midFree_blk (o := i * 32) (n := 32) HBV.out (by have := HVL.out; omega)
          have HOV := Kp.mk (blk_over (i := i) (xs := bytes x) HBV.out (by rw [bytes_length, hx32]) (by have := HVL.out; omega))
          have hii : (i : Int) < (vn : Int) := Int.ofNat_lt.2 h
          have hcv : (vn : Int) ≤ (c14 : Int) := Int.ofNat_le.2 (by have := HV10.out.2.1; rw [← HVN.out] at this; exact this)
          clear hx hx32
          go_upto_region 29 with (refine wpList_77 rfl rfl x HXE.out ?_)
          go_wp2_with fail
          obtain ⟨vs', hb', hl'⟩ := HOV.out
          refine ⟨⟨i + 1, vs', by go_num, h, ⟨by rw [hl']; exact HVL.out⟩, ⟨hb'⟩, ⟨HF2.out.trans (fr_setCells g14 _ _ wr) (fun q _ he => he)⟩⟩, ?_⟩
          simp only [intOf]
          omega
        · obtain rfl : i = vn := by omega
          clear h
          have HF19 : Kp (Fr (fun _ => False) W9 wr) := ⟨(HF910.out.trans HF18.out (fun _ _ h => h)).trans HF2.out (fun q hq he => by have := HG14.out.1; omega)⟩
          have HT19 : Kp (Tr wr W10.heap.size g15 s L F) := ⟨HT18.out.keep HF2.out (fun q hq he => by
            obtain ⟨_, _, _, _, _, _, _, _, _, _, h8, _⟩ := HT18.out
            have := h8 q hq
            have := HG14.out.2
            omega) (fun gk go hs _ _ => ⟨fun he => by
              have hb := HBV.out
              have hbk := HB18.out
              rw [← he] at hbk
              exact absurd (blk_types hs.k hbk) (by decide), fun he => by
              have hbk := HB18.out
              rw [← he] at hbk
              exact absurd (blk_types hs.o hbk) (by decide)⟩)⟩
          have HBg1819 := Kp.mk (HBg1818.out.fr HF2.out (fun he => by have h1 := HGG18.out; have h2 := HG14.out.2; omega))
          clear HVL HBV HF2 HF18 HT18 HBg1818 HV10 HVN HST10 HVT HS10
          generalize wr = W19 at HF19 HT19 HBg1819 ⊢
          have HFw19 : Kp (Fr (fun _ => False) w W19) := ⟨(HF1.out.trans HF9.out (fun _ _ h => h)).trans HF19.out (fun _ _ h => h)⟩
          have hRW : wholeL s (L.take len) = RT := by
            have h := root_whole s L L.length (Nat.le_refl _) (by have := HBIG.out; rw [← HLEN.out]; omega)
            rw [HRT.out, HST.out, HLEN.out]
            exact h.symm
          have CR31 := RootM_calls W10.heap.size g15 s L F W19 HT19.out (LW.out W19 HFw19.out) len (by rw [← HLEN.out]; exact Nat.le_refl _)
          rw [hRW] at CR31
          have CR31 := Kp.mk CR31
          clear hRW HT19
          go_wp2_with fail
          refine CR31.out.mono ?_
          rintro e W20 ⟨rfl, hf⟩
          have HF20 := Kp.mk (HF19.out.trans hf (fun _ _ h => h))
          have HBg1820 := Kp.mk (HBg1819.out.fr hf (fun h => h))
          clear hf CR31 HF19 HBg1819 HFw19
          have hnew : Blk (W20.alloc (.cells #[.int .u8 0, .int .u8 0, .int .u8 0, .int .u8 0, .int .u8 0, .int .u8 0, .int .u8 0, .int .u8 0, .int .u8 0, .int .u8 0, .int .u8 0, .int .u8 0, .int .u8 0, .int .u8 0, .int .u8 0, .int .u8 0, .int .u8 0, .int .u8 0, .int .u8 0, .int .u8 0, .int .u8 0, .int .u8 0, .int .u8 0, .int .u8 0, .int .u8 0, .int .u8 0, .int .u8 0, .int .u8 0, .int .u8 0, .int .u8 0, .int .u8 0, .int .u8 0] 25)) W20.heap.size 25 [.int .u8 0, .int .u8 0, .int .u8 0, .int .u8 0, .int .u8 0, .int .u8 0, .int .u8 0, .int .u8 0, .int .u8 0, .int .u8 0, .int .u8 0, .int .u8 0, .int .u8 0, .int .u8 0, .int .u8 0, .int .u8 0, .int .u8 0, .int .u8 0, .int .u8 0, .int .u8 0, .int .u8 0, .int .u8 0, .int .u8 0, .int .u8 0, .int .u8 0, .int .u8 0, .int .u8 0, .int .u8 0, .int .u8 0, .int .u8 0, .int .u8 0, .int .u8 0] := Blk.new W20 _ _
          have HNEW := Kp.mk hnew
          clear hnew
          go_upto_region 32 with (refine wpList_storeH rfl rfl (Operand.tmp 26) (Operand.tmp 176) rfl W20.heap.size _ _ RT rfl rfl HNEW.out rfl HRL.out ?_)
          obtain ⟨g26, hg26⟩ : ∃ g26, g26 = W20.heap.size := ⟨_, rfl⟩
          obtain ⟨W21, hW2⟩ : ∃ W21, W21 = (W20.alloc (.cells #[.int .u8 0, .int .u8 0, .int .u8 0, .int .u8 0, .int .u8 0, .int .u8 0, .int .u8 0, .int .u8 0, .int .u8 0, .int .u8 0, .int .u8 0, .int .u8 0, .int .u8 0, .int .u8 0, .int .u8 0, .int .u8 0, .int .u8 0, .int .u8 0, .int .u8 0, .int .u8 0, .int .u8 0, .int .u8 0, .int .u8 0, .int .u8 0, .int .u8 0, .int .u8 0, .int .u8 0, .int .u8 0, .int .u8 0, .int .u8 0, .int .u8 0, .int .u8 0] 25)).setRow W20.heap.size (bytes RT).toArray := ⟨_, rfl⟩
          have hfr := fr_row (Fr.refl (fun _ => False) W20) (.cells #[.int .u8 0, .int .u8 0, .int .u8 0, .int .u8 0, .int .u8 0, .int .u8 0, .int .u8 0, .int .u8 0, .int .u8 0, .int .u8 0, .int .u8 0, .int .u8 0, .int .u8 0, .int .u8 0, .int .u8 0, .int .u8 0, .int .u8 0, .int .u8 0, .int .u8 0, .int .u8 0, .int .u8 0, .int .u8 0, .int .u8 0, .int .u8 0, .int .u8 0, .int .u8 0, .int .u8 0, .int .u8 0, .int .u8 0, .int .u8 0, .int .u8 0, .int .u8 0] 25) (bytes RT).toArray
          rw [← hW2] at hfr
          have HBg26 : Kp (Blk W21 g26 25 (bytes RT)) := ⟨by rw [hW2, hg26]; exact blk_row W20 _ _ _⟩
          have hfrK := Kp.mk hfr
          have HGg26 : Kp (W20.heap.size ≤ g26) := ⟨by omega⟩
          rw [← hW2, ← hg26]
          clear hW2 hg26 hfr HNEW
          have HF21 := Kp.mk (HF20.out.trans hfrK.out (fun _ _ h => h))
          have HBg1821 := Kp.mk (HBg1820.out.fr hfrK.out (fun h => h))
          clear hfrK HF20 HBg1820
          have sR : ∀ W, (Op.equalIn 10000 25 (.agg (bytes RT).toArray) (.agg (bytes RT).toArray)).run Tryd.prog W = .ok true W := fun W => by
            have h := eq32 RT RT HRL.out HRL.out W
            rw [decide_eq_true rfl] at h
            exact h
          have sL : ∀ W, (Op.equalIn 10000 25 (.agg (bytes LF).toArray) (.agg (bytes LF).toArray)).run Tryd.prog W = .ok true W := fun W => by
            have h := eq32 LF LF HLF.out HLF.out W
            rw [decide_eq_true rfl] at h
            exact h
          have sF : ∀ W, (Op.equalIn 10000 25 (.agg (bytes FO).toArray) (.agg (bytes FO).toArray)).run Tryd.prog W = .ok true W := fun W => by
            have h := eq32 FO FO HFO.out HFO.out W
            rw [decide_eq_true rfl] at h
            exact h
          by_cases hz : 0 < len
          · have hp1 : decide ((0 : Int) < (len : Int)) = true := decide_eq_true (by omega)
            have hp2 : decide (0 < len) = true := decide_eq_true hz
            obtain ⟨PKS, hPK⟩ : ∃ PKS, PKS = (pks len 49 0).map fun p => ST.getD p.toNat [] := ⟨_, rfl⟩
            obtain ⟨pn, hpn⟩ : ∃ pn, pn = PKS.length := ⟨_, rfl⟩
            have HPN := Kp.mk hpn
            have hpb : PKS.length ≤ 49 := by rw [hPK, List.length_map]; exact pks_len len
            have hpf : foldL s PKS = RT := by rw [hPK, HRT.out]; rfl
            have CPk : Kp (∀ W, Fr (fun _ => False) W21 W → Calls Tryd.prog 35 #[.slice A12 sn c12, .int .i64 (len : Int)] W fun e w' => ∃ v, e = .returned v ∧ HOwn w' W.heap.size v PKS ∧ Fr (fun _ => False) W w') := ⟨fun W hf => by
              have h := peaksOf_calls A12 c12 ST len len W ((HS9.out.fr HF21.out).fr hf) (by rw [← HSN.out]; exact HNN.out.1.symm) (by have := HBIG.out; omega) (Nat.le_refl _) (by rw [← HSN.out]; exact HNN.out.2)
              rw [← HSN.out, ← hPK] at h
              exact h⟩
            have CFk : Kp (∀ W A1 c1, Fr (fun _ => False) W21 W → HRow W (fun _ => False) A1 c1 PKS → Calls Tryd.prog 31 #[.int .i64 k, .slice A1 pn c1] W fun e w' => e = .returned (.agg (bytes RT).toArray) ∧ Fr (fun _ => False) W w') := ⟨fun W A1 c1 hf hx => by
              have h := Fold_calls k A1 c1 PKS W (LW.out W (((HF1.out.trans HF9.out (fun _ _ h => h)).trans HF21.out (fun _ _ h => h)).trans hf (fun _ _ h => h))) hx (by omega)
              rw [← HSK.out, hpf, ← hpn] at h
              exact h⟩
            clear hPK hpn hpb hpf
            refine start_ (n := 13) (S := fun w' => Lds w' 25 (.pointer (some ⟨g18, 0, none⟩)) (.agg (bytes RT).toArray)) (ds := []) #[false, false, false, false, false, false, false, false, false, false, false, false, false] (by kernel_rfl) rfl rfl (lds_blk HBg1821.out.drew HRL.out) (fun hHeld => ?_)
            refine pure_ (i := 0) (N := some 178) (v := ?_) (a' := ?_) #[true, false, false, false, false, false, false, false, false, false, false, false, false] rfl rfl (by kernel_rfl) (fun _ _ _ h => h) (Or.inl ⟨by rfl, ?_⟩) ?_ ?_
            rotate_left
            · intro w'
              go_simp
              with_reducible rfl
            rotate_left
            · simp only [Act.put, List.setIfInBounds_toArray, List.set_cons_zero, List.set_cons_succ]
              rfl
            refine pure_ (i := 1) (N := some 179) (v := ?_) (a' := ?_) #[true, true, false, false, false, false, false, false, false, false, false, false, false] rfl rfl (by kernel_rfl) (fun _ _ _ h => h) (Or.inl ⟨by rfl, ?_⟩) ?_ ?_
            rotate_left
            · intro w'
              go_simp
              with_reducible rfl
            rotate_left
            · simp only [Act.put, List.setIfInBounds_toArray, List.set_cons_zero, List.set_cons_succ]
              rfl
            refine pure_ (i := 2) (N := some 180) (v := ?_) (a' := ?_) #[true, true, true, false, false, false, false, false, false, false, false, false, false] rfl rfl (by kernel_rfl) (fun _ _ _ h => h) (Or.inl ⟨by rfl, ?_⟩) ?_ ?_
            rotate_left
            · intro w'
              go_simp
              with_reducible rfl
            rotate_left
            · simp only [Act.put, List.setIfInBounds_toArray, List.set_cons_zero, List.set_cons_succ]
              rfl
            refine pure_ (i := 3) (N := some 181) (v := ?_) (a' := ?_) #[true, true, true, true, false, false, false, false, false, false, false, false, false] rfl rfl (by kernel_rfl) (fun _ _ _ h => h) (Or.inl ⟨by rfl, ?_⟩) ?_ ?_
            rotate_left
            · intro w'
              go_simp
              with_reducible rfl
            rotate_left
            · simp only [Act.put, List.setIfInBounds_toArray, List.set_cons_zero, List.set_cons_succ]
              rfl
            refine pure_ (i := 5) (N := some 183) (v := ?_) (a' := ?_) #[true, true, true, true, false, true, false, false, false, false, false, false, false] rfl rfl (by kernel_rfl) (fun _ _ _ h => h) (Or.inl ⟨by rfl, ?_⟩) ?_ ?_
            rotate_left
            · intro w'
              go_simp
              with_reducible rfl
            rotate_left
            · simp only [Act.put, List.setIfInBounds_toArray, List.set_cons_zero, List.set_cons_succ]
              rfl
            refine pure_ (i := 6) (N := some 184) (v := ?_) (a' := ?_) #[true, true, true, true, false, true, true, false, false, false, false, false, false] rfl rfl (by kernel_rfl) (fun _ _ _ h => h) (Or.inl ⟨by rfl, ?_⟩) ?_ ?_
            rotate_left
            · intro w'
              go_simp
              with_reducible rfl
            rotate_left
            · simp only [Act.put, List.setIfInBounds_toArray, List.set_cons_zero, List.set_cons_succ]
              rfl
            refine pure_ (i := 7) (N := some 185) (v := ?_) (a' := ?_) #[true, true, true, true, false, true, true, true, false, false, false, false, false] rfl rfl (by kernel_rfl) (fun _ _ _ h => h) (Or.inl ⟨by rfl, ?_⟩) ?_ ?_
            rotate_left
            · intro w'
              go_simp
              with_reducible rfl
            rotate_left
            · simp only [Act.put, List.setIfInBounds_toArray, List.set_cons_zero, List.set_cons_succ]
              rfl
            refine pure_ (i := 8) (N := some 186) (v := ?_) (a' := ?_) #[true, true, true, true, false, true, true, true, true, false, false, false, false] rfl rfl (by kernel_rfl) (fun _ _ _ h => h) (Or.inl ⟨by rfl, ?_⟩) ?_ ?_
            rotate_left
            · intro w'
              go_simp
              with_reducible rfl
            rotate_left
            · simp only [Act.put, List.setIfInBounds_toArray, List.set_cons_zero, List.set_cons_succ]
              rfl
            refine take_ (i := 4) (N := some 182) (v := ?_) (a' := ?_) #[true, true, true, true, true, true, true, true, true, false, false, false, false] rfl rfl (by kernel_rfl) (fun _ _ _ h => h) (Or.inl ⟨by rfl, ?_⟩) hHeld ?_ ?_
            rotate_left
            · intro w' s0
              refine Lds.run s0 (x := ?_) ?_ ?_
              · exact (Operand.tmp 18)
              · rfl
              · rfl
            rotate_left
            · simp only [Act.put, List.setIfInBounds_toArray, List.set_cons_zero, List.set_cons_succ]
              rfl
            refine one_ (i := 9) (N := some 187) #[true, true, true, true, true, true, true, true, true, true, false, false, false] rfl rfl (by kernel_rfl) (by decide) (fun K hK => ?_)
            refine goes_ Tryd.func35 (by kernel_rfl) rfl #[.slice A12 sn c12, .int .i64 (len : Int)] (by rfl) rfl rfl (by simp only [List.map_toArray, List.map_cons, List.map_nil]; rfl) ?_
            with_reducible refine (CPk.out _ ((Fr.refl (fun _ => False) W21).drew)).mono ?_
            rintro e b1 ⟨v, rfl, hO, hq⟩
            refine ⟨_, rfl, ?_⟩
            have Fb1 : Kp (Fr (fun _ => False) W21 b1) := ⟨((Fr.refl (fun _ => False) W21).drew).trans hq (fun _ _ h => h)⟩
            obtain ⟨A35, c35, hv, hR⟩ := hO.row (fun _ => False) (fun _ _ h => h)
            rw [← HPN.out] at hv
            subst hv
            have HR35 := Kp.mk hR
            clear hO hq hR
            refine hK.out _ _ (lds_blk (HBg1821.out.fr Fb1.out (fun h => h)) HRL.out) (fun hHeld => ?_)
            clear hK K
            refine norm_ (a' := ?_) ?_ ?_
            rotate_left
            · show Act.put _ (some 187) _ = _
              simp only [Act.put, List.setIfInBounds_toArray, List.set_cons_zero, List.set_cons_succ]
              rfl
            refine one_ (i := 10) (N := some 188) #[true, true, true, true, true, true, true, true, true, true, true, false, false] rfl rfl (by kernel_rfl) (by decide) (fun K hK => ?_)
            refine goes_ Tryd.func31 (by kernel_rfl) rfl #[.int .i64 k, .slice A35 pn c35] (by rfl) rfl rfl (by simp only [List.map_toArray, List.map_cons, List.map_nil]; rfl) ?_
            with_reducible refine (CFk.out _ _ _ Fb1.out HR35.out).mono ?_
            rintro e b2 ⟨rfl, hq⟩
            refine ⟨_, rfl, ?_⟩
            have Fb2 : Kp (Fr (fun _ => False) W21 b2) := ⟨Fb1.out.trans hq (fun _ _ h => h)⟩
            clear hq
            refine hK.out _ _ (lds_blk (HBg1821.out.fr Fb2.out (fun h => h)) HRL.out) (fun hHeld => ?_)
            clear hK K
            refine norm_ (a' := ?_) ?_ ?_
            rotate_left
            · show Act.put _ (some 188) _ = _
              simp only [Act.put, List.setIfInBounds_toArray, List.set_cons_zero, List.set_cons_succ]
              rfl
            refine pure_ (i := 11) (N := some 189) (v := ?_) (a' := ?_) #[true, true, true, true, true, true, true, true, true, true, true, true, false] rfl rfl (by kernel_rfl) (fun _ _ _ h => h) (Or.inl ⟨by rfl, ?_⟩) ?_ ?_
            rotate_left
            · intro w'
              go_simp
              with_reducible rfl
            rotate_left
            · simp only [Act.put, List.setIfInBounds_toArray, List.set_cons_zero, List.set_cons_succ]
              rfl
            refine pure_ (i := 12) (N := some 190) (v := ?_) (a' := ?_) #[true, true, true, true, true, true, true, true, true, true, true, true, true] rfl rfl (by kernel_rfl) (fun _ _ _ h => h) (Or.inl ⟨by rfl, ?_⟩) ?_ ?_
            rotate_left
            · intro w'
              go_simp
              with_reducible rfl
            rotate_left
            · simp only [Act.put, List.setIfInBounds_toArray, List.set_cons_zero, List.set_cons_succ]
              rfl
            refine done_ (by kernel_rfl) ?_
            have HF22 : Kp (Fr (fun _ => False) W9 (b2)) := ⟨HF21.out.trans (Fb2.out) (fun _ _ h => h)⟩
            have HBg1822 := Kp.mk (HBg1821.out.fr (Fb2.out) (fun h => h))
            have HBg2622 := Kp.mk (HBg26.out.fr (Fb2.out) (fun h => h))
            have HBg922 := Kp.mk (HBg99.out.fr HF22.out (fun h => h))
            have HBg1122 := Kp.mk (HBg119.out.fr HF22.out (fun h => h))
            have HR22 := Kp.mk (HR9.out.fr HF22.out)
            generalize b2 = W22 at HF22 HBg1822 HBg2622 HBg922 HBg1122 HR22 ⊢
            have HFw22 : Kp (Fr (fun _ => False) w W22) := ⟨(HF1.out.trans HF9.out (fun _ _ h => h)).trans HF22.out (fun _ _ h => h)⟩
            have CL34 : Kp (∀ W, Fr (fun _ => False) W22 W → Calls Tryd.prog 14 #[.int .i64 k, .slice AD dn cD] W fun e w' => e = .returned (.agg (bytes LF).toArray) ∧ Fr (fun _ => False) W w') := ⟨fun W hf => CLf.out W AD cD (HFw22.out.trans hf (fun _ _ h => h)) (HSD.out W (HFw22.out.trans hf (fun _ _ h => h)))⟩
            have CF34 : Kp (∀ W, Fr (fun _ => False) W22 W → Calls Tryd.prog 31 #[.int .i64 k, .slice A7 len c7] W fun e w' => e = .returned (.agg (bytes FO).toArray) ∧ Fr (fun _ => False) W w') := ⟨fun W hf => CFo.out W A7 c7 (HFw22.out.trans hf (fun _ _ h => h)) (HR22.out.fr hf)⟩
            clear HF21 HBg1821 HBg26 HBg99 HBg119 HR9
            go_upto_region 34 with (fail)
            refine start_ (n := 22) (S := fun w' => Lds w' 25 (.pointer (some ⟨g26, 0, none⟩)) (.agg (bytes RT).toArray) ∧ Lds w' 25 (.pointer (some ⟨g18, 0, none⟩)) (.agg (bytes RT).toArray) ∧ Lds w' 25 (.pointer (some ⟨g9, 0, none⟩)) (.agg (bytes LF).toArray) ∧ Lds w' 25 (.pointer (some ⟨g11, 0, none⟩)) (.agg (bytes FO).toArray)) (ds := []) #[false, false, false, false, false, false, false, false, false, false, false, false, false, false, false, false, false, false, false, false, false, false] (by kernel_rfl) rfl rfl ⟨lds_blk HBg2622.out.drew HRL.out, lds_blk HBg1822.out.drew HRL.out, lds_blk HBg922.out.drew HLF.out, lds_blk HBg1122.out.drew HFO.out⟩ (fun hHeld => ?_)
            refine pure_ (i := 0) (N := some 191) (v := ?_) (a' := ?_) #[true, false, false, false, false, false, false, false, false, false, false, false, false, false, false, false, false, false, false, false, false, false] rfl rfl (by kernel_rfl) (fun _ _ _ h => h) (Or.inl ⟨by rfl, ?_⟩) ?_ ?_
            rotate_left
            · intro w'
              go_simp
              with_reducible rfl
            rotate_left
            · simp only [Act.put, List.setIfInBounds_toArray, List.set_cons_zero, List.set_cons_succ]
              rfl
            refine pure_ (i := 1) (N := some 192) (v := ?_) (a' := ?_) #[true, true, false, false, false, false, false, false, false, false, false, false, false, false, false, false, false, false, false, false, false, false] rfl rfl (by kernel_rfl) (fun _ _ _ h => h) (Or.inl ⟨by rfl, ?_⟩) ?_ ?_
            rotate_left
            · intro w'
              go_simp
              with_reducible rfl
            rotate_left
            · simp only [Act.put, List.setIfInBounds_toArray, List.set_cons_zero, List.set_cons_succ]
              rfl
            refine pure_ (i := 2) (N := some 193) (v := ?_) (a' := ?_) #[true, true, true, false, false, false, false, false, false, false, false, false, false, false, false, false, false, false, false, false, false, false] rfl rfl (by kernel_rfl) (fun _ _ _ h => h) (Or.inl ⟨by rfl, ?_⟩) ?_ ?_
            rotate_left
            · intro w'
              go_simp
              with_reducible rfl
            rotate_left
            · simp only [Act.put, List.setIfInBounds_toArray, List.set_cons_zero, List.set_cons_succ]
              rfl
            refine take_ (i := 3) (N := some 194) (v := ?_) (a' := ?_) #[true, true, true, true, false, false, false, false, false, false, false, false, false, false, false, false, false, false, false, false, false, false] rfl rfl (by kernel_rfl) (fun _ _ _ h => h) (Or.inl ⟨by rfl, ?_⟩) hHeld ?_ ?_
            rotate_left
            · rintro w' ⟨s0, s1, s2, s3⟩
              refine Lds.run s0 (x := ?_) ?_ ?_
              · exact (Operand.tmp 26)
              · rfl
              · rfl
            rotate_left
            · simp only [Act.put, List.setIfInBounds_toArray, List.set_cons_zero, List.set_cons_succ]
              rfl
            refine take_ (i := 4) (N := some 195) (v := ?_) (a' := ?_) #[true, true, true, true, true, false, false, false, false, false, false, false, false, false, false, false, false, false, false, false, false, false] rfl rfl (by kernel_rfl) (fun _ _ _ h => h) (Or.inl ⟨by rfl, ?_⟩) hHeld ?_ ?_
            rotate_left
            · rintro w' ⟨s0, s1, s2, s3⟩
              refine Lds.run s1 (x := ?_) ?_ ?_
              · exact (Operand.tmp 18)
              · rfl
              · rfl
            rotate_left
            · simp only [Act.put, List.setIfInBounds_toArray, List.set_cons_zero, List.set_cons_succ]
              rfl
            refine pure_ (i := 5) (N := some 196) (v := ?_) (a' := ?_) #[true, true, true, true, true, true, false, false, false, false, false, false, false, false, false, false, false, false, false, false, false, false] rfl rfl (by kernel_rfl) (fun _ _ _ h => h) (Or.inl ⟨by rfl, ?_⟩) ?_ ?_
            rotate_left
            · intro w'
              go_simp
              with_reducible rfl
            rotate_left
            · simp only [Act.put, List.setIfInBounds_toArray, List.set_cons_zero, List.set_cons_succ]
              rfl
            refine pure_ (i := 6) (N := some 197) (v := ?_) (a' := ?_) #[true, true, true, true, true, true, true, false, false, false, false, false, false, false, false, false, false, false, false, false, false, false] rfl rfl (by kernel_rfl) (fun _ _ _ h => h) (Or.inl ⟨by rfl, ?_⟩) ?_ ?_
            rotate_left
            · intro w'
              go_simp
              with_reducible rfl
            rotate_left
            · simp only [Act.put, List.setIfInBounds_toArray, List.set_cons_zero, List.set_cons_succ]
              rfl
            refine pure_ (i := 7) (N := some 198) (v := ?_) (a' := ?_) #[true, true, true, true, true, true, true, true, false, false, false, false, false, false, false, false, false, false, false, false, false, false] rfl rfl (by kernel_rfl) (fun _ _ _ h => h) (Or.inl ⟨by rfl, ?_⟩) ?_ ?_
            rotate_left
            · intro w'
              go_simp
              with_reducible rfl
            rotate_left
            · simp only [Act.put, List.setIfInBounds_toArray, List.set_cons_zero, List.set_cons_succ]
              rfl
            refine pure_ (i := 9) (N := some 200) (v := ?_) (a' := ?_) #[true, true, true, true, true, true, true, true, false, true, false, false, false, false, false, false, false, false, false, false, false, false] rfl rfl (by kernel_rfl) (fun _ _ _ h => h) (Or.inl ⟨by rfl, ?_⟩) ?_ ?_
            rotate_left
            · intro w'
              go_simp
              with_reducible rfl
            rotate_left
            · simp only [Act.put, List.setIfInBounds_toArray, List.set_cons_zero, List.set_cons_succ]
              rfl
            refine pure_ (i := 10) (N := some 201) (v := ?_) (a' := ?_) #[true, true, true, true, true, true, true, true, false, true, true, false, false, false, false, false, false, false, false, false, false, false] rfl rfl (by kernel_rfl) (fun _ _ _ h => h) (Or.inl ⟨by rfl, ?_⟩) ?_ ?_
            rotate_left
            · intro w'
              go_simp
              with_reducible rfl
            rotate_left
            · simp only [Act.put, List.setIfInBounds_toArray, List.set_cons_zero, List.set_cons_succ]
              rfl
            refine take_ (i := 8) (N := some 199) (v := ?_) (a' := ?_) #[true, true, true, true, true, true, true, true, true, true, true, false, false, false, false, false, false, false, false, false, false, false] rfl rfl (by kernel_rfl) (fun _ _ _ h => h) (Or.inl ⟨by rfl, ?_⟩) hHeld ?_ ?_
            rotate_left
            · rintro w' ⟨s0, s1, s2, s3⟩
              refine Lds.run s2 (x := ?_) ?_ ?_
              · exact (Operand.tmp 9)
              · rfl
              · rfl
            rotate_left
            · simp only [Act.put, List.setIfInBounds_toArray, List.set_cons_zero, List.set_cons_succ]
              rfl
            refine one_ (i := 11) (N := some 202) #[true, true, true, true, true, true, true, true, true, true, true, true, false, false, false, false, false, false, false, false, false, false] rfl rfl (by kernel_rfl) (by decide) (fun K hK => ?_)
            refine goes_ Tryd.func14 (by kernel_rfl) rfl #[.int .i64 k, .slice AD dn cD] (by rfl) rfl rfl (by simp only [List.map_toArray, List.map_cons, List.map_nil]; rfl) ?_
            with_reducible refine (CL34.out _ ((Fr.refl (fun _ => False) W22).drew)).mono ?_
            rintro e d1 ⟨rfl, hq⟩
            refine ⟨_, rfl, ?_⟩
            have Fd1 : Kp (Fr (fun _ => False) W22 d1) := ⟨((Fr.refl (fun _ => False) W22).drew).trans hq (fun _ _ h => h)⟩
            clear hq
            refine hK.out _ _ ⟨lds_blk (HBg2622.out.fr Fd1.out (fun h => h)) HRL.out, lds_blk (HBg1822.out.fr Fd1.out (fun h => h)) HRL.out, lds_blk (HBg922.out.fr Fd1.out (fun h => h)) HLF.out, lds_blk (HBg1122.out.fr Fd1.out (fun h => h)) HFO.out⟩ (fun hHeld => ?_)
            clear hK K
            refine norm_ (a' := ?_) ?_ ?_
            rotate_left
            · show Act.put _ (some 202) _ = _
              simp only [Act.put, List.setIfInBounds_toArray, List.set_cons_zero, List.set_cons_succ]
              rfl
            refine pure_ (i := 12) (N := some 203) (v := ?_) (a' := ?_) #[true, true, true, true, true, true, true, true, true, true, true, true, true, false, false, false, false, false, false, false, false, false] rfl rfl (by kernel_rfl) (fun _ _ _ h => h) (Or.inl ⟨by rfl, ?_⟩) ?_ ?_
            rotate_left
            · intro w'
              go_simp
              with_reducible rfl
            rotate_left
            · simp only [Act.put, List.setIfInBounds_toArray, List.set_cons_zero, List.set_cons_succ]
              rfl
            refine pure_ (i := 13) (N := some 204) (v := ?_) (a' := ?_) #[true, true, true, true, true, true, true, true, true, true, true, true, true, true, false, false, false, false, false, false, false, false] rfl rfl (by kernel_rfl) (fun _ _ _ h => h) (Or.inl ⟨by rfl, ?_⟩) ?_ ?_
            rotate_left
            · intro w'
              go_simp
              with_reducible rfl
            rotate_left
            · simp only [Act.put, List.setIfInBounds_toArray, List.set_cons_zero, List.set_cons_succ]
              rfl
            refine pure_ (i := 14) (N := some 205) (v := ?_) (a' := ?_) #[true, true, true, true, true, true, true, true, true, true, true, true, true, true, true, false, false, false, false, false, false, false] rfl rfl (by kernel_rfl) (fun _ _ _ h => h) (Or.inl ⟨by rfl, ?_⟩) ?_ ?_
            rotate_left
            · intro w'
              go_simp
              with_reducible rfl
            rotate_left
            · simp only [Act.put, List.setIfInBounds_toArray, List.set_cons_zero, List.set_cons_succ]
              rfl
            refine pure_ (i := 16) (N := some 207) (v := ?_) (a' := ?_) #[true, true, true, true, true, true, true, true, true, true, true, true, true, true, true, false, true, false, false, false, false, false] rfl rfl (by kernel_rfl) (fun _ _ _ h => h) (Or.inl ⟨by rfl, ?_⟩) ?_ ?_
            rotate_left
            · intro w'
              go_simp
              with_reducible rfl
            rotate_left
            · simp only [Act.put, List.setIfInBounds_toArray, List.set_cons_zero, List.set_cons_succ]
              rfl
            refine pure_ (i := 17) (N := some 208) (v := ?_) (a' := ?_) #[true, true, true, true, true, true, true, true, true, true, true, true, true, true, true, false, true, true, false, false, false, false] rfl rfl (by kernel_rfl) (fun _ _ _ h => h) (Or.inl ⟨by rfl, ?_⟩) ?_ ?_
            rotate_left
            · intro w'
              go_simp
              with_reducible rfl
            rotate_left
            · simp only [Act.put, List.setIfInBounds_toArray, List.set_cons_zero, List.set_cons_succ]
              rfl
            refine take_ (i := 15) (N := some 206) (v := ?_) (a' := ?_) #[true, true, true, true, true, true, true, true, true, true, true, true, true, true, true, true, true, true, false, false, false, false] rfl rfl (by kernel_rfl) (fun _ _ _ h => h) (Or.inl ⟨by rfl, ?_⟩) hHeld ?_ ?_
            rotate_left
            · rintro w' ⟨s0, s1, s2, s3⟩
              refine Lds.run s3 (x := ?_) ?_ ?_
              · exact (Operand.tmp 11)
              · rfl
              · rfl
            rotate_left
            · simp only [Act.put, List.setIfInBounds_toArray, List.set_cons_zero, List.set_cons_succ]
              rfl
            refine one_ (i := 18) (N := some 209) #[true, true, true, true, true, true, true, true, true, true, true, true, true, true, true, true, true, true, true, false, false, false] rfl rfl (by kernel_rfl) (by decide) (fun K hK => ?_)
            refine goes_ Tryd.func31 (by kernel_rfl) rfl #[.int .i64 k, .slice A7 len c7] (by rfl) rfl rfl (by simp only [List.map_toArray, List.map_cons, List.map_nil]; rfl) ?_
            with_reducible refine (CF34.out _ Fd1.out).mono ?_
            rintro e d2 ⟨rfl, hq⟩
            refine ⟨_, rfl, ?_⟩
            have Fd2 : Kp (Fr (fun _ => False) W22 d2) := ⟨Fd1.out.trans hq (fun _ _ h => h)⟩
            clear hq
            refine hK.out _ _ ⟨lds_blk (HBg2622.out.fr Fd2.out (fun h => h)) HRL.out, lds_blk (HBg1822.out.fr Fd2.out (fun h => h)) HRL.out, lds_blk (HBg922.out.fr Fd2.out (fun h => h)) HLF.out, lds_blk (HBg1122.out.fr Fd2.out (fun h => h)) HFO.out⟩ (fun hHeld => ?_)
            clear hK K
            refine norm_ (a' := ?_) ?_ ?_
            rotate_left
            · show Act.put _ (some 209) _ = _
              simp only [Act.put, List.setIfInBounds_toArray, List.set_cons_zero, List.set_cons_succ]
              rfl
            refine pure_ (i := 19) (N := some 210) (v := ?_) (a' := ?_) #[true, true, true, true, true, true, true, true, true, true, true, true, true, true, true, true, true, true, true, true, false, false] rfl rfl (by kernel_rfl) (fun _ _ _ h => h) (Or.inl ⟨by rfl, ?_⟩) ?_ ?_
            rotate_left
            · intro w'
              go_simp
              with_reducible rfl
            rotate_left
            · simp only [Act.put, List.setIfInBounds_toArray, List.set_cons_zero, List.set_cons_succ]
              rfl
            refine pure_ (i := 20) (N := some 211) (v := ?_) (a' := ?_) #[true, true, true, true, true, true, true, true, true, true, true, true, true, true, true, true, true, true, true, true, true, false] rfl rfl (by kernel_rfl) (fun _ _ _ h => h) (Or.inl ⟨by rfl, ?_⟩) ?_ ?_
            rotate_left
            · intro w'
              go_simp
              with_reducible rfl
            rotate_left
            · simp only [Act.put, List.setIfInBounds_toArray, List.set_cons_zero, List.set_cons_succ]
              rfl
            refine pure_ (i := 21) (N := some 6) (v := ?_) (a' := ?_) #[true, true, true, true, true, true, true, true, true, true, true, true, true, true, true, true, true, true, true, true, true, true] rfl rfl (by kernel_rfl) (fun _ _ _ h => h) (Or.inl ⟨by rfl, ?_⟩) ?_ ?_
            rotate_left
            · intro w'
              go_simp
              with_reducible rfl
            rotate_left
            · simp only [Act.put, List.setIfInBounds_toArray, List.set_cons_zero, List.set_cons_succ]
              rfl
            refine done_ (by kernel_rfl) ?_
            go_wp2_with fail
            go_ret
            exact ⟨rfl, HFw22.out.trans Fd2.out (fun _ _ h => h)⟩
          · have hp1 : decide ((0 : Int) < (len : Int)) = false := decide_eq_false (by omega)
            have hp2 : decide (0 < len) = false := decide_eq_false hz
            clear hz
            refine start_ (n := 13) (S := fun w' => True) (ds := []) #[false, false, false, false, false, false, false, false, false, false, false, false, false] (by kernel_rfl) rfl rfl trivial (fun hHeld => ?_)
            refine pure_ (i := 0) (N := some 178) (v := ?_) (a' := ?_) #[true, false, false, false, false, false, false, false, false, false, false, false, false] rfl rfl (by kernel_rfl) (fun _ _ _ h => h) (Or.inl ⟨by rfl, ?_⟩) ?_ ?_
            rotate_left
            · intro w'
              go_simp
              with_reducible rfl
            rotate_left
            · simp only [Act.put, List.setIfInBounds_toArray, List.set_cons_zero, List.set_cons_succ]
              rfl
            refine pure_ (i := 1) (N := some 179) (v := ?_) (a' := ?_) #[true, true, false, false, false, false, false, false, false, false, false, false, false] rfl rfl (by kernel_rfl) (fun _ _ _ h => h) (Or.inl ⟨by rfl, ?_⟩) ?_ ?_
            rotate_left
            · intro w'
              go_simp
              with_reducible rfl
            rotate_left
            · simp only [Act.put, List.setIfInBounds_toArray, List.set_cons_zero, List.set_cons_succ]
              rfl
            refine pure_ (i := 2) (N := some 180) (v := ?_) (a' := ?_) #[true, true, true, false, false, false, false, false, false, false, false, false, false] rfl rfl (by kernel_rfl) (fun _ _ _ h => h) (Or.inl ⟨by rfl, ?_⟩) ?_ ?_
            rotate_left
            · intro w'
              go_simp
              with_reducible rfl
            rotate_left
            · simp only [Act.put, List.setIfInBounds_toArray, List.set_cons_zero, List.set_cons_succ]
              rfl
            refine pure_ (i := 3) (N := some 181) (v := ?_) (a' := ?_) #[true, true, true, true, false, false, false, false, false, false, false, false, false] rfl rfl (by kernel_rfl) (fun _ _ _ h => h) (Or.inl ⟨by rfl, ?_⟩) ?_ ?_
            rotate_left
            · intro w'
              go_simp
              with_reducible rfl
            rotate_left
            · simp only [Act.put, List.setIfInBounds_toArray, List.set_cons_zero, List.set_cons_succ]
              rfl
            refine pure_ (i := 4) (N := some 182) (v := undef) (a' := ?_) #[true, true, true, true, true, false, false, false, false, false, false, false, false] rfl rfl (by kernel_rfl) (fun _ _ _ h => h) (Or.inr ⟨by rfl, rfl⟩) ?_ ?_
            rotate_left
            · simp only [Act.put, List.setIfInBounds_toArray, List.set_cons_zero, List.set_cons_succ]
              rfl
            refine pure_ (i := 5) (N := some 183) (v := undef) (a' := ?_) #[true, true, true, true, true, true, false, false, false, false, false, false, false] rfl rfl (by kernel_rfl) (fun _ _ _ h => h) (Or.inr ⟨by rfl, rfl⟩) ?_ ?_
            rotate_left
            · simp only [Act.put, List.setIfInBounds_toArray, List.set_cons_zero, List.set_cons_succ]
              rfl
            refine pure_ (i := 6) (N := some 184) (v := undef) (a' := ?_) #[true, true, true, true, true, true, true, false, false, false, false, false, false] rfl rfl (by kernel_rfl) (fun _ _ _ h => h) (Or.inr ⟨by rfl, rfl⟩) ?_ ?_
            rotate_left
            · simp only [Act.put, List.setIfInBounds_toArray, List.set_cons_zero, List.set_cons_succ]
              rfl
            refine pure_ (i := 7) (N := some 185) (v := undef) (a' := ?_) #[true, true, true, true, true, true, true, true, false, false, false, false, false] rfl rfl (by kernel_rfl) (fun _ _ _ h => h) (Or.inr ⟨by rfl, rfl⟩) ?_ ?_
            rotate_left
            · simp only [Act.put, List.setIfInBounds_toArray, List.set_cons_zero, List.set_cons_succ]
              rfl
            refine pure_ (i := 8) (N := some 186) (v := undef) (a' := ?_) #[true, true, true, true, true, true, true, true, true, false, false, false, false] rfl rfl (by kernel_rfl) (fun _ _ _ h => h) (Or.inr ⟨by rfl, rfl⟩) ?_ ?_
            rotate_left
            · simp only [Act.put, List.setIfInBounds_toArray, List.set_cons_zero, List.set_cons_succ]
              rfl
            refine pure_ (i := 9) (N := some 187) (v := undef) (a' := ?_) #[true, true, true, true, true, true, true, true, true, true, false, false, false] rfl rfl (by kernel_rfl) (fun _ _ _ h => h) (Or.inr ⟨by rfl, rfl⟩) ?_ ?_
            rotate_left
            · simp only [Act.put, List.setIfInBounds_toArray, List.set_cons_zero, List.set_cons_succ]
              rfl
            refine pure_ (i := 10) (N := some 188) (v := undef) (a' := ?_) #[true, true, true, true, true, true, true, true, true, true, true, false, false] rfl rfl (by kernel_rfl) (fun _ _ _ h => h) (Or.inr ⟨by rfl, rfl⟩) ?_ ?_
            rotate_left
            · simp only [Act.put, List.setIfInBounds_toArray, List.set_cons_zero, List.set_cons_succ]
              rfl
            refine pure_ (i := 11) (N := some 189) (v := undef) (a' := ?_) #[true, true, true, true, true, true, true, true, true, true, true, true, false] rfl rfl (by kernel_rfl) (fun _ _ _ h => h) (Or.inr ⟨by rfl, rfl⟩) ?_ ?_
            rotate_left
            · simp only [Act.put, List.setIfInBounds_toArray, List.set_cons_zero, List.set_cons_succ]
              rfl
            refine pure_ (i := 12) (N := some 190) (v := ?_) (a' := ?_) #[true, true, true, true, true, true, true, true, true, true, true, true, true] rfl rfl (by kernel_rfl) (fun _ _ _ h => h) (Or.inl ⟨by rfl, ?_⟩) ?_ ?_
            rotate_left
            · intro w'
              go_simp
              with_reducible rfl
            rotate_left
            · simp only [Act.put, List.setIfInBounds_toArray, List.set_cons_zero, List.set_cons_succ]
              rfl
            refine done_ (by kernel_rfl) ?_
            have HF22 : Kp (Fr (fun _ => False) W9 (W21.drew)) := ⟨HF21.out.trans ((Fr.refl (fun _ => False) W21).drew) (fun _ _ h => h)⟩
            have HBg1822 := Kp.mk (HBg1821.out.fr ((Fr.refl (fun _ => False) W21).drew) (fun h => h))
            have HBg2622 := Kp.mk (HBg26.out.fr ((Fr.refl (fun _ => False) W21).drew) (fun h => h))
            have HBg922 := Kp.mk (HBg99.out.fr HF22.out (fun h => h))
            have HBg1122 := Kp.mk (HBg119.out.fr HF22.out (fun h => h))
            have HR22 := Kp.mk (HR9.out.fr HF22.out)
            generalize W21.drew = W22 at HF22 HBg1822 HBg2622 HBg922 HBg1122 HR22 ⊢
            have HFw22 : Kp (Fr (fun _ => False) w W22) := ⟨(HF1.out.trans HF9.out (fun _ _ h => h)).trans HF22.out (fun _ _ h => h)⟩
            have CL34 : Kp (∀ W, Fr (fun _ => False) W22 W → Calls Tryd.prog 14 #[.int .i64 k, .slice AD dn cD] W fun e w' => e = .returned (.agg (bytes LF).toArray) ∧ Fr (fun _ => False) W w') := ⟨fun W hf => CLf.out W AD cD (HFw22.out.trans hf (fun _ _ h => h)) (HSD.out W (HFw22.out.trans hf (fun _ _ h => h)))⟩
            have CF34 : Kp (∀ W, Fr (fun _ => False) W22 W → Calls Tryd.prog 31 #[.int .i64 k, .slice A7 len c7] W fun e w' => e = .returned (.agg (bytes FO).toArray) ∧ Fr (fun _ => False) W w') := ⟨fun W hf => CFo.out W A7 c7 (HFw22.out.trans hf (fun _ _ h => h)) (HR22.out.fr hf)⟩
            clear HF21 HBg1821 HBg26 HBg99 HBg119 HR9
            go_upto_region 34 with (fail)
            refine start_ (n := 22) (S := fun w' => Lds w' 25 (.pointer (some ⟨g26, 0, none⟩)) (.agg (bytes RT).toArray) ∧ Lds w' 25 (.pointer (some ⟨g18, 0, none⟩)) (.agg (bytes RT).toArray) ∧ Lds w' 25 (.pointer (some ⟨g9, 0, none⟩)) (.agg (bytes LF).toArray) ∧ Lds w' 25 (.pointer (some ⟨g11, 0, none⟩)) (.agg (bytes FO).toArray)) (ds := []) #[false, false, false, false, false, false, false, false, false, false, false, false, false, false, false, false, false, false, false, false, false, false] (by kernel_rfl) rfl rfl ⟨lds_blk HBg2622.out.drew HRL.out, lds_blk HBg1822.out.drew HRL.out, lds_blk HBg922.out.drew HLF.out, lds_blk HBg1122.out.drew HFO.out⟩ (fun hHeld => ?_)
            refine pure_ (i := 0) (N := some 191) (v := ?_) (a' := ?_) #[true, false, false, false, false, false, false, false, false, false, false, false, false, false, false, false, false, false, false, false, false, false] rfl rfl (by kernel_rfl) (fun _ _ _ h => h) (Or.inl ⟨by rfl, ?_⟩) ?_ ?_
            rotate_left
            · intro w'
              go_simp
              with_reducible rfl
            rotate_left
            · simp only [Act.put, List.setIfInBounds_toArray, List.set_cons_zero, List.set_cons_succ]
              rfl
            refine pure_ (i := 1) (N := some 192) (v := ?_) (a' := ?_) #[true, true, false, false, false, false, false, false, false, false, false, false, false, false, false, false, false, false, false, false, false, false] rfl rfl (by kernel_rfl) (fun _ _ _ h => h) (Or.inl ⟨by rfl, ?_⟩) ?_ ?_
            rotate_left
            · intro w'
              go_simp
              with_reducible rfl
            rotate_left
            · simp only [Act.put, List.setIfInBounds_toArray, List.set_cons_zero, List.set_cons_succ]
              rfl
            refine pure_ (i := 2) (N := some 193) (v := ?_) (a' := ?_) #[true, true, true, false, false, false, false, false, false, false, false, false, false, false, false, false, false, false, false, false, false, false] rfl rfl (by kernel_rfl) (fun _ _ _ h => h) (Or.inl ⟨by rfl, ?_⟩) ?_ ?_
            rotate_left
            · intro w'
              go_simp
              with_reducible rfl
            rotate_left
            · simp only [Act.put, List.setIfInBounds_toArray, List.set_cons_zero, List.set_cons_succ]
              rfl
            refine take_ (i := 3) (N := some 194) (v := ?_) (a' := ?_) #[true, true, true, true, false, false, false, false, false, false, false, false, false, false, false, false, false, false, false, false, false, false] rfl rfl (by kernel_rfl) (fun _ _ _ h => h) (Or.inl ⟨by rfl, ?_⟩) hHeld ?_ ?_
            rotate_left
            · rintro w' ⟨s0, s1, s2, s3⟩
              refine Lds.run s0 (x := ?_) ?_ ?_
              · exact (Operand.tmp 26)
              · rfl
              · rfl
            rotate_left
            · simp only [Act.put, List.setIfInBounds_toArray, List.set_cons_zero, List.set_cons_succ]
              rfl
            refine take_ (i := 4) (N := some 195) (v := ?_) (a' := ?_) #[true, true, true, true, true, false, false, false, false, false, false, false, false, false, false, false, false, false, false, false, false, false] rfl rfl (by kernel_rfl) (fun _ _ _ h => h) (Or.inl ⟨by rfl, ?_⟩) hHeld ?_ ?_
            rotate_left
            · rintro w' ⟨s0, s1, s2, s3⟩
              refine Lds.run s1 (x := ?_) ?_ ?_
              · exact (Operand.tmp 18)
              · rfl
              · rfl
            rotate_left
            · simp only [Act.put, List.setIfInBounds_toArray, List.set_cons_zero, List.set_cons_succ]
              rfl
            refine pure_ (i := 5) (N := some 196) (v := ?_) (a' := ?_) #[true, true, true, true, true, true, false, false, false, false, false, false, false, false, false, false, false, false, false, false, false, false] rfl rfl (by kernel_rfl) (fun _ _ _ h => h) (Or.inl ⟨by rfl, ?_⟩) ?_ ?_
            rotate_left
            · intro w'
              go_simp
              with_reducible rfl
            rotate_left
            · simp only [Act.put, List.setIfInBounds_toArray, List.set_cons_zero, List.set_cons_succ]
              rfl
            refine pure_ (i := 6) (N := some 197) (v := ?_) (a' := ?_) #[true, true, true, true, true, true, true, false, false, false, false, false, false, false, false, false, false, false, false, false, false, false] rfl rfl (by kernel_rfl) (fun _ _ _ h => h) (Or.inl ⟨by rfl, ?_⟩) ?_ ?_
            rotate_left
            · intro w'
              go_simp
              with_reducible rfl
            rotate_left
            · simp only [Act.put, List.setIfInBounds_toArray, List.set_cons_zero, List.set_cons_succ]
              rfl
            refine pure_ (i := 7) (N := some 198) (v := ?_) (a' := ?_) #[true, true, true, true, true, true, true, true, false, false, false, false, false, false, false, false, false, false, false, false, false, false] rfl rfl (by kernel_rfl) (fun _ _ _ h => h) (Or.inl ⟨by rfl, ?_⟩) ?_ ?_
            rotate_left
            · intro w'
              go_simp
              with_reducible rfl
            rotate_left
            · simp only [Act.put, List.setIfInBounds_toArray, List.set_cons_zero, List.set_cons_succ]
              rfl
            refine pure_ (i := 9) (N := some 200) (v := ?_) (a' := ?_) #[true, true, true, true, true, true, true, true, false, true, false, false, false, false, false, false, false, false, false, false, false, false] rfl rfl (by kernel_rfl) (fun _ _ _ h => h) (Or.inl ⟨by rfl, ?_⟩) ?_ ?_
            rotate_left
            · intro w'
              go_simp
              with_reducible rfl
            rotate_left
            · simp only [Act.put, List.setIfInBounds_toArray, List.set_cons_zero, List.set_cons_succ]
              rfl
            refine pure_ (i := 10) (N := some 201) (v := ?_) (a' := ?_) #[true, true, true, true, true, true, true, true, false, true, true, false, false, false, false, false, false, false, false, false, false, false] rfl rfl (by kernel_rfl) (fun _ _ _ h => h) (Or.inl ⟨by rfl, ?_⟩) ?_ ?_
            rotate_left
            · intro w'
              go_simp
              with_reducible rfl
            rotate_left
            · simp only [Act.put, List.setIfInBounds_toArray, List.set_cons_zero, List.set_cons_succ]
              rfl
            refine take_ (i := 8) (N := some 199) (v := ?_) (a' := ?_) #[true, true, true, true, true, true, true, true, true, true, true, false, false, false, false, false, false, false, false, false, false, false] rfl rfl (by kernel_rfl) (fun _ _ _ h => h) (Or.inl ⟨by rfl, ?_⟩) hHeld ?_ ?_
            rotate_left
            · rintro w' ⟨s0, s1, s2, s3⟩
              refine Lds.run s2 (x := ?_) ?_ ?_
              · exact (Operand.tmp 9)
              · rfl
              · rfl
            rotate_left
            · simp only [Act.put, List.setIfInBounds_toArray, List.set_cons_zero, List.set_cons_succ]
              rfl
            refine one_ (i := 11) (N := some 202) #[true, true, true, true, true, true, true, true, true, true, true, true, false, false, false, false, false, false, false, false, false, false] rfl rfl (by kernel_rfl) (by decide) (fun K hK => ?_)
            refine goes_ Tryd.func14 (by kernel_rfl) rfl #[.int .i64 k, .slice AD dn cD] (by rfl) rfl rfl (by simp only [List.map_toArray, List.map_cons, List.map_nil]; rfl) ?_
            with_reducible refine (CL34.out _ ((Fr.refl (fun _ => False) W22).drew)).mono ?_
            rintro e d1 ⟨rfl, hq⟩
            refine ⟨_, rfl, ?_⟩
            have Fd1 : Kp (Fr (fun _ => False) W22 d1) := ⟨((Fr.refl (fun _ => False) W22).drew).trans hq (fun _ _ h => h)⟩
            clear hq
            refine hK.out _ _ ⟨lds_blk (HBg2622.out.fr Fd1.out (fun h => h)) HRL.out, lds_blk (HBg1822.out.fr Fd1.out (fun h => h)) HRL.out, lds_blk (HBg922.out.fr Fd1.out (fun h => h)) HLF.out, lds_blk (HBg1122.out.fr Fd1.out (fun h => h)) HFO.out⟩ (fun hHeld => ?_)
            clear hK K
            refine norm_ (a' := ?_) ?_ ?_
            rotate_left
            · show Act.put _ (some 202) _ = _
              simp only [Act.put, List.setIfInBounds_toArray, List.set_cons_zero, List.set_cons_succ]
              rfl
            refine pure_ (i := 12) (N := some 203) (v := ?_) (a' := ?_) #[true, true, true, true, true, true, true, true, true, true, true, true, true, false, false, false, false, false, false, false, false, false] rfl rfl (by kernel_rfl) (fun _ _ _ h => h) (Or.inl ⟨by rfl, ?_⟩) ?_ ?_
            rotate_left
            · intro w'
              go_simp
              with_reducible rfl
            rotate_left
            · simp only [Act.put, List.setIfInBounds_toArray, List.set_cons_zero, List.set_cons_succ]
              rfl
            refine pure_ (i := 13) (N := some 204) (v := ?_) (a' := ?_) #[true, true, true, true, true, true, true, true, true, true, true, true, true, true, false, false, false, false, false, false, false, false] rfl rfl (by kernel_rfl) (fun _ _ _ h => h) (Or.inl ⟨by rfl, ?_⟩) ?_ ?_
            rotate_left
            · intro w'
              go_simp
              with_reducible rfl
            rotate_left
            · simp only [Act.put, List.setIfInBounds_toArray, List.set_cons_zero, List.set_cons_succ]
              rfl
            refine pure_ (i := 14) (N := some 205) (v := ?_) (a' := ?_) #[true, true, true, true, true, true, true, true, true, true, true, true, true, true, true, false, false, false, false, false, false, false] rfl rfl (by kernel_rfl) (fun _ _ _ h => h) (Or.inl ⟨by rfl, ?_⟩) ?_ ?_
            rotate_left
            · intro w'
              go_simp
              with_reducible rfl
            rotate_left
            · simp only [Act.put, List.setIfInBounds_toArray, List.set_cons_zero, List.set_cons_succ]
              rfl
            refine pure_ (i := 16) (N := some 207) (v := ?_) (a' := ?_) #[true, true, true, true, true, true, true, true, true, true, true, true, true, true, true, false, true, false, false, false, false, false] rfl rfl (by kernel_rfl) (fun _ _ _ h => h) (Or.inl ⟨by rfl, ?_⟩) ?_ ?_
            rotate_left
            · intro w'
              go_simp
              with_reducible rfl
            rotate_left
            · simp only [Act.put, List.setIfInBounds_toArray, List.set_cons_zero, List.set_cons_succ]
              rfl
            refine pure_ (i := 17) (N := some 208) (v := ?_) (a' := ?_) #[true, true, true, true, true, true, true, true, true, true, true, true, true, true, true, false, true, true, false, false, false, false] rfl rfl (by kernel_rfl) (fun _ _ _ h => h) (Or.inl ⟨by rfl, ?_⟩) ?_ ?_
            rotate_left
            · intro w'
              go_simp
              with_reducible rfl
            rotate_left
            · simp only [Act.put, List.setIfInBounds_toArray, List.set_cons_zero, List.set_cons_succ]
              rfl
            refine take_ (i := 15) (N := some 206) (v := ?_) (a' := ?_) #[true, true, true, true, true, true, true, true, true, true, true, true, true, true, true, true, true, true, false, false, false, false] rfl rfl (by kernel_rfl) (fun _ _ _ h => h) (Or.inl ⟨by rfl, ?_⟩) hHeld ?_ ?_
            rotate_left
            · rintro w' ⟨s0, s1, s2, s3⟩
              refine Lds.run s3 (x := ?_) ?_ ?_
              · exact (Operand.tmp 11)
              · rfl
              · rfl
            rotate_left
            · simp only [Act.put, List.setIfInBounds_toArray, List.set_cons_zero, List.set_cons_succ]
              rfl
            refine one_ (i := 18) (N := some 209) #[true, true, true, true, true, true, true, true, true, true, true, true, true, true, true, true, true, true, true, false, false, false] rfl rfl (by kernel_rfl) (by decide) (fun K hK => ?_)
            refine goes_ Tryd.func31 (by kernel_rfl) rfl #[.int .i64 k, .slice A7 len c7] (by rfl) rfl rfl (by simp only [List.map_toArray, List.map_cons, List.map_nil]; rfl) ?_
            with_reducible refine (CF34.out _ Fd1.out).mono ?_
            rintro e d2 ⟨rfl, hq⟩
            refine ⟨_, rfl, ?_⟩
            have Fd2 : Kp (Fr (fun _ => False) W22 d2) := ⟨Fd1.out.trans hq (fun _ _ h => h)⟩
            clear hq
            refine hK.out _ _ ⟨lds_blk (HBg2622.out.fr Fd2.out (fun h => h)) HRL.out, lds_blk (HBg1822.out.fr Fd2.out (fun h => h)) HRL.out, lds_blk (HBg922.out.fr Fd2.out (fun h => h)) HLF.out, lds_blk (HBg1122.out.fr Fd2.out (fun h => h)) HFO.out⟩ (fun hHeld => ?_)
            clear hK K
            refine norm_ (a' := ?_) ?_ ?_
            rotate_left
            · show Act.put _ (some 209) _ = _
              simp only [Act.put, List.setIfInBounds_toArray, List.set_cons_zero, List.set_cons_succ]
              rfl
            refine pure_ (i := 19) (N := some 210) (v := ?_) (a' := ?_) #[true, true, true, true, true, true, true, true, true, true, true, true, true, true, true, true, true, true, true, true, false, false] rfl rfl (by kernel_rfl) (fun _ _ _ h => h) (Or.inl ⟨by rfl, ?_⟩) ?_ ?_
            rotate_left
            · intro w'
              go_simp
              with_reducible rfl
            rotate_left
            · simp only [Act.put, List.setIfInBounds_toArray, List.set_cons_zero, List.set_cons_succ]
              rfl
            refine pure_ (i := 20) (N := some 211) (v := ?_) (a' := ?_) #[true, true, true, true, true, true, true, true, true, true, true, true, true, true, true, true, true, true, true, true, true, false] rfl rfl (by kernel_rfl) (fun _ _ _ h => h) (Or.inl ⟨by rfl, ?_⟩) ?_ ?_
            rotate_left
            · intro w'
              go_simp
              with_reducible rfl
            rotate_left
            · simp only [Act.put, List.setIfInBounds_toArray, List.set_cons_zero, List.set_cons_succ]
              rfl
            refine pure_ (i := 21) (N := some 6) (v := ?_) (a' := ?_) #[true, true, true, true, true, true, true, true, true, true, true, true, true, true, true, true, true, true, true, true, true, true] rfl rfl (by kernel_rfl) (fun _ _ _ h => h) (Or.inl ⟨by rfl, ?_⟩) ?_ ?_
            rotate_left
            · intro w'
              go_simp
              with_reducible rfl
            rotate_left
            · simp only [Act.put, List.setIfInBounds_toArray, List.set_cons_zero, List.set_cons_succ]
              rfl
            refine done_ (by kernel_rfl) ?_
            go_wp2_with fail
            go_ret
            exact ⟨rfl, HFw22.out.trans Fd2.out (fun _ _ h => h)⟩

end Go.Proofs.YtjbhaopocabfaaaDoor.Sha
