/-
  The constants by the program and by the document: plain facts and the two walks.
-/
import Derived.Test.YtjcfnflkiialbaaDoorObsDo
import Derived.Test.YtjcfnflkiialbaaDoorKept
import Derived.Deep.DeepCutAuto
import Derived.Deep.CutBlock
namespace Go.Proofs.YtjcfnflkiialbaaDoor.Sha
open Go.RowKit Go.Proofs.YtjcfnflkiialbaaDoor.Mem Go.Proofs.YtjcfnflkiialbaaDoor.PShaConstants Go.Proofs.YtjcfnflkiialbaaDoorW.PrintWords Go.Proofs.YtjcfnflkiialbaaDoorW.PrintLast Go.Proofs.YtjcfnflkiialbaaDoorW.PrintMore
theorem bo_step (k : Nat) (X : Int) (ys : List Int) (j : Nat) (h0 : 0 ≤ X) (h1 : X < 18446744073709551616) (hj : j < ys.length) (hl : ys.length ≤ 1000) :
    ledgerref01_bytesOf.l0 (k + 1) X ys (j : Int) = ledgerref01_bytesOf.l0 k (X / 256) (ys.set j (X % 256)) ((j : Int) - 1) := by
  have e1 : IntKind.u64.wrap (Int.tdiv X 256) = X / 256 := by rw [Int.tdiv_eq_ediv_of_nonneg h0, wrap64u]; omega
  have e2 : Int.tmod X 256 % 256 = X % 256 := by rw [Int.tmod_eq_emod_of_nonneg h0]; omega
  have e3 : wrap64 ((j : Int) - 1) = (j : Int) - 1 := by unfold wrap64; omega
  rw [ledgerref01_bytesOf.l0, if_pos (by omega), if_pos (by omega), if_pos (by omega), e1, e2, e3, Int.toNat_natCast]
theorem bo_end (k : Nat) (X : Int) (ys : List Int) : ledgerref01_bytesOf.l0 (k + 1) X ys (-1) = some ys := by
  rw [ledgerref01_bytesOf.l0, if_neg (by omega)]
theorem bo4 (x : BitVec 32) : ledgerref01_bytesOf.f 5 (x.toNat : Int) 4 = some (layWord x 4) := by
  have hx := x.isLt
  have e : layWord x 4 = [(x.toNat : Int) / 16777216 % 256, (x.toNat : Int) / 65536 % 256, (x.toNat : Int) / 256 % 256, (x.toNat : Int) % 256] := by
    simp [layWord, List.range_succ, List.range_zero, BitVec.toNat_ushiftRight, Nat.shiftRight_eq_div_pow]
  rw [e]
  obtain ⟨X, hX⟩ : ∃ X : Int, X = (x.toNat : Int) := ⟨_, rfl⟩
  rw [← hX]
  have h0 : 0 ≤ X := by omega
  have h1 : X < 4294967296 := by omega
  clear hX e hx
  unfold ledgerref01_bytesOf.f
  rw [if_pos (by omega), if_pos (by decide), show List.replicate (4 : Int).toNat (0 : Int) = [0, 0, 0, 0] from rfl, show wrap64 (4 - 1) = ((3 : Nat) : Int) from by unfold wrap64; decide]
  refine (bo_step _ _ _ 3 h0 (by omega) (by simp) (by simp)).trans ?_
  refine (bo_step _ _ _ 2 (by omega) (by omega) (by simp) (by simp)).trans ?_
  refine (bo_step _ _ _ 1 (by omega) (by omega) (by simp) (by simp)).trans ?_
  refine (bo_step _ _ _ 0 (by omega) (by omega) (by simp) (by simp)).trans ?_
  refine (bo_end _ _ _).trans ?_
  simp only [List.set_cons_succ, List.set_cons_zero, Option.some.injEq, List.cons.injEq, and_true]
  omega
theorem bo8 (x : BitVec 64) : ledgerref01_bytesOf.f 9 (x.toNat : Int) 8 = some (layWord x 8) := by
  have hx := x.isLt
  have e : layWord x 8 = [(x.toNat : Int) / 72057594037927936 % 256, (x.toNat : Int) / 281474976710656 % 256, (x.toNat : Int) / 1099511627776 % 256, (x.toNat : Int) / 4294967296 % 256, (x.toNat : Int) / 16777216 % 256, (x.toNat : Int) / 65536 % 256, (x.toNat : Int) / 256 % 256, (x.toNat : Int) % 256] := by
    simp [layWord, List.range_succ, List.range_zero, BitVec.toNat_ushiftRight, Nat.shiftRight_eq_div_pow]
  rw [e]
  obtain ⟨X, hX⟩ : ∃ X : Int, X = (x.toNat : Int) := ⟨_, rfl⟩
  rw [← hX]
  have h0 : 0 ≤ X := by omega
  have h1 : X < 18446744073709551616 := by omega
  clear hX e hx
  unfold ledgerref01_bytesOf.f
  rw [if_pos (by omega), if_pos (by decide), show List.replicate (8 : Int).toNat (0 : Int) = [0, 0, 0, 0, 0, 0, 0, 0] from rfl, show wrap64 (8 - 1) = ((7 : Nat) : Int) from by unfold wrap64; decide]
  refine (bo_step _ _ _ 7 h0 (by omega) (by simp) (by simp)).trans ?_
  refine (bo_step _ _ _ 6 (by omega) (by omega) (by simp) (by simp)).trans ?_
  refine (bo_step _ _ _ 5 (by omega) (by omega) (by simp) (by simp)).trans ?_
  refine (bo_step _ _ _ 4 (by omega) (by omega) (by simp) (by simp)).trans ?_
  refine (bo_step _ _ _ 3 (by omega) (by omega) (by simp) (by simp)).trans ?_
  refine (bo_step _ _ _ 2 (by omega) (by omega) (by simp) (by simp)).trans ?_
  refine (bo_step _ _ _ 1 (by omega) (by omega) (by simp) (by simp)).trans ?_
  refine (bo_step _ _ _ 0 (by omega) (by omega) (by simp) (by simp)).trans ?_
  refine (bo_end _ _ _).trans ?_
  simp only [List.set_cons_succ, List.set_cons_zero, Option.some.injEq, List.cons.injEq, and_true]
  omega
def cl : Bool → List Int
  | true => K512.flatMap fun x => layWord x 8
  | false => K256.flatMap fun x => layWord x 4
theorem cubes_high : (List.range 64).all (fun i => (K512.getD i 0).toNat / 4294967296 == (K256.getD i 0).toNat) = true := by decide +kernel
theorem K256_len : K256.length = 64 := by decide +kernel
theorem K512_len : K512.length = 80 := by decide +kernel
/-- the three tables that ShaConstants reads -/
structure CLaid (w : World) : Prop where
  size : low ≤ w.heap.size
  r256 : C32.Consts w 0 K256
  r512 : C64.Consts w 1 K512
  cubes : ∀ i, i < 80 → w.cell? ⟨2, i, none⟩ = some (.int .u64 ((K512.getD i 0).toNat : Int))
theorem CLaid.fr {w w1 : World} (h : CLaid w) (hf : Fr (fun _ => False) w w1) : CLaid w1 := by
  have hb : ∀ k, k < low → w1.heap[k]? = w.heap[k]? := fun k hk => hf.block k (Nat.lt_of_lt_of_le hk h.size) (fun h => h)
  exact ⟨Nat.le_trans h.size hf.size, h.r256.fr hf (fun h => h), h.r512.fr hf (fun h => h), fun i hi => (World.cell?_of_block (hb (2 : Nat) (by decide))).trans (h.cubes i hi)⟩
/-- what both answer -/
def cspec (n : Int) : Int × List Int := if n = 256 then (0, cl false) else if n = 512 then (0, cl true) else (10, [])
def CAns (w : World) (n : Int) (e : Ending) (w' : World) : Prop :=
  ∃ v, e = .returned (.tuple #[v, .int .i64 (cspec n).1]) ∧ w'.ownsRow low 5 1 v (cspec n).2.length (bytes (cspec n).2) ∧ (∀ k, v.ownBlock = some k → w.heap.size ≤ k) ∧ Fr (fun _ => False) w w'
theorem sconst_calls (n : Int) (w : World) (hL : CLaid w) : Calls Tryd.prog 14 #[.int .i64 n] w (CAns w n) := by
  by_cases h1 : n = 256
  · subst h1
    have hC : Kd.C (Kd.int .u32) w (some ⟨0, 0, none⟩) 64 (Y32.nats K256) := by
      have hl : (Y32.nats K256).length = 64 := by rw [Y32.nats, List.length_map]; exact K256_len
      rw [← hl]
      refine Kd.C_of_reads (d := (0 : Int)) ⟨rfl, by rw [hl]; decide, fun _ => ⟨_, rfl, fun j hj => ?_⟩⟩
      have hj' : j < K256.length := by rw [hl] at hj; rw [K256_len]; exact hj
      rw [Addr.add_lit, Nat.zero_add, hL.r256.2 j (by rw [← K256_len]; exact hj')]
      simp [Y32.nats, List.getElem?_eq_getElem hj']
    refine (Wk.const256_calls (Y32.nats K256) (by rw [Y32.nats, List.length_map]; exact K256_len) _ _ (Y32.f_is K256 (by rw [K256_len]; decide) [] (by simp)) w hC).mono ?_
    rintro e w' ⟨v, rfl, hR, hB⟩
    have hO := Kd.own_of_R hR
    exact ⟨v, rfl, own_weaken hO hL.size, Go.Proofs.YtjcfnflkiialbaaDoorW.PrintWords.own_base hO, Fr.of_below hB _⟩
  · by_cases h2 : n = 512
    · subst h2
      have hC : Kd.C (Kd.int .u64) w (some ⟨1, 0, none⟩) 80 (Y64.nats K512) := by
        have hl : (Y64.nats K512).length = 80 := by rw [Y64.nats, List.length_map]; exact K512_len
        rw [← hl]
        refine Kd.C_of_reads (d := (0 : Int)) ⟨rfl, by rw [hl]; decide, fun _ => ⟨_, rfl, fun j hj => ?_⟩⟩
        have hj' : j < K512.length := by rw [hl] at hj; rw [K512_len]; exact hj
        rw [Addr.add_lit, Nat.zero_add, hL.r512.2 j (by rw [← K512_len]; exact hj')]
        simp [Y64.nats, List.getElem?_eq_getElem hj']
      refine (Wk.const512_calls (Y64.nats K512) (by rw [Y64.nats, List.length_map]; exact K512_len) _ _ (Y64.f_is K512 (by rw [K512_len]; decide) [] (by simp)) w hC).mono ?_
      rintro e w' ⟨v, rfl, hR, hB⟩
      have hO := Kd.own_of_R hR
      exact ⟨v, rfl, own_weaken hO hL.size, Go.Proofs.YtjcfnflkiialbaaDoorW.PrintWords.own_base hO, Fr.of_below hB _⟩
    · refine (Wk.const_no n h1 h2 w).mono ?_
      rintro e w' ⟨rfl, hD⟩
      have e : cspec n = (10, []) := by unfold cspec; rw [if_neg h1, if_neg h2]
      refine ⟨.slice none 0 0, by rw [e], by rw [e]; exact ⟨rfl, .inl ⟨rfl, rfl⟩⟩, (fun k hk => by cases hk), Fr.of_below hD.below _⟩
theorem bo_calls4 (x : BitVec 32) (w : World) : Calls Tryd.prog 47 #[.int .u64 (x.toNat : Int), .int .i64 4] w fun e w' => ∃ A c, e = .returned (.slice A 4 c) ∧ Src w' (fun _ => False) A c (layWord x 4) ∧ Fr (fun _ => False) w w' := by
  refine (ledgerref01_bytesOf.calls 5 _ 4 _ w (bo4 x)).mono ?_
  rintro e w' ⟨v, rfl, hR, hB⟩
  obtain ⟨A, c, rfl, hs⟩ := Src.of_own (Kd.own_of_R hR) (fun _ => False) (fun _ _ h => h)
  exact ⟨A, c, by simp [layWord], hs, Fr.of_below hB _⟩
theorem bo_calls8 (x : BitVec 64) (w : World) : Calls Tryd.prog 47 #[.int .u64 (x.toNat : Int), .int .i64 8] w fun e w' => ∃ A c, e = .returned (.slice A 8 c) ∧ Src w' (fun _ => False) A c (layWord x 8) ∧ Fr (fun _ => False) w w' := by
  refine (ledgerref01_bytesOf.calls 9 _ 8 _ w (bo8 x)).mono ?_
  rintro e w' ⟨v, rfl, hR, hB⟩
  obtain ⟨A, c, rfl, hs⟩ := Src.of_own (Kd.own_of_R hR) (fun _ => False) (fun _ _ h => h)
  exact ⟨A, c, by simp [layWord], hs, Fr.of_below hB _⟩
theorem wide_calls1 (w : World) : Calls Tryd.prog 48 #[.int .i64 1] w fun e w' => e = .returned (.int .i64 4) ∧ Fr (fun _ => False) w w' :=
  (ledgerref01_wide.calls 1 4 w (by unfold ledgerref01_wide.f wrap64; decide)).mono fun e w' ⟨h1, h2⟩ => ⟨h1, Fr.of_below h2.below _⟩
theorem wide_calls2 (w : World) : Calls Tryd.prog 48 #[.int .i64 2] w fun e w' => e = .returned (.int .i64 8) ∧ Fr (fun _ => False) w w' :=
  (ledgerref01_wide.calls 2 8 w (by unfold ledgerref01_wide.f wrap64; decide)).mono fun e w' ⟨h1, h2⟩ => ⟨h1, Fr.of_below h2.below _⟩
theorem cl_snoc {w : Nat} (l : List (BitVec w)) (sz i : Nat) (h : i < l.length) : ((l.take i).flatMap fun x => layWord x sz) ++ layWord (l.getD i 0) sz = (l.take (i + 1)).flatMap fun x => layWord x sz := by
  rw [List.take_succ_eq_append_getElem h, List.flatMap_append]
  simp [h]
theorem cl_len {w : Nat} (sz : Nat) : ∀ l : List (BitVec w), (l.flatMap fun x => layWord x sz).length = l.length * sz
  | [] => by simp
  | x :: l => by rw [List.flatMap_cons, List.length_append, cl_len sz l, List.length_cons]; simp [layWord, Nat.add_mul]; omega
set_option maxHeartbeats 2000000 in
set_option maxRecDepth 100000 in
theorem rconst_calls (n : Int) (w : World) (hL : CLaid w) : Calls Tryd.prog 15 #[.int .i64 n] w (CAns w n) := by
  have HL := Kp.mk hL
  have HLw := Kp.mk hL.size
  by_cases h1 : n = 256
  · subst h1
    have hk := ledgerref01_KindOf.calls 256 1 w (by unfold ledgerref01_KindOf.f; rw [if_pos rfl])
    clear hL
    go_enter Tryd.func15, Tryd.ntmps15
    go_wp2_with fail
    refine hk.mono ?_
    rintro e w1 ⟨rfl, hD⟩
    have O1 : Kp (Objs w w1 ([] ++ [Ob.row (.slice none 0 0) ([] : List Int)])) := ⟨((Objs.nil w).below (Fr.of_below hD.below _)).nilrow⟩
    clear hD hk
    go_wp2
    go_loopw [5, 6] (fun s5 s6 wr => ∃ (i len c : Nat) (A : Option Addr), s5 = .slice A len c ∧ s6 = .int .i64 (i : Int) ∧ Kp (i ≤ 64) ∧ Kp (len = 4 * i) ∧ Kp (Objs w wr [Ob.row (.slice A len c) ((K256.take i).flatMap fun x => layWord x 4)])) (fun _ s6 _ => 64 - (intOf s6).toNat)
    case atStart => exact ⟨0, 0, 0, none, rfl, rfl, ⟨by omega⟩, ⟨rfl⟩, O1⟩
    case round =>
      clear O1
      obtain ⟨i, len, c, A, rfl, rfl, hi, hl, HO⟩ := hrel
      have hi' := hi.out
      by_cases hlt : i < 64
      · have hc := (HL.out.fr HO.out.fr).cubes i (by omega)
        have hhi : (K512.getD i 0).toNat / 4294967296 = (K256.getD i 0).toNat := by
          have := List.all_eq_true.1 cubes_high i (List.mem_range.2 hlt)
          simpa using this
        have hsn := cl_snoc K256 4 i (by rw [K256_len]; exact hlt)
        have htl : ((K256.take i).flatMap fun x => layWord x 4).length = len := by rw [cl_len, List.length_take, K256_len, hl.out]; omega
        obtain ⟨cu, hcu⟩ : ∃ cu, cu = (K512.getD i 0).toNat := ⟨_, rfl⟩
        obtain ⟨x, hx⟩ : ∃ x, x = K256.getD i 0 := ⟨_, rfl⟩
        rw [← hcu] at hc hhi
        rw [← hx] at hhi hsn
        generalize ((K256.take i).flatMap fun x => layWord x 4) = L at *
        have HSN := Kp.mk hsn
        have HTL := Kp.mk htl
        have HHI := Kp.mk hhi
        clear hcu hx hsn htl hhi
        go_wp2_with fail
        refine (wide_calls1 _).mono ?_
        rintro e w2 ⟨rfl, hf⟩
        have HO2 := Kp.mk (HO.out.below hf)
        clear hf
        rw [show ((cu : Nat) : Int) / 4294967296 = ((cu / 4294967296 : Nat) : Int) from by omega, HHI.out] at *
        go_wp2_with fail
        refine (bo_calls4 x w2).mono ?_
        rintro e w3 ⟨A3, c3, rfl, hs, hf⟩
        have HS3 := Kp.mk hs
        have HO3 := Kp.mk (HO2.out.below hf)
        clear hs hf
        go_wp2_with (at_builtin; refine wpList_appendS rfl (.tmp 26) (.tmp 30) rfl rfl low (.slice A len c) L rfl (by exact (show w3.ownsRow low 5 1 (.slice A len c) L.length (bytes L) from HO3.out.inv 0 _ rfl)) A3 4 c3 (layWord x 4) rfl rfl (by exact HS3.out) (by rw [HTL.out]; have := hl.out; have : (layWord x 4).length = 4 := rfl; omega) (by exact Nat.le_trans HLw.out HO3.out.fr.size) ?_; intro v4 w4 hown hgr hat; rw [HSN.out] at hown; obtain ⟨Ay, cy, hv4, _⟩ := own_shape hown; subst hv4; have HO4 := Kp.mk (HO3.out.append 0 rfl hown hgr hat); clear hown hgr hat)
        have hl1 : ((K256.take (i + 1)).flatMap fun x => layWord x 4).length = 4 * (i + 1) := by rw [cl_len, List.length_take, K256_len]; omega
        go_roundw
        case rel =>
          refine ⟨i + 1, 4 * (i + 1), cy, Ay, ?_, by go_num, ⟨hlt⟩, ⟨rfl⟩, ⟨?_⟩⟩
          · first | rw [hl1] | (congr 1; rw [← hl1]; simp)
          · have h := HO4.out
            rw [hl1] at h
            exact h
        case measure => simp [intOf] <;> omega
      · obtain rfl : i = 64 := by omega
        have hle : (K256.take 64).flatMap (fun x => layWord x 4) = cl false := by
          rw [List.take_of_length_le (by rw [K256_len]; exact Nat.le_refl _)]
          rfl
        have hlen : (cl false).length = len := by
          show (K256.flatMap fun x => layWord x 4).length = _
          rw [cl_len, K256_len, hl.out]
        rw [hle] at HO
        go_wp2
        go_ret2
        refine ⟨_, rfl, ?_, fun k hk => HO.out.high (i := 0) rfl hk, HO.out.fr⟩
        have h : wr.ownsRow low 5 1 (.slice A len c) (cl false).length (bytes (cl false)) := HO.out.inv 0 _ rfl
        exact h
  · by_cases h2 : n = 512
    · subst h2
      have hk := ledgerref01_KindOf.calls 512 2 w (by unfold ledgerref01_KindOf.f; rw [if_neg (by decide), if_pos rfl])
      clear hL
      go_enter Tryd.func15, Tryd.ntmps15
      go_wp2_with fail
      refine hk.mono ?_
      rintro e w1 ⟨rfl, hD⟩
      have O1 : Kp (Objs w w1 ([] ++ [Ob.row (.slice none 0 0) ([] : List Int)])) := ⟨((Objs.nil w).below (Fr.of_below hD.below _)).nilrow⟩
      clear hD hk
      go_wp2
      go_loopw [5, 6] (fun s5 s6 wr => ∃ (i len c : Nat) (A : Option Addr), s5 = .slice A len c ∧ s6 = .int .i64 (i : Int) ∧ Kp (i ≤ 80) ∧ Kp (len = 8 * i) ∧ Kp (Objs w wr [Ob.row (.slice A len c) ((K512.take i).flatMap fun x => layWord x 8)])) (fun _ s6 _ => 80 - (intOf s6).toNat)
      case atStart => exact ⟨0, 0, 0, none, rfl, rfl, ⟨by omega⟩, ⟨rfl⟩, O1⟩
      case round =>
        clear O1
        obtain ⟨i, len, c, A, rfl, rfl, hi, hl, HO⟩ := hrel
        have hi' := hi.out
        by_cases hlt : i < 80
        · have hc := (HL.out.fr HO.out.fr).cubes i (by omega)
          have hsn := cl_snoc K512 8 i (by rw [K512_len]; exact hlt)
          have htl : ((K512.take i).flatMap fun x => layWord x 8).length = len := by rw [cl_len, List.length_take, K512_len, hl.out]; omega
          obtain ⟨x, hx⟩ : ∃ x, x = K512.getD i 0 := ⟨_, rfl⟩
          rw [← hx] at hc hsn
          generalize ((K512.take i).flatMap fun x => layWord x 8) = L at *
          have HSN := Kp.mk hsn
          have HTL := Kp.mk htl
          clear hx hsn htl
          go_wp2_with fail
          refine (wide_calls2 _).mono ?_
          rintro e w2 ⟨rfl, hf⟩
          have HO2 := Kp.mk (HO.out.below hf)
          clear hf
          go_wp2_with fail
          refine (bo_calls8 x w2).mono ?_
          rintro e w3 ⟨A3, c3, rfl, hs, hf⟩
          have HS3 := Kp.mk hs
          have HO3 := Kp.mk (HO2.out.below hf)
          clear hs hf
          go_wp2_with (at_builtin; refine wpList_appendS rfl (.tmp 26) (.tmp 30) rfl rfl low (.slice A len c) L rfl (by exact (show w3.ownsRow low 5 1 (.slice A len c) L.length (bytes L) from HO3.out.inv 0 _ rfl)) A3 8 c3 (layWord x 8) rfl rfl (by exact HS3.out) (by rw [HTL.out]; have := hl.out; have : (layWord x 8).length = 8 := rfl; omega) (by exact Nat.le_trans HLw.out HO3.out.fr.size) ?_; intro v4 w4 hown hgr hat; rw [HSN.out] at hown; obtain ⟨Ay, cy, hv4, _⟩ := own_shape hown; subst hv4; have HO4 := Kp.mk (HO3.out.append 0 rfl hown hgr hat); clear hown hgr hat)
          have hl1 : ((K512.take (i + 1)).flatMap fun x => layWord x 8).length = 8 * (i + 1) := by rw [cl_len, List.length_take, K512_len]; omega
          go_roundw
          case rel =>
            refine ⟨i + 1, 8 * (i + 1), cy, Ay, ?_, by go_num, ⟨hlt⟩, ⟨rfl⟩, ⟨?_⟩⟩
            · first | rw [hl1] | (congr 1; rw [← hl1]; simp)
            · have h := HO4.out
              rw [hl1] at h
              exact h
          case measure => simp [intOf] <;> omega
        · obtain rfl : i = 80 := by omega
          have hle : (K512.take 80).flatMap (fun x => layWord x 8) = cl true := by
            rw [List.take_of_length_le (by rw [K512_len]; exact Nat.le_refl _)]
            rfl
          have hlen : (cl true).length = len := by
            show (K512.flatMap fun x => layWord x 8).length = _
            rw [cl_len, K512_len, hl.out]
          rw [hle] at HO
          go_wp2
          go_ret2
          refine ⟨_, rfl, ?_, fun k hk => HO.out.high (i := 0) rfl hk, HO.out.fr⟩
          have h : wr.ownsRow low 5 1 (.slice A len c) (cl true).length (bytes (cl true)) := HO.out.inv 0 _ rfl
          exact h
    · have hk := ledgerref01_KindOf.calls n 0 w (by unfold ledgerref01_KindOf.f; rw [if_neg h1, if_neg h2])
      have e : cspec n = (10, []) := by unfold cspec; rw [if_neg h1, if_neg h2]
      have HE := Kp.mk e
      clear hL e h1 h2
      go_enter Tryd.func15, Tryd.ntmps15
      go_wp2_with fail
      refine hk.mono ?_
      rintro e w1 ⟨rfl, hD⟩
      have HD := Kp.mk hD
      clear hD hk
      go_wp2
      go_ret2
      exact ⟨.slice none 0 0, by rw [HE.out]; rfl, by rw [HE.out]; exact ⟨rfl, .inl ⟨rfl, rfl⟩⟩, (fun k hk => by cases hk), Fr.of_below HD.out.below _⟩
end Go.Proofs.YtjcfnflkiialbaaDoor.Sha
