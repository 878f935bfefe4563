/-
  ShaRoots: each round constant, behind the whole number of the cube root of its prime, is the greatest number whose cube is not above that prime, in units of its last bit. (A closed statement: no argument. The round constants are those that the program's text lays: the card ties them.)
-/
import Derived.Test.YtjcfnflkiialbaaDoorRoots
import Derived.Test.YtjcfnflkiialbaaDoorConst
import Derived.Test.YtjcfnflkiialbaaDoorCards
import Derived.Test.YtjcfnflkiialbaaDoorTie
import Derived.WalkKit
import Derived.ProofKit
import Derived.OpenShut
import Derived.Deep.DeepHandedRow
import Derived.Lib.LaidTab
import Derived.Lib.LaidU8
namespace Go.Proofs.YtjcfnflkiialbaaDoor.Wk
open Go.RowKit Go.Proofs.YtjcfnflkiialbaaDoor.PShaConstants Go.Proofs.YtjcfnflkiialbaaDoorW.PrintWords Go.Proofs.YtjcfnflkiialbaaDoorW.PrintLast Go.Proofs.YtjcfnflkiialbaaDoorW.PrintMore Go.Proofs.YtjcfnflkiialbaaDoor.Mem
theorem rd_range (xs : List Int) (h : xs.all (fun x => decide (0 ≤ x) && decide (x ≤ 255)) = true) (i : Int) : 0 ≤ rd xs i ∧ rd xs i ≤ 255 := by
  unfold rd
  rw [List.getD_eq_getElem?_getD]
  cases hx : xs[i.toNat]? with
  | none => simp
  | some x =>
    have := List.all_eq_true.1 h x (List.mem_of_getElem? hx)
    simp at this
    simpa using this
theorem cube_of_ok (p n : Nat) (hp2 : 2 ≤ p) (hp : p < 410) (hn0 : 0 < n) (hn : n ≤ 100) (xs : List Int) (h : cubeOk p n xs = true) (A : Option Addr) (m c : Nat) (hm : m = 2 * n) (hc : 2 * n ≤ c) (w : World) (hC : Kd.C (Kd.int .u8) w A (2 * n) xs) :
    Calls Tryd.prog 21 #[.int .i64 p, .slice A m c] w fun e w' => e = .returned (.bool true) ∧ Below w.heap.size w w' := by
  subst hm
  unfold cubeOk at h
  simp only [Bool.and_eq_true, beq_iff_eq, Option.bind_eq_some_iff] at h
  obtain ⟨⟨hx, hx0⟩, t1, e1, t2, e2, b1, e3, up, e4, t3, e5, t4, e6, b2, e7, hb⟩ := h
  have hb' : b1 = false ∧ b2 = true := by
    have := Option.some.inj hb
    cases b1 <;> cases b2 <;> simp_all
  obtain ⟨rfl, rfl⟩ := hb'
  have hr := List.all_eq_true.1 root_ok p (List.mem_range.2 hp)
  simp only [Bool.or_eq_true, decide_eq_true_eq, Bool.and_eq_true] at hr
  rcases hr with hr | ⟨hr1, hr2⟩
  · omega
  · have hQ : rootOf p ≤ 10 := by unfold rootOf; repeat (first | omega | split)
    exact cube_calls (p : Int) n hn0 hn xs (of_decide_eq_true hx) (rd_range xs hx0) A c hc w hC (rootOf p) hQ
      (fun q hq => of_decide_eq_true (List.all_eq_true.1 hr1 q (List.mem_range.2 hq))) hr2 200 t1 t2 up t3 t4 e1 e2 e3 e4 e5 e6 e7
theorem part_C {w : World} {b off n : Nat} {xs : List Int} (hx : xs.length = n) (hc : ∀ i, i < n → w.cell? ⟨b, off + i, none⟩ = some (.int .u8 (rd xs (i : Int)))) (i m : Nat) (him : i + m ≤ n) (hm : m ≤ 1000) :
    Kd.C (Kd.int .u8) w (some ⟨b, off + i, none⟩) m (part xs i m) := by
  refine Kd.C_of_reads (d := (0 : Int)) ⟨by simp [part]; omega, by omega, fun _ => ⟨_, rfl, fun j hj => ?_⟩⟩
  rw [Addr.add_lit, Nat.add_assoc, hc (i + j) (by omega)]
  simp only [rd, part, List.getD_eq_getElem?_getD, List.getElem?_take, List.getElem?_drop, hj, if_true, Int.toNat_natCast]
theorem prime_fact (p : Nat) (h2 : 2 ≤ p) (hp : p < 410) : ledgerlaw01_prime.f 100 (p : Int) = some (primes.contains p) ∧ kOf p < 80 ∧ (primes.contains p = true → primes.getD (kOf p) 0 = p ∧ kOf (p + 1) = kOf p + 1) ∧ (primes.contains p = false → kOf (p + 1) = kOf p) := by
  have h := List.all_eq_true.1 prime_ok p (List.mem_range.2 hp)
  simp only [Bool.or_eq_true, decide_eq_true_eq, Bool.and_eq_true, beq_iff_eq] at h
  rcases h with h | ⟨⟨h1, h3⟩, h4⟩
  · omega
  · refine ⟨h1, h3, fun hc => ?_, fun hc => ?_⟩
    · rw [if_pos hc] at h4; simpa using h4
    · rw [if_neg (by rw [hc]; decide)] at h4; simpa using h4
theorem great_fact (j : Nat) (h : j < 80) : cubeOk (primes.getD j 0) 4 (part r640 (8 * j) 8) = true := List.all_eq_true.1 great_ok j (List.mem_range.2 h)
theorem small_fact (j : Nat) (h : j < 64) : cubeOk (primes.getD j 0) 2 (part r256 (4 * j) 4) = true := List.all_eq_true.1 small_ok j (List.mem_range.2 h)
/-- what a call is known to read of the constants, wherever they lie -/
def Holds (w : World) (b off n : Nat) (xs : List Int) : Prop := b < w.heap.size ∧ ∀ i, i < n → w.cell? ⟨b, off + i, none⟩ = some (.int .u8 (rd xs (i : Int)))
theorem Holds.below {w w1 : World} {b off n : Nat} {xs : List Int} (h : Holds w b off n xs) (hb : Below w.heap.size w w1) : Holds w1 b off n xs :=
  ⟨Nat.lt_of_lt_of_le h.1 hb.size, fun i hi => (hb.cell (p := ⟨b, off + i, none⟩) h.1).trans (h.2 i hi)⟩

theorem num_zero (w : World) : Calls Tryd.prog 16 #[.int .i64 0] w fun e w' => e = .returned (.int .i64 0) ∧ w = w' := by
  go_enter Tryd.func16, Tryd.ntmps16
  go_wp2
  go_ret
  exact ⟨rfl, rfl⟩
set_option maxHeartbeats 4000000 in
set_option maxRecDepth 100000 in
theorem roots_walk (w : World) (hC2 : Kd.C (Kd.int .u32) w (some ⟨0, 0, none⟩) 64 k256) (hC5 : Kd.C (Kd.int .u64) w (some ⟨1, 0, none⟩) 80 k512) :
    Calls Tryd.prog 4 #[] w fun e w' => e = .returned (.bool true) ∧ Below w.heap.size w w' := by
  have HC2 := Kp.mk hC2
  have HC5 := Kp.mk hC5
  clear hC2 hC5
  go_enter Tryd.func4, Tryd.ntmps4
  go_wp2_with fail
  refine (const256_calls k256 k256_len r256 1000 lay256 _ HC2.out).mono ?_
  rintro e w1 ⟨v, rfl, hR, B1⟩
  obtain ⟨A1, c1, rfl, l1, C1⟩ := Kd.R_reads hR
  rw [r256_len] at l1 C1 ⊢
  obtain ⟨b1, o1, rfl, hb1, hc1⟩ := c_open C1 (by omega)
  have H1 : Kp (Holds w1 b1 o1 256 r256) := ⟨⟨hb1, hc1⟩⟩
  have HC5' := Kp.mk (Kd.C_below HC5.out B1)
  have HF1 := Kp.mk B1
  clear hR C1 hb1 hc1 HC2 HC5 B1
  go_wp2_with fail
  refine (const512_calls k512 k512_len r640 1000 lay640 _ HC5'.out).mono ?_
  rintro e w2 ⟨v, rfl, hR, B2⟩
  obtain ⟨A2, c2, rfl, l2, C2⟩ := Kd.R_reads hR
  rw [r640_len] at l2 C2 ⊢
  obtain ⟨b2, o2, rfl, hb2, hc2⟩ := c_open C2 (by omega)
  have H2 : Kp (Holds w2 b2 o2 640 r640) := ⟨⟨hb2, hc2⟩⟩
  have H1' := Kp.mk (H1.out.below B2)
  have HF2 : Kp (Fr (fun _ => False) w w2) := ⟨(Fr.of_below HF1.out _).then_below B2⟩
  clear hR C2 hb2 hc2 HC5' HF1 H1 B2
  have L1 := Kp.mk l1
  have L2 := Kp.mk l2
  clear l1 l2
  have hnum := num_zero
  go_wp2_with (first | (go_at_call 16; (with_reducible refine (num_zero _).mono ?_); rintro e w' ⟨rfl, rfl⟩))
  clear hnum
  go_loopw [5, 6] (fun a i wr => ∃ (q p : Nat), a = .int .i64 q ∧ i = .int .i64 p ∧ Kp (q = kOf p) ∧ Kp (2 ≤ p) ∧ Kp (p ≤ 410) ∧ Kp (Holds wr b1 o1 256 r256) ∧ Kp (Holds wr b2 o2 640 r640) ∧ Kp (Fr (fun _ => False) w wr)) (fun _ i _ => 410 - (intOf i).toNat)
  case atStart => exact ⟨0, 2, rfl, rfl, ⟨kOf_start.symm⟩, ⟨by omega⟩, ⟨by omega⟩, H1', H2, HF2⟩
  case round =>
    clear H1' H2 HF2
    obtain ⟨q, p, rfl, rfl, G1, G2, G3, H1, H2, HF⟩ := hrel
    have hp2 := G2.out
    have hp4 := G3.out
    by_cases hlt : p < 410
    · obtain ⟨f1, f2, f3, f4⟩ := prime_fact p hp2 hlt
      rw [← G1.out] at f2 f3 f4
      cases hb : primes.contains p with
      | false =>
        rw [hb] at f1
        have F1 := Kp.mk f1
        have F4 := Kp.mk (f4 hb)
        clear f1 f3 f4 hb
        go_wp2_with fail
        refine (ledgerlaw01_prime.calls 100 (p : Int) false _ F1.out).mono ?_
        rintro e w3 ⟨rfl, ⟨nd, rfl⟩⟩
        go_wp2
        go_roundw
        case rel => exact ⟨q, p + 1, rfl, by go_num, ⟨F4.out.symm⟩, ⟨by omega⟩, ⟨by omega⟩, ⟨H1.out.below (pw_below_drewN (Below.refl _ _) nd)⟩, ⟨H2.out.below (pw_below_drewN (Below.refl _ _) nd)⟩, ⟨HF.out.drewN nd⟩⟩
        case measure => simp [intOf]; omega
      | true =>
        rw [hb] at f1
        have F1 := Kp.mk f1
        obtain ⟨f5, f6⟩ := f3 hb
        have F5 := Kp.mk f5
        have F6 := Kp.mk f6
        have hg := great_fact q f2
        rw [f5] at hg
        have HG := Kp.mk hg
        clear f1 f3 f4 hb f5 f6 hg
        go_wp2_with fail
        refine (ledgerlaw01_prime.calls 100 (p : Int) true _ F1.out).mono ?_
        rintro e w3 ⟨rfl, ⟨nd, rfl⟩⟩
        have H1 := Kp.mk (H1.out.below (pw_below_drewN (Below.refl _ _) nd))
        have H2 := Kp.mk (H2.out.below (pw_below_drewN (Below.refl _ _) nd))
        have HF := Kp.mk (HF.out.drewN nd)
        have hc1 : 256 ≤ c1 := L1.out
        have hc2 : 640 ≤ c2 := L2.out
        go_wp2_with fail
        refine (cube_of_ok p 4 hp2 hlt (by omega) (by omega) _ HG.out (some ⟨b2, o2 + 8 * q, none⟩) 8 (c2 - 8 * q) rfl (by omega) _ (part_C r640_len H2.out.2 (8 * q) 8 (by omega) (by omega))).mono ?_
        rintro e w3 ⟨rfl, B3⟩
        have H1 := Kp.mk (H1.out.below B3)
        have H2 := Kp.mk (H2.out.below B3)
        have HF := Kp.mk (HF.out.then_below B3)
        clear B3 HG
        by_cases h64 : q < 64
        · have hs := small_fact q h64
          rw [F5.out] at hs
          have HS := Kp.mk hs
          clear hs
          go_wp2_with fail
          refine (cube_of_ok p 2 hp2 hlt (by omega) (by omega) _ HS.out (some ⟨b1, o1 + 4 * q, none⟩) 4 (c1 - 4 * q) rfl (by omega) _ (part_C r256_len H1.out.2 (4 * q) 4 (by omega) (by omega))).mono ?_
          rintro e w4 ⟨rfl, B4⟩
          have H1 := Kp.mk (H1.out.below B4)
          have H2 := Kp.mk (H2.out.below B4)
          have HF := Kp.mk (HF.out.then_below B4)
          clear B4 HS
          go_wp2
          go_roundw
          case rel => exact ⟨q + 1, p + 1, by go_num, by go_num, ⟨F6.out.symm⟩, ⟨by omega⟩, ⟨by omega⟩, H1, H2, HF⟩
          case measure => simp [intOf]; omega
        · go_wp2
          go_roundw
          case rel => exact ⟨q + 1, p + 1, by go_num, by go_num, ⟨F6.out.symm⟩, ⟨by omega⟩, ⟨by omega⟩, H1, H2, HF⟩
          case measure => simp [intOf]; omega
    · obtain rfl : p = 410 := by omega
      have hq : q = 80 := G1.out.trans kOf_end
      subst hq
      go_wp2
      go_ret
      exact ⟨rfl, HF.out.below (fun _ _ h => h)⟩
end Go.Proofs.YtjcfnflkiialbaaDoor.Wk
namespace Go.Proofs.YtjcfnflkiialbaaDoor.shaRoots
open Go.ChangeShapes Go.WideShapes Go.ChangeAt Go.RowKit Go.Proofs.YtjcfnflkiialbaaDoor.Wk
theorem own : ownKnob Tryd.prog.godebug = none := by kernel_rfl
theorem g256 : Tryd.prog.globalNamed "ledger/sha.rounds256" = some 0 := by kernel_rfl
theorem g512 : Tryd.prog.globalNamed "ledger/sha.rounds512" = some 1 := by kernel_rfl
theorem g256Type : (Tryd.prog.globals[0]?).map (·.type) = some 79 := by kernel_rfl
theorem g512Type : (Tryd.prog.globals[1]?).map (·.type) = some 82 := by kernel_rfl
theorem cells256 : Tryd.prog.cellsOf 79 = 64 := by kernel_rfl
theorem cells512 : Tryd.prog.cellsOf 82 = 80 := by kernel_rfl
theorem cells32 : Tryd.prog.cellsOf 77 = 1 := by kernel_rfl
theorem cells64 : Tryd.prog.cellsOf 58 = 1 := by kernel_rfl
theorem tabIs_mem {P : Program} {W : World} {l : List (String × DataW Unit)} {name : String} {k : IntKind} {zs : List Int} {g : Nat} {t e : TypeId} {n : Nat}
    (h : laidMet P l W) (hm : (name, Lib.tabData k zs) ∈ l)
    (hg : P.globalNamed name = some g) (hty : (P.globals[g]?).map (·.type) = some t) (ht : P.underlying t = some (.array n e)) (he : P.underlying e = some (.int k)) (hce : P.cellsOf e = 1) (hct : P.cellsOf t = n) : Lib.TabIs P W name k zs := by
  obtain ⟨g', t', cs, fuel, p, hg', ht', hvar, hd⟩ := Lib.laidMet.reads h hm
  obtain rfl := Option.some.inj (hg.symm.trans hg')
  obtain rfl := Option.some.inj (hty.symm.trans ht')
  unfold Lib.TabIs
  rw [hvar, ← Lib.cells_of_tab ht he hce hct hd]
theorem rounds256 {W : World} (h : laidMetH Tryd.prog Rows.shaRootsRow.laid W) : Lib.TabIs Tryd.prog W "ledger/sha.rounds256" .u32 k256 :=
  tabIs_mem (l := Rows.shaRootsRow.laid) h (by first | exact .head _ | exact .tail _ (.head _) | exact .tail _ (.tail _ (.head _))) g256 g256Type Tryd.underlying79 Tryd.underlying77 cells32 cells256
theorem rounds512 {W : World} (h : laidMetH Tryd.prog Rows.shaRootsRow.laid W) : Lib.TabIs Tryd.prog W "ledger/sha.rounds512" .u64 k512 :=
  tabIs_mem (l := Rows.shaRootsRow.laid) h (by first | exact .head _ | exact .tail _ (.head _) | exact .tail _ (.tail _ (.head _))) g512 g512Type Tryd.underlying82 Tryd.underlying58 cells64 cells512
open Go.Proofs.YtjcfnflkiialbaaDoorW.PrintWords in
theorem c_of_tab {P : Program} {W : World} {name : String} {k : IntKind} {zs : List Int} {g n : Nat} (h : Lib.TabIs P W name k zs) (hg : P.globalNamed name = some g) (hn : zs.length = n) (hl : n ≤ 1000) : Kd.C (Kd.int k) W (some ⟨g, 0, none⟩) n zs := by
  refine Kd.C_of_reads (d := (0 : Int)) ⟨hn, by omega, fun _ => ⟨_, rfl, fun j hj => ?_⟩⟩
  rw [Addr.add_lit, Nat.zero_add]
  exact h.cell hg j (by omega)

/-- What the walk gives, in every world that holds the listed variables. -/
theorem contract (H : Type) (enc : TypeId × Value → H) (W : World) (args : Array Value) (ds gs : List (DataW H)) (before : List MemPlace)
    (hW : DataW.Whole enc Tryd.prog Tryd.f4.params.toList Rows.shaRootsSpec.vars false W args.toList ds gs before) (hL : laidMetH Tryd.prog Rows.shaRootsRow.laid W) :
    Calls Tryd.prog 4 args W fun e W' => ∃ v, e = .returned v ∧ Rows.shaRootsSpec.post enc Tryd.prog Tryd.f4 false true false false W args v W' := by
  have hW' := hW
  obtain ⟨p, q, hA0, hV, rfl, hfz, hnd⟩ := hW
  have hA : DataW.TrodAll enc Tryd.prog W 0 (fun _ => true) true Tryd.f4.params.toList args.toList ds p := hA0
  rw [Tryd.params4] at hA
  obtain ⟨hargs, rfl, rfl⟩ := trodAll_none hA
  obtain rfl : args = #[] := by cases args; simp_all
  obtain ⟨rfl, rfl⟩ := trodVars_none hV
  clear hA0
  refine (roots_walk W (c_of_tab (rounds256 hL) g256 k256_len (by omega)) (c_of_tab (rounds512 hL) g512 k512_len (by omega))).mono fun e W' ⟨he, bel⟩ => ?_
  subst he
  exact ⟨_, rfl, _, _, _, [], _, [], hW', trodAll_mk1 (shut_bool Tryd.underlying4 _), trodAll_mk0, rfl, bel.frame _, fun h => by cases h⟩

def put (cs : List Value) : Obj → Obj
  | .cells _ t frozen => .cells cs.toArray t frozen
  | o => o
/-- A world for the witness: the settled one, the listed variables holding what their initialisers lay. -/
noncomputable def laidWorld (os : Os) : World :=
  { World.holding Tryd.prog os ⟨#[], #[], []⟩ with heap := ((World.holding Tryd.prog os ⟨#[], #[], []⟩).heap.modify 0 (put (k256.map (Value.int .u32)))).modify 1 (put (k512.map (Value.int .u64))) }
theorem laid_met (os : Os) : laidMet Tryd.prog Rows.shaRootsRow.laid ((laidWorld os).forCall (fun _ _ => 0) ⟨#[], #[], []⟩).memory :=
  laidMet_of_run' 8 (by kernel_rfl) (by kernel_rfl)
theorem reads (os : Os) {H : Type} (enc : TypeId × Value → H) : ∃ places, DataW.whole enc Tryd.prog ((laidWorld os).forCall (fun _ _ => 0) ⟨#[], #[], []⟩).memory Tryd.f4.params.toList Rows.shaRootsSpec.vars false (#[] : Array Value).toList 8 = some ([], [], places) :=
  ⟨[], by kernel_rfl⟩

set_option maxRecDepth 100000 in
theorem lifted (os : Os) (started : os.Started) (H : Type) (enc : TypeId × Value → H) (F : Stop.Interp) :
    ReturnsInHanded {} Tryd.checked os 4 .any ((OpenSpec.ofChange Rows.shaRootsSpec).preRow enc Tryd.prog Tryd.f4 Rows.shaRootsRow.domain false Rows.shaRootsRow.laid) (((OpenSpec.ofChange Rows.shaRootsSpec).at F).post enc Tryd.prog Tryd.f4 false true false false) := by
  obtain ⟨places, hx⟩ := reads os enc
  refine returnsInHanded_of_row (C := Tryd.checked) (s := OpenSpec.ofChange Rows.shaRootsSpec) own started (by kernel_rfl) Tryd.func4
    (witness_row_at (enc := enc) (C := Tryd.checked) false (laidWorld os) #[] rfl (by kernel_rfl) (by kernel_rfl) (by kernel_rfl)
      (OpenSpec.preRow_of_cond 8 hx (by kernel_rfl) (fun k hk => by cases hk) (by kernel_rfl) (laid_met os))) ?_
  intro W base args ds gs before hval hW _ _ _ hL _ _
  exact contract H enc W args ds gs before hW hL

theorem said : Rows.ShaRootsSaid :=
  OpenClaim.holds_of_cond 4 Tryd.f4 rfl rfl rfl rfl rfl rfl rfl ⟨rfl, rfl, rfl, rfl, rfl⟩ rfl rfl rfl rfl rfl (by kernel_rfl) Tryd.func4 (by kernel_rfl)
    (of_decide_eq_true (by kernel_rfl)) (by unfold Func.isWrapper; first | (rw [if_pos (by decide +kernel)]; kernel_rfl) | (rw [if_neg (by decide +kernel)]; exact ⟨rfl, rfl⟩))
    (fun os started H enc _ F => by rw [OpenClaim.pre_eq_preRow]; exact lifted os started H enc F)

theorem plain (f : FuncId) (fn : Func) (hf : Tryd.pinned.checked.prog.funcNamed "ledger/ledgerlaw01.ShaRoots" = some f) (hfn : Tryd.pinned.checked.prog.funcs[f]? = some fn) :
    false = Tryd.pinned.checked.prog.looks [] ∧ ∀ (j : Nat) t, fn.params[j]? = some t → Tryd.pinned.checked.prog.wantsStandIn t = false := by
  obtain rfl : f = 4 := Option.some.inj ((show Tryd.prog.funcNamed "ledger/ledgerlaw01.ShaRoots" = some 4 by kernel_rfl).symm.trans hf) |>.symm
  obtain rfl : fn = Tryd.f4 := (Option.some.inj (Tryd.func4.symm.trans hfn)).symm
  refine ⟨by kernel_rfl, fun j t ht => ?_⟩
  rw [Tryd.params4] at ht
  simp at ht

theorem card : Rows.ShaRootsCardSaid :=
  Claim7.holds_tied_plain_at .later [] _ _ _ _ said (fun _ h => by cases h) (by kernel_rfl) (fun _ h => by cases h) shaRoots_row_tie rfl ⟨rfl, rfl⟩ (by kernel_rfl) rfl plain (by kernel_rfl)
end Go.Proofs.YtjcfnflkiialbaaDoor.shaRoots
namespace Go.Proofs.YtjcfnflkiialbaaDoor
theorem shaRoots_holds : Rows.ShaRootsCardSaid := shaRoots.card
end Go.Proofs.YtjcfnflkiialbaaDoor
