/-
  What Load takes for a saved state, and which digest it makes of it. The walk of Load for kind 256. The walk of Load for kind 512. Load of whatever text.
-/
import Derived.Test.YtjcfnflkiialbaaDoorObs
import Derived.Laws.StructEq
import Derived.Deep.DrawnRows
import Derived.Deep.RegionWith
import Derived.Deep.RegionLaw
namespace Go.Proofs.YtjcfnflkiialbaaDoor.Sha
open Go.RowKit Go.Proofs.YtjcfnflkiialbaaDoor.Mem Go.Proofs.YtjcfnflkiialbaaDoorW.PrintWords
def eightOf {w : Nat} (l : List (BitVec w)) : Eight w := ⟨l.getD 0 0, l.getD 1 0, l.getD 2 0, l.getD 3 0, l.getD 4 0, l.getD 5 0, l.getD 6 0, l.getD 7 0⟩
theorem eightOf_list {w : Nat} (l : List (BitVec w)) (h : l.length = 8) : (eightOf l).list = l := by
  match l, h with
  | [a, b, c, d, e, f, g, i], _ => rfl
def loadCnt (t : List Int) : BitVec 64 := wordAt ((t.drop 1).take 8)
def loadC (B : Bool) (t : List Int) : Chain :=
  match B with
  | true => ⟨zero32, eightOf (wordsOf 8 (t.drop 9) 8)⟩
  | false => ⟨eightOf (wordsOf 4 (t.drop 9) 8), zero64⟩
def tag : Bool → Int
  | true => 2
  | false => 1
/-- the text has the form of a saved state -/
structure LoadOk (B : Bool) (t : List Int) : Prop where
  tag : t.getD 0 0 = tag B
  cnt : (loadCnt t).toNat ≤ maxCount
  len : t.length = 9 + out B + (loadCnt t).toNat % blk B
  early : (loadCnt t).toNat < blk B → loadC B t = start B
def loadSt (B : Bool) (t : List Int) : St := ⟨B, (loadCnt t).toNat, loadC B t, t.drop (9 + out B)⟩
theorem loadSt_ok {B : Bool} {t : List Int} (h : LoadOk B t) : (loadSt B t).Ok := by
  refine ⟨h.cnt, ?_⟩
  show (t.drop (9 + out B)).length = _
  rw [List.length_drop, h.len]
  show _ = (loadCnt t).toNat % blk B
  omega
/-- what Load answers -/
def LdPost (w : World) (B : Bool) (t : List Int) (e : Ending) (w' : World) : Prop :=
  (LoadOk B t ∧ ∃ b rv, e = .returned (.tuple #[.pointer (some ⟨b, 0, none⟩), .int .i64 0]) ∧ (∀ k, dfoot b rv k → w.heap.size ≤ k) ∧ Dg w' b rv (loadSt B t) ∧ Below w.heap.size w w') ∨
  (¬ LoadOk B t ∧ e = .returned (.tuple #[.pointer none, .int .i64 11]) ∧ Below w.heap.size w w')
theorem wp_load_chain_g (W : World) (a : Act) (K : Act → World → Prop) (Q : Exit → Act → World → Prop) (x : Operand) (d : Tmp) (ty : TypeId) (pos : String) (af) (g)
    (hx : chainOk W (a.eval x) = true) :
    Oper.wp Tryd.prog { dst := some d, op := .load 90 x, type := ty, pos := pos, after := af, guard := g } a W K Q = K (a.put (some d) (.agg (chainAt W (a.eval x)).toArray)) W := by
  obtain ⟨b, o, hv⟩ : ∃ b o, a.eval x = .pointer (some ⟨b, o, none⟩) := by
    cases hv : a.eval x <;> rw [hv] at hx <;> try (simp only [chainOk, Bool.false_eq_true] at hx)
    rename_i p
    cases p with
    | none => simp only [Bool.false_eq_true] at hx
    | some p =>
      obtain ⟨b, o, s⟩ := p
      cases s with
      | none => exact ⟨b, o, rfl⟩
      | some s => simp only [Bool.false_eq_true] at hx
  rw [hv] at hx ⊢
  have hl : (chainAt W (.pointer (some ⟨b, o, none⟩))).length = 16 := rfl
  have hi : (Tryd.prog.info? 90).map (·.size) = some 16 := by kernel_rfl
  have h := run_loadAt_mid (P := Tryd.prog) W b o 90 (chainAt W (.pointer (some ⟨b, o, none⟩))) _ (chain_range W b o hx) Tryd.underlying90 rfl (by rw [hi, hl])
  have e : (execOp a.eval { dst := some d, op := .load 90 x, type := ty, pos := pos, after := af, guard := g }).run Tryd.prog W = .ok (.value (.agg (chainAt W (.pointer (some ⟨b, o, none⟩))).toArray)) W := by
    unfold execOp
    simp only [hv, Sem.run_bind, h, Result.andThen_ok, Sem.run_pure]
  unfold Oper.wp
  rw [e]
  rfl
/-- a chain's cells -/
def ccells (c : Chain) : List Value := c.s.list.map u32 ++ c.l.list.map u64
theorem size_u32 (w : World) : (sizeOf 77).run Tryd.prog w = .ok 1 w := by
  obtain ⟨i, hi, hs⟩ := Option.map_eq_some_iff.1 (show (Tryd.prog.info? 77).map (·.size) = some 1 by kernel_rfl)
  simp [sizeOf, typeInfo, hi, hs]
theorem size_u64 (w : World) : (sizeOf 58).run Tryd.prog w = .ok 1 w := by
  obtain ⟨i, hi, hs⟩ := Option.map_eq_some_iff.1 (show (Tryd.prog.info? 58).map (·.size) = some 1 by kernel_rfl)
  simp [sizeOf, typeInfo, hi, hs]
def n32 (v : Eight 32) : List Int := v.list.map fun x => (x.toNat : Int)
def n64 (v : Eight 64) : List Int := v.list.map fun x => (x.toNat : Int)
theorem nat_int_inj {w : Nat} {x y : BitVec w} (h : (x.toNat : Int) = (y.toNat : Int)) : x = y := BitVec.eq_of_toNat_eq (by omega)
theorem n32_inj {v u : Eight 32} (h : n32 v = n32 u) : v = u := by
  obtain ⟨a, b, c, d, e, f, g, i⟩ := v
  obtain ⟨a', b', c', d', e', f', g', i'⟩ := u
  simp only [n32, Eight.list, List.map_cons, List.map_nil, List.cons.injEq, and_true] at h
  obtain ⟨h1, h2, h3, h4, h5, h6, h7, h8⟩ := h
  rw [nat_int_inj h1, nat_int_inj h2, nat_int_inj h3, nat_int_inj h4, nat_int_inj h5, nat_int_inj h6, nat_int_inj h7, nat_int_inj h8]
theorem n64_inj {v u : Eight 64} (h : n64 v = n64 u) : v = u := by
  obtain ⟨a, b, c, d, e, f, g, i⟩ := v
  obtain ⟨a', b', c', d', e', f', g', i'⟩ := u
  simp only [n64, Eight.list, List.map_cons, List.map_nil, List.cons.injEq, and_true] at h
  obtain ⟨h1, h2, h3, h4, h5, h6, h7, h8⟩ := h
  rw [nat_int_inj h1, nat_int_inj h2, nat_int_inj h3, nat_int_inj h4, nat_int_inj h5, nat_int_inj h6, nat_int_inj h7, nat_int_inj h8]
theorem part_small (W : World) (c : Chain) : (part 88 (ccells c).toArray 0).run Tryd.prog W = .ok (.agg ((n32 c.s).map (Value.int .u32)).toArray) W := by
  obtain ⟨i, hi, hs⟩ := Option.map_eq_some_iff.1 (show (Tryd.prog.info? 88).map (·.size) = some 8 by kernel_rfl)
  have e : (ccells c).take 8 = (n32 c.s).map (Value.int .u32) := by
    obtain ⟨⟨a, b, c, d, e, f, g, i⟩, l⟩ := c
    rfl
  simp [part, isAgg, run_underlying Tryd.underlying88, sizeOf, typeInfo, hi, hs, e]
theorem part_large (W : World) (c : Chain) : (part 65 (ccells c).toArray 8).run Tryd.prog W = .ok (.agg ((n64 c.l).map (Value.int .u64)).toArray) W := by
  obtain ⟨i, hi, hs⟩ := Option.map_eq_some_iff.1 (show (Tryd.prog.info? 65).map (·.size) = some 8 by kernel_rfl)
  have e : ((ccells c).drop 8).take 8 = (n64 c.l).map (Value.int .u64) := by
    obtain ⟨⟨a, b, c, d, e, f, g, i⟩, ⟨a', b', c', d', e', f', g', i'⟩⟩ := c
    rfl
  simp [part, isAgg, run_underlying Tryd.underlying65, sizeOf, typeInfo, hi, hs, e]
theorem run_equal_chain (W : World) (c c' : Chain) : ∃ r, (Op.equalIn 10000 90 (.agg (ccells c).toArray) (.agg (ccells c').toArray)).run Tryd.prog W = .ok r W ∧ (r = true ↔ c = c') := by
  have e1 := run_equalIn_ints (P := Tryd.prog) W 9997 88 77 8 .u32 Tryd.underlying88 Tryd.underlying77 size_u32 (n32 c.s) (n32 c'.s) rfl rfl
  have e2 := run_equalIn_ints (P := Tryd.prog) W 9997 65 58 8 .u64 Tryd.underlying65 Tryd.underlying58 size_u64 (n64 c.l) (n64 c'.l) rfl rfl
  refine ⟨_, eqA_of Tryd.underlying90 (by kernel_rfl) (eqf_cons rfl (part_small W c) (part_small W c') e1 (eqf_last rfl (part_large W c) (part_large W c') e2)), ?_⟩
  simp only [Bool.and_eq_true, decide_eq_true_eq]
  constructor
  · rintro ⟨h1, h2⟩
    obtain ⟨s, l⟩ := c
    obtain ⟨s', l'⟩ := c'
    simp only at h1 h2
    rw [n32_inj h1, n64_inj h2]
  · rintro rfl
    exact ⟨rfl, rfl⟩
end Go.Proofs.YtjcfnflkiialbaaDoor.Sha
namespace Go.Proofs.YtjcfnflkiialbaaDoor.Sha.R32
open Go.RowKit Go.Proofs.YtjcfnflkiialbaaDoor.Mem Go.Proofs.YtjcfnflkiialbaaDoorW.PrintWords
theorem src_tail {w : World} {S : Nat → Prop} {bs os c : Nat} {p : List Int} (h : Reads w bs os p) (hS : ¬ S bs) (hc : p.length ≤ c) (a : Nat) : Src w S (if c = a then some ⟨bs, os, none⟩ else some ⟨bs, os + a, none⟩) (c - a) (p.drop a) := by
  refine ⟨by rw [List.length_drop]; omega, ?_⟩
  by_cases e : c = a
  · rw [if_pos e]
    exact .inr (.inl ⟨List.drop_eq_nil_of_le (by omega), _, rfl⟩)
  · rw [if_neg e]
    exact .inr (.inr ⟨bs, os + a, rfl, h.drop a, hS⟩)
attribute [local go_sem ↓] Go.wp_at_zero Go.wp_at_succ wp_load_chain_g
attribute [local go_sem] chainAt_ptr chainOk_ptr
set_option maxHeartbeats 2000000 in
set_option maxRecDepth 100000 in
theorem ld_calls (bs os c : Nat) (t : List Int) (hl : 9 ≤ t.length) (h0 : t.getD 0 0 = 1) (hm : t.length ≤ 140737488351232) (hc : t.length ≤ c) (w : World) (hL : Laid w) (hX : Reads w bs os t) :
    Calls Tryd.prog 39 #[.slice (some ⟨bs, os, none⟩) t.length c] w (LdPost w false t) := by
  have HX := Kp.mk hX
  have HL := Kp.mk hL
  have hc0 := hX.2 0 (by omega)
  rw [h0, Nat.add_zero] at hc0
  have H0 := Kp.mk h0
  have hbs := hX.1
  clear hL hX h0
  go_enter Tryd.func39, Tryd.ntmps39
  go_wp2_with fail
  obtain ⟨b, hb⟩ : ∃ b, b = w.heap.size := ⟨_, rfl⟩
  have HBk : Kp (Blk (w.alloc (.cells (dcells false 0 ⟨zero32, zero64⟩ (.slice none 0 0)).toArray 93)) b 93 (dcells false 0 ⟨zero32, zero64⟩ (.slice none 0 0))) := ⟨Blk.new' w _ _ hb⟩
  have HF0 : Kp (Fr (fun _ => False) w (w.alloc (.cells (dcells false 0 ⟨zero32, zero64⟩ (.slice none 0 0)).toArray 93))) := ⟨(Fr.refl _ w).alloc _⟩
  have HB := Kp.mk hb
  rw [← hb]
  refine (block_calls b false _ (HBk.out.cell 0 _ rfl)).mono ?_
  rintro e w' ⟨rfl, hw'⟩
  have HBk1 : Kp (Blk w' b 93 (dcells false 0 ⟨zero32, zero64⟩ (.slice none 0 0))) := ⟨by rw [hw']; exact HBk.out⟩
  have HF1 : Kp (Fr (fun _ => False) w w') := ⟨by rw [hw']; exact HF0.out⟩
  have HX1 := Kp.mk (HX.out.fr HF1.out (fun h => h))
  clear hw' HBk HF0 hc0 hb
  have hb1 : blk false = 64 := rfl
  rw [hb1]
  clear hb1
  go_wp2
  go_loop [36, 6] (fun s36 s6 => ∃ k : Nat, s36 = .int .i64 (k : Int) ∧ s6 = .int .u64 ((wordAt ((t.drop 1).take k) : BitVec 64).toNat : Int) ∧ Kp (k ≤ 8)) (fun s36 _ => 8 - (intOf s36).toNat)
  case atStart => exact ⟨0, rfl, rfl, ⟨Nat.zero_le _⟩⟩
  case round =>
    obtain ⟨k, rfl, rfl, hk⟩ := hrel
    have hk' := hk.out
    by_cases hlt : k < 8
    · have hcell := HX1.out.2 (1 + k) (by omega)
      rw [← Nat.add_assoc] at hcell
      have hst := L64.word_step (l := t.drop 1) (j := k) (by rw [List.length_drop]; omega)
      have hdr : (t.drop 1).getD k 0 = t.getD (1 + k) 0 := by rw [Nat.add_comm 1 k]; simp [List.getD_eq_getElem?_getD]
      rw [hdr] at hst
      have HST := Kp.mk hst
      clear hst hdr
      generalize t.getD (1 + k) 0 = z at hcell HST
      obtain ⟨x, hx⟩ : ∃ x : BitVec 64, x = wordAt ((t.drop 1).take k) := ⟨_, rfl⟩
      rw [← hx] at HST ⊢
      have HSI := Kp.mk (L64.step_is x z)
      clear hx
      go_wp2
      go_round
      case rel => exact ⟨k + 1, by go_num, by rw [HSI.out, HST.out], ⟨hlt⟩⟩
      case measure => simp [intOf] <;> omega
    · obtain rfl : k = 8 := by omega
      have HC : Kp (loadCnt t = wordAt ((t.drop 1).take 8)) := ⟨rfl⟩
      obtain ⟨x, hx⟩ : ∃ x, x = loadCnt t := ⟨_, rfl⟩
      rw [← HC.out, ← hx]
      have HXx := Kp.mk hx
      have hxl : x.toNat < 18446744073709551616 := x.isLt
      clear hx
      by_cases hmax : x.toNat ≤ 2305843009213693951
      · have hd1 : decide ((2305843009213693951 : Int) < (x.toNat : Int)) = false := decide_eq_false (by omega)
        by_cases hlen : t.length = 9 + 32 + x.toNat % 64
        · have HLn := Kp.mk hlen
          have hne : ((t.length : Int) != 41 + (x.toNat : Int) % 64) = false := by
            have e : (t.length : Int) = 41 + (x.toNat : Int) % 64 := by omega
            rw [e]; simp
          have hlo : 41 ≤ t.length := by omega
          have hcw : IntKind.i64.wrap (x.toNat : Int) = (x.toNat : Int) := by rw [IntKind.wrap_i64]; omega
          have hc1 := HBk1.out.cell 1 (.int .i64 0) rfl
          have hf1 := HBk1.out.free 1
          have HW1 : Kp (Blk (w'.setCell ⟨b, 1, none⟩ (.int .i64 (x.toNat : Int))) b 93 (dcells false x.toNat ⟨zero32, zero64⟩ (.slice none 0 0))) := ⟨by
            rw [← dcells_set1 false 0 x.toNat]; exact HBk1.out.set 1 _⟩
          have HFs : Kp (Fr (fun k => k = b) w' (w'.setCell ⟨b, 1, none⟩ (.int .i64 (x.toNat : Int)))) := ⟨fr_put _ _ _ _⟩
          have HFW : Kp (Fr (fun _ => False) w (w'.setCell ⟨b, 1, none⟩ (.int .i64 (x.toNat : Int)))) := ⟨HF1.out.trans HFs.out (fun k hk h => by have := HB.out; omega)⟩
          have HXW : Kp (Reads (w'.setCell ⟨b, 1, none⟩ (.int .i64 (x.toNat : Int))) bs os t) := ⟨HX.out.fr HFW.out (fun h => h)⟩
          clear hlen
          have hc0 := HBk1.out.cell 0 (.int .i64 256) rfl
          go_upto_if 71 with (fail)
          generalize w'.setCell ⟨b, 1, none⟩ (.int .i64 (x.toNat : Int)) = W1 at HW1 HFs HFW HXW ⊢
          clear hc0 hc1 hf1 HFs hne hd1 HC HX1 HBk1 HF1
          have hrd := HXW.out.drop 9
          have hcell : ∀ i, i < 4 * 8 → True := fun _ _ => trivial
          have hlc := L32.load_calls 93 b 2 8 8 bs (os + 9) 32 (c - 9) [.int .i64 256, .int .i64 (x.toNat : Nat)] (zero32.list.map Sha.u32) (zero64.list.map Sha.u64 ++ [.slice none 0 0]) (t.drop 9) rfl rfl (fun v hv => by simp [zero32, Eight.list, Sha.u32] at hv; exact ⟨_, hv⟩) (by omega) (by omega) (by omega) (by omega) (by rw [List.length_drop]; omega) (by have := HB.out; omega) W1.drew HW1.out.drew hrd.1 (fun i hi => hrd.2 i (by rw [List.length_drop]; omega))
          have HLC := Kp.mk hlc
          clear hlc hrd hcell
          go_cut [4] (fun s4 wx => s4 = .pointer (some ⟨b, 0, none⟩) ∧ Kp (Blk wx b 93 (dcells false x.toNat (loadC false t) (.slice none 0 0))) ∧ Kp (Fr (fun _ => False) w wx))
          case first =>
            go_wp2
            go_region_with (go_at_call 58; (refine HLC.out.mono ?_); rintro e w2 ⟨r2, rfl, hB2, hF2⟩; have HB2 := Kp.mk hB2; have HF2 := Kp.mk (HFW.out.drew.trans hF2 (fun k hk h => by have := HB.out; omega)); clear hB2 hF2)
            all_goals (try go_wp2)
            all_goals
              go_meet
              case rel => exact ⟨rfl, ⟨by
                have h := HB2.out
                have hw : (wordsOf 4 (t.drop 9) 8 : List (BitVec 32)).length = 8 := by simp [wordsOf]
                have e := eightOf_list _ hw
                rw [← e] at h
                exact h⟩, HF2⟩
          case rest =>
            obtain ⟨rfl, HB2, HF2⟩ := hcut
            have HLo : Kp (LoadOk false t ↔ (x.toNat < 64 → loadC false t = start false)) := ⟨by
              constructor
              · intro h hx
                refine h.early ?_
                rw [← HXx.out]; exact hx
              · intro h
                refine ⟨H0.out, ?_, ?_, ?_⟩
                · rw [← HXx.out]; exact hmax
                · rw [← HXx.out]; exact HLn.out
                · rw [← HXx.out]; exact h⟩
            obtain ⟨cc, hcc⟩ : ∃ cc, cc = loadC false t := ⟨_, rfl⟩
            obtain ⟨ss, hss⟩ : ∃ ss, ss = start false := ⟨_, rfl⟩
            rw [← hcc] at HB2 HLo
            rw [← hss] at HLo
            have HCC := Kp.mk hcc
            have HSS := Kp.mk hss
            clear hcc hss
            obtain ⟨⟨c0, c1, c2, c3, c4, c5, c6, c7⟩, ⟨d0, d1, d2, d3, d4, d5, d6, d7⟩⟩ := cc
            obtain ⟨⟨s0, s1, s2, s3, s4, s5, s6, s7⟩, ⟨u0, u1, u2, u3, u4, u5, u6, u7⟩⟩ := ss
            have hq0 := HB2.out.cell 0 (.int .i64 256) rfl
            have hq1 := HB2.out.cell 1 (.int .i64 (x.toNat : Int)) rfl
            have hq2 := HB2.out.cell 2 (.int .u32 (c0.toNat : Int)) rfl
            have hq3 := HB2.out.cell 3 (.int .u32 (c1.toNat : Int)) rfl
            have hq4 := HB2.out.cell 4 (.int .u32 (c2.toNat : Int)) rfl
            have hq5 := HB2.out.cell 5 (.int .u32 (c3.toNat : Int)) rfl
            have hq6 := HB2.out.cell 6 (.int .u32 (c4.toNat : Int)) rfl
            have hq7 := HB2.out.cell 7 (.int .u32 (c5.toNat : Int)) rfl
            have hq8 := HB2.out.cell 8 (.int .u32 (c6.toNat : Int)) rfl
            have hq9 := HB2.out.cell 9 (.int .u32 (c7.toNat : Int)) rfl
            have hq10 := HB2.out.cell 10 (.int .u64 (d0.toNat : Int)) rfl
            have hq11 := HB2.out.cell 11 (.int .u64 (d1.toNat : Int)) rfl
            have hq12 := HB2.out.cell 12 (.int .u64 (d2.toNat : Int)) rfl
            have hq13 := HB2.out.cell 13 (.int .u64 (d3.toNat : Int)) rfl
            have hq14 := HB2.out.cell 14 (.int .u64 (d4.toNat : Int)) rfl
            have hq15 := HB2.out.cell 15 (.int .u64 (d5.toNat : Int)) rfl
            have hq16 := HB2.out.cell 16 (.int .u64 (d6.toNat : Int)) rfl
            have hq17 := HB2.out.cell 17 (.int .u64 (d7.toNat : Int)) rfl
            go_upto_region 17 with (fail)
            go_cut [105] (fun s105 wx => ∃ r : Bool, s105 = .bool r ∧ Kp (r = true ↔ ¬ LoadOk false t) ∧ Kp (Blk wx b 93 (dcells false x.toNat ⟨⟨c0, c1, c2, c3, c4, c5, c6, c7⟩, ⟨d0, d1, d2, d3, d4, d5, d6, d7⟩⟩ (.slice none 0 0))) ∧ Kp (Fr (fun _ => False) w wx))
            case first =>
              by_cases hearly : x.toNat < 64
              · have hd2 : decide ((x.toNat : Int) < 64) = true := decide_eq_true (by omega)
                have HSt : Kp (∀ W, Fr (fun _ => False) wc W → Calls Tryd.prog 54 #[.int .i64 256] W fun e w' => e = .returned (.agg #[.int .u32 (s0.toNat : Int), .int .u32 (s1.toNat : Int), .int .u32 (s2.toNat : Int), .int .u32 (s3.toNat : Int), .int .u32 (s4.toNat : Int), .int .u32 (s5.toNat : Int), .int .u32 (s6.toNat : Int), .int .u32 (s7.toNat : Int), .int .u64 (u0.toNat : Int), .int .u64 (u1.toNat : Int), .int .u64 (u2.toNat : Int), .int .u64 (u3.toNat : Int), .int .u64 (u4.toNat : Int), .int .u64 (u5.toNat : Int), .int .u64 (u6.toNat : Int), .int .u64 (u7.toNat : Int)]) ∧ Fr (fun _ => False) wc w') := ⟨fun W hW => (start_calls false s0 s1 s2 s3 s4 s5 s6 s7 u0 u1 u2 u3 u4 u5 u6 u7 HSS.out.symm W (HL.out.fr (HF2.out.trans hW (fun _ _ h => h)) (fun _ h => h.elim))).mono fun e w' ⟨h1, h2⟩ => ⟨h1, hW.then_below h2⟩⟩
                obtain ⟨r, _, hr⟩ := run_equal_chain wc ⟨⟨c0, c1, c2, c3, c4, c5, c6, c7⟩, ⟨d0, d1, d2, d3, d4, d5, d6, d7⟩⟩ ⟨⟨s0, s1, s2, s3, s4, s5, s6, s7⟩, ⟨u0, u1, u2, u3, u4, u5, u6, u7⟩⟩
                have heq : ∀ W, (Op.equalIn 10000 90 (.agg #[.int .u32 (c0.toNat : Int), .int .u32 (c1.toNat : Int), .int .u32 (c2.toNat : Int), .int .u32 (c3.toNat : Int), .int .u32 (c4.toNat : Int), .int .u32 (c5.toNat : Int), .int .u32 (c6.toNat : Int), .int .u32 (c7.toNat : Int), .int .u64 (d0.toNat : Int), .int .u64 (d1.toNat : Int), .int .u64 (d2.toNat : Int), .int .u64 (d3.toNat : Int), .int .u64 (d4.toNat : Int), .int .u64 (d5.toNat : Int), .int .u64 (d6.toNat : Int), .int .u64 (d7.toNat : Int)]) (.agg #[.int .u32 (s0.toNat : Int), .int .u32 (s1.toNat : Int), .int .u32 (s2.toNat : Int), .int .u32 (s3.toNat : Int), .int .u32 (s4.toNat : Int), .int .u32 (s5.toNat : Int), .int .u32 (s6.toNat : Int), .int .u32 (s7.toNat : Int), .int .u64 (u0.toNat : Int), .int .u64 (u1.toNat : Int), .int .u64 (u2.toNat : Int), .int .u64 (u3.toNat : Int), .int .u64 (u4.toNat : Int), .int .u64 (u5.toNat : Int), .int .u64 (u6.toNat : Int), .int .u64 (u7.toNat : Int)])).run Tryd.prog W = .ok r W := fun W => by
                  obtain ⟨r', h1, h2⟩ := run_equal_chain W ⟨⟨c0, c1, c2, c3, c4, c5, c6, c7⟩, ⟨d0, d1, d2, d3, d4, d5, d6, d7⟩⟩ ⟨⟨s0, s1, s2, s3, s4, s5, s6, s7⟩, ⟨u0, u1, u2, u3, u4, u5, u6, u7⟩⟩
                  have : r' = r := by rw [Bool.eq_iff_iff, h2, hr]
                  rw [← this]; exact h1
                have HR := Kp.mk hr
                clear hr
                refine wp_region_any (by kernel_rfl) ?_
                try (change wpAny _ _ _ _ _ _ _ (World.drew _))
                refine wpAny_take (i := 0) (v := ?_) rfl (by kernel_rfl) (by kernel_rfl) (by kernel_rfl) (fun _ _ _ h => h) (Or.inl ⟨by rfl, ?_⟩) ?_
                rotate_left
                · intro w; go_simp; try with_reducible rfl
                go_simp
                refine wpAny_take (i := 1) (v := ?_) rfl (by kernel_rfl) (by kernel_rfl) (by kernel_rfl) (fun _ _ _ h => h) (Or.inl ⟨by rfl, ?_⟩) ?_
                rotate_left
                · intro w; go_simp; try with_reducible rfl
                go_simp
                refine wpAny_take (i := 2) (v := ?_) rfl (by kernel_rfl) (by kernel_rfl) (by kernel_rfl) (fun _ _ _ h => h) (Or.inl ⟨by rfl, ?_⟩) ?_
                rotate_left
                · intro w; go_simp; try with_reducible rfl
                go_simp
                refine wpAny_take (i := 4) (v := ?_) rfl (by kernel_rfl) (by kernel_rfl) (by kernel_rfl) (fun _ _ _ h => h) (Or.inl ⟨by rfl, ?_⟩) ?_
                rotate_left
                · intro w; go_simp; try with_reducible rfl
                go_simp
                refine wpAny_ready (rs := [3]) (by kernel_rfl) (by simp) ?_
                refine AllReady.cons rfl (fun K hK => ?_) ?_
                · go_simp
                  refine hK _ _ ?_; clear hK K
                  (try go_simp)
                  refine wpAny_take (i := 5) (v := ?_) rfl (by kernel_rfl) (by kernel_rfl) (by kernel_rfl) (fun _ _ _ h => h) (Or.inl ⟨by rfl, ?_⟩) ?_
                  rotate_left
                  · intro w; go_simp; try with_reducible rfl
                  go_simp
                  refine wpAny_take (i := 6) (v := ?_) rfl (by kernel_rfl) (by kernel_rfl) (by kernel_rfl) (fun _ _ _ h => h) (Or.inl ⟨by rfl, ?_⟩) ?_
                  rotate_left
                  · intro w; go_simp; try with_reducible rfl
                  go_simp
                  refine wpAny_take (i := 7) (v := ?_) rfl (by kernel_rfl) (by kernel_rfl) (by kernel_rfl) (fun _ _ _ h => h) (Or.inl ⟨by rfl, ?_⟩) ?_
                  rotate_left
                  · intro w; go_simp; try with_reducible rfl
                  go_simp
                  refine wpAny_take (i := 8) (v := ?_) rfl (by kernel_rfl) (by kernel_rfl) (by kernel_rfl) (fun _ _ _ h => h) (Or.inl ⟨by rfl, ?_⟩) ?_
                  rotate_left
                  · intro w; go_simp; try with_reducible rfl
                  go_simp
                  refine wpAny_take (i := 9) (v := ?_) rfl (by kernel_rfl) (by kernel_rfl) (by kernel_rfl) (fun _ _ _ h => h) (Or.inl ⟨by rfl, ?_⟩) ?_
                  rotate_left
                  · intro w; go_simp; try with_reducible rfl
                  go_simp
                  refine wpAny_take (i := 11) (v := ?_) rfl (by kernel_rfl) (by kernel_rfl) (by kernel_rfl) (fun _ _ _ h => h) (Or.inl ⟨by rfl, ?_⟩) ?_
                  rotate_left
                  · intro w; go_simp; try with_reducible rfl
                  go_simp
                  refine wpAny_take (i := 12) (v := ?_) rfl (by kernel_rfl) (by kernel_rfl) (by kernel_rfl) (fun _ _ _ h => h) (Or.inl ⟨by rfl, ?_⟩) ?_
                  rotate_left
                  · intro w; go_simp; try with_reducible rfl
                  go_simp
                  refine wpAny_take (i := 13) (v := ?_) rfl (by kernel_rfl) (by kernel_rfl) (by kernel_rfl) (fun _ _ _ h => h) (Or.inl ⟨by rfl, ?_⟩) ?_
                  rotate_left
                  · intro w; go_simp; try with_reducible rfl
                  go_simp
                  refine wpAny_ready (rs := [10, 14]) (by kernel_rfl) (by simp) ?_
                  refine AllReady.cons rfl (fun K hK => ?_) ?_
                  · go_simp
                    refine hK _ _ ?_; clear hK K
                    (try go_simp)
                    refine wpAny_ready (rs := [14]) (by kernel_rfl) (by simp) ?_
                    refine AllReady.cons rfl (fun K hK => ?_) ?_
                    · go_simp
                      refine hK _ _ ?_; clear hK K
                      (try go_simp)
                      refine wpAny_ready (rs := [15]) (by kernel_rfl) (by simp) ?_
                      refine AllReady.cons rfl (fun K hK => ?_) ?_
                      · go_simp
                        go_wp2_with (go_at_call 54; (refine (HSt.out _ (by repeat (first | exact Fr.refl _ _ | apply Fr.drew))).mono ?_); rintro e w3 ⟨rfl, hf3⟩; have HF3 := Kp.mk hf3; have HB3 := Kp.mk (HB2.out.fr hf3 (fun h => h)); have hq1' := HB3.out.cell 1 (.int .i64 (x.toNat : Int)) rfl; have hp2 := HB3.out.cell 2 (.int .u32 (c0.toNat : Int)) rfl; have hp3 := HB3.out.cell 3 (.int .u32 (c1.toNat : Int)) rfl; have hp4 := HB3.out.cell 4 (.int .u32 (c2.toNat : Int)) rfl; have hp5 := HB3.out.cell 5 (.int .u32 (c3.toNat : Int)) rfl; have hp6 := HB3.out.cell 6 (.int .u32 (c4.toNat : Int)) rfl; have hp7 := HB3.out.cell 7 (.int .u32 (c5.toNat : Int)) rfl; have hp8 := HB3.out.cell 8 (.int .u32 (c6.toNat : Int)) rfl; have hp9 := HB3.out.cell 9 (.int .u32 (c7.toNat : Int)) rfl; have hp10 := HB3.out.cell 10 (.int .u64 (d0.toNat : Int)) rfl; have hp11 := HB3.out.cell 11 (.int .u64 (d1.toNat : Int)) rfl; have hp12 := HB3.out.cell 12 (.int .u64 (d2.toNat : Int)) rfl; have hp13 := HB3.out.cell 13 (.int .u64 (d3.toNat : Int)) rfl; have hp14 := HB3.out.cell 14 (.int .u64 (d4.toNat : Int)) rfl; have hp15 := HB3.out.cell 15 (.int .u64 (d5.toNat : Int)) rfl; have hp16 := HB3.out.cell 16 (.int .u64 (d6.toNat : Int)) rfl; have hp17 := HB3.out.cell 17 (.int .u64 (d7.toNat : Int)) rfl; clear hf3)
                        (try (refine hK _ _ ?_; clear hK K))
                        (try go_simp)
                        refine wpAny_take (i := 16) (v := ?_) rfl (by kernel_rfl) (by kernel_rfl) (by kernel_rfl) (fun _ _ _ h => h) (Or.inl ⟨by rfl, ?_⟩) ?_
                        rotate_left
                        · intro w; go_simp; try with_reducible rfl
                        go_simp
                        refine wpAny_take (i := 17) (v := ?_) rfl (by kernel_rfl) (by kernel_rfl) (by kernel_rfl) (fun _ _ _ h => h) (Or.inl ⟨by rfl, ?_⟩) ?_
                        rotate_left
                        · intro w; go_simp; try with_reducible rfl
                        go_simp
                        refine wpAny_done (by kernel_rfl) ?_ _
                        go_wp2
                        go_meet
                        case rel => exact ⟨!r, rfl, ⟨by
                          rw [HLo.out]
                          have := HR.out
                          cases r
                          · simp only [Bool.not_false, true_iff]
                            exact fun h => Bool.false_ne_true (this.2 (h hearly))
                          · simp only [Bool.not_true, Bool.false_eq_true, false_iff]
                            exact fun h => h (fun _ => this.1 rfl)⟩, HB3, ⟨HF2.out.trans HF3.out (fun _ _ h => h)⟩⟩
                      exact AllReady.nil
                    exact AllReady.nil
                  refine AllReady.cons rfl (fun K hK => ?_) ?_
                  · go_simp
                    refine hK _ _ ?_; clear hK K
                    (try go_simp)
                    refine wpAny_ready (rs := [10, 15]) (by kernel_rfl) (by simp) ?_
                    refine AllReady.cons rfl (fun K hK => ?_) ?_
                    · go_simp
                      refine hK _ _ ?_; clear hK K
                      (try go_simp)
                      refine wpAny_ready (rs := [15]) (by kernel_rfl) (by simp) ?_
                      refine AllReady.cons rfl (fun K hK => ?_) ?_
                      · go_simp
                        go_wp2_with (go_at_call 54; (refine (HSt.out _ (by repeat (first | exact Fr.refl _ _ | apply Fr.drew))).mono ?_); rintro e w3 ⟨rfl, hf3⟩; have HF3 := Kp.mk hf3; have HB3 := Kp.mk (HB2.out.fr hf3 (fun h => h)); have hq1' := HB3.out.cell 1 (.int .i64 (x.toNat : Int)) rfl; have hp2 := HB3.out.cell 2 (.int .u32 (c0.toNat : Int)) rfl; have hp3 := HB3.out.cell 3 (.int .u32 (c1.toNat : Int)) rfl; have hp4 := HB3.out.cell 4 (.int .u32 (c2.toNat : Int)) rfl; have hp5 := HB3.out.cell 5 (.int .u32 (c3.toNat : Int)) rfl; have hp6 := HB3.out.cell 6 (.int .u32 (c4.toNat : Int)) rfl; have hp7 := HB3.out.cell 7 (.int .u32 (c5.toNat : Int)) rfl; have hp8 := HB3.out.cell 8 (.int .u32 (c6.toNat : Int)) rfl; have hp9 := HB3.out.cell 9 (.int .u32 (c7.toNat : Int)) rfl; have hp10 := HB3.out.cell 10 (.int .u64 (d0.toNat : Int)) rfl; have hp11 := HB3.out.cell 11 (.int .u64 (d1.toNat : Int)) rfl; have hp12 := HB3.out.cell 12 (.int .u64 (d2.toNat : Int)) rfl; have hp13 := HB3.out.cell 13 (.int .u64 (d3.toNat : Int)) rfl; have hp14 := HB3.out.cell 14 (.int .u64 (d4.toNat : Int)) rfl; have hp15 := HB3.out.cell 15 (.int .u64 (d5.toNat : Int)) rfl; have hp16 := HB3.out.cell 16 (.int .u64 (d6.toNat : Int)) rfl; have hp17 := HB3.out.cell 17 (.int .u64 (d7.toNat : Int)) rfl; clear hf3)
                        (try (refine hK _ _ ?_; clear hK K))
                        (try go_simp)
                        refine wpAny_take (i := 16) (v := ?_) rfl (by kernel_rfl) (by kernel_rfl) (by kernel_rfl) (fun _ _ _ h => h) (Or.inl ⟨by rfl, ?_⟩) ?_
                        rotate_left
                        · intro w; go_simp; try with_reducible rfl
                        go_simp
                        refine wpAny_take (i := 17) (v := ?_) rfl (by kernel_rfl) (by kernel_rfl) (by kernel_rfl) (fun _ _ _ h => h) (Or.inl ⟨by rfl, ?_⟩) ?_
                        rotate_left
                        · intro w; go_simp; try with_reducible rfl
                        go_simp
                        refine wpAny_done (by kernel_rfl) ?_ _
                        go_wp2
                        go_meet
                        case rel => exact ⟨!r, rfl, ⟨by
                          rw [HLo.out]
                          have := HR.out
                          cases r
                          · simp only [Bool.not_false, true_iff]
                            exact fun h => Bool.false_ne_true (this.2 (h hearly))
                          · simp only [Bool.not_true, Bool.false_eq_true, false_iff]
                            exact fun h => h (fun _ => this.1 rfl)⟩, HB3, ⟨HF2.out.trans HF3.out (fun _ _ h => h)⟩⟩
                      exact AllReady.nil
                    refine AllReady.cons rfl (fun K hK => ?_) ?_
                    · go_simp
                      go_wp2_with (go_at_call 54; (refine (HSt.out _ (by repeat (first | exact Fr.refl _ _ | apply Fr.drew))).mono ?_); rintro e w3 ⟨rfl, hf3⟩; have HF3 := Kp.mk hf3; have HB3 := Kp.mk (HB2.out.fr hf3 (fun h => h)); have hq1' := HB3.out.cell 1 (.int .i64 (x.toNat : Int)) rfl; have hp2 := HB3.out.cell 2 (.int .u32 (c0.toNat : Int)) rfl; have hp3 := HB3.out.cell 3 (.int .u32 (c1.toNat : Int)) rfl; have hp4 := HB3.out.cell 4 (.int .u32 (c2.toNat : Int)) rfl; have hp5 := HB3.out.cell 5 (.int .u32 (c3.toNat : Int)) rfl; have hp6 := HB3.out.cell 6 (.int .u32 (c4.toNat : Int)) rfl; have hp7 := HB3.out.cell 7 (.int .u32 (c5.toNat : Int)) rfl; have hp8 := HB3.out.cell 8 (.int .u32 (c6.toNat : Int)) rfl; have hp9 := HB3.out.cell 9 (.int .u32 (c7.toNat : Int)) rfl; have hp10 := HB3.out.cell 10 (.int .u64 (d0.toNat : Int)) rfl; have hp11 := HB3.out.cell 11 (.int .u64 (d1.toNat : Int)) rfl; have hp12 := HB3.out.cell 12 (.int .u64 (d2.toNat : Int)) rfl; have hp13 := HB3.out.cell 13 (.int .u64 (d3.toNat : Int)) rfl; have hp14 := HB3.out.cell 14 (.int .u64 (d4.toNat : Int)) rfl; have hp15 := HB3.out.cell 15 (.int .u64 (d5.toNat : Int)) rfl; have hp16 := HB3.out.cell 16 (.int .u64 (d6.toNat : Int)) rfl; have hp17 := HB3.out.cell 17 (.int .u64 (d7.toNat : Int)) rfl; clear hf3)
                      (try (refine hK _ _ ?_; clear hK K))
                      (try go_simp)
                      refine wpAny_ready (rs := [10]) (by kernel_rfl) (by simp) ?_
                      refine AllReady.cons rfl (fun K hK => ?_) ?_
                      · go_simp
                        refine hK _ _ ?_; clear hK K
                        (try go_simp)
                        refine wpAny_take (i := 16) (v := ?_) rfl (by kernel_rfl) (by kernel_rfl) (by kernel_rfl) (fun _ _ _ h => h) (Or.inl ⟨by rfl, ?_⟩) ?_
                        rotate_left
                        · intro w; go_simp; try with_reducible rfl
                        go_simp
                        refine wpAny_take (i := 17) (v := ?_) rfl (by kernel_rfl) (by kernel_rfl) (by kernel_rfl) (fun _ _ _ h => h) (Or.inl ⟨by rfl, ?_⟩) ?_
                        rotate_left
                        · intro w; go_simp; try with_reducible rfl
                        go_simp
                        refine wpAny_done (by kernel_rfl) ?_ _
                        go_wp2
                        go_meet
                        case rel => exact ⟨!r, rfl, ⟨by
                          rw [HLo.out]
                          have := HR.out
                          cases r
                          · simp only [Bool.not_false, true_iff]
                            exact fun h => Bool.false_ne_true (this.2 (h hearly))
                          · simp only [Bool.not_true, Bool.false_eq_true, false_iff]
                            exact fun h => h (fun _ => this.1 rfl)⟩, HB3, ⟨HF2.out.trans HF3.out (fun _ _ h => h)⟩⟩
                      exact AllReady.nil
                    exact AllReady.nil
                  exact AllReady.nil
                exact AllReady.nil
              · have hd2 : decide ((x.toNat : Int) < 64) = false := decide_eq_false (by omega)
                refine wp_region_any (by kernel_rfl) ?_
                try (change wpAny _ _ _ _ _ _ _ (World.drew _))
                refine wpAny_take (i := 0) (v := ?_) rfl (by kernel_rfl) (by kernel_rfl) (by kernel_rfl) (fun _ _ _ h => h) (Or.inl ⟨by rfl, ?_⟩) ?_
                rotate_left
                · intro w; go_simp; try with_reducible rfl
                go_simp
                refine wpAny_take (i := 1) (v := ?_) rfl (by kernel_rfl) (by kernel_rfl) (by kernel_rfl) (fun _ _ _ h => h) (Or.inl ⟨by rfl, ?_⟩) ?_
                rotate_left
                · intro w; go_simp; try with_reducible rfl
                go_simp
                refine wpAny_take (i := 2) (v := ?_) rfl (by kernel_rfl) (by kernel_rfl) (by kernel_rfl) (fun _ _ _ h => h) (Or.inl ⟨by rfl, ?_⟩) ?_
                rotate_left
                · intro w; go_simp; try with_reducible rfl
                go_simp
                refine wpAny_take (i := 4) (v := ?_) rfl (by kernel_rfl) (by kernel_rfl) (by kernel_rfl) (fun _ _ _ h => h) (Or.inl ⟨by rfl, ?_⟩) ?_
                rotate_left
                · intro w; go_simp; try with_reducible rfl
                go_simp
                refine wpAny_ready (rs := [3]) (by kernel_rfl) (by simp) ?_
                refine AllReady.cons rfl (fun K hK => ?_) ?_
                · go_simp
                  refine hK _ _ ?_; clear hK K
                  (try go_simp)
                  refine wpAny_take (i := 5) (v := ?_) rfl (by kernel_rfl) (by kernel_rfl) (by kernel_rfl) (fun _ _ _ h => h) (Or.inl ⟨by rfl, ?_⟩) ?_
                  rotate_left
                  · intro w; go_simp; try with_reducible rfl
                  go_simp
                  refine wpAny_take (i := 6) (v := ?_) rfl (by kernel_rfl) (by kernel_rfl) (by kernel_rfl) (fun _ _ _ h => h) (Or.inl ⟨by rfl, ?_⟩) ?_
                  rotate_left
                  · intro w; go_simp; try with_reducible rfl
                  go_simp
                  refine wpAny_take (i := 7) (v := undef) rfl (by kernel_rfl) (by kernel_rfl) (by kernel_rfl) (fun _ _ _ h => h) (Or.inr ⟨by rfl, rfl⟩) ?_
                  go_simp
                  refine wpAny_take (i := 8) (v := undef) rfl (by kernel_rfl) (by kernel_rfl) (by kernel_rfl) (fun _ _ _ h => h) (Or.inr ⟨by rfl, rfl⟩) ?_
                  go_simp
                  refine wpAny_take (i := 9) (v := undef) rfl (by kernel_rfl) (by kernel_rfl) (by kernel_rfl) (fun _ _ _ h => h) (Or.inr ⟨by rfl, rfl⟩) ?_
                  go_simp
                  refine wpAny_take (i := 10) (v := undef) rfl (by kernel_rfl) (by kernel_rfl) (by kernel_rfl) (fun _ _ _ h => h) (Or.inr ⟨by rfl, rfl⟩) ?_
                  go_simp
                  refine wpAny_take (i := 11) (v := undef) rfl (by kernel_rfl) (by kernel_rfl) (by kernel_rfl) (fun _ _ _ h => h) (Or.inr ⟨by rfl, rfl⟩) ?_
                  go_simp
                  refine wpAny_take (i := 12) (v := undef) rfl (by kernel_rfl) (by kernel_rfl) (by kernel_rfl) (fun _ _ _ h => h) (Or.inr ⟨by rfl, rfl⟩) ?_
                  go_simp
                  refine wpAny_take (i := 13) (v := undef) rfl (by kernel_rfl) (by kernel_rfl) (by kernel_rfl) (fun _ _ _ h => h) (Or.inr ⟨by rfl, rfl⟩) ?_
                  go_simp
                  refine wpAny_take (i := 14) (v := undef) rfl (by kernel_rfl) (by kernel_rfl) (by kernel_rfl) (fun _ _ _ h => h) (Or.inr ⟨by rfl, rfl⟩) ?_
                  go_simp
                  refine wpAny_take (i := 15) (v := undef) rfl (by kernel_rfl) (by kernel_rfl) (by kernel_rfl) (fun _ _ _ h => h) (Or.inr ⟨by rfl, rfl⟩) ?_
                  go_simp
                  refine wpAny_take (i := 16) (v := undef) rfl (by kernel_rfl) (by kernel_rfl) (by kernel_rfl) (fun _ _ _ h => h) (Or.inr ⟨by rfl, rfl⟩) ?_
                  go_simp
                  refine wpAny_take (i := 17) (v := ?_) rfl (by kernel_rfl) (by kernel_rfl) (by kernel_rfl) (fun _ _ _ h => h) (Or.inl ⟨by rfl, ?_⟩) ?_
                  rotate_left
                  · intro w; go_simp; try with_reducible rfl
                  go_simp
                  refine wpAny_done (by kernel_rfl) ?_ _
                  go_wp2
                  go_meet
                  case rel => exact ⟨false, rfl, ⟨by
                    rw [HLo.out]
                    simp only [Bool.false_eq_true, false_iff]
                    exact fun h => h (fun h => absurd h hearly)⟩, ⟨HB2.out.drew⟩, ⟨HF2.out.drew⟩⟩
                exact AllReady.nil
            case rest =>
              obtain ⟨r, rfl, HR, HB3, HF3⟩ := hcut
              clear HB2 HF2 hq0 hq1 hq2 hq3 hq4 hq5 hq6 hq7 hq8 hq9 hq10 hq11 hq12 hq13 hq14 hq15 hq16 hq17
              cases r
              · have HG : Kp (LoadOk false t) := ⟨Classical.byContradiction fun h => Bool.false_ne_true (HR.out.2 h)⟩
                have hq18 := HB3.out.cell 18 (.slice none 0 0) rfl
                have hf18 := HB3.out.free 18
                have hwa : IntKind.i64.wrap 32 = 32 := by decide
                have hwb : IntKind.i64.wrap (9 + 32) = 41 := by decide
                have hwc : IntKind.i64.wrap 41 = 41 := by decide
                have hlo' : (41 : Int) ≤ (t.length : Int) := by omega
                have HSr : Kp (Src wc.drew (fun k => k = b) (if c = 41 then some ⟨bs, os, none⟩ else some ⟨bs, os + 41, none⟩) (c - 41) (t.drop 41)) := ⟨src_tail (HX.out.fr HF3.out.drew (fun h => h)) (by have := HB.out; omega) hc 41⟩
                have HTl : Kp ((t.drop 41).length = t.length - 41) := ⟨List.length_drop⟩
                have HWz : Kp (low ≤ wc.drew.heap.size) := ⟨Nat.le_trans HL.out.size HF3.out.size⟩
                go_upto_region 19 with (fail)
                refine wp_region_any (by kernel_rfl) ?_
                try (change wpAny _ _ _ _ _ _ _ (World.drew _))
                refine wpAny_take (i := 0) (v := ?_) rfl (by kernel_rfl) (by kernel_rfl) (by kernel_rfl) (fun _ _ _ h => h) (Or.inl ⟨by rfl, ?_⟩) ?_
                rotate_left
                · intro w; go_simp; try with_reducible rfl
                go_simp
                refine wpAny_take (i := 1) (v := ?_) rfl (by kernel_rfl) (by kernel_rfl) (by kernel_rfl) (fun _ _ _ h => h) (Or.inl ⟨by rfl, ?_⟩) ?_
                rotate_left
                · intro w; go_simp; try with_reducible rfl
                go_simp
                refine wpAny_take (i := 2) (v := ?_) rfl (by kernel_rfl) (by kernel_rfl) (by kernel_rfl) (fun _ _ _ h => h) (Or.inl ⟨by rfl, ?_⟩) ?_
                rotate_left
                · intro w; go_simp; try with_reducible rfl
                go_simp
                refine wpAny_take (i := 3) (v := ?_) rfl (by kernel_rfl) (by kernel_rfl) (by kernel_rfl) (fun _ _ _ h => h) (Or.inl ⟨by rfl, ?_⟩) ?_
                rotate_left
                · intro w; go_simp; try with_reducible rfl
                go_simp
                refine wpAny_take (i := 5) (v := ?_) rfl (by kernel_rfl) (by kernel_rfl) (by kernel_rfl) (fun _ _ _ h => h) (Or.inl ⟨by rfl, ?_⟩) ?_
                rotate_left
                · intro w; go_simp; try with_reducible rfl
                go_simp
                refine wpAny_take (i := 6) (v := ?_) rfl (by kernel_rfl) (by kernel_rfl) (by kernel_rfl) (fun _ _ _ h => h) (Or.inl ⟨by rfl, ?_⟩) ?_
                rotate_left
                · intro w; go_simp; try with_reducible rfl
                go_simp
                refine wpAny_take (i := 7) (v := ?_) rfl (by kernel_rfl) (by kernel_rfl) (by kernel_rfl) (fun _ _ _ h => h) (Or.inl ⟨by rfl, ?_⟩) ?_
                rotate_left
                · intro w; go_simp; try with_reducible rfl
                go_simp
                refine wpAny_take (i := 8) (v := ?_) rfl (by kernel_rfl) (by kernel_rfl) (by kernel_rfl) (fun _ _ _ h => h) (Or.inl ⟨by rfl, ?_⟩) ?_
                rotate_left
                · intro w; go_simp; try with_reducible rfl
                go_simp
                refine wpAny_take (i := 9) (v := ?_) rfl (by kernel_rfl) (by kernel_rfl) (by kernel_rfl) (fun _ _ _ h => h) (Or.inl ⟨by rfl, ?_⟩) ?_
                rotate_left
                · intro w; go_simp; try with_reducible rfl
                go_simp
                refine wpAny_ready (rs := [4]) (by kernel_rfl) (by simp) ?_
                refine AllReady.cons rfl (fun K hK => ?_) ?_
                · go_simp
                  refine hK _ _ ?_; clear hK K
                  (try go_simp)
                  refine wpAny_ready (rs := [10]) (by kernel_rfl) (by simp) ?_
                  refine AllReady.cons rfl (fun K hK => ?_) ?_
                  · refine step_appendS (by rfl) _ _ (by rfl) (by rfl) low (.slice none 0 0) [] (by rfl) ⟨rfl, .inl ⟨rfl, rfl⟩⟩ (if c = 41 then some ⟨bs, os, none⟩ else some ⟨bs, os + 41, none⟩) (t.length - 41) (c - 41) (t.drop 41) HTl.out.symm (by rfl) HSr.out (by rw [HTl.out]; simp only [List.length_nil]; omega) HWz.out ?_; intro v2 w2 hown hgr hat
                    refine hK _ _ ?_; clear hK K
                    obtain ⟨A2, cq, hv2, _⟩ := own_shape hown
                    subst hv2
                    have HOw : Kp (w2.ownsRow low 5 1 (.slice A2 (t.length - 41) cq) (t.drop 41).length (bytes (t.drop 41))) := ⟨by
                      have h := hown
                      simp only [List.nil_append] at h
                      rw [HTl.out] at h ⊢
                      exact h⟩
                    have HGr := Kp.mk hgr
                    have HAt : Kp ((Value.slice A2 (t.length - 41) cq).ownBlock = (Value.slice none 0 0).ownBlock ∨ (Value.slice A2 (t.length - 41) cq).ownBlock = some wc.drew.heap.size) := ⟨by cases A2 <;> exact hat⟩
                    have hq18' := (hgr.cell_far ⟨b, 18, none⟩ HB3.out.lt (by simp [Value.ownBlock])).trans hq18
                    have hf18' := (hgr.frozen_far ⟨b, 18, none⟩ HB3.out.lt (by simp [Value.ownBlock])).trans hf18
                    clear hown hgr hat
                    go_simp
                    refine wpAny_take (i := 11) (v := ?_) rfl (by kernel_rfl) (by kernel_rfl) (by kernel_rfl) (fun _ _ _ h => h) (Or.inl ⟨by rfl, ?_⟩) ?_
                    rotate_left
                    · intro w; go_simp; try with_reducible rfl
                    go_simp
                    refine wpAny_take (i := 12) (v := ?_) rfl (by kernel_rfl) (by kernel_rfl) (by kernel_rfl) (fun _ _ _ h => h) (Or.inl ⟨by rfl, ?_⟩) ?_
                    rotate_left
                    · intro w; go_simp; try with_reducible rfl
                    go_simp
                    refine wpAny_ready (rs := [13]) (by kernel_rfl) (by simp) ?_
                    refine AllReady.cons rfl (fun K hK => ?_) ?_
                    · go_simp
                      refine hK _ _ ?_; clear hK K
                      (try go_simp)
                      have hst : loadSt false t = ⟨false, x.toNat, ⟨⟨c0, c1, c2, c3, c4, c5, c6, c7⟩, ⟨d0, d1, d2, d3, d4, d5, d6, d7⟩⟩, t.drop 41⟩ := by
                        unfold loadSt
                        rw [← HCC.out, ← HXx.out]
                        rfl
                      have hB := HB3.out.drew
                      have hF2 : Fr (fun _ => False) wc.drew w2 := (Fr.refl _ _).grown HGr.out (fun _ _ h => by cases h)
                      have HPost : Kp (LdPost w false t (.returned (.tuple #[.pointer (some ⟨b, 0, none⟩), .int .i64 0])) (w2.setCell ⟨b, 18, none⟩ (.slice A2 (t.length - 41) cq))) := ⟨by
                        refine .inl ⟨HG.out, b, .slice A2 (t.length - 41) cq, rfl, fun k hk => ?_, ⟨?_, ?_, ?_⟩, ?_⟩
                        · rcases hk with rfl | hk
                          · rw [HB.out]; exact Nat.le_refl _
                          · rcases HAt.out with h | h
                            · have := h.symm.trans hk; cases this
                            · obtain rfl := Option.some.inj (h.symm.trans hk)
                              exact HF3.out.size
                        · rw [hst]
                          have h := (hB.fr hF2 (fun h => h)).set 18 (.slice A2 (t.length - 41) cq)
                          exact h
                        · rw [hst]
                          exact own_keep HOw.out (fr_put w2 b 18 _) (fun k hk e => own_ne HOw.out hk (hB.fr hF2 (fun h => h)) (by decide) e)
                        · have := HB.out; have := HL.out.size; omega
                        · exact ((HF3.out.drew.trans hF2 (fun _ _ h => h)).trans (fr_put w2 b 18 _) (fun k hk h => by have := HB.out; omega)).below (fun _ _ h => h)⟩
                      refine wpAny_done (by kernel_rfl) ?_ _
                      go_wp2
                      all_goals (go_ret2; exact HPost.out)
                    exact AllReady.nil
                  exact AllReady.nil
                exact AllReady.nil
              · go_wp2
                go_ret2
                exact .inr ⟨HR.out.1 (by first | rfl | trivial), rfl, HF3.out.below (fun _ _ h => h)⟩
        · have hne : ((t.length : Int) != 41 + (x.toNat : Int) % 64) = true := by
            have e : ¬ ((t.length : Int) = 41 + (x.toNat : Int) % 64) := by omega
            simpa using e
          go_wp2
          go_ret2
          exact .inr ⟨fun h => hlen (by have := h.len; rw [← HXx.out] at this; exact this), rfl, HF1.out.below (fun _ _ h => h)⟩
      · have hd1 : decide ((2305843009213693951 : Int) < (x.toNat : Int)) = true := decide_eq_true (by omega)
        go_wp2
        go_ret2
        exact .inr ⟨fun h => hmax (by have := h.cnt; rw [HXx.out]; exact this), rfl, HF1.out.below (fun _ _ h => h)⟩
end Go.Proofs.YtjcfnflkiialbaaDoor.Sha.R32
namespace Go.Proofs.YtjcfnflkiialbaaDoor.Sha.R64
open Go.RowKit Go.Proofs.YtjcfnflkiialbaaDoor.Mem Go.Proofs.YtjcfnflkiialbaaDoorW.PrintWords
theorem src_tail {w : World} {S : Nat → Prop} {bs os c : Nat} {p : List Int} (h : Reads w bs os p) (hS : ¬ S bs) (hc : p.length ≤ c) (a : Nat) : Src w S (if c = a then some ⟨bs, os, none⟩ else some ⟨bs, os + a, none⟩) (c - a) (p.drop a) := by
  refine ⟨by rw [List.length_drop]; omega, ?_⟩
  by_cases e : c = a
  · rw [if_pos e]
    exact .inr (.inl ⟨List.drop_eq_nil_of_le (by omega), _, rfl⟩)
  · rw [if_neg e]
    exact .inr (.inr ⟨bs, os + a, rfl, h.drop a, hS⟩)
attribute [local go_sem ↓] Go.wp_at_zero Go.wp_at_succ wp_load_chain_g
attribute [local go_sem] chainAt_ptr chainOk_ptr
set_option maxHeartbeats 2000000 in
set_option maxRecDepth 100000 in
theorem ld_calls (bs os c : Nat) (t : List Int) (hl : 9 ≤ t.length) (h0 : t.getD 0 0 = 2) (hm : t.length ≤ 140737488351232) (hc : t.length ≤ c) (w : World) (hL : Laid w) (hX : Reads w bs os t) :
    Calls Tryd.prog 39 #[.slice (some ⟨bs, os, none⟩) t.length c] w (LdPost w true t) := by
  have HX := Kp.mk hX
  have HL := Kp.mk hL
  have hc0 := hX.2 0 (by omega)
  rw [h0, Nat.add_zero] at hc0
  have H0 := Kp.mk h0
  have hbs := hX.1
  clear hL hX h0
  go_enter Tryd.func39, Tryd.ntmps39
  go_wp2_with fail
  obtain ⟨b, hb⟩ : ∃ b, b = w.heap.size := ⟨_, rfl⟩
  have HBk : Kp (Blk (w.alloc (.cells (dcells true 0 ⟨zero32, zero64⟩ (.slice none 0 0)).toArray 93)) b 93 (dcells true 0 ⟨zero32, zero64⟩ (.slice none 0 0))) := ⟨Blk.new' w _ _ hb⟩
  have HF0 : Kp (Fr (fun _ => False) w (w.alloc (.cells (dcells true 0 ⟨zero32, zero64⟩ (.slice none 0 0)).toArray 93))) := ⟨(Fr.refl _ w).alloc _⟩
  have HB := Kp.mk hb
  rw [← hb]
  refine (block_calls b true _ (HBk.out.cell 0 _ rfl)).mono ?_
  rintro e w' ⟨rfl, hw'⟩
  have HBk1 : Kp (Blk w' b 93 (dcells true 0 ⟨zero32, zero64⟩ (.slice none 0 0))) := ⟨by rw [hw']; exact HBk.out⟩
  have HF1 : Kp (Fr (fun _ => False) w w') := ⟨by rw [hw']; exact HF0.out⟩
  have HX1 := Kp.mk (HX.out.fr HF1.out (fun h => h))
  clear hw' HBk HF0 hc0 hb
  have hb1 : blk true = 128 := rfl
  rw [hb1]
  clear hb1
  go_wp2
  go_loop [36, 6] (fun s36 s6 => ∃ k : Nat, s36 = .int .i64 (k : Int) ∧ s6 = .int .u64 ((wordAt ((t.drop 1).take k) : BitVec 64).toNat : Int) ∧ Kp (k ≤ 8)) (fun s36 _ => 8 - (intOf s36).toNat)
  case atStart => exact ⟨0, rfl, rfl, ⟨Nat.zero_le _⟩⟩
  case round =>
    obtain ⟨k, rfl, rfl, hk⟩ := hrel
    have hk' := hk.out
    by_cases hlt : k < 8
    · have hcell := HX1.out.2 (1 + k) (by omega)
      rw [← Nat.add_assoc] at hcell
      have hst := L64.word_step (l := t.drop 1) (j := k) (by rw [List.length_drop]; omega)
      have hdr : (t.drop 1).getD k 0 = t.getD (1 + k) 0 := by rw [Nat.add_comm 1 k]; simp [List.getD_eq_getElem?_getD]
      rw [hdr] at hst
      have HST := Kp.mk hst
      clear hst hdr
      generalize t.getD (1 + k) 0 = z at hcell HST
      obtain ⟨x, hx⟩ : ∃ x : BitVec 64, x = wordAt ((t.drop 1).take k) := ⟨_, rfl⟩
      rw [← hx] at HST ⊢
      have HSI := Kp.mk (L64.step_is x z)
      clear hx
      go_wp2
      go_round
      case rel => exact ⟨k + 1, by go_num, by rw [HSI.out, HST.out], ⟨hlt⟩⟩
      case measure => simp [intOf] <;> omega
    · obtain rfl : k = 8 := by omega
      have HC : Kp (loadCnt t = wordAt ((t.drop 1).take 8)) := ⟨rfl⟩
      obtain ⟨x, hx⟩ : ∃ x, x = loadCnt t := ⟨_, rfl⟩
      rw [← HC.out, ← hx]
      have HXx := Kp.mk hx
      have hxl : x.toNat < 18446744073709551616 := x.isLt
      clear hx
      by_cases hmax : x.toNat ≤ 2305843009213693951
      · have hd1 : decide ((2305843009213693951 : Int) < (x.toNat : Int)) = false := decide_eq_false (by omega)
        by_cases hlen : t.length = 9 + 64 + x.toNat % 128
        · have HLn := Kp.mk hlen
          have hne : ((t.length : Int) != 73 + (x.toNat : Int) % 128) = false := by
            have e : (t.length : Int) = 73 + (x.toNat : Int) % 128 := by omega
            rw [e]; simp
          have hlo : 73 ≤ t.length := by omega
          have hcw : IntKind.i64.wrap (x.toNat : Int) = (x.toNat : Int) := by rw [IntKind.wrap_i64]; omega
          have hc1 := HBk1.out.cell 1 (.int .i64 0) rfl
          have hf1 := HBk1.out.free 1
          have HW1 : Kp (Blk (w'.setCell ⟨b, 1, none⟩ (.int .i64 (x.toNat : Int))) b 93 (dcells true x.toNat ⟨zero32, zero64⟩ (.slice none 0 0))) := ⟨by
            rw [← dcells_set1 true 0 x.toNat]; exact HBk1.out.set 1 _⟩
          have HFs : Kp (Fr (fun k => k = b) w' (w'.setCell ⟨b, 1, none⟩ (.int .i64 (x.toNat : Int)))) := ⟨fr_put _ _ _ _⟩
          have HFW : Kp (Fr (fun _ => False) w (w'.setCell ⟨b, 1, none⟩ (.int .i64 (x.toNat : Int)))) := ⟨HF1.out.trans HFs.out (fun k hk h => by have := HB.out; omega)⟩
          have HXW : Kp (Reads (w'.setCell ⟨b, 1, none⟩ (.int .i64 (x.toNat : Int))) bs os t) := ⟨HX.out.fr HFW.out (fun h => h)⟩
          clear hlen
          have hc0 := HBk1.out.cell 0 (.int .i64 512) rfl
          go_upto_if 71 with (fail)
          generalize w'.setCell ⟨b, 1, none⟩ (.int .i64 (x.toNat : Int)) = W1 at HW1 HFs HFW HXW ⊢
          clear hc0 hc1 hf1 HFs hne hd1 HC HX1 HBk1 HF1
          have hrd := HXW.out.drop 9
          have hcell : ∀ i, i < 4 * 8 → True := fun _ _ => trivial
          have hlc := L64.load_calls 93 b 10 8 8 bs (os + 9) 64 (c - 9) ([.int .i64 512, .int .i64 (x.toNat : Nat)] ++ zero32.list.map Sha.u32) (zero64.list.map Sha.u64) [.slice none 0 0] (t.drop 9) rfl rfl (fun v hv => by simp [zero64, Eight.list, Sha.u64] at hv; exact ⟨_, hv⟩) (by omega) (by omega) (by omega) (by omega) (by rw [List.length_drop]; omega) (by have := HB.out; omega) W1.drew HW1.out.drew hrd.1 (fun i hi => hrd.2 i (by rw [List.length_drop]; omega))
          have HLC := Kp.mk hlc
          clear hlc hrd hcell
          go_cut [4] (fun s4 wx => s4 = .pointer (some ⟨b, 0, none⟩) ∧ Kp (Blk wx b 93 (dcells true x.toNat (loadC true t) (.slice none 0 0))) ∧ Kp (Fr (fun _ => False) w wx))
          case first =>
            go_wp2
            go_region_with (go_at_call 59; (refine HLC.out.mono ?_); rintro e w2 ⟨r2, rfl, hB2, hF2⟩; have HB2 := Kp.mk hB2; have HF2 := Kp.mk (HFW.out.drew.trans hF2 (fun k hk h => by have := HB.out; omega)); clear hB2 hF2)
            all_goals (try go_wp2)
            all_goals
              go_meet
              case rel => exact ⟨rfl, ⟨by
                have h := HB2.out
                have hw : (wordsOf 8 (t.drop 9) 8 : List (BitVec 64)).length = 8 := by simp [wordsOf]
                have e := eightOf_list _ hw
                rw [← e] at h
                exact h⟩, HF2⟩
          case rest =>
            obtain ⟨rfl, HB2, HF2⟩ := hcut
            have HLo : Kp (LoadOk true t ↔ (x.toNat < 128 → loadC true t = start true)) := ⟨by
              constructor
              · intro h hx
                refine h.early ?_
                rw [← HXx.out]; exact hx
              · intro h
                refine ⟨H0.out, ?_, ?_, ?_⟩
                · rw [← HXx.out]; exact hmax
                · rw [← HXx.out]; exact HLn.out
                · rw [← HXx.out]; exact h⟩
            obtain ⟨cc, hcc⟩ : ∃ cc, cc = loadC true t := ⟨_, rfl⟩
            obtain ⟨ss, hss⟩ : ∃ ss, ss = start true := ⟨_, rfl⟩
            rw [← hcc] at HB2 HLo
            rw [← hss] at HLo
            have HCC := Kp.mk hcc
            have HSS := Kp.mk hss
            clear hcc hss
            obtain ⟨⟨c0, c1, c2, c3, c4, c5, c6, c7⟩, ⟨d0, d1, d2, d3, d4, d5, d6, d7⟩⟩ := cc
            obtain ⟨⟨s0, s1, s2, s3, s4, s5, s6, s7⟩, ⟨u0, u1, u2, u3, u4, u5, u6, u7⟩⟩ := ss
            have hq0 := HB2.out.cell 0 (.int .i64 512) rfl
            have hq1 := HB2.out.cell 1 (.int .i64 (x.toNat : Int)) rfl
            have hq2 := HB2.out.cell 2 (.int .u32 (c0.toNat : Int)) rfl
            have hq3 := HB2.out.cell 3 (.int .u32 (c1.toNat : Int)) rfl
            have hq4 := HB2.out.cell 4 (.int .u32 (c2.toNat : Int)) rfl
            have hq5 := HB2.out.cell 5 (.int .u32 (c3.toNat : Int)) rfl
            have hq6 := HB2.out.cell 6 (.int .u32 (c4.toNat : Int)) rfl
            have hq7 := HB2.out.cell 7 (.int .u32 (c5.toNat : Int)) rfl
            have hq8 := HB2.out.cell 8 (.int .u32 (c6.toNat : Int)) rfl
            have hq9 := HB2.out.cell 9 (.int .u32 (c7.toNat : Int)) rfl
            have hq10 := HB2.out.cell 10 (.int .u64 (d0.toNat : Int)) rfl
            have hq11 := HB2.out.cell 11 (.int .u64 (d1.toNat : Int)) rfl
            have hq12 := HB2.out.cell 12 (.int .u64 (d2.toNat : Int)) rfl
            have hq13 := HB2.out.cell 13 (.int .u64 (d3.toNat : Int)) rfl
            have hq14 := HB2.out.cell 14 (.int .u64 (d4.toNat : Int)) rfl
            have hq15 := HB2.out.cell 15 (.int .u64 (d5.toNat : Int)) rfl
            have hq16 := HB2.out.cell 16 (.int .u64 (d6.toNat : Int)) rfl
            have hq17 := HB2.out.cell 17 (.int .u64 (d7.toNat : Int)) rfl
            go_upto_region 17 with (fail)
            go_cut [105] (fun s105 wx => ∃ r : Bool, s105 = .bool r ∧ Kp (r = true ↔ ¬ LoadOk true t) ∧ Kp (Blk wx b 93 (dcells true x.toNat ⟨⟨c0, c1, c2, c3, c4, c5, c6, c7⟩, ⟨d0, d1, d2, d3, d4, d5, d6, d7⟩⟩ (.slice none 0 0))) ∧ Kp (Fr (fun _ => False) w wx))
            case first =>
              by_cases hearly : x.toNat < 128
              · have hd2 : decide ((x.toNat : Int) < 128) = true := decide_eq_true (by omega)
                have HSt : Kp (∀ W, Fr (fun _ => False) wc W → Calls Tryd.prog 54 #[.int .i64 512] W fun e w' => e = .returned (.agg #[.int .u32 (s0.toNat : Int), .int .u32 (s1.toNat : Int), .int .u32 (s2.toNat : Int), .int .u32 (s3.toNat : Int), .int .u32 (s4.toNat : Int), .int .u32 (s5.toNat : Int), .int .u32 (s6.toNat : Int), .int .u32 (s7.toNat : Int), .int .u64 (u0.toNat : Int), .int .u64 (u1.toNat : Int), .int .u64 (u2.toNat : Int), .int .u64 (u3.toNat : Int), .int .u64 (u4.toNat : Int), .int .u64 (u5.toNat : Int), .int .u64 (u6.toNat : Int), .int .u64 (u7.toNat : Int)]) ∧ Fr (fun _ => False) wc w') := ⟨fun W hW => (start_calls true s0 s1 s2 s3 s4 s5 s6 s7 u0 u1 u2 u3 u4 u5 u6 u7 HSS.out.symm W (HL.out.fr (HF2.out.trans hW (fun _ _ h => h)) (fun _ h => h.elim))).mono fun e w' ⟨h1, h2⟩ => ⟨h1, hW.then_below h2⟩⟩
                obtain ⟨r, _, hr⟩ := run_equal_chain wc ⟨⟨c0, c1, c2, c3, c4, c5, c6, c7⟩, ⟨d0, d1, d2, d3, d4, d5, d6, d7⟩⟩ ⟨⟨s0, s1, s2, s3, s4, s5, s6, s7⟩, ⟨u0, u1, u2, u3, u4, u5, u6, u7⟩⟩
                have heq : ∀ W, (Op.equalIn 10000 90 (.agg #[.int .u32 (c0.toNat : Int), .int .u32 (c1.toNat : Int), .int .u32 (c2.toNat : Int), .int .u32 (c3.toNat : Int), .int .u32 (c4.toNat : Int), .int .u32 (c5.toNat : Int), .int .u32 (c6.toNat : Int), .int .u32 (c7.toNat : Int), .int .u64 (d0.toNat : Int), .int .u64 (d1.toNat : Int), .int .u64 (d2.toNat : Int), .int .u64 (d3.toNat : Int), .int .u64 (d4.toNat : Int), .int .u64 (d5.toNat : Int), .int .u64 (d6.toNat : Int), .int .u64 (d7.toNat : Int)]) (.agg #[.int .u32 (s0.toNat : Int), .int .u32 (s1.toNat : Int), .int .u32 (s2.toNat : Int), .int .u32 (s3.toNat : Int), .int .u32 (s4.toNat : Int), .int .u32 (s5.toNat : Int), .int .u32 (s6.toNat : Int), .int .u32 (s7.toNat : Int), .int .u64 (u0.toNat : Int), .int .u64 (u1.toNat : Int), .int .u64 (u2.toNat : Int), .int .u64 (u3.toNat : Int), .int .u64 (u4.toNat : Int), .int .u64 (u5.toNat : Int), .int .u64 (u6.toNat : Int), .int .u64 (u7.toNat : Int)])).run Tryd.prog W = .ok r W := fun W => by
                  obtain ⟨r', h1, h2⟩ := run_equal_chain W ⟨⟨c0, c1, c2, c3, c4, c5, c6, c7⟩, ⟨d0, d1, d2, d3, d4, d5, d6, d7⟩⟩ ⟨⟨s0, s1, s2, s3, s4, s5, s6, s7⟩, ⟨u0, u1, u2, u3, u4, u5, u6, u7⟩⟩
                  have : r' = r := by rw [Bool.eq_iff_iff, h2, hr]
                  rw [← this]; exact h1
                have HR := Kp.mk hr
                clear hr
                refine wp_region_any (by kernel_rfl) ?_
                try (change wpAny _ _ _ _ _ _ _ (World.drew _))
                refine wpAny_take (i := 0) (v := ?_) rfl (by kernel_rfl) (by kernel_rfl) (by kernel_rfl) (fun _ _ _ h => h) (Or.inl ⟨by rfl, ?_⟩) ?_
                rotate_left
                · intro w; go_simp; try with_reducible rfl
                go_simp
                refine wpAny_take (i := 1) (v := ?_) rfl (by kernel_rfl) (by kernel_rfl) (by kernel_rfl) (fun _ _ _ h => h) (Or.inl ⟨by rfl, ?_⟩) ?_
                rotate_left
                · intro w; go_simp; try with_reducible rfl
                go_simp
                refine wpAny_take (i := 2) (v := ?_) rfl (by kernel_rfl) (by kernel_rfl) (by kernel_rfl) (fun _ _ _ h => h) (Or.inl ⟨by rfl, ?_⟩) ?_
                rotate_left
                · intro w; go_simp; try with_reducible rfl
                go_simp
                refine wpAny_take (i := 4) (v := ?_) rfl (by kernel_rfl) (by kernel_rfl) (by kernel_rfl) (fun _ _ _ h => h) (Or.inl ⟨by rfl, ?_⟩) ?_
                rotate_left
                · intro w; go_simp; try with_reducible rfl
                go_simp
                refine wpAny_ready (rs := [3]) (by kernel_rfl) (by simp) ?_
                refine AllReady.cons rfl (fun K hK => ?_) ?_
                · go_simp
                  refine hK _ _ ?_; clear hK K
                  (try go_simp)
                  refine wpAny_take (i := 5) (v := ?_) rfl (by kernel_rfl) (by kernel_rfl) (by kernel_rfl) (fun _ _ _ h => h) (Or.inl ⟨by rfl, ?_⟩) ?_
                  rotate_left
                  · intro w; go_simp; try with_reducible rfl
                  go_simp
                  refine wpAny_take (i := 6) (v := ?_) rfl (by kernel_rfl) (by kernel_rfl) (by kernel_rfl) (fun _ _ _ h => h) (Or.inl ⟨by rfl, ?_⟩) ?_
                  rotate_left
                  · intro w; go_simp; try with_reducible rfl
                  go_simp
                  refine wpAny_take (i := 7) (v := ?_) rfl (by kernel_rfl) (by kernel_rfl) (by kernel_rfl) (fun _ _ _ h => h) (Or.inl ⟨by rfl, ?_⟩) ?_
                  rotate_left
                  · intro w; go_simp; try with_reducible rfl
                  go_simp
                  refine wpAny_take (i := 8) (v := ?_) rfl (by kernel_rfl) (by kernel_rfl) (by kernel_rfl) (fun _ _ _ h => h) (Or.inl ⟨by rfl, ?_⟩) ?_
                  rotate_left
                  · intro w; go_simp; try with_reducible rfl
                  go_simp
                  refine wpAny_take (i := 9) (v := ?_) rfl (by kernel_rfl) (by kernel_rfl) (by kernel_rfl) (fun _ _ _ h => h) (Or.inl ⟨by rfl, ?_⟩) ?_
                  rotate_left
                  · intro w; go_simp; try with_reducible rfl
                  go_simp
                  refine wpAny_take (i := 11) (v := ?_) rfl (by kernel_rfl) (by kernel_rfl) (by kernel_rfl) (fun _ _ _ h => h) (Or.inl ⟨by rfl, ?_⟩) ?_
                  rotate_left
                  · intro w; go_simp; try with_reducible rfl
                  go_simp
                  refine wpAny_take (i := 12) (v := ?_) rfl (by kernel_rfl) (by kernel_rfl) (by kernel_rfl) (fun _ _ _ h => h) (Or.inl ⟨by rfl, ?_⟩) ?_
                  rotate_left
                  · intro w; go_simp; try with_reducible rfl
                  go_simp
                  refine wpAny_take (i := 13) (v := ?_) rfl (by kernel_rfl) (by kernel_rfl) (by kernel_rfl) (fun _ _ _ h => h) (Or.inl ⟨by rfl, ?_⟩) ?_
                  rotate_left
                  · intro w; go_simp; try with_reducible rfl
                  go_simp
                  refine wpAny_ready (rs := [10, 14]) (by kernel_rfl) (by simp) ?_
                  refine AllReady.cons rfl (fun K hK => ?_) ?_
                  · go_simp
                    refine hK _ _ ?_; clear hK K
                    (try go_simp)
                    refine wpAny_ready (rs := [14]) (by kernel_rfl) (by simp) ?_
                    refine AllReady.cons rfl (fun K hK => ?_) ?_
                    · go_simp
                      refine hK _ _ ?_; clear hK K
                      (try go_simp)
                      refine wpAny_ready (rs := [15]) (by kernel_rfl) (by simp) ?_
                      refine AllReady.cons rfl (fun K hK => ?_) ?_
                      · go_simp
                        go_wp2_with (go_at_call 54; (refine (HSt.out _ (by repeat (first | exact Fr.refl _ _ | apply Fr.drew))).mono ?_); rintro e w3 ⟨rfl, hf3⟩; have HF3 := Kp.mk hf3; have HB3 := Kp.mk (HB2.out.fr hf3 (fun h => h)); have hq1' := HB3.out.cell 1 (.int .i64 (x.toNat : Int)) rfl; have hp2 := HB3.out.cell 2 (.int .u32 (c0.toNat : Int)) rfl; have hp3 := HB3.out.cell 3 (.int .u32 (c1.toNat : Int)) rfl; have hp4 := HB3.out.cell 4 (.int .u32 (c2.toNat : Int)) rfl; have hp5 := HB3.out.cell 5 (.int .u32 (c3.toNat : Int)) rfl; have hp6 := HB3.out.cell 6 (.int .u32 (c4.toNat : Int)) rfl; have hp7 := HB3.out.cell 7 (.int .u32 (c5.toNat : Int)) rfl; have hp8 := HB3.out.cell 8 (.int .u32 (c6.toNat : Int)) rfl; have hp9 := HB3.out.cell 9 (.int .u32 (c7.toNat : Int)) rfl; have hp10 := HB3.out.cell 10 (.int .u64 (d0.toNat : Int)) rfl; have hp11 := HB3.out.cell 11 (.int .u64 (d1.toNat : Int)) rfl; have hp12 := HB3.out.cell 12 (.int .u64 (d2.toNat : Int)) rfl; have hp13 := HB3.out.cell 13 (.int .u64 (d3.toNat : Int)) rfl; have hp14 := HB3.out.cell 14 (.int .u64 (d4.toNat : Int)) rfl; have hp15 := HB3.out.cell 15 (.int .u64 (d5.toNat : Int)) rfl; have hp16 := HB3.out.cell 16 (.int .u64 (d6.toNat : Int)) rfl; have hp17 := HB3.out.cell 17 (.int .u64 (d7.toNat : Int)) rfl; clear hf3)
                        (try (refine hK _ _ ?_; clear hK K))
                        (try go_simp)
                        refine wpAny_take (i := 16) (v := ?_) rfl (by kernel_rfl) (by kernel_rfl) (by kernel_rfl) (fun _ _ _ h => h) (Or.inl ⟨by rfl, ?_⟩) ?_
                        rotate_left
                        · intro w; go_simp; try with_reducible rfl
                        go_simp
                        refine wpAny_take (i := 17) (v := ?_) rfl (by kernel_rfl) (by kernel_rfl) (by kernel_rfl) (fun _ _ _ h => h) (Or.inl ⟨by rfl, ?_⟩) ?_
                        rotate_left
                        · intro w; go_simp; try with_reducible rfl
                        go_simp
                        refine wpAny_done (by kernel_rfl) ?_ _
                        go_wp2
                        go_meet
                        case rel => exact ⟨!r, rfl, ⟨by
                          rw [HLo.out]
                          have := HR.out
                          cases r
                          · simp only [Bool.not_false, true_iff]
                            exact fun h => Bool.false_ne_true (this.2 (h hearly))
                          · simp only [Bool.not_true, Bool.false_eq_true, false_iff]
                            exact fun h => h (fun _ => this.1 rfl)⟩, HB3, ⟨HF2.out.trans HF3.out (fun _ _ h => h)⟩⟩
                      exact AllReady.nil
                    exact AllReady.nil
                  refine AllReady.cons rfl (fun K hK => ?_) ?_
                  · go_simp
                    refine hK _ _ ?_; clear hK K
                    (try go_simp)
                    refine wpAny_ready (rs := [10, 15]) (by kernel_rfl) (by simp) ?_
                    refine AllReady.cons rfl (fun K hK => ?_) ?_
                    · go_simp
                      refine hK _ _ ?_; clear hK K
                      (try go_simp)
                      refine wpAny_ready (rs := [15]) (by kernel_rfl) (by simp) ?_
                      refine AllReady.cons rfl (fun K hK => ?_) ?_
                      · go_simp
                        go_wp2_with (go_at_call 54; (refine (HSt.out _ (by repeat (first | exact Fr.refl _ _ | apply Fr.drew))).mono ?_); rintro e w3 ⟨rfl, hf3⟩; have HF3 := Kp.mk hf3; have HB3 := Kp.mk (HB2.out.fr hf3 (fun h => h)); have hq1' := HB3.out.cell 1 (.int .i64 (x.toNat : Int)) rfl; have hp2 := HB3.out.cell 2 (.int .u32 (c0.toNat : Int)) rfl; have hp3 := HB3.out.cell 3 (.int .u32 (c1.toNat : Int)) rfl; have hp4 := HB3.out.cell 4 (.int .u32 (c2.toNat : Int)) rfl; have hp5 := HB3.out.cell 5 (.int .u32 (c3.toNat : Int)) rfl; have hp6 := HB3.out.cell 6 (.int .u32 (c4.toNat : Int)) rfl; have hp7 := HB3.out.cell 7 (.int .u32 (c5.toNat : Int)) rfl; have hp8 := HB3.out.cell 8 (.int .u32 (c6.toNat : Int)) rfl; have hp9 := HB3.out.cell 9 (.int .u32 (c7.toNat : Int)) rfl; have hp10 := HB3.out.cell 10 (.int .u64 (d0.toNat : Int)) rfl; have hp11 := HB3.out.cell 11 (.int .u64 (d1.toNat : Int)) rfl; have hp12 := HB3.out.cell 12 (.int .u64 (d2.toNat : Int)) rfl; have hp13 := HB3.out.cell 13 (.int .u64 (d3.toNat : Int)) rfl; have hp14 := HB3.out.cell 14 (.int .u64 (d4.toNat : Int)) rfl; have hp15 := HB3.out.cell 15 (.int .u64 (d5.toNat : Int)) rfl; have hp16 := HB3.out.cell 16 (.int .u64 (d6.toNat : Int)) rfl; have hp17 := HB3.out.cell 17 (.int .u64 (d7.toNat : Int)) rfl; clear hf3)
                        (try (refine hK _ _ ?_; clear hK K))
                        (try go_simp)
                        refine wpAny_take (i := 16) (v := ?_) rfl (by kernel_rfl) (by kernel_rfl) (by kernel_rfl) (fun _ _ _ h => h) (Or.inl ⟨by rfl, ?_⟩) ?_
                        rotate_left
                        · intro w; go_simp; try with_reducible rfl
                        go_simp
                        refine wpAny_take (i := 17) (v := ?_) rfl (by kernel_rfl) (by kernel_rfl) (by kernel_rfl) (fun _ _ _ h => h) (Or.inl ⟨by rfl, ?_⟩) ?_
                        rotate_left
                        · intro w; go_simp; try with_reducible rfl
                        go_simp
                        refine wpAny_done (by kernel_rfl) ?_ _
                        go_wp2
                        go_meet
                        case rel => exact ⟨!r, rfl, ⟨by
                          rw [HLo.out]
                          have := HR.out
                          cases r
                          · simp only [Bool.not_false, true_iff]
                            exact fun h => Bool.false_ne_true (this.2 (h hearly))
                          · simp only [Bool.not_true, Bool.false_eq_true, false_iff]
                            exact fun h => h (fun _ => this.1 rfl)⟩, HB3, ⟨HF2.out.trans HF3.out (fun _ _ h => h)⟩⟩
                      exact AllReady.nil
                    refine AllReady.cons rfl (fun K hK => ?_) ?_
                    · go_simp
                      go_wp2_with (go_at_call 54; (refine (HSt.out _ (by repeat (first | exact Fr.refl _ _ | apply Fr.drew))).mono ?_); rintro e w3 ⟨rfl, hf3⟩; have HF3 := Kp.mk hf3; have HB3 := Kp.mk (HB2.out.fr hf3 (fun h => h)); have hq1' := HB3.out.cell 1 (.int .i64 (x.toNat : Int)) rfl; have hp2 := HB3.out.cell 2 (.int .u32 (c0.toNat : Int)) rfl; have hp3 := HB3.out.cell 3 (.int .u32 (c1.toNat : Int)) rfl; have hp4 := HB3.out.cell 4 (.int .u32 (c2.toNat : Int)) rfl; have hp5 := HB3.out.cell 5 (.int .u32 (c3.toNat : Int)) rfl; have hp6 := HB3.out.cell 6 (.int .u32 (c4.toNat : Int)) rfl; have hp7 := HB3.out.cell 7 (.int .u32 (c5.toNat : Int)) rfl; have hp8 := HB3.out.cell 8 (.int .u32 (c6.toNat : Int)) rfl; have hp9 := HB3.out.cell 9 (.int .u32 (c7.toNat : Int)) rfl; have hp10 := HB3.out.cell 10 (.int .u64 (d0.toNat : Int)) rfl; have hp11 := HB3.out.cell 11 (.int .u64 (d1.toNat : Int)) rfl; have hp12 := HB3.out.cell 12 (.int .u64 (d2.toNat : Int)) rfl; have hp13 := HB3.out.cell 13 (.int .u64 (d3.toNat : Int)) rfl; have hp14 := HB3.out.cell 14 (.int .u64 (d4.toNat : Int)) rfl; have hp15 := HB3.out.cell 15 (.int .u64 (d5.toNat : Int)) rfl; have hp16 := HB3.out.cell 16 (.int .u64 (d6.toNat : Int)) rfl; have hp17 := HB3.out.cell 17 (.int .u64 (d7.toNat : Int)) rfl; clear hf3)
                      (try (refine hK _ _ ?_; clear hK K))
                      (try go_simp)
                      refine wpAny_ready (rs := [10]) (by kernel_rfl) (by simp) ?_
                      refine AllReady.cons rfl (fun K hK => ?_) ?_
                      · go_simp
                        refine hK _ _ ?_; clear hK K
                        (try go_simp)
                        refine wpAny_take (i := 16) (v := ?_) rfl (by kernel_rfl) (by kernel_rfl) (by kernel_rfl) (fun _ _ _ h => h) (Or.inl ⟨by rfl, ?_⟩) ?_
                        rotate_left
                        · intro w; go_simp; try with_reducible rfl
                        go_simp
                        refine wpAny_take (i := 17) (v := ?_) rfl (by kernel_rfl) (by kernel_rfl) (by kernel_rfl) (fun _ _ _ h => h) (Or.inl ⟨by rfl, ?_⟩) ?_
                        rotate_left
                        · intro w; go_simp; try with_reducible rfl
                        go_simp
                        refine wpAny_done (by kernel_rfl) ?_ _
                        go_wp2
                        go_meet
                        case rel => exact ⟨!r, rfl, ⟨by
                          rw [HLo.out]
                          have := HR.out
                          cases r
                          · simp only [Bool.not_false, true_iff]
                            exact fun h => Bool.false_ne_true (this.2 (h hearly))
                          · simp only [Bool.not_true, Bool.false_eq_true, false_iff]
                            exact fun h => h (fun _ => this.1 rfl)⟩, HB3, ⟨HF2.out.trans HF3.out (fun _ _ h => h)⟩⟩
                      exact AllReady.nil
                    exact AllReady.nil
                  exact AllReady.nil
                exact AllReady.nil
              · have hd2 : decide ((x.toNat : Int) < 128) = false := decide_eq_false (by omega)
                refine wp_region_any (by kernel_rfl) ?_
                try (change wpAny _ _ _ _ _ _ _ (World.drew _))
                refine wpAny_take (i := 0) (v := ?_) rfl (by kernel_rfl) (by kernel_rfl) (by kernel_rfl) (fun _ _ _ h => h) (Or.inl ⟨by rfl, ?_⟩) ?_
                rotate_left
                · intro w; go_simp; try with_reducible rfl
                go_simp
                refine wpAny_take (i := 1) (v := ?_) rfl (by kernel_rfl) (by kernel_rfl) (by kernel_rfl) (fun _ _ _ h => h) (Or.inl ⟨by rfl, ?_⟩) ?_
                rotate_left
                · intro w; go_simp; try with_reducible rfl
                go_simp
                refine wpAny_take (i := 2) (v := ?_) rfl (by kernel_rfl) (by kernel_rfl) (by kernel_rfl) (fun _ _ _ h => h) (Or.inl ⟨by rfl, ?_⟩) ?_
                rotate_left
                · intro w; go_simp; try with_reducible rfl
                go_simp
                refine wpAny_take (i := 4) (v := ?_) rfl (by kernel_rfl) (by kernel_rfl) (by kernel_rfl) (fun _ _ _ h => h) (Or.inl ⟨by rfl, ?_⟩) ?_
                rotate_left
                · intro w; go_simp; try with_reducible rfl
                go_simp
                refine wpAny_ready (rs := [3]) (by kernel_rfl) (by simp) ?_
                refine AllReady.cons rfl (fun K hK => ?_) ?_
                · go_simp
                  refine hK _ _ ?_; clear hK K
                  (try go_simp)
                  refine wpAny_take (i := 5) (v := ?_) rfl (by kernel_rfl) (by kernel_rfl) (by kernel_rfl) (fun _ _ _ h => h) (Or.inl ⟨by rfl, ?_⟩) ?_
                  rotate_left
                  · intro w; go_simp; try with_reducible rfl
                  go_simp
                  refine wpAny_take (i := 6) (v := ?_) rfl (by kernel_rfl) (by kernel_rfl) (by kernel_rfl) (fun _ _ _ h => h) (Or.inl ⟨by rfl, ?_⟩) ?_
                  rotate_left
                  · intro w; go_simp; try with_reducible rfl
                  go_simp
                  refine wpAny_take (i := 7) (v := undef) rfl (by kernel_rfl) (by kernel_rfl) (by kernel_rfl) (fun _ _ _ h => h) (Or.inr ⟨by rfl, rfl⟩) ?_
                  go_simp
                  refine wpAny_take (i := 8) (v := undef) rfl (by kernel_rfl) (by kernel_rfl) (by kernel_rfl) (fun _ _ _ h => h) (Or.inr ⟨by rfl, rfl⟩) ?_
                  go_simp
                  refine wpAny_take (i := 9) (v := undef) rfl (by kernel_rfl) (by kernel_rfl) (by kernel_rfl) (fun _ _ _ h => h) (Or.inr ⟨by rfl, rfl⟩) ?_
                  go_simp
                  refine wpAny_take (i := 10) (v := undef) rfl (by kernel_rfl) (by kernel_rfl) (by kernel_rfl) (fun _ _ _ h => h) (Or.inr ⟨by rfl, rfl⟩) ?_
                  go_simp
                  refine wpAny_take (i := 11) (v := undef) rfl (by kernel_rfl) (by kernel_rfl) (by kernel_rfl) (fun _ _ _ h => h) (Or.inr ⟨by rfl, rfl⟩) ?_
                  go_simp
                  refine wpAny_take (i := 12) (v := undef) rfl (by kernel_rfl) (by kernel_rfl) (by kernel_rfl) (fun _ _ _ h => h) (Or.inr ⟨by rfl, rfl⟩) ?_
                  go_simp
                  refine wpAny_take (i := 13) (v := undef) rfl (by kernel_rfl) (by kernel_rfl) (by kernel_rfl) (fun _ _ _ h => h) (Or.inr ⟨by rfl, rfl⟩) ?_
                  go_simp
                  refine wpAny_take (i := 14) (v := undef) rfl (by kernel_rfl) (by kernel_rfl) (by kernel_rfl) (fun _ _ _ h => h) (Or.inr ⟨by rfl, rfl⟩) ?_
                  go_simp
                  refine wpAny_take (i := 15) (v := undef) rfl (by kernel_rfl) (by kernel_rfl) (by kernel_rfl) (fun _ _ _ h => h) (Or.inr ⟨by rfl, rfl⟩) ?_
                  go_simp
                  refine wpAny_take (i := 16) (v := undef) rfl (by kernel_rfl) (by kernel_rfl) (by kernel_rfl) (fun _ _ _ h => h) (Or.inr ⟨by rfl, rfl⟩) ?_
                  go_simp
                  refine wpAny_take (i := 17) (v := ?_) rfl (by kernel_rfl) (by kernel_rfl) (by kernel_rfl) (fun _ _ _ h => h) (Or.inl ⟨by rfl, ?_⟩) ?_
                  rotate_left
                  · intro w; go_simp; try with_reducible rfl
                  go_simp
                  refine wpAny_done (by kernel_rfl) ?_ _
                  go_wp2
                  go_meet
                  case rel => exact ⟨false, rfl, ⟨by
                    rw [HLo.out]
                    simp only [Bool.false_eq_true, false_iff]
                    exact fun h => h (fun h => absurd h hearly)⟩, ⟨HB2.out.drew⟩, ⟨HF2.out.drew⟩⟩
                exact AllReady.nil
            case rest =>
              obtain ⟨r, rfl, HR, HB3, HF3⟩ := hcut
              clear HB2 HF2 hq0 hq1 hq2 hq3 hq4 hq5 hq6 hq7 hq8 hq9 hq10 hq11 hq12 hq13 hq14 hq15 hq16 hq17
              cases r
              · have HG : Kp (LoadOk true t) := ⟨Classical.byContradiction fun h => Bool.false_ne_true (HR.out.2 h)⟩
                have hq18 := HB3.out.cell 18 (.slice none 0 0) rfl
                have hf18 := HB3.out.free 18
                have hwa : IntKind.i64.wrap 64 = 64 := by decide
                have hwb : IntKind.i64.wrap (9 + 64) = 73 := by decide
                have hwc : IntKind.i64.wrap 73 = 73 := by decide
                have hlo' : (73 : Int) ≤ (t.length : Int) := by omega
                have HSr : Kp (Src wc.drew (fun k => k = b) (if c = 73 then some ⟨bs, os, none⟩ else some ⟨bs, os + 73, none⟩) (c - 73) (t.drop 73)) := ⟨src_tail (HX.out.fr HF3.out.drew (fun h => h)) (by have := HB.out; omega) hc 73⟩
                have HTl : Kp ((t.drop 73).length = t.length - 73) := ⟨List.length_drop⟩
                have HWz : Kp (low ≤ wc.drew.heap.size) := ⟨Nat.le_trans HL.out.size HF3.out.size⟩
                go_upto_region 19 with (fail)
                refine wp_region_any (by kernel_rfl) ?_
                try (change wpAny _ _ _ _ _ _ _ (World.drew _))
                refine wpAny_take (i := 0) (v := ?_) rfl (by kernel_rfl) (by kernel_rfl) (by kernel_rfl) (fun _ _ _ h => h) (Or.inl ⟨by rfl, ?_⟩) ?_
                rotate_left
                · intro w; go_simp; try with_reducible rfl
                go_simp
                refine wpAny_take (i := 1) (v := ?_) rfl (by kernel_rfl) (by kernel_rfl) (by kernel_rfl) (fun _ _ _ h => h) (Or.inl ⟨by rfl, ?_⟩) ?_
                rotate_left
                · intro w; go_simp; try with_reducible rfl
                go_simp
                refine wpAny_take (i := 2) (v := ?_) rfl (by kernel_rfl) (by kernel_rfl) (by kernel_rfl) (fun _ _ _ h => h) (Or.inl ⟨by rfl, ?_⟩) ?_
                rotate_left
                · intro w; go_simp; try with_reducible rfl
                go_simp
                refine wpAny_take (i := 3) (v := ?_) rfl (by kernel_rfl) (by kernel_rfl) (by kernel_rfl) (fun _ _ _ h => h) (Or.inl ⟨by rfl, ?_⟩) ?_
                rotate_left
                · intro w; go_simp; try with_reducible rfl
                go_simp
                refine wpAny_take (i := 5) (v := ?_) rfl (by kernel_rfl) (by kernel_rfl) (by kernel_rfl) (fun _ _ _ h => h) (Or.inl ⟨by rfl, ?_⟩) ?_
                rotate_left
                · intro w; go_simp; try with_reducible rfl
                go_simp
                refine wpAny_take (i := 6) (v := ?_) rfl (by kernel_rfl) (by kernel_rfl) (by kernel_rfl) (fun _ _ _ h => h) (Or.inl ⟨by rfl, ?_⟩) ?_
                rotate_left
                · intro w; go_simp; try with_reducible rfl
                go_simp
                refine wpAny_take (i := 7) (v := ?_) rfl (by kernel_rfl) (by kernel_rfl) (by kernel_rfl) (fun _ _ _ h => h) (Or.inl ⟨by rfl, ?_⟩) ?_
                rotate_left
                · intro w; go_simp; try with_reducible rfl
                go_simp
                refine wpAny_take (i := 8) (v := ?_) rfl (by kernel_rfl) (by kernel_rfl) (by kernel_rfl) (fun _ _ _ h => h) (Or.inl ⟨by rfl, ?_⟩) ?_
                rotate_left
                · intro w; go_simp; try with_reducible rfl
                go_simp
                refine wpAny_take (i := 9) (v := ?_) rfl (by kernel_rfl) (by kernel_rfl) (by kernel_rfl) (fun _ _ _ h => h) (Or.inl ⟨by rfl, ?_⟩) ?_
                rotate_left
                · intro w; go_simp; try with_reducible rfl
                go_simp
                refine wpAny_ready (rs := [4]) (by kernel_rfl) (by simp) ?_
                refine AllReady.cons rfl (fun K hK => ?_) ?_
                · go_simp
                  refine hK _ _ ?_; clear hK K
                  (try go_simp)
                  refine wpAny_ready (rs := [10]) (by kernel_rfl) (by simp) ?_
                  refine AllReady.cons rfl (fun K hK => ?_) ?_
                  · refine step_appendS (by rfl) _ _ (by rfl) (by rfl) low (.slice none 0 0) [] (by rfl) ⟨rfl, .inl ⟨rfl, rfl⟩⟩ (if c = 73 then some ⟨bs, os, none⟩ else some ⟨bs, os + 73, none⟩) (t.length - 73) (c - 73) (t.drop 73) HTl.out.symm (by rfl) HSr.out (by rw [HTl.out]; simp only [List.length_nil]; omega) HWz.out ?_; intro v2 w2 hown hgr hat
                    refine hK _ _ ?_; clear hK K
                    obtain ⟨A2, cq, hv2, _⟩ := own_shape hown
                    subst hv2
                    have HOw : Kp (w2.ownsRow low 5 1 (.slice A2 (t.length - 73) cq) (t.drop 73).length (bytes (t.drop 73))) := ⟨by
                      have h := hown
                      simp only [List.nil_append] at h
                      rw [HTl.out] at h ⊢
                      exact h⟩
                    have HGr := Kp.mk hgr
                    have HAt : Kp ((Value.slice A2 (t.length - 73) cq).ownBlock = (Value.slice none 0 0).ownBlock ∨ (Value.slice A2 (t.length - 73) cq).ownBlock = some wc.drew.heap.size) := ⟨by cases A2 <;> exact hat⟩
                    have hq18' := (hgr.cell_far ⟨b, 18, none⟩ HB3.out.lt (by simp [Value.ownBlock])).trans hq18
                    have hf18' := (hgr.frozen_far ⟨b, 18, none⟩ HB3.out.lt (by simp [Value.ownBlock])).trans hf18
                    clear hown hgr hat
                    go_simp
                    refine wpAny_take (i := 11) (v := ?_) rfl (by kernel_rfl) (by kernel_rfl) (by kernel_rfl) (fun _ _ _ h => h) (Or.inl ⟨by rfl, ?_⟩) ?_
                    rotate_left
                    · intro w; go_simp; try with_reducible rfl
                    go_simp
                    refine wpAny_take (i := 12) (v := ?_) rfl (by kernel_rfl) (by kernel_rfl) (by kernel_rfl) (fun _ _ _ h => h) (Or.inl ⟨by rfl, ?_⟩) ?_
                    rotate_left
                    · intro w; go_simp; try with_reducible rfl
                    go_simp
                    refine wpAny_ready (rs := [13]) (by kernel_rfl) (by simp) ?_
                    refine AllReady.cons rfl (fun K hK => ?_) ?_
                    · go_simp
                      refine hK _ _ ?_; clear hK K
                      (try go_simp)
                      have hst : loadSt true t = ⟨true, x.toNat, ⟨⟨c0, c1, c2, c3, c4, c5, c6, c7⟩, ⟨d0, d1, d2, d3, d4, d5, d6, d7⟩⟩, t.drop 73⟩ := by
                        unfold loadSt
                        rw [← HCC.out, ← HXx.out]
                        rfl
                      have hB := HB3.out.drew
                      have hF2 : Fr (fun _ => False) wc.drew w2 := (Fr.refl _ _).grown HGr.out (fun _ _ h => by cases h)
                      have HPost : Kp (LdPost w true t (.returned (.tuple #[.pointer (some ⟨b, 0, none⟩), .int .i64 0])) (w2.setCell ⟨b, 18, none⟩ (.slice A2 (t.length - 73) cq))) := ⟨by
                        refine .inl ⟨HG.out, b, .slice A2 (t.length - 73) cq, rfl, fun k hk => ?_, ⟨?_, ?_, ?_⟩, ?_⟩
                        · rcases hk with rfl | hk
                          · rw [HB.out]; exact Nat.le_refl _
                          · rcases HAt.out with h | h
                            · have := h.symm.trans hk; cases this
                            · obtain rfl := Option.some.inj (h.symm.trans hk)
                              exact HF3.out.size
                        · rw [hst]
                          have h := (hB.fr hF2 (fun h => h)).set 18 (.slice A2 (t.length - 73) cq)
                          exact h
                        · rw [hst]
                          exact own_keep HOw.out (fr_put w2 b 18 _) (fun k hk e => own_ne HOw.out hk (hB.fr hF2 (fun h => h)) (by decide) e)
                        · have := HB.out; have := HL.out.size; omega
                        · exact ((HF3.out.drew.trans hF2 (fun _ _ h => h)).trans (fr_put w2 b 18 _) (fun k hk h => by have := HB.out; omega)).below (fun _ _ h => h)⟩
                      refine wpAny_done (by kernel_rfl) ?_ _
                      go_wp2
                      all_goals (go_ret2; exact HPost.out)
                    exact AllReady.nil
                  exact AllReady.nil
                exact AllReady.nil
              · go_wp2
                go_ret2
                exact .inr ⟨HR.out.1 (by first | rfl | trivial), rfl, HF3.out.below (fun _ _ h => h)⟩
        · have hne : ((t.length : Int) != 73 + (x.toNat : Int) % 128) = true := by
            have e : ¬ ((t.length : Int) = 73 + (x.toNat : Int) % 128) := by omega
            simpa using e
          go_wp2
          go_ret2
          exact .inr ⟨fun h => hlen (by have := h.len; rw [← HXx.out] at this; exact this), rfl, HF1.out.below (fun _ _ h => h)⟩
      · have hd1 : decide ((2305843009213693951 : Int) < (x.toNat : Int)) = true := decide_eq_true (by omega)
        go_wp2
        go_ret2
        exact .inr ⟨fun h => hmax (by have := h.cnt; rw [HXx.out]; exact this), rfl, HF1.out.below (fun _ _ h => h)⟩
end Go.Proofs.YtjcfnflkiialbaaDoor.Sha.R64
namespace Go.Proofs.YtjcfnflkiialbaaDoor.Sha
open Go.RowKit Go.Proofs.YtjcfnflkiialbaaDoor.Mem Go.Proofs.YtjcfnflkiialbaaDoorW.PrintWords
/-- what Load answers, whatever the text -/
def LdAll (w : World) (t : List Int) (e : Ending) (w' : World) : Prop :=
  (∃ B, LoadOk B t ∧ ∃ b rv, e = .returned (.tuple #[.pointer (some ⟨b, 0, none⟩), .int .i64 0]) ∧ (∀ k, dfoot b rv k → w.heap.size ≤ k) ∧ Dg w' b rv (loadSt B t) ∧ Below w.heap.size w w') ∨
  ((∀ B, ¬ LoadOk B t) ∧ e = .returned (.tuple #[.pointer none, .int .i64 11]) ∧ Below w.heap.size w w')
theorem tag_false {t : List Int} {B : Bool} (h : LoadOk B t) : t.getD 0 0 = 1 ∨ t.getD 0 0 = 2 := by
  have := h.tag
  cases B
  · exact .inl this
  · exact .inr this
theorem ld_short (A : Option Addr) (c : Nat) (t : List Int) (hl : t.length < 9) (w : World) : Calls Tryd.prog 39 #[.slice A t.length c] w (LdAll w t) := by
  have hno : Kp (∀ B, ¬ LoadOk B t) := ⟨fun B h => by have := h.len; omega⟩
  have hd : decide ((t.length : Int) < 9) = true := decide_eq_true (by omega)
  go_enter Tryd.func39, Tryd.ntmps39
  go_wp2
  go_ret2
  exact .inr ⟨hno.out, rfl, Below.refl _ _⟩
theorem ld_tag (bs os c : Nat) (t : List Int) (hl : 9 ≤ t.length) (h1 : t.getD 0 0 ≠ 1) (h2 : t.getD 0 0 ≠ 2) (w : World) (hX : Reads w bs os t) : Calls Tryd.prog 39 #[.slice (some ⟨bs, os, none⟩) t.length c] w (LdAll w t) := by
  have hno : Kp (∀ B, ¬ LoadOk B t) := ⟨fun B h => by
    rcases tag_false h with h | h
    · exact h1 h
    · exact h2 h⟩
  have hd : decide ((t.length : Int) < 9) = false := decide_eq_false (by omega)
  have hc0 := hX.2 0 (by omega)
  rw [Nat.add_zero] at hc0
  have n1 : (t.getD 0 0 != 1) = true := by simpa using h1
  have n2 : (t.getD 0 0 != 2) = true := by simpa using h2
  clear h1 h2 hX
  generalize t.getD 0 0 = z at hc0 n1 n2
  go_enter Tryd.func39, Tryd.ntmps39
  go_wp2
  go_ret2
  exact .inr ⟨hno.out, rfl, Below.refl _ _⟩
theorem ld_calls (A : Option Addr) (c : Nat) (t : List Int) (hm : t.length ≤ 140737488351232) (w : World) (hL : Laid w) {S : Nat → Prop} (hX : Src w S A c t) :
    Calls Tryd.prog 39 #[.slice A t.length c] w (LdAll w t) := by
  by_cases hl : 9 ≤ t.length
  · rcases hX.2 with ⟨_, _, rfl⟩ | ⟨rfl, _⟩ | ⟨bs, os, rfl, hR, _⟩
    · simp at hl
    · simp at hl
    · by_cases h1 : t.getD 0 0 = 1
      · refine (R32.ld_calls bs os c t hl h1 hm hX.1 w hL hR).mono ?_
        rintro e w' (⟨h, b, rv, he, h2, h3, h4⟩ | ⟨h, h2, h3⟩)
        · exact .inl ⟨false, h, b, rv, he, h2, h3, h4⟩
        · refine .inr ⟨fun B hB => ?_, h2, h3⟩
          cases B
          · exact h hB
          · have := hB.tag; rw [h1] at this; exact absurd this (by decide)
      · by_cases h2 : t.getD 0 0 = 2
        · refine (R64.ld_calls bs os c t hl h2 hm hX.1 w hL hR).mono ?_
          rintro e w' (⟨h, b, rv, he, h2', h3, h4⟩ | ⟨h, h2', h3⟩)
          · exact .inl ⟨true, h, b, rv, he, h2', h3, h4⟩
          · refine .inr ⟨fun B hB => ?_, h2', h3⟩
            cases B
            · have := hB.tag; rw [h2] at this; exact absurd this (by decide)
            · exact h hB
        · exact ld_tag bs os c t hl h1 h2 w hR
  · exact ld_short A c t (by omega) w
end Go.Proofs.YtjcfnflkiialbaaDoor.Sha
