/-
  The walk of cube: it answers true where the word's digits, behind the whole part of the root, are the greatest number whose cube is not above the prime: what the helpers reckon is given as premises, to be reckoned word by word.
-/
import Derived.Test.YtjcfnflkiialbaaDoorBig1
import Derived.Test.YtjcfnflkiialbaaDoorMem
namespace Go.Proofs.YtjcfnflkiialbaaDoor.Wk
open Go.RowKit Go.Proofs.YtjcfnflkiialbaaDoor.PShaConstants Go.Proofs.YtjcfnflkiialbaaDoorW.PrintWords Go.Proofs.YtjcfnflkiialbaaDoorW.PrintLast Go.Proofs.YtjcfnflkiialbaaDoorW.PrintMore Go.Proofs.YtjcfnflkiialbaaDoor.Mem
/-- the digits of the word, the lowest first, behind k rounds -/
def rootL (xs : List Int) (n : Nat) : Nat → List Int
  | 0 => List.replicate (n + 1) 0
  | k + 1 => (rootL xs n k).set (n - 1 - k) (rd xs (2 * (k : Int)) * 256 + rd xs (2 * (k : Int) + 1))
theorem rootL_length (xs : List Int) (n : Nat) : ∀ k, (rootL xs n k).length = n + 1
  | 0 => by simp [rootL]
  | k + 1 => by simp [rootL, rootL_length xs n k]
theorem rootL_top (xs : List Int) (n : Nat) : ∀ k, k ≤ n → (rootL xs n k)[n]? = some 0
  | 0, _ => by simp [rootL]
  | k + 1, h => by rw [rootL, List.getElem?_set_ne (by omega)]; exact rootL_top xs n k (by omega)
def vals (l : List Int) : List Value := l.map (Value.int .i64)
theorem vals_set (l : List Int) (i : Nat) (x : Int) : (vals l).set i (.int .i64 x) = vals (l.set i x) := by simp [vals, List.map_set]
theorem vals_get (l : List Int) (i : Nat) (x : Int) (h : l[i]? = some x) : (vals l)[i]? = some (.int .i64 x) := by simp [vals, h]
theorem make_ints (n : Nat) (h1 : n ≤ 1000) (w : World) : (Instr.makeSlice 22 (.int .i64 (n : Int)) (.int .i64 (n : Int))).run Tryd.prog w = .ok (.slice (some ⟨w.heap.size, 0, none⟩) n n) (w.alloc (.cells (vals (List.replicate n 0)).toArray 3)) := by
  obtain ⟨i0, hi, hz0, hz1, hz2⟩ := info_parts info3
  have h := run_make (P := Tryd.prog) w 22 3 i0 (.int .i64 0) Tryd.underlying22 hi hz0 .i64 .i64 n n (by omega) (by omega) (by rw [hz2]; omega) (by omega)
  rw [hz1, Nat.mul_one, Int.toNat_natCast] at h
  rw [h]
  have : madeCells (Value.int .i64 0).cells n = (vals (List.replicate n 0)).toArray := by
    apply Array.ext
    · simp [size_madeCells, vals]
    · intro i h1 h2
      simp [madeCells, vals, Value.cells, Nat.mod_one]
  rw [this]
theorem c_open {k : IntKind} {w : World} {A : Option Addr} {n : Nat} {xs : List Int} (h : Kd.C (Kd.int k) w A n xs) (hn : 0 < n) :
    ∃ b off, A = some ⟨b, off, none⟩ ∧ b < w.heap.size ∧ ∀ i, i < n → w.cell? ⟨b, off + i, none⟩ = some (.int k (rd xs (i : Int))) := by
  obtain ⟨_, _, h2⟩ := Kd.reads_of_C (enc := Value.int k) (d := (0 : Int)) (h1 := fun _ => rfl) h
  obtain ⟨ad, rfl, hc⟩ := h2 hn
  have h0 := hc 0 hn
  have hs : ad.spot = none := by
    rw [Addr.add_zero'] at h0
    unfold World.cell? at h0
    cases hsp : ad.spot with
    | none => rfl
    | some s => rw [hsp] at h0; split at h0 <;> simp at h0
  refine ⟨ad.block, ad.off, by cases ad; simp at hs; subst hs; rfl, ?_, fun i hi => ?_⟩
  · have := World.block_lt_of_cell? w _ h0
    rw [Addr.add_zero'] at this
    exact this
  · have := hc i hi
    have e : ad.add i = ⟨ad.block, ad.off + i, none⟩ := by
      have ea : ad = ⟨ad.block, ad.off, none⟩ := by cases ad; simp at hs; subst hs; rfl
      rw [ea, Addr.add_lit]
    rw [e] at this
    rw [this]
    simp [rd]
theorem c_of_blk {w : World} {b : Nat} {rs : List Int} (h : Blk w b 3 (vals rs)) : rs.length ≤ 1000 → Kd.C (Kd.int .i64) w (some ⟨b, 0, none⟩) rs.length rs := by
  intro hl
  refine Kd.C_of_reads (d := (0 : Int)) ⟨rfl, by omega, fun _ => ⟨_, rfl, fun j hj => ?_⟩⟩
  rw [Addr.add_lit, Nat.zero_add]
  exact h.cell j _ (vals_get _ _ _ (by rw [List.getD_eq_getElem?_getD, List.getElem?_eq_getElem hj]; rfl))
theorem times_w (K : Nat) (A0 : Option Addr) (n0 c0 : Nat) (l0 : List Int) (A1 : Option Addr) (n1 c1 : Nat) (l1 r : List Int) (w : World) (e0 : l0.length = n0) (e1 : l1.length = n1)
    (hr0 : Kd.C (Kd.int .i64) w A0 l0.length l0) (hc0 : l0.length ≤ c0) (hr1 : Kd.C (Kd.int .i64) w A1 l1.length l1) (hc1 : l1.length ≤ c1) (h : ledgerlaw01_times.f K l0 l1 = some r) :
    Calls Tryd.prog 50 #[.slice A0 n0 c0, .slice A1 n1 c1] w fun e w' => ∃ A c, e = .returned (.slice A r.length c) ∧ r.length ≤ c ∧ Kd.C (Kd.int .i64) w' A r.length r ∧ Below w.heap.size w w' := by
  subst e0
  subst e1
  refine (ledgerlaw01_times.calls K A0 c0 l0 A1 c1 l1 r w hr0 hc0 hr1 hc1 h).mono ?_
  rintro e w' ⟨v, rfl, h1, h2⟩
  obtain ⟨A, c, rfl, h3, h4⟩ := Kd.R_reads h1
  exact ⟨A, c, rfl, h3, h4, h2⟩
theorem next_w (K : Nat) (A0 : Option Addr) (n0 c0 : Nat) (l0 r : List Int) (w : World) (e0 : l0.length = n0)
    (hr0 : Kd.C (Kd.int .i64) w A0 l0.length l0) (hc0 : l0.length ≤ c0) (h : ledgerlaw01_next.f K l0 = some r) :
    Calls Tryd.prog 52 #[.slice A0 n0 c0] w fun e w' => ∃ A c, e = .returned (.slice A r.length c) ∧ r.length ≤ c ∧ Kd.C (Kd.int .i64) w' A r.length r ∧ Below w.heap.size w w' := by
  subst e0
  refine (ledgerlaw01_next.calls K A0 c0 l0 r w hr0 hc0 h).mono ?_
  rintro e w' ⟨v, rfl, h1, h2⟩
  obtain ⟨A, c, rfl, h3, h4⟩ := Kd.R_reads h1
  exact ⟨A, c, rfl, h3, h4, h2⟩
theorem above_w (K : Nat) (A0 : Option Addr) (n0 c0 : Nat) (l0 : List Int) (A1 : Option Addr) (n1 c1 : Nat) (l1 : List Int) (r : Bool) (w : World) (e0 : l0.length = n0) (e1 : l1.length = n1)
    (hr0 : Kd.C (Kd.int .i64) w A0 l0.length l0) (hc0 : l0.length ≤ c0) (hr1 : Kd.C (Kd.int .i64) w A1 l1.length l1) (hc1 : l1.length ≤ c1) (h : ledgerlaw01_above.f K l0 l1 = some r) :
    Calls Tryd.prog 51 #[.slice A0 n0 c0, .slice A1 n1 c1] w fun e w' => e = .returned (.bool r) ∧ Below w.heap.size w w' := by
  subst e0
  subst e1
  refine (ledgerlaw01_above.calls K A0 c0 l0 A1 c1 l1 r w hr0 hc0 hr1 hc1 h).mono ?_
  rintro e w' ⟨rfl, h1⟩
  exact ⟨rfl, h1.below⟩
theorem cubes (q : Nat) (h : q ≤ 10) : 0 ≤ ((q : Int) + 1) * ((q : Int) + 1) ∧ ((q : Int) + 1) * ((q : Int) + 1) ≤ 121 ∧ 0 ≤ (((q : Int) + 1) * ((q : Int) + 1)) * ((q : Int) + 1) ∧ (((q : Int) + 1) * ((q : Int) + 1)) * ((q : Int) + 1) ≤ 1331 := by
  have : q = 0 ∨ q = 1 ∨ q = 2 ∨ q = 3 ∨ q = 4 ∨ q = 5 ∨ q = 6 ∨ q = 7 ∨ q = 8 ∨ q = 9 ∨ q = 10 := by omega
  rcases this with rfl | rfl | rfl | rfl | rfl | rfl | rfl | rfl | rfl | rfl | rfl <;> decide
set_option maxHeartbeats 2000000 in
set_option maxRecDepth 100000 in
theorem cube_calls (p : Int) (n : Nat) (hn0 : 0 < n) (hn : n ≤ 100) (xs : List Int) (hx : xs.length = 2 * n) (hx0 : ∀ i, 0 ≤ rd xs i ∧ rd xs i ≤ 255) (A : Option Addr) (c : Nat) (hc : 2 * n ≤ c) (w : World)
    (hC : Kd.C (Kd.int .u8) w A (2 * n) xs) (Q : Nat) (hQ0 : Q ≤ 10) (hQ1 : ∀ q : Nat, q < Q → (((q : Int) + 1) * ((q : Int) + 1)) * ((q : Int) + 1) ≤ p) (hQ2 : p < (((Q : Int) + 1) * ((Q : Int) + 1)) * ((Q : Int) + 1))
    (K : Nat) (t1 t2 up t3 t4 : List Int) (e1 : ledgerlaw01_times.f K ((rootL xs n n).set n (Q : Int)) ((rootL xs n n).set n (Q : Int)) = some t1) (e2 : ledgerlaw01_times.f K t1 ((rootL xs n n).set n (Q : Int)) = some t2)
    (e3 : ledgerlaw01_above.f K t2 ((List.replicate (3 * n + 1) 0).set (3 * n) p) = some false) (e4 : ledgerlaw01_next.f K ((rootL xs n n).set n (Q : Int)) = some up)
    (e5 : ledgerlaw01_times.f K up up = some t3) (e6 : ledgerlaw01_times.f K t3 up = some t4) (e7 : ledgerlaw01_above.f K t4 ((List.replicate (3 * n + 1) 0).set (3 * n) p) = some true) :
    Calls Tryd.prog 21 #[.int .i64 p, .slice A (2 * n) c] w fun e w' => e = .returned (.bool true) ∧ Below w.heap.size w w' := by
  have hmk : ∀ w, (Instr.makeSlice 22 (.int .i64 ((n : Int) + 1)) (.int .i64 ((n : Int) + 1))).run Tryd.prog w = .ok (.slice (some ⟨w.heap.size, 0, none⟩) (n + 1) (n + 1)) (w.alloc (.cells (vals (List.replicate (n + 1) 0)).toArray 3)) := make_ints (n + 1) (by omega)
  have hdiv : (2 * (n : Int)).tdiv 2 = n := by rw [Int.tdiv_eq_ediv_of_nonneg (by omega)]; omega
  have HX := Kp.mk hx
  have HX0 := Kp.mk hx0
  have HCC := Kp.mk hC
  obtain ⟨xb, xo, rfl, hxb, hxc⟩ := c_open hC (by omega)
  have HXC := Kp.mk hxc
  have E1 := Kp.mk e1
  have E2 := Kp.mk e2
  have E3 := Kp.mk e3
  have E4 := Kp.mk e4
  have E5 := Kp.mk e5
  have E6 := Kp.mk e6
  have E7 := Kp.mk e7
  clear hx hx0 hC hxc e1 e2 e3 e4 e5 e6 e7
  go_enter Tryd.func21, Tryd.ntmps21
  go_wp2
  have hblk : Kp (Blk (w.alloc (.cells (vals (List.replicate (n + 1) 0)).toArray 3)) w.heap.size 3 (vals (rootL xs n 0))) := ⟨Blk.new _ _ _⟩
  have hfr : Kp (Fr (fun _ => False) w (w.alloc (.cells (vals (List.replicate (n + 1) 0)).toArray 3))) := ⟨(Fr.refl _ _).alloc _⟩
  go_loopw [7] (fun i wr => ∃ k : Nat, i = .int .i64 k ∧ Kp (k ≤ n) ∧ Kp (Blk wr w.heap.size 3 (vals (rootL xs n k))) ∧ Kp (Fr (fun _ => False) w wr)) (fun i _ => n - (intOf i).toNat)
  case atStart => exact ⟨0, rfl, ⟨Nat.zero_le _⟩, hblk, hfr⟩
  case round =>
    clear hblk hfr
    obtain ⟨k, rfl, A1, HB, HF⟩ := hrel
    have hk := A1.out
    by_cases hlt : k < n
    · have hc0 := (HF.out.block_cell (a := ⟨xb, xo + 2 * k, none⟩) hxb).trans (HXC.out (2 * k) (by omega))
      have hc1 := (HF.out.block_cell (a := ⟨xb, xo + (2 * k + 1), none⟩) hxb).trans (HXC.out (2 * k + 1) (by omega))
      rw [show ((2 * k : Nat) : Int) = 2 * (k : Int) by omega] at hc0
      rw [show ((2 * k + 1 : Nat) : Int) = 2 * (k : Int) + 1 by omega] at hc1
      have hd := HB.out.cell (n - 1 - k) (.int .i64 ((rootL xs n k).getD (n - 1 - k) 0)) (vals_get _ _ _ (by rw [List.getD_eq_getElem?_getD, List.getElem?_eq_getElem (by rw [rootL_length]; omega)]; rfl))
      have hfz := HB.out.free (n - 1 - k)
      have hsub : ((n : Int) - 1 - (k : Int)).toNat = n - 1 - k := by omega
      have hr0 := HX0.out (2 * (k : Int))
      have hr1 := HX0.out (2 * (k : Int) + 1)
      obtain ⟨u0, hu0⟩ : ∃ u, u = rd xs (2 * (k : Int)) := ⟨_, rfl⟩
      obtain ⟨u1, hu1⟩ : ∃ u, u = rd xs (2 * (k : Int) + 1) := ⟨_, rfl⟩
      rw [← hu0] at hc0 hr0
      rw [← hu1] at hc1 hr1
      have HU0 := Kp.mk hu0
      have HU1 := Kp.mk hu1
      obtain ⟨hr00, hr01⟩ := hr0
      obtain ⟨hr10, hr11⟩ := hr1
      clear hu0 hu1
      go_wp2
      go_region
      go_wp2
      go_roundw
      case rel =>
        refine ⟨k + 1, by go_num, ⟨by omega⟩, ⟨?_⟩, ⟨?_⟩⟩
        · have h := HB.out.set (n - 1 - k) (.int .i64 (u0 * 256 + u1))
          rw [vals_set, HU0.out, HU1.out] at h
          rw [HU0.out, HU1.out]
          exact h
        · exact (HF.out.set (a := ⟨w.heap.size, n - 1 - k, none⟩) (fun h => absurd h (Nat.lt_irrefl _)) _).drew
      case measure => simp [intOf]; omega
    · obtain rfl : k = n := by omega
      clear HX HX0 HXC hk hlt A1 hdiv hmk
      have htop := rootL_top xs k k (Nat.le_refl _)
      obtain ⟨R, hR⟩ : ∃ R, R = rootL xs k k := ⟨_, rfl⟩
      rw [← hR] at HB htop
      have hRl : R.length = k + 1 := by rw [hR, rootL_length]
      have HR := Kp.mk hR
      have HRL := Kp.mk hRl
      clear hR hRl
      have hset : R.set k 0 = R := by
        apply List.ext_getElem?
        intro i
        by_cases hi : i = k
        · subst hi; rw [List.getElem?_set_self (by rw [HRL.out]; omega), htop]
        · rw [List.getElem?_set_ne (Ne.symm hi)]
      have HB0 : Kp (Blk wr w.heap.size 3 (vals (R.set k ((0 : Nat) : Int)))) := ⟨by show Blk _ _ _ (vals (R.set k 0)); rw [hset]; exact HB.out⟩
      clear hset htop HB
      go_wp2
      go_loopg [] 20 (fun g wr => ∃ q : Nat, Kp (q + g = 20) ∧ Kp (q ≤ Q) ∧ Kp (Blk wr w.heap.size 3 (vals (R.set k (q : Int)))) ∧ Kp (Fr (fun _ => False) w wr))
      case atStart => exact ⟨0, ⟨rfl⟩, ⟨Nat.zero_le _⟩, HB0, HF⟩
      case round =>
        clear HB0 HF
        obtain ⟨q, G1, G2, HB, HF⟩ := hrel
        have hq := G2.out
        have hd := HB.out.cell k (.int .i64 q) (vals_get _ _ _ (by rw [List.getElem?_set_self (by rw [HRL.out]; omega)]))
        have hfz := HB.out.free k
        obtain ⟨s1, s2, s3, s4⟩ := cubes q (Nat.le_trans hq hQ0)
        by_cases hlt : q < Q
        · have hcube := hQ1 q hlt
          go_wp2
          go_quiet (fail)
          obtain ⟨g', rfl⟩ : ∃ g', gk = g' + 1 := ⟨gk - 1, by have := G1.out; omega⟩
          go_wp2
          go_roundg g'
          case measure => omega
          case rel =>
            refine ⟨q + 1, ⟨by have := G1.out; omega⟩, ⟨by omega⟩, ⟨?_⟩, ⟨?_⟩⟩
            · have h := HB.out.set k (.int .i64 ((q : Int) + 1))
              rw [vals_set, List.set_set] at h
              exact h
            · exact (HF.out.drewN nq).set (a := ⟨w.heap.size, k, none⟩) (fun h => absurd h (Nat.lt_irrefl _)) _
        · obtain rfl : q = Q := by omega
          go_wp2
          go_quiet (fail)
          have hmk : ∀ w, (Instr.makeSlice 22 (.int .i64 (3 * (k : Int) + 1)) (.int .i64 (3 * (k : Int) + 1))).run Tryd.prog w = .ok (.slice (some ⟨w.heap.size, 0, none⟩) (3 * k + 1) (3 * k + 1)) (w.alloc (.cells (vals (List.replicate (3 * k + 1) 0)).toArray 3)) := make_ints (3 * k + 1) (by omega)
          have hbH : Blk ((wr.drewN nq).alloc (.cells (vals (List.replicate (3 * k + 1) 0)).toArray 3)) wr.heap.size 3 (vals (List.replicate (3 * k + 1) 0)) := Blk.new (wr.drewN nq) _ _
          have hcH := hbH.cell (3 * k) (.int .i64 0) (vals_get _ _ _ (by simp))
          have hfH := hbH.free (3 * k)
          have hbH2 : Kp (Blk (((wr.drewN nq).alloc (.cells (vals (List.replicate (3 * k + 1) 0)).toArray 3)).setCell ⟨wr.heap.size, 3 * k, none⟩ (.int .i64 p)) wr.heap.size 3 (vals ((List.replicate (3 * k + 1) 0).set (3 * k) p))) := ⟨by rw [← vals_set]; exact hbH.set _ _⟩
          have hbR : Kp (Blk (((wr.drewN nq).alloc (.cells (vals (List.replicate (3 * k + 1) 0)).toArray 3)).setCell ⟨wr.heap.size, 3 * k, none⟩ (.int .i64 p)) w.heap.size 3 (vals (R.set k (q : Int)))) := ⟨((HB.out.drewN nq).alloc _).set_ne (Nat.ne_of_gt HB.out.lt) _⟩
          have hfr : Kp (Fr (fun _ => False) w (((wr.drewN nq).alloc (.cells (vals (List.replicate (3 * k + 1) 0)).toArray 3)).setCell ⟨wr.heap.size, 3 * k, none⟩ (.int .i64 p))) := ⟨((HF.out.drewN nq).alloc _).set (fun h => absurd h (Nat.not_lt_of_le HF.out.size)) _⟩
          have HBH := Kp.mk hbH
          rw [← HR.out] at E1 E2 E4
          obtain ⟨Rq, hRq⟩ : ∃ Rq, Rq = R.set k (q : Int) := ⟨_, rfl⟩
          rw [← hRq] at hbR E1 E2 E4
          have hRql : Kp (Rq.length = k + 1) := ⟨by rw [hRq, List.length_set]; exact HRL.out⟩
          obtain ⟨Hi, hHi⟩ : ∃ Hi, Hi = (List.replicate (3 * k + 1) (0 : Int)).set (3 * k) p := ⟨_, rfl⟩
          rw [← hHi] at hbH2 E3 E7
          have hHil : Kp (Hi.length = 3 * k + 1) := ⟨by rw [hHi]; simp⟩
          clear hbH hRq hHi HB HF hd hfz G1 G2
          go_wp2_with fail
          generalize ((wr.drewN nq).alloc (.cells (vals (List.replicate (3 * k + 1) 0)).toArray 3)).setCell ⟨wr.heap.size, 3 * k, none⟩ (.int .i64 p) = W1 at hbH2 hbR hfr ⊢
          clear hcH hfH HBH hmk
          refine (times_w K (some ⟨w.heap.size, 0, none⟩) (k + 1) (k + 1) Rq (some ⟨w.heap.size, 0, none⟩) (k + 1) (k + 1) Rq t1 _ hRql.out hRql.out (c_of_blk hbR.out (by rw [hRql.out]; omega)) (by rw [hRql.out]; exact Nat.le_refl _) (c_of_blk hbR.out (by rw [hRql.out]; omega)) (by rw [hRql.out]; exact Nat.le_refl _) E1.out).mono ?_
          rintro e w1 ⟨A1, c1, rfl, l1, C1, B1⟩
          have hbR1 := Kp.mk (hbR.out.below B1)
          have hbH1 := Kp.mk (hbH2.out.below B1)
          have hfr1 := Kp.mk (hfr.out.then_below B1)
          have C1 := Kp.mk C1
          have l1 := Kp.mk l1
          clear hbR hbH2 hfr B1
          go_wp2_with fail
          refine (times_w K A1 t1.length c1 t1 (some ⟨w.heap.size, 0, none⟩) (k + 1) (k + 1) Rq t2 _ rfl hRql.out C1.out l1.out (c_of_blk hbR1.out (by rw [hRql.out]; omega)) (by rw [hRql.out]; exact Nat.le_refl _) E2.out).mono ?_
          rintro e w2 ⟨A2, c2, rfl, l2, C2, B2⟩
          have hbR2 := Kp.mk (hbR1.out.below B2)
          have hbH2 := Kp.mk (hbH1.out.below B2)
          have hfr2 := Kp.mk (hfr1.out.then_below B2)
          have C2 := Kp.mk C2
          have l2 := Kp.mk l2
          clear hbR1 hbH1 hfr1 B2 C1 l1
          go_wp2_with fail
          refine (above_w K A2 t2.length c2 t2 (some ⟨wr.heap.size, 0, none⟩) (3 * k + 1) (3 * k + 1) Hi false _ rfl hHil.out C2.out l2.out (c_of_blk hbH2.out (by rw [hHil.out]; omega)) (by rw [hHil.out]; exact Nat.le_refl _) E3.out).mono ?_
          rintro e w3 ⟨rfl, B3⟩
          have hbR3 := Kp.mk (hbR2.out.below B3)
          have hbH3 := Kp.mk (hbH2.out.below B3)
          have hfr3 := Kp.mk (hfr2.out.then_below B3)
          clear hbR2 hbH2 hfr2 B3 C2 l2
          go_wp2_with fail
          refine (next_w K (some ⟨w.heap.size, 0, none⟩) (k + 1) (k + 1) Rq up _ hRql.out (c_of_blk hbR3.out (by rw [hRql.out]; omega)) (by rw [hRql.out]; exact Nat.le_refl _) E4.out).mono ?_
          rintro e w4 ⟨A4, c4, rfl, l4, C4, B4⟩
          have hbH4 := Kp.mk (hbH3.out.below B4)
          have hfr4 := Kp.mk (hfr3.out.then_below B4)
          have C4 := Kp.mk C4
          have l4 := Kp.mk l4
          clear hbR3 hbH3 hfr3 B4
          go_wp2_with fail
          refine (times_w K A4 up.length c4 up A4 up.length c4 up t3 _ rfl rfl C4.out l4.out C4.out l4.out E5.out).mono ?_
          rintro e w5 ⟨A5, c5, rfl, l5, C5, B5⟩
          have hbH5 := Kp.mk (hbH4.out.below B5)
          have hfr5 := Kp.mk (hfr4.out.then_below B5)
          have C45 := Kp.mk (Kd.C_below C4.out B5)
          have C5 := Kp.mk C5
          have l5 := Kp.mk l5
          clear hbH4 hfr4 B5 C4
          go_wp2_with fail
          refine (times_w K A5 t3.length c5 t3 A4 up.length c4 up t4 _ rfl rfl C5.out l5.out C45.out l4.out E6.out).mono ?_
          rintro e w6 ⟨A6, c6, rfl, l6, C6, B6⟩
          have hbH6 := Kp.mk (hbH5.out.below B6)
          have hfr6 := Kp.mk (hfr5.out.then_below B6)
          have C6 := Kp.mk C6
          have l6 := Kp.mk l6
          clear hbH5 hfr5 B6 C5 C45 l4 l5
          go_wp2_with fail
          refine (above_w K A6 t4.length c6 t4 (some ⟨wr.heap.size, 0, none⟩) (3 * k + 1) (3 * k + 1) Hi true _ rfl hHil.out C6.out l6.out (c_of_blk hbH6.out (by rw [hHil.out]; omega)) (by rw [hHil.out]; exact Nat.le_refl _) E7.out).mono ?_
          rintro e w7 ⟨rfl, B7⟩
          have hfr7 := Kp.mk (hfr6.out.then_below B7)
          clear hbH6 hfr6 B7 C6 l6
          go_wp2
          go_ret
          exact ⟨rfl, hfr7.out.below (fun _ _ h => h)⟩
end Go.Proofs.YtjcfnflkiialbaaDoor.Wk
