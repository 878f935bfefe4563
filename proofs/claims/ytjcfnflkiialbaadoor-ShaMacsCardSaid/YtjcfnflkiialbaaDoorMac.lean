/-
  The walk of Mac.
-/
import Derived.Test.YtjcfnflkiialbaaDoorSolo
import Derived.Laws.IdiomCopy
import Derived.Laws.CopyRow
import Derived.Deep.DeepCutAuto
import Derived.Deep.CutBlock
namespace Go.Proofs.YtjcfnflkiialbaaDoor.Sha
open Go.RowKit Go.Proofs.YtjcfnflkiialbaaDoor.Mem Go.Proofs.YtjcfnflkiialbaaDoorW.PrintWords
/-- HMAC's key, its two pads, and the code -/
def normKey (key : List Int) : List Int := if 64 < key.length then hash false key else key
def pad64 (k : List Int) : List Int := k ++ List.replicate (64 - k.length) 0
def xorL (c : Int) (l : List Int) : List Int := l.map fun b => bits .xor .u8 b c
def macL (key data : List Int) : List Int := hash false (xorL 92 (pad64 (normKey key)) ++ hash false (xorL 54 (pad64 (normKey key)) ++ data))
theorem xorL_length (c : Int) (l : List Int) : (xorL c l).length = l.length := by simp [xorL]
theorem pad64_length (k : List Int) (h : k.length ≤ 64) : (pad64 k).length = 64 := by simp [pad64]; omega
/-- copy of a list that is read to the head of a block -/
theorem run_copy_src (w : World) (g : Nat) (T : TypeId) (cur : List Value) (hb : Blk w g T cur) (n cap : Nat) (hn : cur.length = n) (A : Option Addr) (m c : Nat) (p : List Int) (hm : m = p.length) {S : Nat → Prop} (hr : Src w S A c p) (hp : p.length ≤ n) :
    ∃ w', (Builtin.copy_ #[23, 23] 3 #[.slice (some ⟨g, 0, none⟩) n cap, .slice A m c]).run Tryd.prog w = .ok (goInt p.length) w' ∧ Blk w' g T (bytes p ++ cur.drop p.length) ∧ Fr (fun k => k = g) w w' := by
  subst hm
  have hs : (Tryd.prog.info? 5).map (·.size) = some 1 := by kernel_rfl
  have nil : p = [] → ∃ w', (Builtin.copy_ #[23, 23] 3 #[.slice (some ⟨g, 0, none⟩) n cap, .slice A p.length c]).run Tryd.prog w = .ok (goInt p.length) w' ∧ Blk w' g T (bytes p ++ cur.drop p.length) ∧ Fr (fun k => k = g) w w' := by
    rintro rfl
    exact ⟨w, run_copy_none w _ _ _ _ _ _ _ _ _ _ Tryd.underlying23 hs (by simp), by simpa [bytes] using hb, Fr.refl _ _⟩
  rcases hr.2 with ⟨_, _, h⟩ | ⟨h, _⟩ | ⟨bs, os, rfl, h2, _⟩
  · exact nil h
  · exact nil h
  · have hbl : (bytes p).length = p.length := by simp [bytes]
    have hr := run_copy_row (P := Tryd.prog) w 23 23 3 5 g 0 n cap ⟨bs, os, none⟩ p.length c cur.toArray T (bytes p) Tryd.underlying23 hs hb (by rw [hbl]; exact (Nat.min_eq_left hp).symm)
      (fun j v hv => by
        have hj : j < p.length := by
          rcases Nat.lt_or_ge j p.length with h | h
          · exact h
          · rw [List.getElem?_eq_none (by rw [hbl]; exact h)] at hv; cases hv
        rw [bytes_get p j hj] at hv
        rw [Addr.add_lit, h2.2 j hj, ← hv]) (by rw [hbl]; simp; omega) (fun v hv => by
        obtain ⟨z, _, rfl⟩ := List.mem_map.1 hv
        rfl)
    rw [hbl] at hr
    refine ⟨_, hr, ?_, ⟨rfl, rfl, rfl, by simp [World.setRow], fun k _ hk => setRow_other w g k _ hk⟩⟩
    have := setRow_heap w g cur.toArray ((cur.toArray.toList.take 0 ++ bytes p ++ cur.toArray.toList.drop (0 + p.length)).toArray) T _ hb
    unfold Blk
    simpa using this
theorem wpList_copy_src {ops : Array Oper} {rest : List Oper} {o : Oper} {a : Act} {w : World} {Q : Exit → Act → World → Prop} (hgd : o.guard = none) (s x : Operand)
    (ho : o.op = .call { callee := .builtin .copy, args := #[s, x], argTypes := #[23, 23] }) (hty : o.type = 3) (g : Nat) (T : TypeId) (cur : List Value) (hb : Blk w g T cur) (n cap : Nat) (hn : cur.length = n) (hs : a.eval s = .slice (some ⟨g, 0, none⟩) n cap)
    (A : Option Addr) (m c : Nat) (p : List Int) (hm : m = p.length) (hx : a.eval x = .slice A m c) {S : Nat → Prop} (hr : Src w S A c p) (hp : p.length ≤ n)
    (h : ∀ w', Blk w' g T (bytes p ++ cur.drop p.length) → Fr (fun k => k = g) w w' → wpList Tryd.prog ops Q rest (a.put o.dst (goInt p.length)) w') :
    wpList Tryd.prog ops Q (o :: rest) a w := by
  obtain ⟨w', hr', h2, h3⟩ := run_copy_src w g T cur hb n cap hn A m c p hm hr hp
  refine wpList_plain hgd fun _ hK => ?_
  unfold Oper.wp execOp
  simp only [ho, resolve, invoke, builtin, Sem.run_bind, Sem.run_pure, Result.andThen_ok, List.map_toArray, List.map_cons, List.map_nil, hs, hx, hty, hr']
  exact hK _ _ (h w' h2 h3)
theorem pad_cells (k : List Int) : bytes k ++ (List.replicate 64 (Value.int .u8 0)).drop k.length = bytes (pad64 k) := by
  have : (List.replicate 64 (Value.int .u8 0)).drop k.length = List.replicate (64 - k.length) (Value.int .u8 0) := List.drop_replicate
  rw [this]
  simp [pad64, bytes]
/-- k bytes of l have been turned -/
def Turned (c : Int) (l xs : List Int) (k : Nat) : Prop := xs.length = l.length ∧ xs.take k = (xorL c l).take k ∧ xs.drop k = l.drop k
theorem Turned.step {c : Int} {l xs : List Int} {k : Nat} (h : Turned c l xs k) (hk : k < l.length) : xs[k]? = some (l.getD k 0) ∧ Turned c l (xs.set k (bits .xor .u8 (l.getD k 0) c)) (k + 1) := by
  obtain ⟨h1, h2, h3⟩ := h
  have hkx : k < xs.length := by omega
  have e : xs[k]? = l[k]? := by
    have := congrArg (fun z : List Int => z[0]?) h3
    simpa using this
  refine ⟨by rw [e]; simp [hk], by rw [List.length_set]; exact h1, ?_, ?_⟩
  · rw [List.take_set, List.take_succ_eq_append_getElem hkx, h2, List.set_append_right _ _ (by simp [xorL_length]; omega)]
    have hl : ((xorL c l).take k).length = k := by rw [List.length_take, xorL_length]; omega
    rw [hl, Nat.sub_self, List.take_succ_eq_append_getElem (by rw [xorL_length]; exact hk)]
    simp [xorL, hk]
  · rw [List.drop_set_of_lt (by omega)]
    have h4 : xs.drop (k + 1) = (xs.drop k).drop 1 := by rw [List.drop_drop]
    rw [h4, h3, List.drop_drop]
theorem Turned.done {c : Int} {l xs : List Int} (h : Turned c l xs l.length) : xs = xorL c l := by
  obtain ⟨h1, h2, _⟩ := h
  rw [List.take_of_length_le (by omega), List.take_of_length_le (by rw [xorL_length]; omega)] at h2
  exact h2
theorem bytes_set (l : List Int) (k : Nat) (x : Int) : (bytes l).set k (.int .u8 x) = bytes (l.set k x) := by simp [bytes, List.map_set]
theorem macBlk {w : World} {b : Nat} {T : TypeId} {xs : List Int} (h : Blk w b T (bytes xs)) (S : Nat → Prop) (hs : ¬ S b) : Src w S (some ⟨b, 0, none⟩) xs.length xs :=
  ⟨Nat.le_refl _, .inr (.inr ⟨b, 0, rfl, ⟨h.lt, fun i hi => by rw [Nat.zero_add]; exact h.cell i _ (bytes_get xs i hi)⟩, hs⟩)⟩
set_option maxHeartbeats 2000000 in
set_option maxRecDepth 100000 in
theorem mac_calls (kA : Option Addr) (kc : Nat) (key : List Int) (dA : Option Addr) (dc : Nat) (data : List Int) (w : World) (hL : Laid w) (hK : Src w (fun _ => False) kA kc key) (hD : Src w (fun _ => False) dA dc data) (hk : key.length ≤ 1000000000000000) (hd : data.length ≤ 1000000000000000) :
    Calls Tryd.prog 36 #[.slice kA key.length kc, .slice dA data.length dc] w fun e w' => e = .returned (.agg (bytes (macL key data)).toArray) ∧ Below w.heap.size w w' := by
  have HL := Kp.mk hL
  have HK0 := Kp.mk hK
  have HD := Kp.mk hD
  have HDS := Kp.mk hD
  have HR0 : Kp (Blk (w.alloc (.cells (List.replicate 32 (Value.int .u8 0)).toArray 41)) w.heap.size 41 (List.replicate 32 (Value.int .u8 0))) := ⟨Blk.new w _ _⟩
  have HF0 : Kp (Fr (fun _ => False) w (w.alloc (.cells (List.replicate 32 (Value.int .u8 0)).toArray 41))) := ⟨(Fr.refl _ w).alloc _⟩
  obtain ⟨rb, hrb⟩ : ∃ rb, rb = w.heap.size := ⟨_, rfl⟩
  rw [← hrb] at HR0
  have HRB := Kp.mk hrb
  clear hL hK hD hrb
  have hk64 : normKey key = if 64 < key.length then hash false key else key := rfl
  have HNK := Kp.mk hk64
  clear hk64
  go_enter Tryd.func36, Tryd.ntmps36
  go_upto_if 14 with (fail)
  go_cut [0] (fun s0 wx => ∃ (kA' : Option Addr) (kc' : Nat) (k' : List Int), s0 = .slice kA' k'.length kc' ∧ Kp (k' = normKey key) ∧ Kp (k'.length ≤ 64) ∧ Kp (Src wx (fun _ => False) kA' kc' k') ∧ Kp (Blk wx rb 41 (List.replicate 32 (Value.int .u8 0))) ∧ Kp (Fr (fun _ => False) w wx))
  case first =>
    by_cases h64 : 64 < key.length
    · go_wp2_with fail
      refine (F32.hash_calls kA kc key _ (HL.out.fr HF0.out (fun _ h => h.elim)) (HK0.out.fr HF0.out) (by unfold maxCount; omega)).mono ?_
      rintro e w1 ⟨rfl, hB⟩
      have hh : (hash false key).length = 32 := hash_length false key
      have HR1 := Kp.mk (HR0.out.below hB)
      have HF1 := Kp.mk (HF0.out.then_below hB)
      have HH := Kp.mk (show normKey key = hash false key by rw [HNK.out, if_pos h64])
      have HHL := Kp.mk hh
      generalize hash false key = h at HH HHL ⊢
      have hsz := Kp.mk (size32 h HHL.out)
      have hrow : Kp ((w1.alloc (.cells (List.replicate 32 (Value.int .u8 0)).toArray 41)).heap[w1.heap.size]? = some (.cells (List.replicate 32 (Value.int .u8 0)).toArray 41 (0, 0))) := ⟨Blk.new w1 _ _⟩
      clear hh hB HR0 HF0
      go_wp2_with (refine wpList_store_row rfl 41 _ _ rfl w1.heap.size (bytes h).toArray rfl rfl 41 (List.replicate 32 (Value.int .u8 0)).toArray (by exact hrow.out) hsz.out.1 hsz.out.2 (bytes_one h) ?_)
      go_meet
      case rel =>
        have hbk := blk_row w1 41 (List.replicate 32 (Value.int .u8 0)).toArray (bytes h)
        have hm := macBlk hbk (fun _ => False) (fun h => h)
        rw [HHL.out] at hm
        refine ⟨some ⟨w1.heap.size, 0, none⟩, 32, h, by rw [HHL.out], ⟨HH.out.symm⟩, ⟨by rw [HHL.out]; decide⟩, ⟨hm⟩, ⟨?_⟩, ⟨fr_row HF1.out _ _⟩⟩
        exact blk_keep HR1.out (Fr.refl (fun _ => False) w1) (fun h => h) _ _
    · go_wp2
      go_meet
      case rel => exact ⟨kA, kc, key, rfl, ⟨by rw [HNK.out, if_neg h64]⟩, ⟨by omega⟩, ⟨HK0.out.fr HF0.out⟩, HR0, HF0⟩
  case rest =>
    clear HR0 HF0
    obtain ⟨kA', kc', k', rfl, HNK', HKL, HK, HR0, HF0⟩ := hcut
    clear HNK HK0
    generalize wc = W at HK HR0 HF0 ⊢
    have HI0 : Kp (Blk ((W.alloc (.cells (List.replicate 64 (Value.int .u8 0)).toArray 43)).alloc (.cells (List.replicate 64 (Value.int .u8 0)).toArray 43)) W.heap.size 43 (List.replicate 64 (Value.int .u8 0))) := ⟨(Blk.new W _ _).alloc _⟩
    have HO0 : Kp (Blk ((W.alloc (.cells (List.replicate 64 (Value.int .u8 0)).toArray 43)).alloc (.cells (List.replicate 64 (Value.int .u8 0)).toArray 43)) (W.heap.size + 1) 43 (List.replicate 64 (Value.int .u8 0))) := ⟨Blk.new' _ _ _ (by simp)⟩
    have HFI : Kp (Fr (fun _ => False) W ((W.alloc (.cells (List.replicate 64 (Value.int .u8 0)).toArray 43)).alloc (.cells (List.replicate 64 (Value.int .u8 0)).toArray 43))) := ⟨((Fr.refl _ W).alloc _).alloc _⟩
    obtain ⟨bi, hbi⟩ : ∃ bi, bi = W.heap.size := ⟨_, rfl⟩
    obtain ⟨bo, hbo⟩ : ∃ bo, bo = W.heap.size + 1 := ⟨_, rfl⟩
    have HBI := Kp.mk hbi
    have HBO := Kp.mk hbo
    rw [← hbi] at HI0
    rw [← hbo] at HO0
    have HKI := Kp.mk (src_out (S := fun k => k = bi ∨ k = bo) HK.out HFI.out (fun k hk h => by omega))
    clear hbi hbo
    go_wp2_with (first
      | (refine wpList_copy_src rfl (.tmp 18) (.tmp 19) rfl rfl bi 43 _ (by exact HI0.out) 64 64 rfl (by rw [HBI.out]; rfl) kA' k'.length kc' k' rfl rfl (by exact HKI.out) (by have := HKL.out; omega) ?_; intro w1 hb1 hf1; have HI1 := Kp.mk hb1; have HF1 := Kp.mk hf1; have HO1 := Kp.mk (HO0.out.fr hf1 (by rw [HBI.out, HBO.out]; omega)); have HKJ := Kp.mk (HKI.out.fr (hf1.mono (fun _ _ h => .inl h))); clear hb1 hf1)
      | (refine wpList_copy_src rfl (.tmp 21) (.tmp 22) rfl rfl bo 43 _ (by exact HO1.out) 64 64 rfl (by rw [HBO.out]; rfl) kA' k'.length kc' k' rfl rfl (by exact HKJ.out) (by have := HKL.out; omega) ?_; intro w2 hb1 hf1; have HO2 := Kp.mk hb1; have HF2 := Kp.mk hf1; have HI2 := Kp.mk (HI1.out.fr hf1 (by rw [HBI.out, HBO.out]; omega)); clear hb1 hf1))
    rw [← HBO.out, ← HBI.out, ← HRB.out]
    have hpi := HI2.out
    have hpo := HO2.out
    rw [pad_cells] at hpi hpo
    obtain ⟨P, hP⟩ : ∃ P, P = pad64 k' := ⟨_, rfl⟩
    have hPL : P.length = 64 := by rw [hP]; exact pad64_length _ HKL.out
    rw [← hP] at hpi hpo
    have HP := Kp.mk hP
    have HPL := Kp.mk hPL
    have HII := Kp.mk hpi
    have HOO := Kp.mk hpo
    have HF02 : Kp (Fr (fun _ => False) w w2) := ⟨HF0.out.trans ((HFI.out.mono (fun _ _ h => h.elim)).trans ((HF1.out.mono (fun _ _ h => .inl h)).trans (HF2.out.mono (S' := fun k => k = bi ∨ k = bo) (fun _ _ h => .inr h)) (fun _ _ h => h)) (fun _ _ h => h)) (fun k hk h => by have := HF0.out.size; have := HBI.out; have := HBO.out; omega)⟩
    have HBB : Kp (bi ≠ bo ∧ rb < bi ∧ rb < bo ∧ bi < w2.heap.size ∧ bo < w2.heap.size ∧ w.heap.size ≤ bi ∧ w.heap.size ≤ bo) := ⟨by have := HBI.out; have := HBO.out; have := HR0.out.lt; have := HF0.out.size; exact ⟨by omega, by omega, by omega, HII.out.lt, HOO.out.lt, by omega, by omega⟩⟩
    have HR2 : Kp (Blk w2 rb 41 (List.replicate 32 (Value.int .u8 0))) := ⟨((HR0.out.fr HFI.out (fun h => h)).fr HF1.out (by have := HBB.out; omega)).fr HF2.out (by have := HBB.out; omega)⟩
    have HDr := Kp.mk (HD.out.fr HF02.out)
    clear hpi hpo hP hPL HI2 HO2 HI1 HO1 HI0 HO0 HKI HKJ HF1 HF2 HFI HBI HBO HK HR0 HF0
    go_loopw [24] (fun s24 wr => ∃ k : Nat, s24 = .int .i64 (k : Int) ∧ Kp (k ≤ 64) ∧ Kp (∃ xs, Blk wr bi 43 (bytes xs) ∧ Turned 54 P xs k) ∧ Kp (∃ ys, Blk wr bo 43 (bytes ys) ∧ Turned 92 P ys k) ∧ Kp (Fr (fun k => k = bi ∨ k = bo) w2 wr)) (fun s24 _ => 64 - (intOf s24).toNat)
    case atStart => exact ⟨0, rfl, ⟨Nat.zero_le _⟩, ⟨P, HII.out, rfl, rfl, rfl⟩, ⟨P, HOO.out, rfl, rfl, rfl⟩, ⟨Fr.refl _ _⟩⟩
    case round =>
      obtain ⟨k, rfl, hk, HX, HY, HF⟩ := hrel
      have hk' := hk.out
      by_cases hlt : k < 64
      · obtain ⟨xs, hbx, htx⟩ := HX.out
        obtain ⟨ys, hby, hty⟩ := HY.out
        obtain ⟨x1, x2⟩ := htx.step (by have := HPL.out; omega)
        obtain ⟨y1, y2⟩ := hty.step (by have := HPL.out; omega)
        have hcx := hbx.cell k (.int .u8 (P.getD k 0)) (by simp [bytes, x1])
        have hfx := hbx.free k
        generalize P.getD k 0 = z at x1 x2 y1 y2 hcx
        have HX2 := Kp.mk x2
        have HY2 := Kp.mk y2
        have hb1 : Blk (wr.setCell ⟨bi, k, none⟩ (.int .u8 (bits .xor .u8 z 54))) bi 43 (bytes (xs.set k (bits .xor .u8 z 54))) := by rw [← bytes_set]; exact hbx.set k _
        have hb2 : Blk (wr.setCell ⟨bi, k, none⟩ (.int .u8 (bits .xor .u8 z 54))) bo 43 (bytes ys) := hby.set_ne (a := ⟨bi, k, none⟩) (fun e => HBB.out.1 e) _
        have hcy := hb2.cell k (.int .u8 z) (by simp [bytes, y1])
        have hfy := hb2.free k
        have HB1 := Kp.mk (hb1.set_ne (a := ⟨bo, k, none⟩) (fun e => HBB.out.1 e.symm) (.int .u8 (bits .xor .u8 z 92)))
        have HB2 := Kp.mk (show Blk ((wr.setCell ⟨bi, k, none⟩ (.int .u8 (bits .xor .u8 z 54))).setCell ⟨bo, k, none⟩ (.int .u8 (bits .xor .u8 z 92))) bo 43 (bytes (ys.set k (bits .xor .u8 z 92))) by rw [← bytes_set]; exact hb2.set k _)
        clear hbx hby htx hty x1 x2 y1 y2 hb1 hb2
        go_wp2
        go_roundw
        case rel => exact ⟨k + 1, by go_num, ⟨hlt⟩, ⟨_, HB1.out, HX2.out⟩, ⟨_, HB2.out, HY2.out⟩, ⟨(HF.out.set (a := ⟨bi, k, none⟩) (fun _ => .inl rfl) _).set (a := ⟨bo, k, none⟩) (fun _ => .inr rfl) _⟩⟩
        case measure => simp [intOf] <;> omega
      · obtain rfl : k = 64 := by omega
        have HI : Kp (Blk wr bi 43 (bytes (xorL 54 P))) := ⟨by
          obtain ⟨xs, h1, h2⟩ := HX.out
          rw [← HPL.out] at h2
          rw [← h2.done]; exact h1⟩
        have HO : Kp (Blk wr bo 43 (bytes (xorL 92 P))) := ⟨by
          obtain ⟨xs, h1, h2⟩ := HY.out
          rw [← HPL.out] at h2
          rw [← h2.done]; exact h1⟩
        have HFw : Kp (Fr (fun _ => False) w wr) := ⟨HF02.out.trans HF.out (fun k hk h => by have := HBB.out; omega)⟩
        have HRr : Kp (Blk wr rb 41 (List.replicate 32 (Value.int .u8 0))) := ⟨HR2.out.fr HF.out (fun h => by have := HBB.out; omega)⟩
        have HDw : Kp (Src wr (fun _ => False) dA dc data) := ⟨src_out HDS.out HFw.out (fun _ _ h => h)⟩
        have HLr := Kp.mk (HL.out.fr HFw.out (fun _ h => h.elim))
        have hIL : (xorL 54 P).length = 64 := by rw [xorL_length, HPL.out]
        have hOL : (xorL 92 P).length = 64 := by rw [xorL_length, HPL.out]
        have hmac : macL key data = hash false (xorL 92 P ++ hash false (xorL 54 P ++ data)) := by unfold macL; rw [← HNK'.out, ← HP.out]
        have HM := Kp.mk hmac
        have HIL := Kp.mk hIL
        have HOL := Kp.mk hOL
        clear hmac hIL hOL HX HY HF HF02 HR2 HII HOO HDr HP HPL HNK'
        generalize xorL 54 P = I at HI HM HIL
        generalize xorL 92 P = O at HO HM HOL
        go_wp2_with fail
        refine (soloNew_calls false wr HLr.out).mono ?_
        rintro e w3 ⟨b, rfl, hS⟩
        have HS3 := Kp.mk hS
        clear hS
        go_wp2_with fail
        have hw := soloWrite_calls HS3.out HLr.out (some ⟨bi, 0, none⟩) 64 I (HS3.out.src (by have h := macBlk HI.out (fun _ => False) (fun h => h); rw [HIL.out] at h; exact h)) (by rw [HIL.out]; decide)
        rw [HIL.out] at hw
        refine hw.mono ?_
        rintro e w4 ⟨r4, rv4, rfl, hS, _, _⟩
        have HS4 := Kp.mk hS
        clear hS hw HS3
        go_wp2_with fail
        refine (soloWrite_calls HS4.out HLr.out dA dc data (HS4.out.src HDw.out) (by rw [List.nil_append, HIL.out]; unfold maxCount; omega)).mono ?_
        rintro e w5 ⟨r5, rv5, rfl, hS, _, _⟩
        have HS5 := Kp.mk hS
        clear hS HS4
        go_wp2_with fail
        refine (soloSum_calls HS5.out HLr.out).mono ?_
        rintro e w6 ⟨As, cs, rfl, _, hs, hS, hf⟩
        have HS6 := Kp.mk hS
        have HSs := Kp.mk hs
        have HF6 := Kp.mk hf
        have HB5 := Kp.mk HS5.out.lt
        clear hS hs hf HS5
        go_wp2_with fail
        refine (soloReset_calls HS6.out HLr.out).mono ?_
        rintro e w7 ⟨r7, rfl, hS, hf⟩
        have HS7 := Kp.mk hS
        have HF7 := Kp.mk hf
        have HSs7 := Kp.mk (HSs.out.fr (hf.mono (fun k _ h => .inl (by subst h; exact HB5.out _ (.inl rfl)))))
        clear hS hf HS6 HSs
        go_wp2_with fail
        have hw := soloWrite_calls HS7.out HLr.out (some ⟨bo, 0, none⟩) 64 O (HS7.out.src (by have h := macBlk HO.out (fun _ => False) (fun h => h); rw [HOL.out] at h; exact h)) (by rw [HOL.out]; decide)
        rw [HOL.out] at hw
        refine hw.mono ?_
        rintro e w8 ⟨r8, rv8, rfl, hS, hh, hf⟩
        have HS8 := Kp.mk hS
        have HH8 := Kp.mk hh
        have HSs8 := Kp.mk (HSs7.out.fr (hf.mono (fun k _ h => .inl (by
          rcases h with rfl | h
          · exact HB5.out _ (.inl rfl)
          · cases h))))
        clear hS hf hw hh HS7 HSs7
        have hsl : (hash false ([] ++ I ++ data)).length = 32 := hash_length false _
        have HSL := Kp.mk hsl
        clear hsl
        go_wp2_with fail
        have hw := soloWrite_calls HS8.out HLr.out As cs (hash false ([] ++ I ++ data)) (HSs8.out.mono (fun k hk h => by
          rcases h with rfl | h
          · exact .inl (HB5.out _ (.inl rfl))
          · rcases HH8.out with hh | ⟨g, h1, h2⟩
            · rw [hh] at h; cases h
            · obtain rfl := Option.some.inj (h1.symm.trans h)
              have := HF7.out.size
              exact .inr (by omega))) (by rw [HSL.out, List.nil_append, HOL.out]; decide)
        rw [HSL.out] at hw
        refine hw.mono ?_
        rintro e w9 ⟨r9, rv9, rfl, hS, _, _⟩
        have HS9 := Kp.mk hS
        clear hS hw HS8 HSs8 HF7 HF6 HB5 HH8
        go_wp2_with fail
        refine (soloSum_calls HS9.out HLr.out).mono ?_
        rintro e wA ⟨Af, cf, rfl, hO, _, hS, _⟩
        have HF : Kp (Fr (fun _ => False) wr wA) := ⟨hS.fr⟩
        have hm2 : macL key data = hash false ([] ++ O ++ hash false ([] ++ I ++ data)) := HM.out
        have HM2 := Kp.mk hm2
        have hlen : (hash false ([] ++ O ++ hash false ([] ++ I ++ data))).length = 32 := hash_length false _
        have HOw : Kp (wA.ownsRow w9.heap.size 5 1 (.slice Af 32 cf) 32 (bytes (hash false ([] ++ O ++ hash false ([] ++ I ++ data))))) := ⟨hO⟩
        have HRA := Kp.mk (HRr.out.fr HF.out (fun h => h))
        clear hm2 HM hO hS HS9 HSL
        generalize hash false ([] ++ O ++ hash false ([] ++ I ++ data)) = h at HM2 hlen HOw
        have HHL := Kp.mk hlen
        have HOw2 : Kp (wA.ownsRow w9.heap.size 5 1 (.slice Af h.length cf) h.length (bytes h)) := ⟨by rw [HHL.out]; exact HOw.out⟩
        obtain ⟨g, cg, hgv, hg1, hg2, hg3, hg4⟩ := own_form HOw2.out (by omega)
        simp only [Value.slice.injEq] at hgv
        obtain ⟨rfl, _, rfl⟩ := hgv
        have HRD := Kp.mk hg4
        rw [hlen] at hg3
        clear hg1 hg2 hg4 hlen HOw HOw2
        have haa := F32.array_at g cf
        have hsz := Kp.mk (size32 h HHL.out)
        have hi2 : Kp ((Tryd.prog.info? 41).map (·.size) = some (bytes h).length) := ⟨by rw [bytes_length, HHL.out]; kernel_rfl⟩
        have hrow : Kp (wA.heap[rb]? = some (.cells (List.replicate 32 (Value.int .u8 0)).toArray 41 (0, 0))) := ⟨HRA.out⟩
        have ho : out false = 32 := rfl
        rw [ho]
        clear ho
        go_wp2_with (first | refine wpList_load_mid rfl 41 _ rfl g 0 rfl (bytes h) _ (reads_range HRD.out) Tryd.underlying41 rfl hi2.out ?_ | refine wpList_store_row rfl 41 _ _ rfl rb (bytes h).toArray rfl rfl 41 (List.replicate 32 (Value.int .u8 0)).toArray hrow.out hsz.out.1 hsz.out.2 (bytes_one h) ?_)
        have hrow2 : (wA.setRow rb (bytes h).toArray).heap[rb]? = some (.cells (bytes h).toArray 41 (0, 0)) := setRow_heap wA rb _ _ _ _ hrow.out
        (try simp only [Exit.inBlock, Exit.then])
        refine bodyPost_ret (results_cell_row rfl _ _ rb 41 _ (0, 0) _ rfl hrow2 Tryd.underlying41 rfl hsz.out.1) rfl ?_
        refine ⟨by rw [HM2.out], ?_⟩
        exact Fr.below ((HFw.out.trans HF.out (fun _ _ h => h)).trans (S' := fun k => k = rb) ⟨rfl, rfl, rfl, by simp [World.setRow], fun k _ hk => setRow_other wA rb k _ hk⟩ (fun k hk he => absurd hk (by rw [he, HRB.out]; exact Nat.lt_irrefl _))) (fun _ _ h => h)
end Go.Proofs.YtjcfnflkiialbaaDoor.Sha
