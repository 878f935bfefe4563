/-
  Bytes and words, there and back; what a text of the form of a saved state says: plain facts. The walks of formed and early; what they say of a text.
-/
import Derived.Test.YtjcfnflkiialbaaDoorLd
import Derived.KernelRfl
import Derived.Deep.QuietTactic
import Derived.BigQuiet
namespace Go.Proofs.YtjcfnflkiialbaaDoor.Sha
/-- all are bytes -/
def Bs (l : List Int) : Prop := ∀ b ∈ l, 0 ≤ b ∧ b < 256
theorem Bs.sub {l m : List Int} (h : Bs l) (hs : ∀ b ∈ m, b ∈ l) : Bs m := fun b hb => h b (hs b hb)
theorem Bs.take {l : List Int} (h : Bs l) (n : Nat) : Bs (l.take n) := h.sub fun _ hb => List.mem_of_mem_take hb
theorem Bs.drop {l : List Int} (h : Bs l) (n : Nat) : Bs (l.drop n) := h.sub fun _ hb => List.mem_of_mem_drop hb
theorem Bs.get {l : List Int} (h : Bs l) (i : Nat) : 0 ≤ l.getD i 0 ∧ l.getD i 0 < 256 := by
  rw [List.getD_eq_getElem?_getD]
  cases hx : l[i]? with
  | none => exact ⟨Int.le_refl _, by decide⟩
  | some b => exact h b (List.mem_of_getElem? hx)
def num (l : List Int) : Nat := l.foldl (fun x b => x * 256 + b.toNat) 0
def layNat (n k : Nat) : List Int := (List.range k).map fun i => ((n / 256 ^ (k - 1 - i) % 256 : Nat) : Int)
theorem num_snoc (l : List Int) (b : Int) : num (l ++ [b]) = num l * 256 + b.toNat := by simp [num]
theorem layNat_snoc (n b k : Nat) (hb : b < 256) : layNat (n * 256 + b) (k + 1) = layNat n k ++ [(b : Int)] := by
  unfold layNat
  rw [List.range_succ, List.map_append, List.map_cons, List.map_nil]
  congr 1
  · apply List.map_congr_left
    intro i hi
    have hi := List.mem_range.1 hi
    have e : k + 1 - 1 - i = (k - 1 - i) + 1 := by omega
    rw [e, Nat.pow_succ, Nat.mul_comm (256 ^ _) 256, ← Nat.div_div_eq_div_mul]
    have : (n * 256 + b) / 256 = n := by omega
    rw [this]
  · have e : k + 1 - 1 - k = 0 := by omega
    rw [e, Nat.pow_zero, Nat.div_one]
    have : (n * 256 + b) % 256 = b := by omega
    rw [this]
theorem layNat_num (l : List Int) (h : Bs l) : layNat (num l) l.length = l := by
  obtain ⟨m, hm⟩ : ∃ m : List Int, m = l.reverse := ⟨_, rfl⟩
  have hl : l = m.reverse := by rw [hm, List.reverse_reverse]
  clear hm
  subst hl
  induction m with
  | nil => rfl
  | cons b m ih =>
    rw [List.reverse_cons] at h ⊢
    have hb := h b (by simp)
    have ih' := ih (h.sub fun _ hx => by simp at hx ⊢; exact .inl hx)
    rw [num_snoc, List.length_append, List.length_singleton, layNat_snoc _ _ _ (by omega), ih', Int.toNat_of_nonneg hb.1]
theorem num_lt (l : List Int) (h : Bs l) : num l < 256 ^ l.length := by
  obtain ⟨m, hm⟩ : ∃ m : List Int, m = l.reverse := ⟨_, rfl⟩
  have hl : l = m.reverse := by rw [hm, List.reverse_reverse]
  clear hm
  subst hl
  induction m with
  | nil => decide
  | cons b m ih =>
    rw [List.reverse_cons] at h ⊢
    have hb := h b (by simp)
    have ih' := ih (h.sub fun _ hx => by simp at hx ⊢; exact .inl hx)
    rw [num_snoc, List.length_append, List.length_singleton, Nat.pow_succ]
    omega
theorem wordAt_snoc {w : Nat} (l : List Int) (b : Int) : (wordAt (l ++ [b]) : BitVec w) = wordAt l <<< 8 ||| BitVec.ofInt w b := by simp [wordAt]
theorem pow8 (n : Nat) : 256 ^ n = 2 ^ (8 * n) := by rw [Nat.pow_mul]
theorem wordAt_num {w : Nat} (l : List Int) (h : Bs l) (hl : 8 * l.length ≤ w) : (wordAt l : BitVec w).toNat = num l := by
  obtain ⟨m, hm⟩ : ∃ m : List Int, m = l.reverse := ⟨_, rfl⟩
  have hl' : l = m.reverse := by rw [hm, List.reverse_reverse]
  clear hm
  subst hl'
  induction m with
  | nil => simp [wordAt, num]
  | cons b m ih =>
    rw [List.reverse_cons] at h hl ⊢
    rw [List.length_append, List.length_singleton] at hl
    have hb := h b (by simp)
    have hB : Bs m.reverse := h.sub fun _ hx => by simp at hx ⊢; exact .inl hx
    have ih' := ih hB (by omega)
    have hlt := num_lt _ hB
    rw [pow8] at hlt
    have hw : 2 ^ (8 * m.reverse.length + 8) ≤ 2 ^ w := Nat.pow_le_pow_right (by decide) (by omega)
    have h8 : 2 ^ (8 * m.reverse.length + 8) = 2 ^ (8 * m.reverse.length) * 256 := by rw [Nat.pow_add]
    rw [wordAt_snoc, num_snoc, BitVec.toNat_or, BitVec.toNat_shiftLeft, ih', Nat.shiftLeft_eq]
    have e8 : (2 : Nat) ^ 8 = 256 := by decide
    rw [e8]
    generalize 2 ^ (8 * m.reverse.length) = q at hlt h8
    have h256 : 256 ≤ 2 ^ w := by
      have : 2 ^ 8 ≤ 2 ^ w := Nat.pow_le_pow_right (by decide) (by omega)
      rwa [e8] at this
    have hmod : num m.reverse * 256 % 2 ^ w = num m.reverse * 256 := Nat.mod_eq_of_lt (by omega)
    have hbn : (BitVec.ofInt w b).toNat = b.toNat := by
      rw [BitVec.toNat_ofInt]
      have : b % ((2 ^ w : Nat) : Int) = b := Int.emod_eq_of_lt hb.1 (by omega)
      rw [this]
    rw [hmod, hbn]
    have := Nat.shiftLeft_add_eq_or_of_lt (a := num m.reverse) (b := b.toNat) (i := 8) (by omega)
    rw [Nat.shiftLeft_eq, e8] at this
    exact this.symm
theorem layWord_nat {w : Nat} (x : BitVec w) (k : Nat) : layWord x k = layNat x.toNat k := by
  unfold layWord layNat
  apply List.map_congr_left
  intro i _
  rw [BitVec.toNat_ushiftRight, Nat.shiftRight_eq_div_pow, pow8]
theorem lay_word {w : Nat} (l : List Int) (h : Bs l) (hl : 8 * l.length ≤ w) : layWord (wordAt l : BitVec w) l.length = l := by
  rw [layWord_nat, wordAt_num l h hl, layNat_num l h]
/-- the words of bytes, laid again -/
theorem lay_words {w : Nat} (sz : Nat) (hw : 8 * sz ≤ w) (l : List Int) (h : Bs l) : ∀ n, sz * n ≤ l.length → (wordsOf sz l n : List (BitVec w)).flatMap (fun x => layWord x sz) = l.take (sz * n)
  | 0, _ => by simp [wordsOf]
  | n + 1, hn => by
    have hn' : sz * n + sz ≤ l.length := by rw [← Nat.mul_succ]; exact hn
    have hp : ((l.drop (n * sz)).take sz).length = sz := by rw [List.length_take, List.length_drop, Nat.mul_comm n sz]; omega
    have hl := lay_word (w := w) ((l.drop (n * sz)).take sz) ((h.drop _).take _) (by omega)
    rw [hp] at hl
    have e : (wordsOf sz l (n + 1) : List (BitVec w)) = wordsOf sz l n ++ [wordAt ((l.drop (n * sz)).take sz)] := by simp [wordsOf, List.range_succ]
    rw [e, List.flatMap_append, lay_words sz hw l h n (by omega), List.flatMap_cons, List.flatMap_nil, List.append_nil, hl, Nat.mul_succ, List.take_add, Nat.mul_comm n sz]
theorem wordsOf_take {w : Nat} (sz : Nat) (l : List Int) (n : Nat) : (wordsOf sz (l.take (sz * n)) n : List (BitVec w)) = wordsOf sz l n := by
  unfold wordsOf
  apply List.map_congr_left
  intro i hi
  have hi := List.mem_range.1 hi
  have h2 : i * sz + sz ≤ sz * n := by
    have : (i + 1) * sz ≤ n * sz := Nat.mul_le_mul_right _ hi
    rw [Nat.add_mul, Nat.one_mul, Nat.mul_comm n sz] at this
    exact this
  rw [List.drop_take, List.take_take]
  congr 2
  omega
theorem start_words32 : eightOf (wordsOf 4 (words false (start false)) 8 : List (BitVec 32)) = start32 := by kernel_rfl
theorem start_words64 : eightOf (wordsOf 8 (words true (start true)) 8 : List (BitVec 64)) = start64 := by kernel_rfl
theorem loadC_start {B : Bool} {t : List Int} (h : (t.drop 9).take (out B) = words B (start B)) : loadC B t = start B := by
  cases B
  · have e : (wordsOf 4 (t.drop 9) 8 : List (BitVec 32)) = wordsOf 4 (words false (start false)) 8 := by
      rw [← h]; exact (wordsOf_take 4 (t.drop 9) 8).symm
    unfold loadC
    simp only [e, start_words32]
    rfl
  · have e : (wordsOf 8 (t.drop 9) 8 : List (BitVec 64)) = wordsOf 8 (words true (start true)) 8 := by
      rw [← h]; exact (wordsOf_take 8 (t.drop 9) 8).symm
    unfold loadC
    simp only [e, start_words64]
    rfl
theorem words_loadC {B : Bool} {t : List Int} (hb : Bs t) (hl : 9 + out B ≤ t.length) : words B (loadC B t) = (t.drop 9).take (out B) := by
  cases B
  · have hl' : 9 + 32 ≤ t.length := hl
    have h := lay_words (w := 32) 4 (by decide) (t.drop 9) (hb.drop 9) 8 (by rw [List.length_drop]; omega)
    have e := eightOf_list (wordsOf 4 (t.drop 9) 8 : List (BitVec 32)) (by simp [wordsOf])
    show (eightOf (wordsOf 4 (t.drop 9) 8 : List (BitVec 32))).list.flatMap _ = _
    rw [e]; exact h
  · have hl' : 9 + 64 ≤ t.length := hl
    have h := lay_words (w := 64) 8 (by decide) (t.drop 9) (hb.drop 9) 8 (by rw [List.length_drop]; omega)
    have e := eightOf_list (wordsOf 8 (t.drop 9) 8 : List (BitVec 64)) (by simp [wordsOf])
    show (eightOf (wordsOf 8 (t.drop 9) 8 : List (BitVec 64))).list.flatMap _ = _
    rw [e]; exact h
theorem start_iff {B : Bool} {t : List Int} (hb : Bs t) (hl : 9 + out B ≤ t.length) : loadC B t = start B ↔ (t.drop 9).take (out B) = words B (start B) :=
  ⟨fun h => by rw [← h, words_loadC hb hl], loadC_start⟩
theorem cnt_num {t : List Int} (hb : Bs t) : (loadCnt t).toNat = num ((t.drop 1).take 8) :=
  wordAt_num _ ((hb.drop 1).take 8) (by rw [List.length_take]; omega)
/-- What was taken saves as that very text. -/
theorem save_load {B : Bool} {t : List Int} (hb : Bs t) (h : LoadOk B t) : (loadSt B t).save = t := by
  have hl := h.len
  have hl8 : ((t.drop 1).take 8).length = 8 := by rw [List.length_take, List.length_drop]; omega
  have e8 : be8 (loadCnt t).toNat = (t.drop 1).take 8 := by
    unfold be8
    rw [BitVec.ofNat_toNat, BitVec.setWidth_eq]
    have := lay_word (w := 64) ((t.drop 1).take 8) ((hb.drop 1).take 8) (by omega)
    rw [hl8] at this
    exact this
  have ew := words_loadC (B := B) hb (by omega)
  have et : (((kind B / 256 : Nat) : Int)) = t.getD 0 0 := by
    rw [h.tag]; cases B <;> rfl
  have h0 : t = t.getD 0 0 :: t.drop 1 := by
    cases t with
    | nil => exfalso; have : ([] : List Int).length = 0 := rfl; omega
    | cons a l => rfl
  show ((kind B / 256 : Nat) : Int) :: be8 (loadCnt t).toNat ++ words B (loadC B t) ++ t.drop (9 + out B) = t
  rw [e8, ew, et, List.append_assoc]
  have e1 : (t.drop 9).take (out B) ++ t.drop (9 + out B) = t.drop 9 := by rw [← List.drop_drop, List.take_append_drop]
  rw [e1]
  have e2 : (t.drop 1).take 8 ++ t.drop 9 = t.drop 1 := by
    have := List.take_append_drop 8 (t.drop 1)
    rwa [List.drop_drop] at this
  show t.getD 0 0 :: ((t.drop 1).take 8 ++ t.drop 9) = t
  rw [e2]
  exact h0.symm
end Go.Proofs.YtjcfnflkiialbaaDoor.Sha
namespace Go.Proofs.YtjcfnflkiialbaaDoor.Sha
open Go.RowKit Go.Proofs.YtjcfnflkiialbaaDoor.Mem Go.Proofs.YtjcfnflkiialbaaDoorW.PrintWords
def FormedP (t : List Int) : Prop := 9 ≤ t.length ∧ (t.getD 0 0 = 1 ∨ t.getD 0 0 = 2) ∧ t.getD 1 0 < 32 ∧ (t.length : Int) = 9 + 32 * t.getD 0 0 + (t.getD 7 0 * 256 + t.getD 8 0) % (64 * t.getD 0 0)
def EarlyP (t : List Int) : Prop := (∀ i : Nat, 1 ≤ i → i < 8 → t.getD i 0 = 0) ∧ t.getD 8 0 < 64 * t.getD 0 0
/-- what a law's question answers: is P so? Nothing old is written. -/
def Tells (P : Prop) (w : World) (e : Ending) (w' : World) : Prop := ∃ r : Bool, e = .returned (.bool r) ∧ (r = true ↔ P) ∧ Fr (fun _ => False) w w'
theorem tells_true {P : Prop} {w w' : World} (h : P) (hf : Fr (fun _ => False) w w') : Tells P w (.returned (.bool true)) w' := ⟨true, rfl, ⟨fun _ => h, fun _ => rfl⟩, hf⟩
theorem tells_false {P : Prop} {w w' : World} (h : ¬ P) (hf : Fr (fun _ => False) w w') : Tells P w (.returned (.bool false)) w' := ⟨false, rfl, ⟨(fun h => by cases h), fun k => absurd k h⟩, hf⟩
theorem fr_drewN (w : World) (n : Nat) : Fr (fun _ => False) w (w.drewN n) := ⟨rfl, rfl, rfl, Nat.le_refl _, fun _ _ _ => rfl⟩
theorem formed_calls (A : Option Addr) (c : Nat) (t : List Int) (hm : t.length ≤ 140737488351232) (hb : Bs t) (w : World) {S : Nat → Prop} (hX : Src w S A c t) :
    Calls Tryd.prog 40 #[.slice A t.length c] w (Tells (FormedP t) w) := by
  by_cases hl : t.length < 9
  · have hno : Kp (¬ FormedP t) := ⟨fun h => by have := h.1; omega⟩
    have hd : decide ((t.length : Int) < 9) = true := decide_eq_true (by omega)
    go_enter Tryd.func40, Tryd.ntmps40
    go_wp2
    go_ret
    exact tells_false hno.out (Fr.refl _ _)
  · obtain ⟨bs, os, rfl, hR⟩ : ∃ bs os, A = some ⟨bs, os, none⟩ ∧ Reads w bs os t := by
      rcases hX.2 with ⟨_, _, rfl⟩ | ⟨rfl, _⟩ | ⟨bs, os, rfl, hR, _⟩
      · simp at hl
      · simp at hl
      · exact ⟨bs, os, rfl, hR⟩
    have hd : decide ((t.length : Int) < 9) = false := decide_eq_false (by omega)
    have hl' : 9 ≤ t.length := by omega
    have hc := hX.1
    have hc0 := hR.2 0 (by omega)
    have hc1 := hR.2 1 (by omega)
    have hc7 := hR.2 7 (by omega)
    have hc8 := hR.2 8 (by omega)
    rw [Nat.add_zero] at hc0
    have hF : Kp (FormedP t ↔ ((t.getD 0 0 = 1 ∨ t.getD 0 0 = 2) ∧ t.getD 1 0 < 32 ∧ (t.length : Int) = 9 + 32 * t.getD 0 0 + (t.getD 7 0 * 256 + t.getD 8 0) % (64 * t.getD 0 0))) := ⟨⟨fun h => h.2, fun h => ⟨hl', h⟩⟩⟩
    obtain ⟨b7, b7'⟩ := hb.get 7
    obtain ⟨b8, b8'⟩ := hb.get 8
    clear hR hX hb
    generalize t.getD 0 0 = z0 at hc0 hF
    generalize t.getD 1 0 = z1 at hc1 hF
    generalize t.getD 7 0 = z7 at hc7 hF b7 b7'
    generalize t.getD 8 0 = z8 at hc8 hF b8 b8'
    by_cases h0 : z0 = 1 ∨ z0 = 2
    · by_cases h1 : z1 < 32
      · rcases h0 with rfl | rfl
        · have e1 : IntKind.i64.wrap (z7 * 256) = z7 * 256 := by rw [IntKind.wrap_i64]; omega
          have e2 : IntKind.i64.wrap (z7 * 256 + z8) = z7 * 256 + z8 := by rw [IntKind.wrap_i64]; omega
          have e3 : (0 : Int) ≤ z7 * 256 + z8 := by omega
          have e4 : IntKind.i64.wrap (41 + (z7 * 256 + z8) % 64) = 41 + (z7 * 256 + z8) % 64 := by rw [IntKind.wrap_i64]; omega
          go_enter Tryd.func40, Tryd.ntmps40
          go_upto_region 4 with (fail)
          go_quiet (fail)
          go_wp2
          go_ret
          refine ⟨((t.length : Int) == 41 + (z7 * 256 + z8) % 64), rfl, ?_, fr_drewN _ _⟩
          rw [hF.out]
          simp only [beq_iff_eq, Int.reduceMul, Int.reduceAdd]
          exact ⟨fun h => ⟨by decide, h1, h⟩, fun h => h.2.2⟩
        · have e1 : IntKind.i64.wrap (z7 * 256) = z7 * 256 := by rw [IntKind.wrap_i64]; omega
          have e2 : IntKind.i64.wrap (z7 * 256 + z8) = z7 * 256 + z8 := by rw [IntKind.wrap_i64]; omega
          have e3 : (0 : Int) ≤ z7 * 256 + z8 := by omega
          have e4 : IntKind.i64.wrap (73 + (z7 * 256 + z8) % 128) = 73 + (z7 * 256 + z8) % 128 := by rw [IntKind.wrap_i64]; omega
          go_enter Tryd.func40, Tryd.ntmps40
          go_upto_region 4 with (fail)
          go_quiet (fail)
          go_wp2
          go_ret
          refine ⟨((t.length : Int) == 73 + (z7 * 256 + z8) % 128), rfl, ?_, fr_drewN _ _⟩
          rw [hF.out]
          simp only [beq_iff_eq, Int.reduceMul, Int.reduceAdd]
          exact ⟨fun h => ⟨by decide, h1, h⟩, fun h => h.2.2⟩
      · have hno : Kp (¬ FormedP t) := ⟨fun h => h1 (hF.out.1 h).2.1⟩
        have h1' : decide (32 ≤ z1) = true := decide_eq_true (by omega)
        rcases h0 with rfl | rfl
        all_goals
          go_enter Tryd.func40, Tryd.ntmps40
          go_wp2
          go_ret
          exact tells_false hno.out (Fr.refl _ _)
    · have hno : Kp (¬ FormedP t) := ⟨fun h => h0 (hF.out.1 h).1⟩
      have n1 : (z0 != 1) = true := by simpa using fun h => h0 (.inl h)
      have n2 : (z0 != 2) = true := by simpa using fun h => h0 (.inr h)
      clear h0
      go_enter Tryd.func40, Tryd.ntmps40
      go_wp2
      go_ret
      exact tells_false hno.out (Fr.refl _ _)
theorem early_calls (A : Option Addr) (c : Nat) (t : List Int) (hl : 9 ≤ t.length) (h0 : t.getD 0 0 = 1 ∨ t.getD 0 0 = 2) (hb : Bs t) (w : World) {S : Nat → Prop} (hX : Src w S A c t) :
    Calls Tryd.prog 41 #[.slice A t.length c] w (Tells (EarlyP t) w) := by
  obtain ⟨bs, os, rfl, hR⟩ : ∃ bs os, A = some ⟨bs, os, none⟩ ∧ Reads w bs os t := by
    rcases hX.2 with ⟨_, _, rfl⟩ | ⟨rfl, _⟩ | ⟨bs, os, rfl, hR, _⟩
    · simp at hl
    · simp at hl
    · exact ⟨bs, os, rfl, hR⟩
  have hc := hX.1
  have hc0 := hR.2 0 (by omega)
  have hc8 := hR.2 8 (by omega)
  rw [Nat.add_zero] at hc0
  have HR := Kp.mk hR
  have HB := Kp.mk hb
  clear hX hR hb
  go_enter Tryd.func41, Tryd.ntmps41
  go_wp2
  go_loop [3] (fun s3 => ∃ i : Nat, s3 = .int .i64 (i : Int) ∧ Kp (1 ≤ i ∧ i ≤ 8) ∧ Kp (∀ j : Nat, 1 ≤ j → j < i → t.getD j 0 = 0)) (fun s3 => 8 - (intOf s3).toNat)
  case atStart => exact ⟨1, rfl, ⟨by omega⟩, ⟨fun j h1 h2 => by omega⟩⟩
  case round =>
    obtain ⟨i, rfl, hi, hz⟩ := hrel
    obtain ⟨hi1, hi2⟩ := hi.out
    by_cases hlt : i < 8
    · have hci := HR.out.2 i (by omega)
      by_cases hzi : t.getD i 0 = 0
      · have HZ : Kp (∀ j : Nat, 1 ≤ j → j < i + 1 → t.getD j 0 = 0) := ⟨fun j h1 h2 => by
          rcases Nat.lt_or_ge j i with h | h
          · exact hz.out j h1 h
          · obtain rfl : j = i := by omega
            exact hzi⟩
        rw [hzi] at hci
        clear hzi
        go_wp2
        go_round
        case rel => exact ⟨i + 1, by go_num, ⟨by omega⟩, HZ⟩
        case measure => simp [intOf] <;> omega
      · have hno : Kp (¬ EarlyP t) := ⟨fun h => hzi (h.1 i hi1 hlt)⟩
        have hn : (t.getD i 0 != 0) = true := by simpa using hzi
        clear hzi
        generalize t.getD i 0 = z at hci hn
        go_wp2
        go_ret
        exact tells_false hno.out (Fr.refl _ _)
    · obtain rfl : i = 8 := by omega
      have hE : Kp (EarlyP t ↔ t.getD 8 0 < 64 * t.getD 0 0) := ⟨⟨fun h => h.2, fun h => ⟨fun i h1 h2 => hz.out i h1 h2, h⟩⟩⟩
      obtain ⟨b8, b8'⟩ := HB.out.get 8
      clear hz
      generalize t.getD 8 0 = z8 at hc8 hE b8 b8'
      generalize t.getD 0 0 = z0 at hc0 hE h0
      rcases h0 with rfl | rfl
      · go_upto_region 6 with (fail)
        go_quiet (fail)
        go_wp2
        go_ret
        refine ⟨decide (z8 < 64), rfl, ?_, fr_drewN _ _⟩
        rw [hE.out, decide_eq_true_iff]
        omega
      · go_upto_region 6 with (fail)
        go_quiet (fail)
        go_wp2
        go_ret
        refine ⟨decide (z8 < 128), rfl, ?_, fr_drewN _ _⟩
        rw [hE.out, decide_eq_true_iff]
        omega
theorem tag_or {t : List Int} {B : Bool} (h : t.getD 0 0 = tag B) : t.getD 0 0 = 1 ∨ t.getD 0 0 = 2 := by
  cases B
  · exact .inl h
  · exact .inr h
/-- the digits of the count -/
theorem num_digits {t : List Int} (hl : 9 ≤ t.length) (hb : Bs t) : (num ((t.drop 1).take 8) : Int) = ((((((t.getD 1 0 * 256 + t.getD 2 0) * 256 + t.getD 3 0) * 256 + t.getD 4 0) * 256 + t.getD 5 0) * 256 + t.getD 6 0) * 256 + t.getD 7 0) * 256 + t.getD 8 0 := by
  match t, hl with
  | a0 :: a1 :: a2 :: a3 :: a4 :: a5 :: a6 :: a7 :: a8 :: l, _ =>
    have h1 := hb a1 (by simp)
    have h2 := hb a2 (by simp)
    have h3 := hb a3 (by simp)
    have h4 := hb a4 (by simp)
    have h5 := hb a5 (by simp)
    have h6 := hb a6 (by simp)
    have h7 := hb a7 (by simp)
    have h8 := hb a8 (by simp)
    simp [num]
    omega
theorem loadOk_iff {B : Bool} {t : List Int} (hb : Bs t) (ht : t.getD 0 0 = tag B) : LoadOk B t ↔ FormedP t ∧ (EarlyP t → loadC B t = start B) := by
  have key : 9 ≤ t.length → ((loadCnt t).toNat ≤ maxCount ↔ t.getD 1 0 < 32) ∧ (((loadCnt t).toNat % blk B : Nat) : Int) = (t.getD 7 0 * 256 + t.getD 8 0) % (64 * t.getD 0 0) ∧ ((loadCnt t).toNat < blk B ↔ EarlyP t) := fun hl => by
    have hn := num_digits hl hb
    rw [← cnt_num hb] at hn
    obtain ⟨l1, u1⟩ := hb.get 1
    obtain ⟨l2, u2⟩ := hb.get 2
    obtain ⟨l3, u3⟩ := hb.get 3
    obtain ⟨l4, u4⟩ := hb.get 4
    obtain ⟨l5, u5⟩ := hb.get 5
    obtain ⟨l6, u6⟩ := hb.get 6
    obtain ⟨l7, u7⟩ := hb.get 7
    obtain ⟨l8, u8⟩ := hb.get 8
    have hE : EarlyP t ↔ (t.getD 1 0 = 0 ∧ t.getD 2 0 = 0 ∧ t.getD 3 0 = 0 ∧ t.getD 4 0 = 0 ∧ t.getD 5 0 = 0 ∧ t.getD 6 0 = 0 ∧ t.getD 7 0 = 0) ∧ t.getD 8 0 < 64 * t.getD 0 0 := by
      constructor
      · intro h
        exact ⟨⟨h.1 1 (by omega) (by omega), h.1 2 (by omega) (by omega), h.1 3 (by omega) (by omega), h.1 4 (by omega) (by omega), h.1 5 (by omega) (by omega), h.1 6 (by omega) (by omega), h.1 7 (by omega) (by omega)⟩, h.2⟩
      · rintro ⟨⟨h1, h2, h3, h4, h5, h6, h7⟩, h8⟩
        refine ⟨fun i a b => ?_, h8⟩
        match i, a, b with
        | 1, _, _ => exact h1
        | 2, _, _ => exact h2
        | 3, _, _ => exact h3
        | 4, _, _ => exact h4
        | 5, _, _ => exact h5
        | 6, _, _ => exact h6
        | 7, _, _ => exact h7
    rw [hE, ht]
    generalize t.getD 1 0 = z1 at *
    generalize t.getD 2 0 = z2 at *
    generalize t.getD 3 0 = z3 at *
    generalize t.getD 4 0 = z4 at *
    generalize t.getD 5 0 = z5 at *
    generalize t.getD 6 0 = z6 at *
    generalize t.getD 7 0 = z7 at *
    generalize t.getD 8 0 = z8 at *
    generalize (loadCnt t).toNat = n at *
    unfold maxCount
    cases B
    · simp only [blk, tag]
      refine ⟨by omega, by omega, by omega⟩
    · simp only [blk, tag]
      refine ⟨by omega, by omega, by omega⟩
  have hlen : 9 ≤ t.length → (t.length = 9 + out B + (loadCnt t).toNat % blk B ↔ (t.length : Int) = 9 + 32 * t.getD 0 0 + (t.getD 7 0 * 256 + t.getD 8 0) % (64 * t.getD 0 0)) := fun hl => by
    rw [← (key hl).2.1, ht]
    generalize (loadCnt t).toNat % blk B = q
    cases B
    · simp only [out, tag]; omega
    · simp only [out, tag]; omega
  constructor
  · intro h
    have hl : 9 ≤ t.length := by have := h.len; omega
    exact ⟨⟨hl, tag_or ht, (key hl).1.1 h.cnt, (hlen hl).1 h.len⟩, fun he => h.early ((key hl).2.2.2 he)⟩
  · rintro ⟨⟨hl, _, h1, h2⟩, h3⟩
    exact ⟨ht, (key hl).1.2 h1, (hlen hl).2 h2, fun he => h3 ((key hl).2.2.1 he)⟩
end Go.Proofs.YtjcfnflkiialbaaDoor.Sha
