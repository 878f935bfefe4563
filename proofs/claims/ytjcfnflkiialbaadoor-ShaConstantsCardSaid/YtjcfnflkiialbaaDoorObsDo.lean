/-
  Bytes and words, there and back; what a text of the form of a saved state says: plain facts. What was saved is taken up again as it was; the padding closes a message. Plain. A digest's functions, with the things that lie beside it.
-/
import Derived.Test.YtjcfnflkiialbaaDoorLd
import Derived.KernelRfl
namespace Go.Proofs.YtjcfnflkiialbaaDoor.Sha
/-- all are bytes -/
def Bs (l : List Int) : Prop := ∀ b ∈ l, 0 ≤ b ∧ b < 256
theorem Bs.sub {l m : List Int} (h : Bs l) (hs : ∀ b ∈ m, b ∈ l) : Bs m := fun b hb => h b (hs b hb)
theorem Bs.take {l : List Int} (h : Bs l) (n : Nat) : Bs (l.take n) := h.sub fun _ hb => List.mem_of_mem_take hb
theorem Bs.drop {l : List Int} (h : Bs l) (n : Nat) : Bs (l.drop n) := h.sub fun _ hb => List.mem_of_mem_drop hb
theorem Bs.get {l : List Int} (h : Bs l) (i : Nat) : 0 ≤ l.getD i 0 ∧ l.getD i 0 < 256 := by
  rw [List.getD_eq_getElem?_getD]
  cases hx : l[i]? with
  | none => exact ⟨Int.le_refl _, by decide⟩
  | some b => exact h b (List.mem_of_getElem? hx)
def num (l : List Int) : Nat := l.foldl (fun x b => x * 256 + b.toNat) 0
def layNat (n k : Nat) : List Int := (List.range k).map fun i => ((n / 256 ^ (k - 1 - i) % 256 : Nat) : Int)
theorem num_snoc (l : List Int) (b : Int) : num (l ++ [b]) = num l * 256 + b.toNat := by simp [num]
theorem layNat_snoc (n b k : Nat) (hb : b < 256) : layNat (n * 256 + b) (k + 1) = layNat n k ++ [(b : Int)] := by
  unfold layNat
  rw [List.range_succ, List.map_append, List.map_cons, List.map_nil]
  congr 1
  · apply List.map_congr_left
    intro i hi
    have hi := List.mem_range.1 hi
    have e : k + 1 - 1 - i = (k - 1 - i) + 1 := by omega
    rw [e, Nat.pow_succ, Nat.mul_comm (256 ^ _) 256, ← Nat.div_div_eq_div_mul]
    have : (n * 256 + b) / 256 = n := by omega
    rw [this]
  · have e : k + 1 - 1 - k = 0 := by omega
    rw [e, Nat.pow_zero, Nat.div_one]
    have : (n * 256 + b) % 256 = b := by omega
    rw [this]
theorem layNat_num (l : List Int) (h : Bs l) : layNat (num l) l.length = l := by
  obtain ⟨m, hm⟩ : ∃ m : List Int, m = l.reverse := ⟨_, rfl⟩
  have hl : l = m.reverse := by rw [hm, List.reverse_reverse]
  clear hm
  subst hl
  induction m with
  | nil => rfl
  | cons b m ih =>
    rw [List.reverse_cons] at h ⊢
    have hb := h b (by simp)
    have ih' := ih (h.sub fun _ hx => by simp at hx ⊢; exact .inl hx)
    rw [num_snoc, List.length_append, List.length_singleton, layNat_snoc _ _ _ (by omega), ih', Int.toNat_of_nonneg hb.1]
theorem num_lt (l : List Int) (h : Bs l) : num l < 256 ^ l.length := by
  obtain ⟨m, hm⟩ : ∃ m : List Int, m = l.reverse := ⟨_, rfl⟩
  have hl : l = m.reverse := by rw [hm, List.reverse_reverse]
  clear hm
  subst hl
  induction m with
  | nil => decide
  | cons b m ih =>
    rw [List.reverse_cons] at h ⊢
    have hb := h b (by simp)
    have ih' := ih (h.sub fun _ hx => by simp at hx ⊢; exact .inl hx)
    rw [num_snoc, List.length_append, List.length_singleton, Nat.pow_succ]
    omega
theorem wordAt_snoc {w : Nat} (l : List Int) (b : Int) : (wordAt (l ++ [b]) : BitVec w) = wordAt l <<< 8 ||| BitVec.ofInt w b := by simp [wordAt]
theorem pow8 (n : Nat) : 256 ^ n = 2 ^ (8 * n) := by rw [Nat.pow_mul]
theorem wordAt_num {w : Nat} (l : List Int) (h : Bs l) (hl : 8 * l.length ≤ w) : (wordAt l : BitVec w).toNat = num l := by
  obtain ⟨m, hm⟩ : ∃ m : List Int, m = l.reverse := ⟨_, rfl⟩
  have hl' : l = m.reverse := by rw [hm, List.reverse_reverse]
  clear hm
  subst hl'
  induction m with
  | nil => simp [wordAt, num]
  | cons b m ih =>
    rw [List.reverse_cons] at h hl ⊢
    rw [List.length_append, List.length_singleton] at hl
    have hb := h b (by simp)
    have hB : Bs m.reverse := h.sub fun _ hx => by simp at hx ⊢; exact .inl hx
    have ih' := ih hB (by omega)
    have hlt := num_lt _ hB
    rw [pow8] at hlt
    have hw : 2 ^ (8 * m.reverse.length + 8) ≤ 2 ^ w := Nat.pow_le_pow_right (by decide) (by omega)
    have h8 : 2 ^ (8 * m.reverse.length + 8) = 2 ^ (8 * m.reverse.length) * 256 := by rw [Nat.pow_add]
    rw [wordAt_snoc, num_snoc, BitVec.toNat_or, BitVec.toNat_shiftLeft, ih', Nat.shiftLeft_eq]
    have e8 : (2 : Nat) ^ 8 = 256 := by decide
    rw [e8]
    generalize 2 ^ (8 * m.reverse.length) = q at hlt h8
    have h256 : 256 ≤ 2 ^ w := by
      have : 2 ^ 8 ≤ 2 ^ w := Nat.pow_le_pow_right (by decide) (by omega)
      rwa [e8] at this
    have hmod : num m.reverse * 256 % 2 ^ w = num m.reverse * 256 := Nat.mod_eq_of_lt (by omega)
    have hbn : (BitVec.ofInt w b).toNat = b.toNat := by
      rw [BitVec.toNat_ofInt]
      have : b % ((2 ^ w : Nat) : Int) = b := Int.emod_eq_of_lt hb.1 (by omega)
      rw [this]
    rw [hmod, hbn]
    have := Nat.shiftLeft_add_eq_or_of_lt (a := num m.reverse) (b := b.toNat) (i := 8) (by omega)
    rw [Nat.shiftLeft_eq, e8] at this
    exact this.symm
theorem layWord_nat {w : Nat} (x : BitVec w) (k : Nat) : layWord x k = layNat x.toNat k := by
  unfold layWord layNat
  apply List.map_congr_left
  intro i _
  rw [BitVec.toNat_ushiftRight, Nat.shiftRight_eq_div_pow, pow8]
theorem lay_word {w : Nat} (l : List Int) (h : Bs l) (hl : 8 * l.length ≤ w) : layWord (wordAt l : BitVec w) l.length = l := by
  rw [layWord_nat, wordAt_num l h hl, layNat_num l h]
/-- the words of bytes, laid again -/
theorem lay_words {w : Nat} (sz : Nat) (hw : 8 * sz ≤ w) (l : List Int) (h : Bs l) : ∀ n, sz * n ≤ l.length → (wordsOf sz l n : List (BitVec w)).flatMap (fun x => layWord x sz) = l.take (sz * n)
  | 0, _ => by simp [wordsOf]
  | n + 1, hn => by
    have hn' : sz * n + sz ≤ l.length := by rw [← Nat.mul_succ]; exact hn
    have hp : ((l.drop (n * sz)).take sz).length = sz := by rw [List.length_take, List.length_drop, Nat.mul_comm n sz]; omega
    have hl := lay_word (w := w) ((l.drop (n * sz)).take sz) ((h.drop _).take _) (by omega)
    rw [hp] at hl
    have e : (wordsOf sz l (n + 1) : List (BitVec w)) = wordsOf sz l n ++ [wordAt ((l.drop (n * sz)).take sz)] := by simp [wordsOf, List.range_succ]
    rw [e, List.flatMap_append, lay_words sz hw l h n (by omega), List.flatMap_cons, List.flatMap_nil, List.append_nil, hl, Nat.mul_succ, List.take_add, Nat.mul_comm n sz]
theorem wordsOf_take {w : Nat} (sz : Nat) (l : List Int) (n : Nat) : (wordsOf sz (l.take (sz * n)) n : List (BitVec w)) = wordsOf sz l n := by
  unfold wordsOf
  apply List.map_congr_left
  intro i hi
  have hi := List.mem_range.1 hi
  have h2 : i * sz + sz ≤ sz * n := by
    have : (i + 1) * sz ≤ n * sz := Nat.mul_le_mul_right _ hi
    rw [Nat.add_mul, Nat.one_mul, Nat.mul_comm n sz] at this
    exact this
  rw [List.drop_take, List.take_take]
  congr 2
  omega
theorem start_words32 : eightOf (wordsOf 4 (words false (start false)) 8 : List (BitVec 32)) = start32 := by kernel_rfl
theorem start_words64 : eightOf (wordsOf 8 (words true (start true)) 8 : List (BitVec 64)) = start64 := by kernel_rfl
theorem loadC_start {B : Bool} {t : List Int} (h : (t.drop 9).take (out B) = words B (start B)) : loadC B t = start B := by
  cases B
  · have e : (wordsOf 4 (t.drop 9) 8 : List (BitVec 32)) = wordsOf 4 (words false (start false)) 8 := by
      rw [← h]; exact (wordsOf_take 4 (t.drop 9) 8).symm
    unfold loadC
    simp only [e, start_words32]
    rfl
  · have e : (wordsOf 8 (t.drop 9) 8 : List (BitVec 64)) = wordsOf 8 (words true (start true)) 8 := by
      rw [← h]; exact (wordsOf_take 8 (t.drop 9) 8).symm
    unfold loadC
    simp only [e, start_words64]
    rfl
theorem words_loadC {B : Bool} {t : List Int} (hb : Bs t) (hl : 9 + out B ≤ t.length) : words B (loadC B t) = (t.drop 9).take (out B) := by
  cases B
  · have hl' : 9 + 32 ≤ t.length := hl
    have h := lay_words (w := 32) 4 (by decide) (t.drop 9) (hb.drop 9) 8 (by rw [List.length_drop]; omega)
    have e := eightOf_list (wordsOf 4 (t.drop 9) 8 : List (BitVec 32)) (by simp [wordsOf])
    show (eightOf (wordsOf 4 (t.drop 9) 8 : List (BitVec 32))).list.flatMap _ = _
    rw [e]; exact h
  · have hl' : 9 + 64 ≤ t.length := hl
    have h := lay_words (w := 64) 8 (by decide) (t.drop 9) (hb.drop 9) 8 (by rw [List.length_drop]; omega)
    have e := eightOf_list (wordsOf 8 (t.drop 9) 8 : List (BitVec 64)) (by simp [wordsOf])
    show (eightOf (wordsOf 8 (t.drop 9) 8 : List (BitVec 64))).list.flatMap _ = _
    rw [e]; exact h
theorem start_iff {B : Bool} {t : List Int} (hb : Bs t) (hl : 9 + out B ≤ t.length) : loadC B t = start B ↔ (t.drop 9).take (out B) = words B (start B) :=
  ⟨fun h => by rw [← h, words_loadC hb hl], loadC_start⟩
theorem cnt_num {t : List Int} (hb : Bs t) : (loadCnt t).toNat = num ((t.drop 1).take 8) :=
  wordAt_num _ ((hb.drop 1).take 8) (by rw [List.length_take]; omega)
/-- What was taken saves as that very text. -/
theorem save_load {B : Bool} {t : List Int} (hb : Bs t) (h : LoadOk B t) : (loadSt B t).save = t := by
  have hl := h.len
  have hl8 : ((t.drop 1).take 8).length = 8 := by rw [List.length_take, List.length_drop]; omega
  have e8 : be8 (loadCnt t).toNat = (t.drop 1).take 8 := by
    unfold be8
    rw [BitVec.ofNat_toNat, BitVec.setWidth_eq]
    have := lay_word (w := 64) ((t.drop 1).take 8) ((hb.drop 1).take 8) (by omega)
    rw [hl8] at this
    exact this
  have ew := words_loadC (B := B) hb (by omega)
  have et : (((kind B / 256 : Nat) : Int)) = t.getD 0 0 := by
    rw [h.tag]; cases B <;> rfl
  have h0 : t = t.getD 0 0 :: t.drop 1 := by
    cases t with
    | nil => exfalso; have : ([] : List Int).length = 0 := rfl; omega
    | cons a l => rfl
  show ((kind B / 256 : Nat) : Int) :: be8 (loadCnt t).toNat ++ words B (loadC B t) ++ t.drop (9 + out B) = t
  rw [e8, ew, et, List.append_assoc]
  have e1 : (t.drop 9).take (out B) ++ t.drop (9 + out B) = t.drop 9 := by rw [← List.drop_drop, List.take_append_drop]
  rw [e1]
  have e2 : (t.drop 1).take 8 ++ t.drop 9 = t.drop 1 := by
    have := List.take_append_drop 8 (t.drop 1)
    rwa [List.drop_drop] at this
  show t.getD 0 0 :: ((t.drop 1).take 8 ++ t.drop 9) = t
  rw [e2]
  exact h0.symm
end Go.Proofs.YtjcfnflkiialbaaDoor.Sha
namespace Go.Proofs.YtjcfnflkiialbaaDoor.Sha
open Go.RowKit Go.Proofs.YtjcfnflkiialbaaDoor.Mem Go.Proofs.YtjcfnflkiialbaaDoorW.PrintWords
theorem layNat_bs (n k : Nat) : Bs (layNat n k) := fun b hb => by
  obtain ⟨i, _, rfl⟩ := List.mem_map.1 hb
  omega
theorem layNat_length (n k : Nat) : (layNat n k).length = k := by simp [layNat]
theorem num_layNat : ∀ (k n : Nat), n < 256 ^ k → num (layNat n k) = n
  | 0, n, h => by
    have : n = 0 := by simp at h; omega
    subst this
    rfl
  | k + 1, n, h => by
    have e : n = n / 256 * 256 + n % 256 := by omega
    have h1 : n / 256 < 256 ^ k := by rw [Nat.pow_succ] at h; omega
    rw [e, layNat_snoc _ _ _ (by omega), num_snoc, num_layNat k _ h1]
    omega
theorem wordAt_lay {w : Nat} (x : BitVec w) (sz : Nat) (h : 8 * sz = w) : wordAt (layWord x sz) = x := by
  apply BitVec.eq_of_toNat_eq
  rw [layWord_nat, wordAt_num _ (layNat_bs _ _) (by rw [layNat_length]; omega), num_layNat]
  rw [pow8, h]
  exact x.isLt
theorem wordsOf_lay {w : Nat} (sz : Nat) (h : 8 * sz = w) (m : List Int) : ∀ l : List (BitVec w), wordsOf sz (l.flatMap (fun x => layWord x sz) ++ m) l.length = l
  | [] => rfl
  | x :: l => by
    have hl : (layWord x sz).length = sz := by simp [layWord]
    have ih := wordsOf_lay sz h m l
    have e : (wordsOf sz (layWord x sz ++ (l.flatMap (fun x => layWord x sz) ++ m)) (l.length + 1) : List (BitVec w)) = wordAt ((layWord x sz ++ (l.flatMap (fun x => layWord x sz) ++ m)).take sz) :: wordsOf sz (l.flatMap (fun x => layWord x sz) ++ m) l.length := by
      unfold wordsOf
      rw [List.range_succ_eq_map, List.map_cons, List.map_map]
      congr 1
      · rw [Nat.zero_mul, List.drop_zero]
      · apply List.map_congr_left
        intro i _
        simp only [Function.comp, Nat.succ_eq_add_one]
        congr 2
        rw [Nat.add_mul, Nat.one_mul, Nat.add_comm (i * sz) sz, ← List.drop_drop, List.drop_left' hl]
    rw [List.flatMap_cons, List.append_assoc, List.length_cons, e, ih]
    congr 1
    rw [List.take_left' hl, wordAt_lay x sz h]
/-- the half of the chain that the kind doesn't use is as it was made -/
def Half (B : Bool) (c : Chain) : Prop :=
  match B with
  | true => c.s = zero32
  | false => c.l = zero64
theorem half_start (B : Bool) : Half B (start B) := by cases B <;> rfl
theorem mix_l (s : Eight 32) (l : Eight 64) (b : List Int) : (mixC false ⟨s, l⟩ b).l = l := by
  unfold mixC
  dsimp only
theorem mix_s (s : Eight 32) (l : Eight 64) (b : List Int) : (mixC true ⟨s, l⟩ b).s = s := by
  unfold mixC
  dsimp only
theorem half_false (c : Chain) : Half false c = (c.l = zero64) := by unfold Half; dsimp only
theorem half_true (c : Chain) : Half true c = (c.s = zero32) := by unfold Half; dsimp only
theorem half_mix (B : Bool) (d : Chain) (b : List Int) (h : Half B d) : Half B (mixC B d b) := by
  obtain ⟨s, l⟩ := d
  cases B
  · rw [half_false] at h ⊢
    rw [mix_l]
    exact h
  · rw [half_true] at h ⊢
    rw [mix_s]
    exact h
theorem half_run (B : Bool) (c : Chain) (l : List Int) (h : Half B c) (k : Nat) : Half B (runC B c l k) := by
  induction k with
  | zero => exact h
  | succ k ih => exact half_mix B _ _ ih
theorem eight_of_list {w : Nat} (v : Eight w) : eightOf v.list = v := rfl
theorem loadC_words {B : Bool} {c : Chain} (h : Half B c) (a m : List Int) (ha : a.length = 9) : loadC B (a ++ words B c ++ m) = c := by
  have e : (a ++ words B c ++ m).drop 9 = words B c ++ m := by rw [List.append_assoc, List.drop_left' ha]
  cases B
  · unfold loadC
    simp only [e]
    have := wordsOf_lay 4 rfl m c.s.list
    have hl : c.s.list.length = 8 := rfl
    rw [hl] at this
    show (⟨eightOf (wordsOf 4 (c.s.list.flatMap (fun x => layWord x 4) ++ m) 8), zero64⟩ : Chain) = c
    rw [this, eight_of_list]
    obtain ⟨s, l⟩ := c
    simp only [Half] at h
    rw [h]
  · unfold loadC
    simp only [e]
    have := wordsOf_lay 8 rfl m c.l.list
    have hl : c.l.list.length = 8 := rfl
    rw [hl] at this
    show (⟨zero32, eightOf (wordsOf 8 (c.l.list.flatMap (fun x => layWord x 8) ++ m) 8)⟩ : Chain) = c
    rw [this, eight_of_list]
    obtain ⟨s, l⟩ := c
    simp only [Half] at h
    rw [h]
theorem tag_kind (B : Bool) : ((kind B / 256 : Nat) : Int) = tag B := by cases B <;> rfl
/-- a text laid as a saved state is: what is taken of it -/
theorem load_text (B : Bool) (cnt : Nat) (c : Chain) (rest : List Int) (hc : cnt ≤ maxCount) (hr : rest.length = cnt % blk B) (hh : Half B c) (he : cnt < blk B → c = start B) :
    LoadOk B (tag B :: be8 cnt ++ words B c ++ rest) ∧ loadSt B (tag B :: be8 cnt ++ words B c ++ rest) = ⟨B, cnt, c, rest⟩ := by
  have h9 : (tag B :: be8 cnt).length = 9 := by rw [List.length_cons, be8_length]
  have hw : (words B c).length = out B := words_length B c
  have e8 : ((tag B :: be8 cnt ++ words B c ++ rest).drop 1).take 8 = be8 cnt := by
    rw [List.append_assoc, List.cons_append, List.drop_succ_cons, List.drop_zero, List.take_left' (be8_length cnt)]
  have hcnt : (loadCnt (tag B :: be8 cnt ++ words B c ++ rest)).toNat = cnt := by
    unfold loadCnt
    rw [e8]
    unfold be8
    rw [wordAt_lay _ 8 rfl, BitVec.toNat_ofNat]
    unfold maxCount at hc
    omega
  have hC : loadC B (tag B :: be8 cnt ++ words B c ++ rest) = c := loadC_words hh _ _ h9
  have hd : (tag B :: be8 cnt ++ words B c ++ rest).drop (9 + out B) = rest := List.drop_left' (by rw [List.length_append, h9, hw])
  refine ⟨⟨rfl, by rw [hcnt]; exact hc, ?_, fun h => ?_⟩, ?_⟩
  · rw [hcnt, List.length_append, List.length_append, h9, hw, hr]
  · rw [hC]; exact he (by rw [hcnt] at h; exact h)
  · unfold loadSt
    rw [hcnt, hC, hd]
theorem load_save {s : St} (hs : s.Ok) (hh : Half s.B s.c) (he : s.cnt < blk s.B → s.c = start s.B) : LoadOk s.B s.save ∧ loadSt s.B s.save = s := by
  have h := load_text s.B s.cnt s.c s.rest hs.cnt hs.rest hh he
  unfold St.save
  rw [tag_kind]
  exact h
/-- the state behind p -/
theorem write_new (B : Bool) (p : List Int) (h : p.length ≤ maxCount) : (St.new B).write p = ⟨B, p.length, runC B (start B) p (p.length / blk B), p.drop (blk B * (p.length / blk B))⟩ := by
  unfold St.write
  rw [if_pos (by show 0 + _ ≤ _; omega)]
  show (⟨B, 0 + p.length, runC B (start B) ([] ++ p) (([] ++ p).length / blk B), ([] ++ p).drop (blk B * (([] ++ p).length / blk B))⟩ : St) = _
  rw [List.nil_append, Nat.zero_add]
theorem load_write (B : Bool) (p : List Int) (h : p.length ≤ maxCount) : LoadOk B ((St.new B).write p).save ∧ loadSt B ((St.new B).write p).save = (St.new B).write p := by
  have hb : ((St.new B).write p).B = B := by rw [write_new B p h]
  have := load_save (s := (St.new B).write p) (write_ok _ (new_ok B) p) (by
      rw [hb, write_new B p h]
      exact half_run B _ _ (half_start B) _) (fun hlt => by
      rw [hb] at hlt ⊢
      rw [write_new B p h] at hlt ⊢
      show runC B (start B) p (p.length / blk B) = start B
      have hlt' : p.length < blk B := hlt
      rw [Nat.div_eq_of_lt hlt']
      rfl)
  rw [hb] at this
  exact this
end Go.Proofs.YtjcfnflkiialbaaDoor.Sha
namespace Go.Proofs.YtjcfnflkiialbaaDoor.Sha
open Go.RowKit Go.Proofs.YtjcfnflkiialbaaDoor.Mem Go.Proofs.YtjcfnflkiialbaaDoorW.PrintWords
section
variable {w0 w w' : World} {os : List Ob}
theorem OwnL.src {A : Option Addr} {n c : Nat} {xs : List Int} (h : OwnL w 5 1 (.slice A n c) n (bytes xs)) (S : Nat → Prop) (hs : ∀ k, (Value.slice A n c).ownBlock = some k → ¬ S k) : n = xs.length ∧ Src w S A c xs := by
  have hn : xs.length = n := by have := h.1; rw [bytes_length] at this; omega
  refine ⟨hn.symm, ?_⟩
  rcases h.2 with ⟨h1, h2⟩ | ⟨g, cap, cur, h1, h2, h3, h4, h5, h6⟩
  · simp only [Value.slice.injEq] at h1
    obtain ⟨rfl, _, rfl⟩ := h1
    exact ⟨by omega, .inl ⟨rfl, rfl, List.eq_nil_of_length_eq_zero (by omega)⟩⟩
  · simp only [Value.slice.injEq] at h1
    obtain ⟨rfl, _, rfl⟩ := h1
    refine ⟨by omega, .inr (.inr ⟨g, 0, rfl, ⟨?_, fun i hi => ?_⟩, hs g rfl⟩)⟩
    · rcases Nat.lt_or_ge g w.heap.size with hl | hl
      · exact hl
      · rw [Array.getElem?_eq_none hl] at h2; cases h2
    · rw [Nat.zero_add, cell_of_row w g i cur 5 (0, 0) h2]
      have := bytes_get xs i hi
      rw [← h6, List.getElem?_take_of_lt (by omega)] at this
      simpa using this
theorem Objs.own_src (h : Objs w0 w os) {i : Nat} {A : Option Addr} {n c : Nat} {xs : List Int} (hi : os[i]? = some (Ob.own A n c (bytes xs))) : Src w (fun _ => False) A c xs :=
  (OwnL.src (show OwnL w 5 1 (.slice A n c) n (bytes xs) from h.inv i _ hi) (fun _ => False) (fun _ _ h => h)).2
theorem Objs.laid (h : Objs w0 w os) (hL : Laid w0) : Laid w := hL.fr h.fr (fun _ h => h.elim)
theorem Objs.came (h : Objs w0 w os) {A : Option Addr} {c : Nat} {p : List Int} (hs : Src w0 (fun _ => False) A c p) : Src w (fun _ => False) A c p := hs.fr h.fr
theorem obNew_calls (h : Objs w0 w os) (hL : Laid w0) (B : Bool) :
    Calls Tryd.prog 30 #[.int .i64 (kind B : Nat)] w fun e w' => ∃ b, e = .returned (.tuple #[.pointer (some ⟨b, 0, none⟩), .int .i64 0]) ∧ Objs w0 w' (os ++ [Ob.dg b (.slice none 0 0) (St.new B)]) := by
  refine (new_calls B w (h.laid hL)).mono ?_
  rintro e w' ⟨b, rfl, hb, hD, hB⟩
  refine ⟨b, rfl, h.add (Fr.of_below hB _) hD (fun k hk => ?_)⟩
  rcases hk with rfl | hk
  · exact hb
  · cases hk
theorem obWrite_calls (h : Objs w0 w os) (hL : Laid w0) (i : Nat) {b : Nat} {rv : Value} {s : St} (hi : os[i]? = some (Ob.dg b rv s)) (hs : s.Ok) {A : Option Addr} {c : Nat} {p : List Int} (hX : Src w (dfoot b rv) A c p) (hmax : s.cnt + p.length ≤ maxCount) :
    Calls Tryd.prog 34 #[.pointer (some ⟨b, 0, none⟩), .slice A p.length c] w fun e w' => ∃ r rv', e = .returned r ∧ Objs w0 w' (os.set i (Ob.dg b rv' (s.write p))) := by
  have hD : Dg w b rv s := h.inv i _ hi
  refine (write_calls s hs b rv A c p hmax w (h.laid hL) hD hX).mono ?_
  rintro e w' ⟨r, rv', rfl, hD', hh, hf⟩
  exact ⟨r, rv', rfl, h.write i hi hD' hh hf⟩
theorem obSave_calls (h : Objs w0 w os) (i : Nat) {b : Nat} {rv : Value} {s : St} (hi : os[i]? = some (Ob.dg b rv s)) (hs : s.Ok) :
    Calls Tryd.prog 35 #[.pointer (some ⟨b, 0, none⟩)] w fun e w' => ∃ g, e = .returned (.slice (some ⟨g, 0, none⟩) s.save.length s.save.length) ∧ s.save.length ≤ 201 ∧ Objs w0 w' (os ++ [Ob.own (some ⟨g, 0, none⟩) s.save.length s.save.length (bytes s.save)]) := by
  have hD : Dg w b rv s := h.inv i _ hi
  refine (saveL_calls s hs b rv w hD).mono ?_
  rintro e w' ⟨g, n, rfl, h1, rfl, h2, h3, _, hB⟩
  exact ⟨g, rfl, h1, h.add (Fr.of_below hB _) h2 (fun k hk => (h3 k hk).1)⟩
/-- a text saved, read at once and then no more -/
theorem obSaved_calls (h : Objs w0 w os) (i : Nat) {b : Nat} {rv : Value} {s : St} (hi : os[i]? = some (Ob.dg b rv s)) (hs : s.Ok) :
    Calls Tryd.prog 35 #[.pointer (some ⟨b, 0, none⟩)] w fun e w' => ∃ g, e = .returned (.slice (some ⟨g, 0, none⟩) s.save.length s.save.length) ∧ Src w' (fun _ => False) (some ⟨g, 0, none⟩) s.save.length s.save ∧ Fr (fun _ => False) w w' := by
  have hD : Dg w b rv s := h.inv i _ hi
  refine (saveL_calls s hs b rv w hD).mono ?_
  rintro e w' ⟨g, n, rfl, h1, rfl, _, _, h2, hB⟩
  exact ⟨g, rfl, h2, Fr.of_below hB _⟩
theorem obSum_calls (h : Objs w0 w os) (hL : Laid w0) (i : Nat) {b : Nat} {rv : Value} {B : Bool} {p : List Int} (hi : os[i]? = some (Ob.dg b rv ((St.new B).write p))) :
    Calls Tryd.prog 31 #[.pointer (some ⟨b, 0, none⟩)] w fun e w' => ∃ A c, e = .returned (.slice A (out B) c) ∧ Src w' (fun _ => False) A c (hash B p) ∧ Fr (fun _ => False) w w' := by
  have hD : Dg w b rv ((St.new B).write p) := h.inv i _ hi
  refine (sumL_calls B p b rv w (h.laid hL) hD).mono ?_
  rintro e w' ⟨A, c, rfl, _, _, h2, hB⟩
  exact ⟨A, c, rfl, h2, Fr.of_below hB _⟩
theorem obLoad_calls (h : Objs w0 w os) (hL : Laid w0) {A : Option Addr} {c : Nat} {t : List Int} (hX : Src w (fun _ => False) A c t) (hm : t.length ≤ 140737488351232) {B : Bool} (hok : LoadOk B t) :
    Calls Tryd.prog 39 #[.slice A t.length c] w fun e w' => ∃ b rv, e = .returned (.tuple #[.pointer (some ⟨b, 0, none⟩), .int .i64 0]) ∧ Objs w0 w' (os ++ [Ob.dg b rv (loadSt B t)]) := by
  refine (ld_calls A c t hm w (h.laid hL) hX).mono ?_
  rintro e w' (⟨B', h1, b, rv, rfl, h2, h3, hB⟩ | ⟨h1, _⟩)
  · obtain rfl : B' = B := by
      have e1 := h1.tag
      rw [hok.tag] at e1
      cases B <;> cases B' <;> simp [tag] at e1 <;> rfl
    exact ⟨b, rv, rfl, h.add (Fr.of_below hB _) h3 h2⟩
  · exact absurd hok (h1 B)
theorem obReset_calls (h : Objs w0 w os) (hL : Laid w0) (i : Nat) {b : Nat} {rv : Value} {s : St} (hi : os[i]? = some (Ob.dg b rv s)) :
    Calls Tryd.prog 43 #[.pointer (some ⟨b, 0, none⟩)] w fun e w' => ∃ r, e = .returned r ∧ Objs w0 w' (os.set i (Ob.dg b (.slice none 0 0) (St.new s.B))) := by
  have hD : Dg w b rv s := h.inv i _ hi
  refine (reset_calls s b rv w (h.laid hL) hD).mono ?_
  rintro e w' ⟨r, rfl, hD', hf⟩
  refine ⟨r, rfl, h.set i hi hf (fun k _ hk => .inl hk) hD' (fun k hk => ?_)⟩
  rcases hk with rfl | hk
  · exact .inl (.inl rfl)
  · cases hk
theorem Objs.nilrow (h : Objs w0 w os) : Objs w0 w (os ++ [Ob.row (.slice none 0 0) []]) :=
  h.add (Fr.refl _ _) ⟨rfl, .inl ⟨rfl, rfl⟩⟩ (fun k (hk : (Value.slice none 0 0).ownBlock = some k) => by cases hk)
end
end Go.Proofs.YtjcfnflkiialbaaDoor.Sha
