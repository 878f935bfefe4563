/-
  Bytes, numbers and words, there and back: plain facts.
-/
import Derived.Test.YtjcfnflkiialbaaDoorShaState
import Derived.KernelRfl
namespace Go.Proofs.YtjcfnflkiialbaaDoor.Sha
/-- all are bytes -/
def Bs (l : List Int) : Prop := ∀ b ∈ l, 0 ≤ b ∧ b < 256
theorem Bs.sub {l m : List Int} (h : Bs l) (hs : ∀ b ∈ m, b ∈ l) : Bs m := fun b hb => h b (hs b hb)
theorem Bs.take {l : List Int} (h : Bs l) (n : Nat) : Bs (l.take n) := h.sub fun _ hb => List.mem_of_mem_take hb
theorem Bs.drop {l : List Int} (h : Bs l) (n : Nat) : Bs (l.drop n) := h.sub fun _ hb => List.mem_of_mem_drop hb
theorem Bs.get {l : List Int} (h : Bs l) (i : Nat) : 0 ≤ l.getD i 0 ∧ l.getD i 0 < 256 := by
  rw [List.getD_eq_getElem?_getD]
  cases hx : l[i]? with
  | none => exact ⟨Int.le_refl _, by decide⟩
  | some b => exact h b (List.mem_of_getElem? hx)
def num (l : List Int) : Nat := l.foldl (fun x b => x * 256 + b.toNat) 0
def layNat (n k : Nat) : List Int := (List.range k).map fun i => ((n / 256 ^ (k - 1 - i) % 256 : Nat) : Int)
theorem num_snoc (l : List Int) (b : Int) : num (l ++ [b]) = num l * 256 + b.toNat := by simp [num]
theorem layNat_snoc (n b k : Nat) (hb : b < 256) : layNat (n * 256 + b) (k + 1) = layNat n k ++ [(b : Int)] := by
  unfold layNat
  rw [List.range_succ, List.map_append, List.map_cons, List.map_nil]
  congr 1
  · apply List.map_congr_left
    intro i hi
    have hi := List.mem_range.1 hi
    have e : k + 1 - 1 - i = (k - 1 - i) + 1 := by omega
    rw [e, Nat.pow_succ, Nat.mul_comm (256 ^ _) 256, ← Nat.div_div_eq_div_mul]
    have : (n * 256 + b) / 256 = n := by omega
    rw [this]
  · have e : k + 1 - 1 - k = 0 := by omega
    rw [e, Nat.pow_zero, Nat.div_one]
    have : (n * 256 + b) % 256 = b := by omega
    rw [this]
theorem layNat_num (l : List Int) (h : Bs l) : layNat (num l) l.length = l := by
  obtain ⟨m, hm⟩ : ∃ m : List Int, m = l.reverse := ⟨_, rfl⟩
  have hl : l = m.reverse := by rw [hm, List.reverse_reverse]
  clear hm
  subst hl
  induction m with
  | nil => rfl
  | cons b m ih =>
    rw [List.reverse_cons] at h ⊢
    have hb := h b (by simp)
    have ih' := ih (h.sub fun _ hx => by simp at hx ⊢; exact .inl hx)
    rw [num_snoc, List.length_append, List.length_singleton, layNat_snoc _ _ _ (by omega), ih', Int.toNat_of_nonneg hb.1]
theorem num_lt (l : List Int) (h : Bs l) : num l < 256 ^ l.length := by
  obtain ⟨m, hm⟩ : ∃ m : List Int, m = l.reverse := ⟨_, rfl⟩
  have hl : l = m.reverse := by rw [hm, List.reverse_reverse]
  clear hm
  subst hl
  induction m with
  | nil => decide
  | cons b m ih =>
    rw [List.reverse_cons] at h ⊢
    have hb := h b (by simp)
    have ih' := ih (h.sub fun _ hx => by simp at hx ⊢; exact .inl hx)
    rw [num_snoc, List.length_append, List.length_singleton, Nat.pow_succ]
    omega
theorem wordAt_snoc {w : Nat} (l : List Int) (b : Int) : (wordAt (l ++ [b]) : BitVec w) = wordAt l <<< 8 ||| BitVec.ofInt w b := by simp [wordAt]
theorem pow8 (n : Nat) : 256 ^ n = 2 ^ (8 * n) := by rw [Nat.pow_mul]
theorem wordAt_num {w : Nat} (l : List Int) (h : Bs l) (hl : 8 * l.length ≤ w) : (wordAt l : BitVec w).toNat = num l := by
  obtain ⟨m, hm⟩ : ∃ m : List Int, m = l.reverse := ⟨_, rfl⟩
  have hl' : l = m.reverse := by rw [hm, List.reverse_reverse]
  clear hm
  subst hl'
  induction m with
  | nil => simp [wordAt, num]
  | cons b m ih =>
    rw [List.reverse_cons] at h hl ⊢
    rw [List.length_append, List.length_singleton] at hl
    have hb := h b (by simp)
    have hB : Bs m.reverse := h.sub fun _ hx => by simp at hx ⊢; exact .inl hx
    have ih' := ih hB (by omega)
    have hlt := num_lt _ hB
    rw [pow8] at hlt
    have hw : 2 ^ (8 * m.reverse.length + 8) ≤ 2 ^ w := Nat.pow_le_pow_right (by decide) (by omega)
    have h8 : 2 ^ (8 * m.reverse.length + 8) = 2 ^ (8 * m.reverse.length) * 256 := by rw [Nat.pow_add]
    rw [wordAt_snoc, num_snoc, BitVec.toNat_or, BitVec.toNat_shiftLeft, ih', Nat.shiftLeft_eq]
    have e8 : (2 : Nat) ^ 8 = 256 := by decide
    rw [e8]
    generalize 2 ^ (8 * m.reverse.length) = q at hlt h8
    have h256 : 256 ≤ 2 ^ w := by
      have : 2 ^ 8 ≤ 2 ^ w := Nat.pow_le_pow_right (by decide) (by omega)
      rwa [e8] at this
    have hmod : num m.reverse * 256 % 2 ^ w = num m.reverse * 256 := Nat.mod_eq_of_lt (by omega)
    have hbn : (BitVec.ofInt w b).toNat = b.toNat := by
      rw [BitVec.toNat_ofInt]
      have : b % ((2 ^ w : Nat) : Int) = b := Int.emod_eq_of_lt hb.1 (by omega)
      rw [this]
    rw [hmod, hbn]
    have := Nat.shiftLeft_add_eq_or_of_lt (a := num m.reverse) (b := b.toNat) (i := 8) (by omega)
    rw [Nat.shiftLeft_eq, e8] at this
    exact this.symm
theorem layWord_nat {w : Nat} (x : BitVec w) (k : Nat) : layWord x k = layNat x.toNat k := by
  unfold layWord layNat
  apply List.map_congr_left
  intro i _
  rw [BitVec.toNat_ushiftRight, Nat.shiftRight_eq_div_pow, pow8]
theorem lay_word {w : Nat} (l : List Int) (h : Bs l) (hl : 8 * l.length ≤ w) : layWord (wordAt l : BitVec w) l.length = l := by
  rw [layWord_nat, wordAt_num l h hl, layNat_num l h]
/-- the words of bytes, laid again -/
theorem lay_words {w : Nat} (sz : Nat) (hw : 8 * sz ≤ w) (l : List Int) (h : Bs l) : ∀ n, sz * n ≤ l.length → (wordsOf sz l n : List (BitVec w)).flatMap (fun x => layWord x sz) = l.take (sz * n)
  | 0, _ => by simp [wordsOf]
  | n + 1, hn => by
    have hn' : sz * n + sz ≤ l.length := by rw [← Nat.mul_succ]; exact hn
    have hp : ((l.drop (n * sz)).take sz).length = sz := by rw [List.length_take, List.length_drop, Nat.mul_comm n sz]; omega
    have hl := lay_word (w := w) ((l.drop (n * sz)).take sz) ((h.drop _).take _) (by omega)
    rw [hp] at hl
    have e : (wordsOf sz l (n + 1) : List (BitVec w)) = wordsOf sz l n ++ [wordAt ((l.drop (n * sz)).take sz)] := by simp [wordsOf, List.range_succ]
    rw [e, List.flatMap_append, lay_words sz hw l h n (by omega), List.flatMap_cons, List.flatMap_nil, List.append_nil, hl, Nat.mul_succ, List.take_add, Nat.mul_comm n sz]
end Go.Proofs.YtjcfnflkiialbaaDoor.Sha
