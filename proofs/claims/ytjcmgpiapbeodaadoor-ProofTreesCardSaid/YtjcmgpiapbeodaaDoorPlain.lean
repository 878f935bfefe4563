/-
  Plain facts on numbers: the ones of a number, the count of stored hashes of a tree of n records, and which record a place belongs to. No program, no memory.
-/
import Derived.Laws.BitsLemmas
import Derived.RowKit
namespace Go.Proofs.YtjcmgpiapbeodaaDoor.Pl
open Go.RowKit

/-! ### the ones of a number -/
def pop (n : Nat) : Nat := if n = 0 then 0 else n % 2 + pop (n / 2)
termination_by n
decreasing_by omega

theorem pop_zero : pop 0 = 0 := by rw [pop]; simp
theorem pop_eq (n : Nat) : pop n = n % 2 + pop (n / 2) := by
  by_cases h : n = 0
  · subst h; simp [pop_zero]
  · conv => lhs; rw [pop, if_neg h]
theorem pop_le : ∀ n, pop n ≤ n := by
  intro n
  induction n using Nat.strongRecOn with
  | ind n ih =>
    by_cases h : n = 0
    · subst h; simp [pop_zero]
    · rw [pop_eq]; have := ih (n / 2) (by omega); omega
theorem pop_double (q : Nat) : pop (2 * q) = pop q := by
  rw [pop_eq, show 2 * q % 2 = 0 by omega, show 2 * q / 2 = q by omega]; omega
theorem pop_odd (q : Nat) : pop (2 * q + 1) = pop q + 1 := by
  rw [pop_eq, show (2 * q + 1) % 2 = 1 by omega, show (2 * q + 1) / 2 = q by omega]; omega
theorem even_or_odd (q : Nat) : ∃ a, q = 2 * a ∨ q = 2 * a + 1 := ⟨q / 2, by omega⟩
theorem pop_succ_le (q : Nat) : pop (q + 1) ≤ pop q + 1 := by
  induction q using Nat.strongRecOn with
  | ind q ih =>
    obtain ⟨a, h | h⟩ := even_or_odd q
    · subst h; rw [pop_odd, pop_double]; exact Nat.le_refl _
    · subst h
      rw [show 2 * a + 1 + 1 = 2 * (a + 1) by omega, pop_double, pop_odd]
      have := ih a (by omega); omega
theorem pop_shift (q : Nat) : ∀ l, pop (q * 2 ^ l) = pop q
  | 0 => by simp
  | l + 1 => by rw [show q * 2 ^ (l + 1) = 2 * (q * 2 ^ l) by rw [Nat.pow_succ]; ac_rfl, pop_double, pop_shift q l]
theorem pow_pos (l : Nat) : 0 < 2 ^ l := Nat.two_pow_pos l
theorem pop_full (q : Nat) : ∀ l, pop ((q + 1) * 2 ^ l - 1) = pop q + l
  | 0 => by simp
  | l + 1 => by
    have e : (q + 1) * 2 ^ (l + 1) - 1 = 2 * ((q + 1) * 2 ^ l - 1) + 1 := by
      have : (q + 1) * 2 ^ (l + 1) = 2 * ((q + 1) * 2 ^ l) := by rw [Nat.pow_succ]; ac_rfl
      have h1 : 0 < (q + 1) * 2 ^ l := Nat.mul_pos (by omega) (pow_pos l)
      omega
    rw [e, pop_odd, pop_full q l]; omega
theorem pop_lt_pow : ∀ (l n : Nat), n < 2 ^ l → pop n ≤ l
  | 0, n, h => by
    have : n = 0 := by simpa using h
    subst this; simp [pop_zero]
  | l + 1, n, h => by
    rw [pop_eq]
    have h2 : 2 ^ (l + 1) = 2 * 2 ^ l := by rw [Nat.pow_succ]; omega
    have := pop_lt_pow l (n / 2) (by omega)
    omega

/-! ### OnesCount64: byte by byte -/
def bits8 (b : Nat) : Nat := b % 2 + b / 2 % 2 + b / 4 % 2 + b / 8 % 2 + b / 16 % 2 + b / 32 % 2 + b / 64 % 2 + b / 128 % 2
theorem pop_256 (b x : Nat) (hb : b < 256) : pop (b + 256 * x) = bits8 b + pop x := by
  rw [pop_eq, pop_eq ((b + 256 * x) / 2), pop_eq ((b + 256 * x) / 2 / 2), pop_eq ((b + 256 * x) / 2 / 2 / 2), pop_eq ((b + 256 * x) / 2 / 2 / 2 / 2),
    pop_eq ((b + 256 * x) / 2 / 2 / 2 / 2 / 2), pop_eq ((b + 256 * x) / 2 / 2 / 2 / 2 / 2 / 2), pop_eq ((b + 256 * x) / 2 / 2 / 2 / 2 / 2 / 2 / 2)]
  rw [show (b + 256 * x) / 2 / 2 / 2 / 2 / 2 / 2 / 2 / 2 = x by omega]
  unfold bits8
  omega
theorem and_byte (a x m M : Nat) (ha : a < 256) (hm : m < 256) : (a + 256 * x) &&& (m + 256 * M) = (a &&& m) + 256 * (x &&& M) := by
  have h1 := @Nat.and_mod_two_pow (a + 256 * x) (m + 256 * M) 8
  have h2 := @Nat.and_div_two_pow (a + 256 * x) (m + 256 * M) 8
  rw [show (a + 256 * x) % 2 ^ 8 = a by omega, show (m + 256 * M) % 2 ^ 8 = m by omega] at h1
  rw [show (a + 256 * x) / 2 ^ 8 = x by omega, show (m + 256 * M) / 2 ^ 8 = M by omega] at h2
  omega
def sA (M x : Nat) : Nat := (x / 2 &&& M) + (x &&& M)
def sB (M x : Nat) : Nat := (x / 4 &&& M) + (x &&& M)
def sC (M x : Nat) : Nat := (x / 16 + x) &&& M
def bA (b : Nat) : Nat := (b / 2 &&& 85) + (b &&& 85)
def bB (b : Nat) : Nat := (b / 4 &&& 51) + (b &&& 51)
theorem sA_byte (M x b : Nat) (hb : b < 256) : sA (85 + 256 * M) (b + 256 * x) = bA b + 256 * sA M x := by
  have k : ∀ b < 256, ∀ t < 2, (b / 2 + 128 * t) &&& 85 = b / 2 &&& 85 := by decide +kernel
  unfold sA bA
  rw [show (b + 256 * x) / 2 = (b / 2 + 128 * (x % 2)) + 256 * (x / 2) by omega, and_byte _ _ _ _ (by omega) (by decide), and_byte _ _ _ _ hb (by decide), k b hb _ (by omega)]
  omega
theorem sB_byte (M x b : Nat) (hb : b < 256) : sB (51 + 256 * M) (b + 256 * x) = bB b + 256 * sB M x := by
  have k : ∀ b < 256, ∀ t < 4, (b / 4 + 64 * t) &&& 51 = b / 4 &&& 51 := by decide +kernel
  unfold sB bB
  rw [show (b + 256 * x) / 4 = (b / 4 + 64 * (x % 4)) + 256 * (x / 4) by omega, and_byte _ _ _ _ (by omega) (by decide), and_byte _ _ _ _ hb (by decide), k b hb _ (by omega)]
  omega
/-- a byte whose halves are at most 4 -/
def low (c : Nat) : Prop := c / 16 ≤ 4 ∧ c % 16 ≤ 4
theorem sC_byte (M x c : Nat) (hc : low c) (hx : x % 16 ≤ 4) : sC (15 + 256 * M) (c + 256 * x) = (c / 16 + c % 16) + 256 * sC M x := by
  have k : ∀ b < 256, b &&& 15 = b % 16 := by decide +kernel
  unfold sC
  obtain ⟨h1, h2⟩ := hc
  rw [show (c + 256 * x) / 16 + (c + 256 * x) = (c / 16 + 16 * (x % 16) + c) + 256 * (x / 16 + x) by omega, and_byte _ _ _ _ (by omega) (by decide), k _ (by omega)]
  omega
theorem byte_ones (b : Nat) (hb : b < 256) : bA b < 256 ∧ bB (bA b) < 256 ∧ low (bB (bA b)) ∧ bB (bA b) / 16 + bB (bA b) % 16 = bits8 b ∧ bits8 b ≤ 8 := by
  have k : ∀ b < 256, bA b < 256 ∧ bB (bA b) < 256 ∧ (bB (bA b) / 16 ≤ 4 ∧ bB (bA b) % 16 ≤ 4) ∧ bB (bA b) / 16 + bB (bA b) % 16 = bits8 b ∧ bits8 b ≤ 8 := by decide +kernel
  exact k b hb
theorem bytes8 (a : Nat) (ha : a < 2 ^ 64) : ∃ b0 b1 b2 b3 b4 b5 b6 b7, b0 < 256 ∧ b1 < 256 ∧ b2 < 256 ∧ b3 < 256 ∧ b4 < 256 ∧ b5 < 256 ∧ b6 < 256 ∧ b7 < 256 ∧
    a = b0 + 256 * (b1 + 256 * (b2 + 256 * (b3 + 256 * (b4 + 256 * (b5 + 256 * (b6 + 256 * (b7 + 256 * 0))))))) :=
  ⟨a % 256, a / 256 % 256, a / 65536 % 256, a / 16777216 % 256, a / 4294967296 % 256, a / 1099511627776 % 256, a / 281474976710656 % 256, a / 72057594037927936 % 256,
    by omega, by omega, by omega, by omega, by omega, by omega, by omega, by omega, by omega⟩
def mask (b : Nat) : Nat := b + 256 * (b + 256 * (b + 256 * (b + 256 * (b + 256 * (b + 256 * (b + 256 * (b + 256 * 0)))))))
theorem nest1 (b x B : Nat) (hb : b < 256) (hx : x < B) : b + 256 * x < 256 * B := by omega
theorem nest_lt (b0 b1 b2 b3 b4 b5 b6 b7 B : Nat) (h0 : b0 < 256) (h1 : b1 < 256) (h2 : b2 < 256) (h3 : b3 < 256) (h4 : b4 < 256) (h5 : b5 < 256) (h6 : b6 < 256) (h7 : b7 < B) :
    b0 + 256 * (b1 + 256 * (b2 + 256 * (b3 + 256 * (b4 + 256 * (b5 + 256 * (b6 + 256 * (b7 + 256 * 0))))))) < 72057594037927936 * B := by
  have h := nest1 _ _ _ h0 (nest1 _ _ _ h1 (nest1 _ _ _ h2 (nest1 _ _ _ h3 (nest1 _ _ _ h4 (nest1 _ _ _ h5 (nest1 _ _ _ h6 h7))))))
  have e : 256 * (256 * (256 * (256 * (256 * (256 * (256 * B)))))) = 72057594037927936 * B := by omega
  rw [e] at h
  exact h
theorem shl4 (y : Nat) (h : y < 72057594037927936 * 80) : y / 16 + y < 2 ^ 64 := by omega
theorem low_lt (b : Nat) (h : low b) : b < 80 := by unfold low at h; omega
theorem nest_mod (b x : Nat) (h : b % 16 ≤ 4) : (b + 256 * x) % 16 ≤ 4 := by omega
theorem sums (a : Nat) (ha : a < 2 ^ 64) : sA (mask 85) a < 2 ^ 64 ∧ sB (mask 51) (sA (mask 85) a) < 2 ^ 64 ∧ sB (mask 51) (sA (mask 85) a) / 16 + sB (mask 51) (sA (mask 85) a) < 2 ^ 64 ∧
    ∃ c0 c1 c2 c3 c4 c5 c6 c7, c0 ≤ 8 ∧ c1 ≤ 8 ∧ c2 ≤ 8 ∧ c3 ≤ 8 ∧ c4 ≤ 8 ∧ c5 ≤ 8 ∧ c6 ≤ 8 ∧ c7 ≤ 8 ∧
      sC (mask 15) (sB (mask 51) (sA (mask 85) a)) = c0 + 256 * (c1 + 256 * (c2 + 256 * (c3 + 256 * (c4 + 256 * (c5 + 256 * (c6 + 256 * (c7 + 256 * 0))))))) ∧ pop a = c0 + c1 + c2 + c3 + c4 + c5 + c6 + c7 := by
  obtain ⟨b0, b1, b2, b3, b4, b5, b6, b7, h0, h1, h2, h3, h4, h5, h6, h7, rfl⟩ := bytes8 a ha
  obtain ⟨a0, e0, l0, s0, r0⟩ := byte_ones b0 h0
  obtain ⟨a1, e1, l1, s1, r1⟩ := byte_ones b1 h1
  obtain ⟨a2, e2, l2, s2, r2⟩ := byte_ones b2 h2
  obtain ⟨a3, e3, l3, s3, r3⟩ := byte_ones b3 h3
  obtain ⟨a4, e4, l4, s4, r4⟩ := byte_ones b4 h4
  obtain ⟨a5, e5, l5, s5, r5⟩ := byte_ones b5 h5
  obtain ⟨a6, e6, l6, s6, r6⟩ := byte_ones b6 h6
  obtain ⟨a7, e7, l7, s7, r7⟩ := byte_ones b7 h7
  have z1 : ∀ M, sA M 0 = 0 := by intro M; simp [sA]
  have z2 : ∀ M, sB M 0 = 0 := by intro M; simp [sB]
  have z3 : ∀ M, sC M 0 = 0 := by intro M; simp [sC]
  unfold mask
  rw [sA_byte _ _ _ h0, sA_byte _ _ _ h1, sA_byte _ _ _ h2, sA_byte _ _ _ h3, sA_byte _ _ _ h4, sA_byte _ _ _ h5, sA_byte _ _ _ h6, sA_byte _ _ _ h7, z1]
  rw [sB_byte _ _ _ a0, sB_byte _ _ _ a1, sB_byte _ _ _ a2, sB_byte _ _ _ a3, sB_byte _ _ _ a4, sB_byte _ _ _ a5, sB_byte _ _ _ a6, sB_byte _ _ _ a7, z2]
  refine ⟨nest_lt _ _ _ _ _ _ _ _ 256 a0 a1 a2 a3 a4 a5 a6 a7, nest_lt _ _ _ _ _ _ _ _ 256 e0 e1 e2 e3 e4 e5 e6 e7, ?_, ?_⟩
  · exact shl4 _ (nest_lt _ _ _ _ _ _ _ _ 80 e0 e1 e2 e3 e4 e5 e6 (low_lt _ l7))
  · rw [sC_byte _ _ _ l0 (nest_mod _ _ l1.2), sC_byte _ _ _ l1 (nest_mod _ _ l2.2), sC_byte _ _ _ l2 (nest_mod _ _ l3.2), sC_byte _ _ _ l3 (nest_mod _ _ l4.2), sC_byte _ _ _ l4 (nest_mod _ _ l5.2), sC_byte _ _ _ l5 (nest_mod _ _ l6.2), sC_byte _ _ _ l6 (nest_mod _ _ l7.2), sC_byte _ _ _ l7 (by decide), z3]
    refine ⟨bits8 b0, bits8 b1, bits8 b2, bits8 b3, bits8 b4, bits8 b5, bits8 b6, bits8 b7, r0, r1, r2, r3, r4, r5, r6, r7, by rw [s0, s1, s2, s3, s4, s5, s6, s7], ?_⟩
    rw [pop_256 _ _ h0, pop_256 _ _ h1, pop_256 _ _ h2, pop_256 _ _ h3, pop_256 _ _ h4, pop_256 _ _ h5, pop_256 _ _ h6, pop_256 _ _ h7, pop_zero]
    simp only [Nat.add_zero, Nat.add_assoc]
theorem wrap_u64 (n : Int) : IntKind.u64.wrap n = n % 18446744073709551616 := by simp [IntKind.wrap, IntKind.bits, IntKind.signed]
theorem and_u64 (a b : Nat) (ha : a < 2 ^ 64) (hb : b < 2 ^ 64) : Go.bits .and .u64 a b = ((a &&& b : Nat) : Int) :=
  (bits_nat .u64 64 (by decide) (fun n h0 h1 => by rw [wrap_u64]; omega) a b ha hb).1
theorem and_i64 (a b : Nat) (ha : a < 2 ^ 63) (hb : b < 2 ^ 63) : Go.bits .and .i64 a b = ((a &&& b : Nat) : Int) :=
  (bits_nat .i64 63 (by decide) (fun n h0 h1 => by rw [IntKind.wrap_i64]; omega) a b ha hb).1
theorem wrapu_nat (n : Nat) (h : n < 2 ^ 64) : IntKind.u64.wrap (n : Int) = n := by rw [wrap_u64]; omega
theorem div_byte (b x : Nat) (hb : b < 256) : (b + 256 * x) / 256 = x := by omega
theorem adds (c0 c1 c2 c3 c4 c5 c6 c7 : Nat) (h0 : c0 ≤ 8) (h1 : c1 ≤ 8) (h2 : c2 ≤ 8) (h3 : c3 ≤ 8) (h4 : c4 ≤ 8) (h5 : c5 ≤ 8) (h6 : c6 ≤ 8) (h7 : c7 ≤ 8) :
    ∃ x : Nat, (let C : Int := ((c0 + 256 * (c1 + 256 * (c2 + 256 * (c3 + 256 * (c4 + 256 * (c5 + 256 * (c6 + 256 * (c7 + 256 * 0))))))) : Nat) : Int)
      ((C + C / 256) % 18446744073709551616 + (C + C / 256) % 18446744073709551616 / 65536) % 18446744073709551616 +
        ((C + C / 256) % 18446744073709551616 + (C + C / 256) % 18446744073709551616 / 65536) % 18446744073709551616 / 4294967296) % 18446744073709551616 = (x : Int) ∧
      x % 128 = c0 + c1 + c2 + c3 + c4 + c5 + c6 + c7 ∧ x < 18446744073709551616 := by
  have l0 : c0 < 256 := by omega
  have l1 : c0 + c1 < 256 := by omega
  have l2 : c1 + c2 < 256 := by omega
  have l3 : c0 + c1 + c2 + c3 < 256 := by omega
  have l4 : c1 + c2 + c3 + c4 < 256 := by omega
  have l5 : c2 + c3 + c4 + c5 < 256 := by omega
  have l6 : c3 + c4 + c5 + c6 < 256 := by omega
  have l7 : c0 + c1 + c2 + c3 + c4 + c5 + c6 + c7 < 128 := by omega
  have hC := nest_lt c0 c1 c2 c3 c4 c5 c6 c7 16 (by omega) (by omega) (by omega) (by omega) (by omega) (by omega) (by omega) (by omega)
  clear h0 h1 h2 h3 h4 h5 h6 h7
  have d1 := div_byte c0 (c1 + 256 * (c2 + 256 * (c3 + 256 * (c4 + 256 * (c5 + 256 * (c6 + 256 * (c7 + 256 * 0))))))) l0
  obtain ⟨C, eC⟩ : ∃ C, C = c0 + 256 * (c1 + 256 * (c2 + 256 * (c3 + 256 * (c4 + 256 * (c5 + 256 * (c6 + 256 * (c7 + 256 * 0))))))) := ⟨_, rfl⟩
  rw [← eC] at hC d1 ⊢
  have n1 : C + C / 256 = (c0 + c1) + 256 * ((c1 + c2) + 256 * ((c2 + c3) + 256 * ((c3 + c4) + 256 * ((c4 + c5) + 256 * ((c5 + c6) + 256 * ((c6 + c7) + 256 * c7)))))) := by
    rw [d1, eC]; clear l0 l1 l2 l3 l4 l5 l6 l7 hC d1 eC; omega
  have d2 := div_byte (c0 + c1) ((c1 + c2) + 256 * ((c2 + c3) + 256 * ((c3 + c4) + 256 * ((c4 + c5) + 256 * ((c5 + c6) + 256 * ((c6 + c7) + 256 * c7)))))) l1
  have d3 := div_byte (c1 + c2) ((c2 + c3) + 256 * ((c3 + c4) + 256 * ((c4 + c5) + 256 * ((c5 + c6) + 256 * ((c6 + c7) + 256 * c7))))) l2
  obtain ⟨X1, e1⟩ : ∃ X1, X1 = C + C / 256 := ⟨_, rfl⟩
  have n2 : X1 / 65536 = (c2 + c3) + 256 * ((c3 + c4) + 256 * ((c4 + c5) + 256 * ((c5 + c6) + 256 * ((c6 + c7) + 256 * c7)))) := by
    rw [e1, n1, show 65536 = 256 * 256 by decide, ← Nat.div_div_eq_div_mul, d2, d3]
  have n3 : X1 + X1 / 65536 = (c0 + c1 + c2 + c3) + 256 * ((c1 + c2 + c3 + c4) + 256 * ((c2 + c3 + c4 + c5) + 256 * ((c3 + c4 + c5 + c6) + 256 * ((c4 + c5 + c6 + c7) + 256 * ((c5 + c6 + c7) + 256 * ((c6 + c7) + 256 * c7)))))) := by
    rw [n2, e1, n1]; clear l0 l1 l2 l3 l4 l5 l6 l7 hC d1 eC n1 d2 d3 e1 n2; omega
  have d4 := div_byte (c0 + c1 + c2 + c3) ((c1 + c2 + c3 + c4) + 256 * ((c2 + c3 + c4 + c5) + 256 * ((c3 + c4 + c5 + c6) + 256 * ((c4 + c5 + c6 + c7) + 256 * ((c5 + c6 + c7) + 256 * ((c6 + c7) + 256 * c7)))))) l3
  have d5 := div_byte (c1 + c2 + c3 + c4) ((c2 + c3 + c4 + c5) + 256 * ((c3 + c4 + c5 + c6) + 256 * ((c4 + c5 + c6 + c7) + 256 * ((c5 + c6 + c7) + 256 * ((c6 + c7) + 256 * c7))))) l4
  have d6 := div_byte (c2 + c3 + c4 + c5) ((c3 + c4 + c5 + c6) + 256 * ((c4 + c5 + c6 + c7) + 256 * ((c5 + c6 + c7) + 256 * ((c6 + c7) + 256 * c7)))) l5
  have d7 := div_byte (c3 + c4 + c5 + c6) ((c4 + c5 + c6 + c7) + 256 * ((c5 + c6 + c7) + 256 * ((c6 + c7) + 256 * c7))) l6
  obtain ⟨X2, e2⟩ : ∃ X2, X2 = X1 + X1 / 65536 := ⟨_, rfl⟩
  have n4 : X2 / 4294967296 = (c4 + c5 + c6 + c7) + 256 * ((c5 + c6 + c7) + 256 * ((c6 + c7) + 256 * c7)) := by
    rw [e2, n3, show 4294967296 = 256 * 256 * 256 * 256 by decide, ← Nat.div_div_eq_div_mul, ← Nat.div_div_eq_div_mul, ← Nat.div_div_eq_div_mul, d4, d5, d6, d7]
  have n5 : ∃ z, X2 + X2 / 4294967296 = (c0 + c1 + c2 + c3 + c4 + c5 + c6 + c7) + 128 * z := by
    refine ⟨2 * ((c1 + c2 + c3 + c4) + 256 * ((c2 + c3 + c4 + c5) + 256 * ((c3 + c4 + c5 + c6) + 256 * ((c4 + c5 + c6 + c7) + 256 * ((c5 + c6 + c7) + 256 * ((c6 + c7) + 256 * c7)))))) + 2 * ((c5 + c6 + c7) + 256 * ((c6 + c7) + 256 * c7)), ?_⟩
    rw [n4, e2, n3]; clear l0 l1 l2 l3 l4 l5 l6 l7 hC d1 eC n1 d2 d3 e1 n2 n3 e2 n4 d4 d5 d6 d7; omega
  obtain ⟨z, n5⟩ := n5
  clear d1 eC n1 d2 d3 n2 n3 n4 d4 d5 d6 d7 l0 l1 l2 l3 l4 l5 l6
  refine ⟨X2 + X2 / 4294967296, ?_, by omega, by omega⟩
  have k1 : ((C : Int) + (C : Int) / 256) % 18446744073709551616 = (X1 : Int) := by omega
  simp only [k1]
  have k2 : ((X1 : Int) + (X1 : Int) / 65536) % 18446744073709551616 = (X2 : Int) := by omega
  simp only [k2]
  omega
/-- What the library's OnesCount64 reckons, step by step, is the number of ones. -/
theorem ones (a : Nat) (ha : a < 2 ^ 64) (A B C : Int) (hA : A = IntKind.u64.wrap ((Go.bits .and .u64 ((a : Int) / 2) 6148914691236517205) + (Go.bits .and .u64 (a : Int) 6148914691236517205)))
    (hB : B = IntKind.u64.wrap ((Go.bits .and .u64 (A / 4) 3689348814741910323) + (Go.bits .and .u64 A 3689348814741910323)))
    (hC : C = Go.bits .and .u64 (IntKind.u64.wrap ((B / 16) + B)) 1085102592571150095) :
    Go.bits .and .i64 (wrap64 (IntKind.u64.wrap ((IntKind.u64.wrap ((IntKind.u64.wrap (C + (C / 256))) + ((IntKind.u64.wrap (C + (C / 256))) / 65536))) + ((IntKind.u64.wrap ((IntKind.u64.wrap (C + (C / 256))) + ((IntKind.u64.wrap (C + (C / 256))) / 65536))) / 4294967296)))) 127 = (pop a : Int) := by
  obtain ⟨q1, q2, q3, c0, c1, c2, c3, c4, c5, c6, c7, r0, r1, r2, r3, r4, r5, r6, r7, hs, hp⟩ := sums a ha
  have m85 : mask 85 = 6148914691236517205 := by decide
  have m51 : mask 51 = 3689348814741910323 := by decide
  have m15 : mask 15 = 1085102592571150095 := by decide
  rw [m85] at q1
  rw [m85, m51] at q2 q3
  rw [m85, m51, m15] at hs
  have eA : A = (sA 6148914691236517205 a : Nat) := by
    rw [hA, show ((a : Int) / 2) = ((a / 2 : Nat) : Int) by omega, show (6148914691236517205 : Int) = ((6148914691236517205 : Nat) : Int) from rfl, and_u64 _ _ (by omega) (by decide), and_u64 _ _ (by omega) (by decide), ← Int.natCast_add, wrapu_nat]
    · rfl
    · exact q1
  generalize sA 6148914691236517205 a = A' at *
  have eB : B = (sB 3689348814741910323 A' : Nat) := by
    rw [hB, eA, show ((A' : Int) / 4) = ((A' / 4 : Nat) : Int) by omega, show (3689348814741910323 : Int) = ((3689348814741910323 : Nat) : Int) from rfl, and_u64 _ _ (by omega) (by decide), and_u64 _ _ (by omega) (by decide), ← Int.natCast_add, wrapu_nat]
    · rfl
    · exact q2
  generalize sB 3689348814741910323 A' = B' at *
  have eC : C = (sC 1085102592571150095 B' : Nat) := by
    rw [hC, eB, show ((B' : Int) / 16) = ((B' / 16 : Nat) : Int) by omega, ← Int.natCast_add, wrapu_nat _ q3, show (1085102592571150095 : Int) = ((1085102592571150095 : Nat) : Int) from rfl, and_u64 _ _ q3 (by decide)]
    rfl
  generalize sC 1085102592571150095 B' = C' at *
  clear hA hB hC q1 q2 q3 eA eB
  subst eC
  simp only [wrap_u64]
  obtain ⟨x, hx, hx128, hx64⟩ := adds c0 c1 c2 c3 c4 c5 c6 c7 r0 r1 r2 r3 r4 r5 r6 r7
  rw [← hs] at hx
  rw [hx]
  obtain ⟨x3, hx3⟩ : ∃ x3 : Int, x3 = (x : Int) := ⟨_, rfl⟩
  rw [← hx3]
  have f4 : x3 % 128 = pop a := by omega
  have f5 : 0 ≤ x3 ∧ x3 < 18446744073709551616 := by omega
  clear hs hx hp hx128 hx64 hx3
  have hm : Go.bits .and .i64 (wrap64 x3) (2 ^ 7 - 1) = (x3 % 128) := by
    unfold Go.bits
    have e1 : BitVec.ofInt 64 (wrap64 x3) = BitVec.ofInt 64 x3 := by
      apply BitVec.eq_of_toInt_eq
      rw [BitVec.toInt_ofInt, BitVec.toInt_ofInt]
      unfold wrap64
      rw [Int.bmod_def, Int.bmod_def]
      omega
    have e2 : (BitVec.ofInt 64 x3 &&& BitVec.ofInt 64 (2 ^ 7 - 1)).toNat = x3.toNat % 128 := by
      rw [BitVec.toNat_and, BitVec.toNat_ofInt, BitVec.toNat_ofInt]
      rw [show ((2 ^ 7 - 1 : Int) % ((2 ^ 64 : Nat) : Int)).toNat = 2 ^ 7 - 1 by decide, Nat.and_two_pow_sub_one_eq_mod]
      omega
    show IntKind.i64.wrap ((BitVec.ofInt 64 (wrap64 x3) &&& BitVec.ofInt 64 (2 ^ 7 - 1)).toNat : Nat) = _
    rw [e1, e2, IntKind.wrap_i64]
    omega
  rw [show (127 : Int) = 2 ^ 7 - 1 by decide, hm]
  exact f4

/-! ### the count of stored hashes -/
def cnt (n : Nat) : Nat := 2 * n - pop n
theorem cnt_zero : cnt 0 = 0 := by simp [cnt]
theorem cnt_half (n : Nat) : cnt n = n + cnt (n / 2) := by
  unfold cnt
  have := pop_eq n; have := pop_le n; have := pop_le (n / 2)
  omega
theorem cnt_full (q l : Nat) : cnt ((q + 1) * 2 ^ l - 1) + (2 + pop q + l) = 2 * ((q + 1) * 2 ^ l) := by
  unfold cnt
  have h := pop_full q l
  have := pop_le ((q + 1) * 2 ^ l - 1)
  have h1 : 0 < (q + 1) * 2 ^ l := Nat.mul_pos (by omega) (pow_pos l)
  omega
theorem cnt_shift (q l : Nat) : cnt (q * 2 ^ l) + pop q = 2 * (q * 2 ^ l) := by
  unfold cnt
  rw [pop_shift]
  have := pop_le q
  have h1 : q * 1 ≤ q * 2 ^ l := Nat.mul_le_mul_left _ (pow_pos l)
  omega
/-- behind a record whose number and 1 is (q+1) 2^l stand at least l hashes -/
theorem cnt_step_le (q l : Nat) : cnt ((q + 1) * 2 ^ l - 1) + l < cnt ((q + 1) * 2 ^ l) := by
  have h := cnt_full q l; have h2 := cnt_shift (q + 1) l; have := pop_succ_le q
  omega
theorem cnt_step_odd (a t : Nat) : cnt ((2 * a + 1) * 2 ^ t) = cnt ((2 * a + 1) * 2 ^ t - 1) + t + 1 := by
  have h := cnt_full (2 * a) t; have h2 := cnt_shift (2 * a + 1) t
  rw [pop_odd] at h2; rw [pop_double] at h
  omega
theorem odd_part (m : Nat) (h : 0 < m) : ∃ a t, m = (2 * a + 1) * 2 ^ t := by
  induction m using Nat.strongRecOn with
  | ind m ih =>
    obtain ⟨b, e | e⟩ := even_or_odd m
    · obtain ⟨a, t, h2⟩ := ih b (by omega) (by omega)
      exact ⟨a, t + 1, by rw [e, h2, Nat.pow_succ]; ac_rfl⟩
    · exact ⟨b, 0, by omega⟩
theorem cnt_lt (n : Nat) : cnt n < cnt (n + 1) := by
  have := cnt_step_le n 0
  simpa using this
theorem cnt_mono {m n : Nat} (h : m ≤ n) : cnt m ≤ cnt n := by
  induction h with
  | refl => exact Nat.le_refl _
  | step h ih => exact Nat.le_trans ih (Nat.le_of_lt (cnt_lt _))
theorem cnt_lt_of_lt {m n : Nat} (h : m < n) : cnt m < cnt n := Nat.lt_of_lt_of_le (cnt_lt m) (cnt_mono h)
theorem cnt_le (n : Nat) : cnt n ≤ 2 * n := by unfold cnt; omega
theorem cnt_ge (n l : Nat) (h : n < 2 ^ l) : 2 * n ≤ cnt n + l := by
  unfold cnt; have := pop_lt_pow l n h; omega
theorem cnt_top : cnt 281474976710656 = 562949953421311 := by
  have := cnt_shift 1 48
  have e : pop 1 = 1 := by rw [pop_eq, show 1 / 2 = 0 by decide, pop_zero]
  have e2 : 1 * 2 ^ 48 = 281474976710656 := by decide
  rw [e, e2] at this
  omega

/-! ### which record a place belongs to -/
/-- r is the greatest number of records, up to 2^48, whose count is at most c -/
def IsFil (c r : Nat) : Prop := r ≤ 281474976710656 ∧ cnt r ≤ c ∧ (r = 281474976710656 ∨ c < cnt (r + 1))
theorem IsFil.unique {c r s : Nat} (h : IsFil c r) (k : IsFil c s) : r = s := by
  obtain ⟨a1, a2, a3⟩ := h
  obtain ⟨b1, b2, b3⟩ := k
  rcases Nat.lt_trichotomy r s with h | h | h
  · rcases a3 with a3 | a3
    · omega
    · have := cnt_mono (show r + 1 ≤ s from h); omega
  · exact h
  · rcases b3 with b3 | b3
    · omega
    · have := cnt_mono (show s + 1 ≤ r from h); omega
theorem isFil_place (q l : Nat) (h : (q + 1) * 2 ^ l ≤ 281474976710656) : IsFil (cnt ((q + 1) * 2 ^ l - 1) + l) ((q + 1) * 2 ^ l - 1) := by
  have h1 : 0 < (q + 1) * 2 ^ l := Nat.mul_pos (by omega) (pow_pos l)
  refine ⟨by omega, by omega, .inr ?_⟩
  rw [show (q + 1) * 2 ^ l - 1 + 1 = (q + 1) * 2 ^ l by omega]
  exact cnt_step_le q l
theorem isFil_cnt (n : Nat) (h : n ≤ 281474976710656) : IsFil (cnt n) n := ⟨h, Nat.le_refl _, .inr (cnt_lt n)⟩
/-- a place below the count of the greatest tree: its record, its level and its number -/
theorem fil_split (c r : Nat) (h : IsFil c r) (hc : c < 562949953421311) :
    ∃ q, r + 1 = (q + 1) * 2 ^ (c - cnt r) ∧ c - cnt r ≤ 48 ∧ r < 281474976710656 := by
  obtain ⟨h1, h2, h3⟩ := h
  have hr : r < 281474976710656 := by
    rcases Nat.lt_or_ge r 281474976710656 with h | h
    · exact h
    · have : r = 281474976710656 := by omega
      rw [this, cnt_top] at h2; omega
  have hlt : c < cnt (r + 1) := by rcases h3 with h | h <;> omega
  obtain ⟨a, t, e⟩ := odd_part (r + 1) (by omega)
  have k := cnt_step_odd a t
  rw [← e, show r + 1 - 1 = r by omega] at k
  have hl : c - cnt r ≤ t := by omega
  have ht : t ≤ 48 := by
    rcases Nat.lt_or_ge 48 t with h | h
    · exfalso
      have : 2 ^ 49 ≤ 2 ^ t := Nat.pow_le_pow_right (by decide) h
      have : 1 * 2 ^ t ≤ (2 * a + 1) * 2 ^ t := Nat.mul_le_mul_right _ (by omega)
      omega
    · exact h
  obtain ⟨d, hd⟩ : ∃ d, t = (c - cnt r) + d := ⟨t - (c - cnt r), by omega⟩
  have hpos : 0 < (2 * a + 1) * 2 ^ d := Nat.mul_pos (by omega) (pow_pos d)
  refine ⟨(2 * a + 1) * 2 ^ d - 1, ?_, by omega, hr⟩
  rw [show (2 * a + 1) * 2 ^ d - 1 + 1 = (2 * a + 1) * 2 ^ d by omega, e, Nat.mul_assoc, ← Nat.pow_add, Nat.add_comm d, ← hd]
end Go.Proofs.YtjcmgpiapbeodaaDoor.Pl
