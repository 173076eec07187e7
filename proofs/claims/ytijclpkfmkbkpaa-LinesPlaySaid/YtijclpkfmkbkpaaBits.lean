/-
  Plain laws of rows of eight bits, with no walk in sight: which bit stands behind a bit more, a bit less; the least one that calls and is heard.
-/
import Derived.Test.YtijclpkfmkbkpaaMeths
namespace Go.Proofs.Ytijclpkfmkbkpaa
open Go.RowKit

/-- A bit of a row. -/
def tb (c : Int) (j : Nat) : Bool := c.toNat.testBit j
/-- A row of eight bits. -/
def b8 (c : Int) : Prop := 0 ≤ c ∧ c ≤ 255

theorem b8_nat {c : Int} (h : b8 c) : ∃ n : Nat, n < 256 ∧ c = (n : Int) := by
  obtain ⟨h0, h1⟩ := h
  exact ⟨c.toNat, by omega, by omega⟩

/-- Two rows with the same bits are one. -/
theorem row_ext {c d : Int} (hc : b8 c) (hd : b8 d) (h : ∀ j, j < 8 → tb c j = tb d j) : c = d := by
  obtain ⟨x, hx, rfl⟩ := b8_nat hc
  obtain ⟨y, hy, rfl⟩ := b8_nat hd
  congr 1
  apply Nat.eq_of_testBit_eq
  intro j
  by_cases hj : j < 8
  · exact h j hj
  · rw [Nat.testBit_lt_two_pow (Nat.lt_of_lt_of_le (show x < 2 ^ 8 from hx) (Nat.pow_le_pow_right (by decide) (by omega))),
      Nat.testBit_lt_two_pow (Nat.lt_of_lt_of_le (show y < 2 ^ 8 from hy) (Nat.pow_le_pow_right (by decide) (by omega)))]

theorem u8_id (n : Int) (g0 : 0 ≤ n) (g1 : n < 2 ^ 8) : IntKind.u8.wrap n = n := wraps_u8 n g0 g1

theorem or8 (x y : Nat) (hx : x < 256) (hy : y < 256) : bits BinOp.or .u8 x y = ((x ||| y : Nat) : Int) := (bits_nat .u8 8 (by decide) u8_id x y hx hy).2
theorem and8 (x y : Nat) (hx : x < 256) (hy : y < 256) : bits BinOp.and .u8 x y = ((x &&& y : Nat) : Int) := (bits_nat .u8 8 (by decide) u8_id x y hx hy).1

theorem andNot8 (x y : Nat) (hx : x < 256) (j : Nat) : tb (bits BinOp.andNot .u8 x y) j = (x.testBit j && !y.testBit j) := by
  have e : bits BinOp.andNot .u8 x y = (((BitVec.ofNat 8 x &&& ~~~ BitVec.ofNat 8 y).toNat : Nat) : Int) := by
    simp only [bits, BitVec.ofInt_natCast]
    exact u8_id _ (Int.natCast_nonneg _) (by have := (BitVec.ofNat 8 x &&& ~~~ BitVec.ofNat 8 y).isLt; exact_mod_cast this)
  rw [e]
  unfold tb
  rw [Int.toNat_natCast, BitVec.testBit_toNat, BitVec.getLsbD_and, BitVec.getLsbD_not, BitVec.getLsbD_ofNat, BitVec.getLsbD_ofNat]
  by_cases hj : j < 8
  · simp [hj]
  · have : x.testBit j = false := Nat.testBit_lt_two_pow (Nat.lt_of_lt_of_le (show x < 2 ^ 8 from hx) (Nat.pow_le_pow_right (by decide) (by omega)))
    simp [hj, this]

theorem two_pow8 (i : Int) (h0 : 0 ≤ i) (h1 : i ≤ 7) : (2 : Int) ^ i.toNat % 256 = ((2 ^ i.toNat : Nat) : Int) ∧ 2 ^ i.toNat < 256 := by
  have h : (2 : Nat) ^ i.toNat ≤ 2 ^ 7 := Nat.pow_le_pow_right (by decide) (by omega)
  have e : (2 : Int) ^ i.toNat = ((2 ^ i.toNat : Nat) : Int) := by simp
  rw [e]
  generalize 2 ^ i.toNat = z at *
  omega

theorem b8_setB (c i : Int) : b8 (setB c i) := ⟨bits_lo_u8 _ _ _, bits_hi_u8 _ _ _⟩
theorem b8_clrB (c i : Int) : b8 (clrB c i) := ⟨bits_lo_u8 _ _ _, bits_hi_u8 _ _ _⟩
theorem b8_heard (c m : Int) : b8 (heard c m) := ⟨bits_lo_u8 _ _ _, bits_hi_u8 _ _ _⟩

theorem tb_setB {c i : Int} (hc : b8 c) (h0 : 0 ≤ i) (h1 : i ≤ 7) (j : Nat) : tb (setB c i) j = (tb c j || decide (i.toNat = j)) := by
  obtain ⟨x, hx, rfl⟩ := b8_nat hc
  obtain ⟨e, hl⟩ := two_pow8 i h0 h1
  unfold setB
  rw [e, or8 x _ hx hl]
  unfold tb
  rw [Int.toNat_natCast, Int.toNat_natCast, Nat.testBit_or, Nat.testBit_two_pow]

theorem tb_clrB {c i : Int} (hc : b8 c) (h0 : 0 ≤ i) (h1 : i ≤ 7) (j : Nat) : tb (clrB c i) j = (tb c j && !decide (i.toNat = j)) := by
  obtain ⟨x, hx, rfl⟩ := b8_nat hc
  obtain ⟨e, _⟩ := two_pow8 i h0 h1
  unfold clrB
  rw [e, andNot8 x _ hx, Nat.testBit_two_pow]
  unfold tb
  rw [Int.toNat_natCast]

theorem tb_heard {c m : Int} (hc : b8 c) (hm : b8 m) (j : Nat) : tb (heard c m) j = (tb c j && !tb m j) := by
  obtain ⟨x, hx, rfl⟩ := b8_nat hc
  obtain ⟨y, _, rfl⟩ := b8_nat hm
  unfold heard
  rw [andNot8 x y hx]
  unfold tb
  rw [Int.toNat_natCast, Int.toNat_natCast]

theorem tb_zero (j : Nat) : tb 0 j = false := by unfold tb; simp

theorem zero_of_bits {c : Int} (hc : b8 c) (h : ∀ j, j < 8 → tb c j = false) : c = 0 :=
  row_ext hc ⟨by decide, by decide⟩ (fun j hj => by rw [h j hj, tb_zero])

/-- The number of zeros ahead of the lowest bit: that bit is one, and none below it. -/
theorem ntz_bit : ∀ n : Fin 256, n.val ≠ 0 → n.val.testBit (Lib.trailingZeros8 n.val) = true ∧ ∀ j : Fin 8, j.val < Lib.trailingZeros8 n.val → n.val.testBit j.val = false := by decide +kernel

/-- The one that is told next: the least one that calls, and is heard. -/
theorem next_is {c m : Int} (hc : b8 c) (hm : b8 m) {i : Nat} (hi : i < 8) (h : tb c i = true) (g : tb m i = false) (hl : ∀ j, j < i → (tb c j && !tb m j) = false) :
    nxL c m = i ∧ nxE c m = 0 ∧ nxC c m = clrB c i := by
  have hh := tb_heard hc hm
  have hz : heard c m ≠ 0 := by
    intro e
    have := hh i
    rw [e, tb_zero, h, g] at this
    cases this
  have hb := b8_heard c m
  have hb0 := hb.1
  have hb1 := hb.2
  have L := ntz_bit ⟨(heard c m).toNat, by omega⟩ (by show (heard c m).toNat ≠ 0; omega)
  obtain ⟨l1, l2⟩ := L
  have l0 := ntz_lt ⟨(heard c m).toNat, by omega⟩ (by show (heard c m).toNat ≠ 0; omega)
  change (heard c m).toNat.testBit (Lib.trailingZeros8 (heard c m).toNat) = true at l1
  change Lib.trailingZeros8 (heard c m).toNat ≤ 7 at l0
  have e : Lib.trailingZeros8 (heard c m).toNat = i := by
    rcases Nat.lt_trichotomy (Lib.trailingZeros8 (heard c m).toNat) i with hlt | heq | hgt
    · have h1 := hl _ hlt
      rw [← hh] at h1
      unfold tb at h1
      rw [l1] at h1
      cases h1
    · exact heq
    · have h1 := l2 ⟨i, hi⟩ hgt
      have h2 := hh i
      unfold tb at h2
      rw [h1] at h2
      unfold tb at h g
      rw [h, g] at h2
      cases h2
  have eL : nxL c m = i := by unfold nxL; rw [if_neg hz, e]
  exact ⟨eL, by unfold nxE; rw [if_neg hz], by unfold nxC; rw [if_neg hz, eL]⟩

/-- Nobody is told. -/
theorem next_none {c m : Int} (hc : b8 c) (hm : b8 m) (hl : ∀ j, j < 8 → (tb c j && !tb m j) = false) : nxL c m = 0 ∧ nxE c m = 11 ∧ nxC c m = c := by
  have hz : heard c m = 0 := zero_of_bits (b8_heard c m) (fun j hj => by rw [tb_heard hc hm]; exact hl j hj)
  exact ⟨by unfold nxL; rw [if_pos hz], by unfold nxE; rw [if_pos hz], by unfold nxC; rw [if_pos hz]⟩

/-- The test of a bit, as the statements write it: put down so many places, and with 1. -/
theorem bit_test {c : Int} (hc : b8 c) (j : Nat) : (bits BinOp.and .u8 (c / 2 ^ j) 1 == 1) = tb c j := by
  obtain ⟨x, hx, rfl⟩ := b8_nat hc
  have e : ((x : Int) / 2 ^ j) = ((x / 2 ^ j : Nat) : Int) := by simp
  have hlt : x / 2 ^ j < 256 := Nat.lt_of_le_of_lt (Nat.div_le_self _ _) hx
  have h := and8 (x / 2 ^ j) 1 hlt (by decide)
  rw [show ((1 : Nat) : Int) = 1 from rfl] at h
  rw [e, h, Nat.and_one_is_mod]
  unfold tb
  rw [Int.toNat_natCast, Nat.testBit_eq_decide_div_mod_eq, Bool.eq_iff_iff, beq_iff_eq, decide_eq_true_iff]
  omega

theorem bit_test0 {c : Int} (hc : b8 c) (j : Nat) : (bits BinOp.and .u8 (c / 2 ^ j) 1 == 0) = !tb c j := by
  obtain ⟨x, hx, rfl⟩ := b8_nat hc
  have e : ((x : Int) / 2 ^ j) = ((x / 2 ^ j : Nat) : Int) := by simp
  have hlt : x / 2 ^ j < 256 := Nat.lt_of_le_of_lt (Nat.div_le_self _ _) hx
  have h := and8 (x / 2 ^ j) 1 hlt (by decide)
  rw [show ((1 : Nat) : Int) = 1 from rfl] at h
  rw [e, h, Nat.and_one_is_mod]
  unfold tb
  rw [Int.toNat_natCast, Nat.testBit_eq_decide_div_mod_eq]
  rcases Nat.mod_two_eq_zero_or_one (x / 2 ^ j) with h0 | h0 <;> simp [h0]

/-- The upper bits of a row, from k on. -/
def hi (c : Int) (k : Nat) : Int := c / 2 ^ k * 2 ^ k
theorem hi_table : ∀ c : Fin 256, ∀ k : Fin 8, (if c.val.testBit k.val then setB (hi (c.val : Int) (k.val + 1)) k.val else hi (c.val : Int) (k.val + 1)) = hi (c.val : Int) k.val := by decide +kernel
theorem hi_set {c : Int} (hc : b8 c) {k : Nat} (hk : k < 8) (h : tb c k = true) : setB (hi c (k + 1)) k = hi c k := by
  obtain ⟨x, hx, rfl⟩ := b8_nat hc
  have := hi_table ⟨x, hx⟩ ⟨k, hk⟩
  unfold tb at h
  rw [Int.toNat_natCast] at h
  simp only [h, if_true] at this
  exact this
theorem hi_skip {c : Int} (hc : b8 c) {k : Nat} (hk : k < 8) (h : tb c k = false) : hi c (k + 1) = hi c k := by
  obtain ⟨x, hx, rfl⟩ := b8_nat hc
  have := hi_table ⟨x, hx⟩ ⟨k, hk⟩
  unfold tb at h
  rw [Int.toNat_natCast] at h
  simp only [h] at this
  exact this
theorem hi_zero (c : Int) : hi c 0 = c := by unfold hi; simp
theorem hi_eight {c : Int} (hc : b8 c) : hi c 8 = 0 := by
  obtain ⟨h0, h1⟩ := hc
  unfold hi; omega

/-- Beyond eight there is no bit. -/
theorem tb_high {c : Int} (hc : b8 c) {j : Nat} (hj : 8 ≤ j) : tb c j = false := by
  obtain ⟨x, hx, rfl⟩ := b8_nat hc
  unfold tb
  rw [Int.toNat_natCast]
  exact Nat.testBit_lt_two_pow (Nat.lt_of_lt_of_le (show x < 2 ^ 8 from hx) (Nat.pow_le_pow_right (by decide) hj))
end Go.Proofs.Ytijclpkfmkbkpaa
