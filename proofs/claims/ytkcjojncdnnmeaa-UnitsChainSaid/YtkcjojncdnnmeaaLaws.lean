/-
  What 'do' and 'holds' answer, in plain laws of numbers (no walk here).
-/
import Derived.Test.YtkcjojncdnnmeaaCalls
namespace Go.Proofs.Ytkcjojncdnnmeaa
open Go.RowKit

theorem dw3 (a b : Int) : dw 3 a b = (a + b) % 4294967296 := by simp [dw, doE, doV]
theorem dw4 (a b : Int) : dw 4 a b = (a - b) % 4294967296 := by simp [dw, doE, doV]
theorem dw5 (a b : Int) : dw 5 a b = a * b % 4294967296 := by simp [dw, doE, doV]
theorem dw6 (a b : Int) : dw 6 a b = bits BinOp.and .u32 a b := by simp [dw, doE, doV]
theorem dw7 (a b : Int) : dw 7 a b = bits BinOp.or .u32 a b := by simp [dw, doE, doV]
theorem dw8 (a b : Int) : dw 8 a b = bits BinOp.xor .u32 a b := by simp [dw, doE, doV]
theorem dw9 (a b : Int) : dw 9 a b = a * 2 ^ (b % 32).toNat % 4294967296 := by simp [dw, doE, doV, shlV]
theorem dw10 (a b : Int) : dw 10 a b = a / 2 ^ (b % 32).toNat := by simp [dw, doE, doV, shrV]
theorem hw15 (a b : Int) : hw 15 a b = (a == b) := by simp [hw, hoE, hoV]
theorem hw16 (a b : Int) : hw 16 a b = (a != b) := by simp [hw, hoE, hoV]
theorem hw17 (a b : Int) : hw 17 a b = decide (sg a < sg b) := by simp [hw, hoE, hoV]
theorem hw18 (a b : Int) : hw 18 a b = decide (a < b) := by simp [hw, hoE, hoV]

theorem mulL (x c : Int) : x % 4294967296 * c % 4294967296 = x * c % 4294967296 := by rw [Int.mul_emod, Int.emod_emod, ← Int.mul_emod]
theorem mulR (x c : Int) : x * (c % 4294967296) % 4294967296 = x * c % 4294967296 := by rw [Int.mul_emod, Int.emod_emod, ← Int.mul_emod]

section
variable {a b c : Int} (a0 : 0 ≤ a) (a1 : a ≤ 4294967295) (b0 : 0 ≤ b) (b1 : b ≤ 4294967295)

theorem ring1 (a b : Int) : (dw 3 a b == dw 3 b a) = true := by rw [beq_iff_eq, dw3, dw3, Int.add_comm]
theorem ring2 (a b : Int) : (dw 5 a b == dw 5 b a) = true := by rw [beq_iff_eq, dw5, dw5, Int.mul_comm]
theorem ring3 (a b c : Int) : (dw 3 (dw 3 a b) c == dw 3 a (dw 3 b c)) = true := by rw [beq_iff_eq, dw3, dw3, dw3, dw3]; omega
theorem ring4 (a b c : Int) : (dw 5 (dw 5 a b) c == dw 5 a (dw 5 b c)) = true := by rw [beq_iff_eq, dw5, dw5, dw5, dw5, mulL, mulR, Int.mul_assoc]
theorem ring5 (a b c : Int) : (dw 5 (dw 3 a b) c == dw 3 (dw 5 a c) (dw 5 b c)) = true := by
  rw [beq_iff_eq, dw5, dw5, dw5, dw3, dw3, mulL, Int.add_mul]; omega
include a0 a1 in
theorem ring6 (b : Int) : (dw 4 (dw 3 a b) b == a) = true := by rw [beq_iff_eq, dw3, dw4]; omega
include a0 a1 in
theorem ring7 (b : Int) : (dw 3 (dw 4 a b) b == a) = true := by rw [beq_iff_eq, dw3, dw4]; omega
include a0 a1 in
theorem ring8 : (dw 5 a 1 == a) = true := by rw [beq_iff_eq, dw5]; omega
include a0 a1 in
theorem ring9 : (dw 3 a 0 == a) = true := by rw [beq_iff_eq, dw3]; omega
theorem bd3 (a b : Int) : 0 ≤ dw 3 a b ∧ dw 3 a b ≤ 4294967295 := by rw [dw3]; omega
theorem bd4 (a b : Int) : 0 ≤ dw 4 a b ∧ dw 4 a b ≤ 4294967295 := by rw [dw4]; omega
theorem bd5 (a b : Int) : 0 ≤ dw 5 a b ∧ dw 5 a b ≤ 4294967295 := by rw [dw5]; omega
theorem bd6 (a b : Int) : 0 ≤ dw 6 a b ∧ dw 6 a b ≤ 4294967295 := by rw [dw6]; exact ⟨bits_lo_u32 _ _ _, bits_hi_u32 _ _ _⟩
theorem bd8 (a b : Int) : 0 ≤ dw 8 a b ∧ dw 8 a b ≤ 4294967295 := by rw [dw8]; exact ⟨bits_lo_u32 _ _ _, bits_hi_u32 _ _ _⟩
theorem bd9 (a b : Int) : 0 ≤ dw 9 a b ∧ dw 9 a b ≤ 4294967295 := by rw [dw9]; omega
include a0 a1 in
theorem bd10 (b : Int) : 0 ≤ dw 10 a b ∧ dw 10 a b ≤ 4294967295 := by rw [dw10]; exact shr_bd a _ a0 a1
end

/-! Bits. -/
theorem nat_bits1 (x y : Nat) : (x &&& y) &&& (x ^^^ y) = 0 := by
  apply Nat.eq_of_testBit_eq; intro i
  simp only [Nat.testBit_and, Nat.testBit_xor, Nat.zero_testBit]
  cases x.testBit i <;> cases y.testBit i <;> rfl
theorem nat_bits2 (x y : Nat) : (x &&& y) ||| (x ^^^ y) = x ||| y := by
  apply Nat.eq_of_testBit_eq; intro i
  simp only [Nat.testBit_and, Nat.testBit_xor, Nat.testBit_or]
  cases x.testBit i <;> cases y.testBit i <;> rfl
theorem nat_bits3 (x y : Nat) : (x ^^^ y) ^^^ y = x := by
  apply Nat.eq_of_testBit_eq; intro i
  simp only [Nat.testBit_xor]
  cases x.testBit i <;> cases y.testBit i <;> rfl
theorem nat_bits4 (x y : Nat) (hx : x ≤ 4294967295) : (x &&& y) + (x &&& (y ^^^ 4294967295)) = x := by
  have h := Plain.xor_and_add (x &&& y) (x &&& (y ^^^ 4294967295))
  have e1 : (x &&& y) &&& (x &&& (y ^^^ 4294967295)) = 0 := by
    apply Nat.eq_of_testBit_eq; intro i
    simp only [Nat.testBit_and, Nat.testBit_xor, Nat.zero_testBit]
    by_cases hi : i < 32
    · have : (4294967295 : Nat).testBit i = true := by
        rw [show (4294967295 : Nat) = 2 ^ 32 - 1 from rfl, Nat.testBit_two_pow_sub_one]; simpa using hi
      rw [this]; cases x.testBit i <;> cases y.testBit i <;> rfl
    · have : x.testBit i = false := Nat.testBit_lt_two_pow (Nat.lt_of_lt_of_le (show x < 2 ^ 32 by omega) (Nat.pow_le_pow_right (by decide) (by omega)))
      rw [this]; simp
  have e2 : (x &&& y) ^^^ (x &&& (y ^^^ 4294967295)) = x := by
    apply Nat.eq_of_testBit_eq; intro i
    simp only [Nat.testBit_and, Nat.testBit_xor]
    by_cases hi : i < 32
    · have : (4294967295 : Nat).testBit i = true := by
        rw [show (4294967295 : Nat) = 2 ^ 32 - 1 from rfl, Nat.testBit_two_pow_sub_one]; simpa using hi
      rw [this]; cases x.testBit i <;> cases y.testBit i <;> rfl
    · have : x.testBit i = false := Nat.testBit_lt_two_pow (Nat.lt_of_lt_of_le (show x < 2 ^ 32 by omega) (Nat.pow_le_pow_right (by decide) (by omega)))
      rw [this]; simp
  rw [e1, e2] at h; omega

theorem nat_bd (x y : Nat) (hx : x ≤ 4294967295) (hy : y ≤ 4294967295) : (x &&& y) ≤ 4294967295 ∧ (x ||| y) ≤ 4294967295 ∧ (x ^^^ y) ≤ 4294967295 := by
  have h1 : x &&& y < 2 ^ 32 := Nat.and_lt_two_pow _ (by omega)
  have h2 : x ||| y < 2 ^ 32 := Nat.or_lt_two_pow (by omega) (by omega)
  have h3 : x ^^^ y < 2 ^ 32 := Nat.xor_lt_two_pow (by omega) (by omega)
  omega

theorem bitsLaw (a b : Int) (a0 : 0 ≤ a) (a1 : a ≤ 4294967295) (b0 : 0 ≤ b) (b1 : b ≤ 4294967295) :
    (dw 3 (dw 6 a b) (dw 8 a b) == dw 7 a b) = true ∧ (dw 6 (dw 6 a b) (dw 8 a b) == 0) = true ∧ (dw 7 (dw 6 a b) (dw 8 a b) == dw 7 a b) = true ∧
      (dw 8 (dw 8 a b) b == a) = true ∧ (dw 4 a (dw 6 a b) == dw 6 a (dw 8 b 4294967295)) = true ∧ (dw 3 a b == dw 3 (dw 8 a b) (dw 9 (dw 6 a b) 1)) = true ∧ (dw 8 a a == 0) = true := by
  obtain ⟨x, rfl⟩ := Int.eq_ofNat_of_zero_le a0
  obtain ⟨y, rfl⟩ := Int.eq_ofNat_of_zero_le b0
  have hx : x ≤ 4294967295 := by omega
  have hy : y ≤ 4294967295 := by omega
  obtain ⟨e1, e2, e3⟩ := bits_nats x y hx hy
  obtain ⟨k1, k2, k3⟩ := nat_bd x y hx hy
  obtain ⟨k4, k5, k6⟩ := nat_bd y 4294967295 hy (by omega)
  have n1 := Plain.and_add_xor x y
  have n2 := Plain.xor_and_add x y
  have n4 := nat_bits4 x y hx
  have f8 : dw 8 (y : Int) 4294967295 = ((y ^^^ 4294967295 : Nat) : Int) := by rw [dw8]; exact (bits_nats y 4294967295 hy (by omega)).2.2
  rw [f8]
  simp only [dw3, dw4, dw6, dw7, dw8, dw9]
  rw [e1, e2, e3]
  rw [(bits_nats (x &&& y) (x ^^^ y) k1 k3).1, (bits_nats (x &&& y) (x ^^^ y) k1 k3).2.1, (bits_nats (x ^^^ y) y k3 hy).2.2, (bits_nats x (y ^^^ 4294967295) hx k6).1, (bits_nats x x hx hx).2.2]
  rw [nat_bits1, nat_bits2, nat_bits3, Nat.xor_self]
  generalize x &&& y = p at *
  generalize x ^^^ y = q at *
  generalize x ||| y = r at *
  generalize x &&& (y ^^^ 4294967295) = s at *
  have e31 : ((1 : Int) % 32).toNat = 1 := by decide
  rw [e31]
  simp only [beq_iff_eq]
  refine ⟨by omega, by simp, by simp, by simp, by omega, by omega, by simp⟩
end Go.Proofs.Ytkcjojncdnnmeaa
