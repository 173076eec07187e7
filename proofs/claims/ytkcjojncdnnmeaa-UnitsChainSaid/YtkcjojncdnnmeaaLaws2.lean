/-
  Plain laws for the statements on shifts, on the order, on sums taken often.
-/
import Derived.Test.YtkcjojncdnnmeaaLaws
namespace Go.Proofs.Ytkcjojncdnnmeaa
open Go.RowKit

theorem pow_bd (k : Nat) (h : k ≤ 31) : (1 : Int) ≤ 2 ^ k ∧ (2 : Int) ^ k ≤ 2147483648 := by
  have h1 : (2 : Nat) ^ k ≤ 2 ^ 31 := Nat.pow_le_pow_right (by decide) h
  have h2 : 0 < (2 : Nat) ^ k := Nat.two_pow_pos k
  have e : ((2 : Int) ^ k) = ((2 ^ k : Nat) : Int) := by simp
  rw [e]; omega

theorem pow_double (k : Nat) (h : k + 1 ≤ 31) : dw 3 (2 ^ k) (2 ^ k) = 2 ^ (k + 1) := by
  have := pow_bd (k + 1) h
  rw [dw3, Int.pow_succ]; rw [Int.pow_succ] at this; omega

theorem mask_bd (k : Nat) (h : k ≤ 31) (a : Int) (a0 : 0 ≤ a) (a1 : a ≤ 4294967295) : dw 6 a (2 ^ k - 1) = a % 2 ^ k := by
  rw [dw6]
  exact bits_mask .u32 32 (by decide) (fun n g0 g1 => by rw [IntKind.wrap_u32]; omega) k (by omega) a a0 (by omega)

theorem shiftsLaw (a n : Int) (k : Nat) (a0 : 0 ≤ a) (a1 : a ≤ 4294967295) (hk : n % 32 = (k : Int)) :
    (dw 9 a k == dw 5 a (2 ^ k)) = true ∧ (dw 9 a n == dw 9 a k) = true ∧ (dw 10 a n == dw 10 a k) = true ∧
      (dw 9 (dw 10 a k) k == dw 4 a (dw 6 a (2 ^ k - 1))) = true ∧ (dw 9 a 0 == a) = true ∧ (dw 10 a 0 == a) = true := by
  have hk31 : k ≤ 31 := by omega
  have e1 : ((k : Int) % 32).toNat = k := by omega
  have e2 : (n % 32).toNat = k := by omega
  have hp := pow_bd k hk31
  refine ⟨?_, ?_, ?_, ?_, ?_, ?_⟩
  · rw [beq_iff_eq, dw9, dw5, e1]
  · rw [beq_iff_eq, dw9, dw9, e1, e2]
  · rw [beq_iff_eq, dw10, dw10, e1, e2]
  · rw [beq_iff_eq, mask_bd k hk31 a a0 a1, dw9, dw10, dw4, e1]
    have h := Int.mul_ediv_add_emod a (2 ^ k)
    rw [Int.mul_comm] at h
    congr 1; omega
  · rw [beq_iff_eq, dw9]; simp; omega
  · rw [beq_iff_eq, dw10]; simp

theorem shr_top (a : Int) (k : Nat) (a0 : 0 ≤ a) (a1 : a ≤ 4294967295) (hk : k ≤ 31) : (dw 10 a k / 2 ^ (32 - k) == 0) = true := by
  rw [beq_iff_eq, dw10, show ((k : Int) % 32).toNat = k from by omega, Int.ediv_ediv_of_nonneg (Int.le_of_lt (Int.pow_pos (by decide))), ← Int.pow_add, show k + (32 - k) = 32 from by omega]
  omega

theorem top_and (x : Nat) (hx : x ≤ 4294967295) : (x &&& 2147483648) = if x < 2147483648 then 0 else 2147483648 := by
  apply Nat.eq_of_testBit_eq; intro i
  have h31 : x.testBit 31 = decide (x / 2 ^ 31 % 2 = 1) := Nat.testBit_eq_decide_div_mod_eq
  rw [show (2147483648 : Nat) = 2 ^ 31 from rfl, Nat.testBit_and, Nat.testBit_two_pow]
  by_cases hi : 31 = i
  · subst hi
    rw [h31]
    split
    · rw [Nat.zero_testBit, decide_eq_false (by omega)]; rfl
    · rw [Nat.testBit_two_pow, decide_eq_true (by omega)]; rfl
  · rw [decide_eq_false hi, Bool.and_false]
    split
    · rw [Nat.zero_testBit]
    · rw [Nat.testBit_two_pow, decide_eq_false hi]

theorem bits_top (a : Int) (a0 : 0 ≤ a) (a1 : a ≤ 4294967295) : bits BinOp.xor .u32 a 2147483648 = if a < 2147483648 then a + 2147483648 else a - 2147483648 := by
  obtain ⟨x, rfl⟩ := Int.eq_ofNat_of_zero_le a0
  have h := (bits_nats x 2147483648 (by omega) (by omega)).2.2
  have g := Plain.xor_and_add x 2147483648
  have e := top_and x (by omega)
  rw [show ((2147483648 : Nat) : Int) = 2147483648 from rfl] at h
  rw [h]
  generalize x ^^^ 2147483648 = p at *
  generalize x &&& 2147483648 = q at *
  split at e <;> split <;> omega

theorem orderLaw (a b : Int) (a0 : 0 ≤ a) (a1 : a ≤ 4294967295) (b0 : 0 ≤ b) (b1 : b ≤ 4294967295) :
    (hw 17 a b == hw 18 (bits BinOp.xor .u32 a 2147483648) (bits BinOp.xor .u32 b 2147483648)) = true := by
  rw [beq_iff_eq, hw17, hw18, bits_top a a0 a1, bits_top b b0 b1]
  unfold sg wrap32
  rw [decide_eq_decide]
  split <;> split <;> omega

theorem signLaw (a : Int) (a0 : 0 ≤ a) (a1 : a ≤ 4294967295) : (hw 17 a 0 == (a / 2147483648 == 1)) = true := by
  rw [beq_iff_eq, hw17]
  unfold sg wrap32
  rw [Bool.eq_iff_iff, decide_eq_true_iff, beq_iff_eq]
  omega

theorem often_up (a : Int) (j : Nat) : dw 3 (a * j % 4294967296) a = a * (j + 1 : Nat) % 4294967296 := by
  rw [dw3, Int.natCast_add, Int.mul_add]; simp
theorem often_down (a n : Int) (j : Nat) : dw 4 (a * (n - j) % 4294967296) a = a * (n - (j + 1 : Nat)) % 4294967296 := by
  rw [dw4, Int.natCast_add, show n - ((j : Int) + (1 : Nat)) = (n - j) - 1 from by simp; omega, Int.mul_sub a (n - j) 1]; omega
end Go.Proofs.Ytkcjojncdnnmeaa
