/-
  Plain laws of rows of eight bits: the least line that calls; a row grows less as a line is told.
-/
import Derived.Test.YtijclpkfmkbkpaaTold
namespace Go.Proofs.Ytijclpkfmkbkpaa
open Go.RowKit

theorem next_some {c : Int} (hc : b8 c) (hz : c ≠ 0) : ∃ i : Nat, i < 8 ∧ tb c i = true ∧ (∀ j, j < i → tb c j = false) ∧ nxL c 0 = i ∧ nxE c 0 = 0 ∧ nxC c 0 = clrB c i := by
  have hc' := hc
  obtain ⟨x, hx, rfl⟩ := b8_nat hc
  have hx0 : x ≠ 0 := by omega
  obtain ⟨l1, l2⟩ := ntz_bit ⟨x, hx⟩ hx0
  have l0 := ntz_lt ⟨x, hx⟩ hx0
  change x.testBit (Lib.trailingZeros8 x) = true at l1
  change Lib.trailingZeros8 x ≤ 7 at l0
  have h1 : tb (x : Int) (Lib.trailingZeros8 x) = true := by unfold tb; rw [Int.toNat_natCast]; exact l1
  have h2 : ∀ j, j < Lib.trailingZeros8 x → tb (x : Int) j = false := fun j hj => by unfold tb; rw [Int.toNat_natCast]; exact l2 ⟨j, by omega⟩ hj
  obtain ⟨e1, e2, e3⟩ := next_is hc' b8_zero (by omega) h1 (tb_zero _) (fun j hj => by rw [h2 j hj]; rfl)
  exact ⟨_, by omega, h1, h2, e1, e2, e3⟩

theorem less_table : ∀ c : Fin 256, ∀ i : Fin 8, c.val.testBit i.val = true → clrB (c.val : Int) (i.val : Int) < (c.val : Int) := by decide +kernel
theorem clrB_lt {c : Int} {i : Nat} (hc : b8 c) (hi : i < 8) (h : tb c i = true) : clrB c i < c := by
  obtain ⟨x, hx, rfl⟩ := b8_nat hc
  unfold tb at h
  rw [Int.toNat_natCast] at h
  exact less_table ⟨x, hx⟩ ⟨i, hi⟩ h

theorem low_table : ∀ c : Fin 256, ∀ i : Fin 8, (∀ j : Fin 8, j.val < i.val → c.val.testBit j.val = false) → bits BinOp.and .u8 (c.val : Int) (2 ^ i.val - 1) = 0 := by decide +kernel
theorem low_zero {c : Int} {i : Nat} (hc : b8 c) (hi : i < 8) (h : ∀ j, j < i → tb c j = false) : bits BinOp.and .u8 c (2 ^ i - 1) = 0 := by
  obtain ⟨x, hx, rfl⟩ := b8_nat hc
  exact low_table ⟨x, hx⟩ ⟨i, hi⟩ (fun j hj => by have := h j.val hj; unfold tb at this; rw [Int.toNat_natCast] at this; exact this)

theorem pow_bd8 (i : Nat) (hi : i < 8) : (1 : Int) ≤ 2 ^ i ∧ (2 : Int) ^ i ≤ 128 := by
  have h1 : (2 : Nat) ^ i ≤ 2 ^ 7 := Nat.pow_le_pow_right (by decide) (by omega)
  have h2 : 0 < (2 : Nat) ^ i := Nat.two_pow_pos i
  have e : ((2 : Int) ^ i) = ((2 ^ i : Nat) : Int) := by simp
  rw [e]; omega

/-- A cell of an argument, as long as nothing that was there is turned. -/
theorem arg_cell {w wx : World} (h : Okw w wx) {p : Addr} {v : Value} (hc : w.cell? p = some v) : wx.cell? p = some v := by
  have hb : p.block < w.heap.size := by
    unfold World.cell? at hc
    rcases Nat.lt_or_ge p.block w.heap.size with hlt | hge
    · exact hlt
    · rw [Array.getElem?_eq_none hge] at hc; cases hc
  rw [Below.cell h hb]; exact hc
end Go.Proofs.Ytijclpkfmkbkpaa
