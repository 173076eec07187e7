/-
  Plain laws of rows of eight bits: who is told next, from a line on; a mask laid and taken off again.
-/
import Derived.Test.YtijclpkfmkbkpaaTold
namespace Go.Proofs.Ytijclpkfmkbkpaa
open Go.RowKit

/-- From a line on: nobody is told any more, or the next one is. -/
theorem told_next {C M : Int} (hC : b8 C) (hM : b8 M) : ∀ (d i : Nat) (c : Int), i + d = 8 → Told C M i c →
    (nxL c M = 0 ∧ nxE c M = 11 ∧ nxC c M = c ∧ Told C M 8 c) ∨
    ∃ k, i ≤ k ∧ k < 8 ∧ tb M k = false ∧ nxL c M = (k : Int) ∧ nxE c M = 0 ∧ Told C M (k + 1) (nxC c M)
  | 0, i, c, hd, h => by
    obtain rfl : i = 8 := by omega
    obtain ⟨e1, e2, e3, _⟩ := told_end hC hM h
    exact Or.inl ⟨e1, e2, e3, h⟩
  | d + 1, i, c, hd, h => by
    cases hn : (tb C i && !tb M i)
    · rcases told_next hC hM d (i + 1) c (by omega) (told_no h hn) with h' | ⟨k, h1, h2⟩
      · exact Or.inl h'
      · exact Or.inr ⟨k, by omega, h2⟩
    · obtain ⟨g, k⟩ : tb C i = true ∧ tb M i = false := by
        cases h1 : tb C i <;> cases h2 : tb M i <;> simp_all
      obtain ⟨e1, e2, e3⟩ := told_yes hM (by omega) h g k
      exact Or.inr ⟨i, Nat.le_refl _, by omega, k, e1, e2, e3⟩

/-- A mask laid, and taken off again. -/
theorem on_off {m k : Int} (hm : b8 m) (h0 : 0 ≤ k) (h1 : k ≤ 7) : clrB (setB (clrB m k) k) k = clrB m k :=
  row_ext (b8_clrB _ _) (b8_clrB _ _) (fun j _ => by
    rw [tb_clrB (b8_setB _ _) h0 h1, tb_setB (b8_clrB _ _) h0 h1, tb_clrB hm h0 h1]
    cases tb m j <;> cases decide (k.toNat = j) <;> rfl)

/-- Who was masked alone, of those that called, is told when it is not masked any more: if it calls. -/
theorem after_yes {C m k : Int} (hC : b8 C) (hm : b8 m) (h0 : 0 ≤ k) (h1 : k ≤ 7) (hk : tb C k.toNat = true) :
    nxL (bits BinOp.and .u8 C (setB (clrB m k) k)) (clrB m k) = k ∧ nxE (bits BinOp.and .u8 C (setB (clrB m k) k)) (clrB m k) = 0 := by
  have hb := b8_and C (setB (clrB m k) k)
  have e1 : ∀ j, tb (bits BinOp.and .u8 C (setB (clrB m k) k)) j = (tb C j && ((tb m j && !decide (k.toNat = j)) || decide (k.toNat = j))) := fun j => by
    rw [tb_and hC (b8_setB _ _), tb_setB (b8_clrB _ _) h0 h1, tb_clrB hm h0 h1]
  have e2 : ∀ j, tb (clrB m k) j = (tb m j && !decide (k.toNat = j)) := fun j => tb_clrB hm h0 h1 j
  obtain ⟨r1, r2, _⟩ := next_is (i := k.toNat) hb (b8_clrB m k) (by omega) (by rw [e1, hk]; simp) (by rw [e2]; simp) (fun j hj => by
    rw [e1, e2, decide_eq_false (by omega)]
    cases tb C j <;> cases tb m j <;> rfl)
  exact ⟨by rw [r1]; omega, r2⟩
theorem after_no {C m k : Int} (hC : b8 C) (hm : b8 m) (h0 : 0 ≤ k) (h1 : k ≤ 7) (hk : tb C k.toNat = false) :
    nxL (bits BinOp.and .u8 C (setB (clrB m k) k)) (clrB m k) = 0 ∧ nxE (bits BinOp.and .u8 C (setB (clrB m k) k)) (clrB m k) = 11 := by
  have hb := b8_and C (setB (clrB m k) k)
  obtain ⟨r1, r2, _⟩ := next_none hb (b8_clrB m k) (fun j _ => by
    rw [tb_and hC (b8_setB _ _), tb_setB (b8_clrB _ _) h0 h1, tb_clrB hm h0 h1]
    by_cases hj : k.toNat = j
    · subst hj; rw [hk]; simp
    · rw [decide_eq_false hj]; cases tb C j <;> cases tb m j <;> rfl)
  exact ⟨r1, r2⟩

/-- The masked line is masked. -/
theorem masked_is {m k : Int} (h0 : 0 ≤ k) (h1 : k ≤ 7) : tb (setB m k) k.toNat = true ∨ ¬ b8 m := by
  by_cases hb : b8 m
  · left; rw [tb_setB hb h0 h1]; simp
  · right; exact hb
end Go.Proofs.Ytijclpkfmkbkpaa
