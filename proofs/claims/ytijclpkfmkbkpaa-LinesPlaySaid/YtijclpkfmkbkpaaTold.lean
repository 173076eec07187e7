/-
  Plain laws of rows: one line alone; who is told, one after the other; masks taken off, one after the other. The rows are of eight bits.
-/
import Derived.Test.YtijclpkfmkbkpaaAlive
namespace Go.Proofs.Ytijclpkfmkbkpaa
open Go.RowKit

theorem b8_zero : b8 0 := ⟨by decide, by decide⟩
theorem b8_and (x y : Int) : b8 (bits BinOp.and .u8 x y) := ⟨bits_lo_u8 _ _ _, bits_hi_u8 _ _ _⟩
theorem tb_and {x y : Int} (hx : b8 x) (hy : b8 y) (j : Nat) : tb (bits BinOp.and .u8 x y) j = (tb x j && tb y j) := by
  obtain ⟨a, ha, rfl⟩ := b8_nat hx
  obtain ⟨b, hb, rfl⟩ := b8_nat hy
  rw [and8 a b ha hb]
  unfold tb
  rw [Int.toNat_natCast, Int.toNat_natCast, Int.toNat_natCast, Nat.testBit_and]

theorem toNat_inj {i : Int} (h0 : 0 ≤ i) {j : Nat} : (i.toNat = j) ↔ i = (j : Int) := by omega

/-- One line alone. -/
theorem one_next {k : Int} (h0 : 0 ≤ k) (h1 : k ≤ 7) : nxL (setB 0 k) 0 = k ∧ nxE (setB 0 k) 0 = 0 ∧ nxC (setB 0 k) 0 = 0 := by
  have hb := b8_setB 0 k
  have ht := tb_setB b8_zero h0 h1
  obtain ⟨i, rfl⟩ : ∃ i : Nat, k = (i : Int) := ⟨k.toNat, by omega⟩
  have hi : i < 8 := by omega
  obtain ⟨e1, e2, e3⟩ := next_is hb b8_zero hi (by rw [ht, tb_zero]; simp) (tb_zero i) (fun j hj => by
    rw [ht, tb_zero, decide_eq_false (by omega)]; rfl)
  refine ⟨e1, e2, ?_⟩
  rw [e3]
  exact zero_of_bits (b8_clrB _ _) (fun j _ => by
    rw [tb_clrB hb h0 h1, ht, tb_zero]
    cases decide ((i : Int).toNat = j) <;> rfl)
theorem one_again {k : Int} (h0 : 0 ≤ k) (h1 : k ≤ 7) : setB (setB 0 k) k = setB 0 k :=
  row_ext (b8_setB _ _) (b8_setB _ _) (fun j _ => by
    rw [tb_setB (b8_setB 0 k) h0 h1, tb_setB b8_zero h0 h1]
    cases tb 0 j <;> cases decide (k.toNat = j) <;> rfl)
theorem none_next : nxL 0 0 = 0 ∧ nxE 0 0 = 11 ∧ nxC 0 0 = 0 := next_none b8_zero b8_zero (fun j _ => by rw [tb_zero]; rfl)

/-- Of lines C under masks M those that are heard, below i, have been told. -/
def Told (C M : Int) (i : Nat) (c : Int) : Prop := b8 c ∧ ∀ j, tb c j = (tb C j && !(decide (j < i) && (tb C j && !tb M j)))

section
variable {C M c : Int} {i : Nat}
theorem told_start (hC : b8 C) : Told C M 0 C := ⟨hC, fun j => by simp⟩
theorem told_no (h : Told C M i c) (hn : (tb C i && !tb M i) = false) : Told C M (i + 1) c := by
  refine ⟨h.1, fun j => ?_⟩
  rw [h.2 j]
  rcases Nat.lt_trichotomy j i with hj | hj | hj
  · rw [decide_eq_true hj, decide_eq_true (show j < i + 1 by omega)]
  · subst hj; rw [hn]; simp
  · rw [decide_eq_false (by omega), decide_eq_false (by omega)]
theorem told_yes (hM : b8 M) (hi : i < 8) (h : Told C M i c) (g : tb C i = true) (k : tb M i = false) :
    nxL c M = i ∧ nxE c M = 0 ∧ Told C M (i + 1) (nxC c M) := by
  obtain ⟨hc, ht⟩ := h
  obtain ⟨e1, e2, e3⟩ := next_is hc hM hi (by rw [ht, g]; simp) k (fun j hj => by
    rw [ht, decide_eq_true hj]
    cases tb C j <;> cases tb M j <;> rfl)
  refine ⟨e1, e2, ?_⟩
  rw [e3]
  refine ⟨b8_clrB _ _, fun j => ?_⟩
  rw [tb_clrB hc (by omega) (by omega), ht]
  rcases Nat.lt_trichotomy j i with hj | hj | hj
  · rw [decide_eq_true hj, decide_eq_true (show j < i + 1 by omega), decide_eq_false (by omega)]; simp
  · subst hj; rw [g, k, decide_eq_false (show ¬ j < j by omega), decide_eq_true (show j < j + 1 by omega), decide_eq_true (by omega)]; rfl
  · rw [decide_eq_false (show ¬ j < i by omega), decide_eq_false (show ¬ j < i + 1 by omega), decide_eq_false (by omega)]; simp
theorem told_end (hC : b8 C) (hM : b8 M) (h : Told C M 8 c) : nxL c M = 0 ∧ nxE c M = 11 ∧ nxC c M = c ∧ c = bits BinOp.and .u8 C M := by
  obtain ⟨hc, ht⟩ := h
  obtain ⟨e1, e2, e3⟩ := next_none hc hM (fun j hj => by
    rw [ht, decide_eq_true hj]
    cases tb C j <;> cases tb M j <;> rfl)
  refine ⟨e1, e2, e3, row_ext hc (b8_and _ _) (fun j hj => ?_)⟩
  rw [ht, tb_and hC hM, decide_eq_true hj]
  cases tb C j <;> cases tb M j <;> rfl

/-- Of masks M those below i have been taken off. -/
def Clr (M : Int) (i : Nat) (m : Int) : Prop := b8 m ∧ ∀ j, tb m j = (tb M j && !decide (j < i))
theorem clr_start (hM : b8 M) : Clr M 0 M := ⟨hM, fun j => by simp⟩
theorem clr_step {m : Int} (hi : i < 8) (h : Clr M i m) : Clr M (i + 1) (clrB m i) := by
  refine ⟨b8_clrB _ _, fun j => ?_⟩
  rw [tb_clrB h.1 (by omega) (by omega), h.2]
  rcases Nat.lt_trichotomy j i with hj | hj | hj
  · rw [decide_eq_true hj, decide_eq_true (show j < i + 1 by omega), decide_eq_false (by omega)]; simp
  · subst hj; rw [decide_eq_false (show ¬ j < j by omega), decide_eq_true (show j < j + 1 by omega), decide_eq_true (by omega)]; simp
  · rw [decide_eq_false (show ¬ j < i by omega), decide_eq_false (show ¬ j < i + 1 by omega), decide_eq_false (by omega)]; simp
theorem clr_end {m : Int} (h : Clr M 8 m) : m = 0 := zero_of_bits h.1 (fun j hj => by rw [h.2, decide_eq_true hj]; simp)
end
end Go.Proofs.Ytijclpkfmkbkpaa
