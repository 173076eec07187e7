/-
  The document's own lines: who calls and who is masked as two rows of eight yes or no; what Raise, Mask, Next, Calls and Masks of it answer, in the terms that the program's lines have.
-/
import Derived.Test.YtijclpkfmkbkpaaAlive
namespace Go.Proofs.Ytijclpkfmkbkpaa
open Go.RowKit

theorem b8_null : b8 0 := ⟨by decide, by decide⟩

/-- The block of the document's lines. -/
def refOb (c m : Int) : Obj := .cells #[.bool (tb c 0), .bool (tb c 1), .bool (tb c 2), .bool (tb c 3), .bool (tb c 4), .bool (tb c 5), .bool (tb c 6), .bool (tb c 7), .bool (tb m 0), .bool (tb m 1), .bool (tb m 2), .bool (tb m 3), .bool (tb m 4), .bool (tb m 5), .bool (tb m 6), .bool (tb m 7)] 39

theorem ix8 {j : Nat} (h : j < 8) : j = 0 ∨ j = 1 ∨ j = 2 ∨ j = 3 ∨ j = 4 ∨ j = 5 ∨ j = 6 ∨ j = 7 := by omega

section
variable {w : World} {q : Nat} {c m : Int}
theorem ref_call (h : w.heap[q]? = some (refOb c m)) {j : Nat} (hj : j < 8) : w.cell? ⟨q, j, none⟩ = some (.bool (tb c j)) := by
  unfold World.cell?; rw [h]
  rcases ix8 hj with rfl | rfl | rfl | rfl | rfl | rfl | rfl | rfl <;> rfl
theorem ref_mask (h : w.heap[q]? = some (refOb c m)) {j : Nat} (hj : j < 8) : w.cell? ⟨q, 8 + j, none⟩ = some (.bool (tb m j)) := by
  unfold World.cell?; rw [h]
  rcases ix8 hj with rfl | rfl | rfl | rfl | rfl | rfl | rfl | rfl <;> rfl
theorem ref_free (h : w.heap[q]? = some (refOb c m)) (i : Nat) : w.frozen? ⟨q, i, none⟩ = false := by simp [World.frozen?, h, refOb]
theorem ref_setCall (h : w.heap[q]? = some (refOb c m)) {j : Nat} (hj : j < 8) (b : Bool) {c' : Int} (hb : ∀ i, tb c' i = if i = j then b else tb c i) :
    (w.setCell ⟨q, j, none⟩ (.bool b)).heap[q]? = some (refOb c' m) := by
  simp only [World.setCell, Array.getElem?_modify, h, refOb, hb]
  rcases ix8 hj with rfl | rfl | rfl | rfl | rfl | rfl | rfl | rfl <;> rfl
theorem ref_setMask (h : w.heap[q]? = some (refOb c m)) {j : Nat} (hj : j < 8) (b : Bool) {m' : Int} (hb : ∀ i, tb m' i = if i = j then b else tb m i) :
    (w.setCell ⟨q, 8 + j, none⟩ (.bool b)).heap[q]? = some (refOb c m') := by
  simp only [World.setCell, Array.getElem?_modify, h, refOb, hb]
  rcases ix8 hj with rfl | rfl | rfl | rfl | rfl | rfl | rfl | rfl <;> rfl
end

theorem tb_set_if {c i : Int} (hc : b8 c) (h0 : 0 ≤ i) (h1 : i ≤ 7) (j : Nat) : tb (setB c i) j = if j = i.toNat then true else tb c j := by
  rw [tb_setB hc h0 h1]
  by_cases h : i.toNat = j
  · subst h; simp
  · rw [if_neg (fun e => h e.symm), decide_eq_false h, Bool.or_false]
theorem tb_clr_if {c i : Int} (hc : b8 c) (h0 : 0 ≤ i) (h1 : i ≤ 7) (j : Nat) : tb (clrB c i) j = if j = i.toNat then false else tb c j := by
  rw [tb_clrB hc h0 h1]
  by_cases h : i.toNat = j
  · subst h; simp
  · rw [if_neg (fun e => h e.symm), decide_eq_false h, Bool.not_false, Bool.and_true]

theorem rsC_out {i : Int} (c : Int) (h : ¬ (0 ≤ i ∧ i ≤ 7)) : rsC c i = c := by unfold rsC; rw [if_neg h]
theorem mkM_out {i : Int} (m : Int) (on : Bool) (h : ¬ (0 ≤ i ∧ i ≤ 7)) : mkM m i on = m := by unfold mkM; rw [if_neg h]
theorem erL_out {i : Int} (h : ¬ (0 ≤ i ∧ i ≤ 7)) : erL i = 1 := by unfold erL; rw [if_neg h]

set_option maxHeartbeats 1000000 in
theorem refRaise_any (w : World) (q : Nat) (c m i : Int) (hc : b8 c) (h : w.heap[q]? = some (refOb c m)) :
    Calls Try.prog 17 #[.pointer (some ⟨q, 0, none⟩), .int .i64 i] w fun e w' => e = .returned (.int .i64 (erL i)) ∧ Only q w w' ∧ w'.heap[q]? = some (refOb (rsC c i) m) := by
  have HH := Lib.hid h
  have HC := Lib.hid hc
  by_cases hi : i < 0
  · have e := Lib.hid (erL_out (i := i) (by omega))
    have e2 := Lib.hid (rsC_out (i := i) c (by omega))
    clear hc h
    go_enter Try.func17, Try.ntmps17
    go_wp2_with fail
    go_ret
    rw [e.out, e2.out]; exact ⟨rfl, Only.refl _ _, HH.out⟩
  · by_cases hi2 : 8 ≤ i
    · have e := Lib.hid (erL_out (i := i) (by omega))
      have e2 := Lib.hid (rsC_out (i := i) c (by omega))
      have hd : decide (i < 0) = false := by rw [decide_eq_false_iff_not]; exact hi
      clear hc h hi
      go_enter Try.func17, Try.ntmps17
      go_wp2_with fail
      go_ret
      rw [e.out, e2.out]; exact ⟨rfl, Only.refl _ _, HH.out⟩
    · have h0 : 0 ≤ i := by omega
      have h1 : i ≤ 7 := by omega
      have e := Lib.hid (erL_in h0 h1)
      have e2 := Lib.hid (rsC_in c h0 h1)
      have hd : decide (i < 0) = false := by rw [decide_eq_false_iff_not]; exact hi
      have hd2 : decide (8 ≤ i) = false := by rw [decide_eq_false_iff_not]; exact hi2
      have hcl := ref_call h (j := i.toNat) (by omega)
      have hf := ref_free h i.toNat
      clear hc h hi hi2
      go_enter Try.func17, Try.ntmps17
      go_wp2_with fail
      go_ret
      rw [e.out, e2.out]; exact ⟨rfl, Only.setCell _ _ _ _, ref_setCall HH.out (by omega) true (tb_set_if HC.out h0 h1)⟩

set_option maxHeartbeats 1000000 in
theorem refMask_any (w : World) (q : Nat) (c m i : Int) (on : Bool) (hm : b8 m) (h : w.heap[q]? = some (refOb c m)) :
    Calls Try.prog 18 #[.pointer (some ⟨q, 0, none⟩), .int .i64 i, .bool on] w fun e w' => e = .returned (.int .i64 (erL i)) ∧ Only q w w' ∧ w'.heap[q]? = some (refOb c (mkM m i on)) := by
  have HH := Lib.hid h
  have HM := Lib.hid hm
  by_cases hi : i < 0
  · have e := Lib.hid (erL_out (i := i) (by omega))
    have e2 := Lib.hid (mkM_out (i := i) m on (by omega))
    clear hm h
    go_enter Try.func18, Try.ntmps18
    go_wp2_with fail
    go_ret
    rw [e.out, e2.out]; exact ⟨rfl, Only.refl _ _, HH.out⟩
  · by_cases hi2 : 8 ≤ i
    · have e := Lib.hid (erL_out (i := i) (by omega))
      have e2 := Lib.hid (mkM_out (i := i) m on (by omega))
      have hd : decide (i < 0) = false := by rw [decide_eq_false_iff_not]; exact hi
      clear hm h hi
      go_enter Try.func18, Try.ntmps18
      go_wp2_with fail
      go_ret
      rw [e.out, e2.out]; exact ⟨rfl, Only.refl _ _, HH.out⟩
    · have h0 : 0 ≤ i := by omega
      have h1 : i ≤ 7 := by omega
      have e := Lib.hid (erL_in h0 h1)
      have e2 : Hid (∀ j, tb (mkM m i on) j = if j = i.toNat then on else tb m j) := Lib.hid (by
        cases on
        · rw [mkM_off m h0 h1]; exact tb_clr_if hm h0 h1
        · rw [mkM_on m h0 h1]; exact tb_set_if hm h0 h1)
      have hd : decide (i < 0) = false := by rw [decide_eq_false_iff_not]; exact hi
      have hd2 : decide (8 ≤ i) = false := by rw [decide_eq_false_iff_not]; exact hi2
      have hcl := ref_mask h (j := i.toNat) (by omega)
      have hf := ref_free h (8 + i.toNat)
      clear hm h hi hi2
      go_enter Try.func18, Try.ntmps18
      go_wp2_with fail
      go_ret
      rw [e.out]; exact ⟨rfl, Only.setCell _ _ _ _, ref_setMask HH.out (by omega) on e2.out⟩
end Go.Proofs.Ytijclpkfmkbkpaa
