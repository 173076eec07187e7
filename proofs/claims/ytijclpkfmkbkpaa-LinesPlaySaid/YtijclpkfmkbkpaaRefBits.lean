/-
  Calls, Masks and Next of the document's lines.
-/
import Derived.Test.YtijclpkfmkbkpaaRef
namespace Go.Proofs.Ytijclpkfmkbkpaa
open Go.RowKit

/-- Eight yes or no, by value. -/
def eight (c : Int) : Array Value := #[.bool (tb c 0), .bool (tb c 1), .bool (tb c 2), .bool (tb c 3), .bool (tb c 4), .bool (tb c 5), .bool (tb c 6), .bool (tb c 7)]
theorem eight_at {w : World} {B : Nat} {c : Int} (h : w.heap[B]? = some (.cells (eight c) 37)) {j : Nat} (hj : j < 8) : w.cell? ⟨B, j, none⟩ = some (.bool (tb c j)) := by
  unfold World.cell?; rw [h]
  rcases ix8 hj with rfl | rfl | rfl | rfl | rfl | rfl | rfl | rfl <;> rfl

theorem half_table : ∀ c : Fin 256, ∀ k : Fin 8, c.val / 2 ^ k.val = 2 * (c.val / 2 ^ (k.val + 1)) + (if c.val.testBit k.val then 1 else 0) := by decide +kernel
theorem half_bit {c : Int} (hc : b8 c) {k : Nat} (hk : k < 8) : c / 2 ^ k = 2 * (c / 2 ^ (k + 1)) + (if tb c k then 1 else 0) ∧ 0 ≤ c / 2 ^ (k + 1) ∧ c / 2 ^ k ≤ 255 := by
  obtain ⟨x, hx, rfl⟩ := b8_nat hc
  have := half_table ⟨x, hx⟩ ⟨k, hk⟩
  simp only at this
  have e : ((x : Int) / 2 ^ k) = ((x / 2 ^ k : Nat) : Int) := by simp
  have e2 : ((x : Int) / 2 ^ (k + 1)) = ((x / 2 ^ (k + 1) : Nat) : Int) := by simp
  have hlt : x / 2 ^ k < 256 := Nat.lt_of_le_of_lt (Nat.div_le_self _ _) hx
  rw [e, e2]
  unfold tb
  rw [Int.toNat_natCast]
  generalize x / 2 ^ k = y at *
  generalize x / 2 ^ (k + 1) = z at *
  cases hb : x.testBit k <;> simp only [hb, if_true, if_false, Bool.false_eq_true] at this ⊢ <;> omega

set_option maxHeartbeats 1000000 in
theorem bits_any (w : World) (c : Int) (hc : b8 c) :
    Calls Try.prog 31 #[.agg (eight c)] w fun e w' => e = .returned (.int .u8 c) ∧ Okw w w' := by
  have HC := Lib.hid hc
  have q0 : Okw w (w.alloc (.cells (eight c) 37)) := (Below.refl _ _).alloc (Nat.le_refl _) _
  have hB : (w.alloc (.cells (eight c) 37)).heap[w.heap.size]? = some (.cells (eight c) 37) := (MapKept.heap_alloc w _).1
  obtain ⟨B, hBe⟩ : ∃ B, B = w.heap.size := ⟨_, rfl⟩
  rw [← hBe] at hB
  have HB := Lib.hid hB
  have HE := Lib.hid hBe
  clear hc hB hBe
  go_enter Try.func31, Try.ntmps31
  go_wp2_with fail
  rw [← HE.out]
  go_loopw [3, 4] (fun n i wr => ∃ k : Nat, k ≤ 8 ∧ i = .int .i64 ((k : Int) - 1) ∧ n = .int .u8 (c / 2 ^ k) ∧ Okw w wr ∧ wr.heap[B]? = some (.cells (eight c) 37)) (fun _ i _ => (intOf i + 1).toNat)
  case atStart => exact ⟨8, by omega, rfl, by have := HC.out.1; have := HC.out.2; congr 1; omega, q0, HB.out⟩
  case round =>
    obtain ⟨k, hk, rfl, rfl, qr, hr⟩ := hrel
    clear q0
    cases k with
    | zero =>
      have e : c / 2 ^ 0 = c := by simp
      go_wp2_with fail
      go_ret
      refine ⟨?_, qr⟩
      show Ending.returned (.int .u8 (c / 2 ^ 0)) = _
      rw [e]
    | succ j =>
      obtain ⟨d1, d2, d3⟩ := half_bit HC.out (k := j) (by omega)
      have hcell := eight_at hr (j := j) (by omega)
      have HR := Lib.hid hr
      clear hr
      generalize c / 2 ^ (j + 1) = z at *
      cases t : tb c j
      all_goals rw [t] at d1 hcell
      all_goals simp only [if_true, if_false, Bool.false_eq_true] at d1
      · go_wp2_with fail
        go_roundw
        case rel => exact ⟨j, by omega, by go_num, by congr 1; omega, qr, HR.out⟩
        case measure => simp [intOf]
      · go_wp2_with fail
        go_roundw
        case rel => exact ⟨j, by omega, by go_num, by congr 1; omega, qr, HR.out⟩
        case measure => simp [intOf]

set_option maxHeartbeats 1000000 in
theorem refCalls_any (w : World) (q : Nat) (c m : Int) (hc : b8 c) (h : w.heap[q]? = some (refOb c m)) :
    Calls Try.prog 20 #[.pointer (some ⟨q, 0, none⟩)] w fun e w' => e = .returned (.int .u8 c) ∧ Okw w w' := by
  have l0 := ref_call h (j := 0) (by omega)
  have l1 := ref_call h (j := 1) (by omega)
  have l2 := ref_call h (j := 2) (by omega)
  have l3 := ref_call h (j := 3) (by omega)
  have l4 := ref_call h (j := 4) (by omega)
  have l5 := ref_call h (j := 5) (by omega)
  have l6 := ref_call h (j := 6) (by omega)
  have l7 := ref_call h (j := 7) (by omega)
  have HC := Lib.hid hc
  clear hc h
  go_enter Try.func20, Try.ntmps20
  go_wp2_with fail
  refine (bits_any _ c HC.out).mono ?_; rintro e w1 ⟨rfl, q1⟩
  go_wp2_with fail
  go_ret
  exact ⟨rfl, q1⟩

set_option maxHeartbeats 1000000 in
theorem refMasks_any (w : World) (q : Nat) (c m : Int) (hm : b8 m) (h : w.heap[q]? = some (refOb c m)) :
    Calls Try.prog 21 #[.pointer (some ⟨q, 0, none⟩)] w fun e w' => e = .returned (.int .u8 m) ∧ Okw w w' := by
  have l0 := ref_mask h (j := 0) (by omega)
  have l1 := ref_mask h (j := 1) (by omega)
  have l2 := ref_mask h (j := 2) (by omega)
  have l3 := ref_mask h (j := 3) (by omega)
  have l4 := ref_mask h (j := 4) (by omega)
  have l5 := ref_mask h (j := 5) (by omega)
  have l6 := ref_mask h (j := 6) (by omega)
  have l7 := ref_mask h (j := 7) (by omega)
  have HM := Lib.hid hm
  clear hm h
  go_enter Try.func21, Try.ntmps21
  go_wp2_with fail
  refine (bits_any _ m HM.out).mono ?_; rintro e w1 ⟨rfl, q1⟩
  go_wp2_with fail
  go_ret
  exact ⟨rfl, q1⟩

set_option maxHeartbeats 2000000 in
theorem refNext_any (w : World) (q : Nat) (c m : Int) (hc : b8 c) (hm : b8 m) (h : w.heap[q]? = some (refOb c m)) :
    Calls Try.prog 19 #[.pointer (some ⟨q, 0, none⟩)] w fun e w' => e = .returned (.tuple #[.int .i64 (nxL c m), .int .i64 (nxE c m)]) ∧ Only q w w' ∧ w'.heap[q]? = some (refOb (nxC c m) m) := by
  have HC := Lib.hid hc
  have HM := Lib.hid hm
  have H := Lib.hid h
  clear hc hm h
  go_enter Try.func19, Try.ntmps19
  go_wp2_with fail
  go_loopw [4] (fun i wr => ∃ k : Nat, k ≤ 8 ∧ i = .int .i64 (k : Int) ∧ (∀ j, j < k → (tb c j && !tb m j) = false) ∧ wr = w) (fun i _ => 8 - (intOf i).toNat)
  case atStart => exact ⟨0, by omega, rfl, fun j hj => absurd hj (by omega), rfl⟩
  case round =>
    obtain ⟨k, hk, rfl, hno, rfl⟩ := hrel
    by_cases hlt : k < 8
    · have c1 := ref_call H.out hlt
      have c2 := ref_mask H.out hlt
      have hf := ref_free H.out k
      have HN := Lib.hid hno
      clear hno
      cases t1 : tb c k
      all_goals rw [t1] at c1
      · have HS : Hid (∀ j, j < k + 1 → (tb c j && !tb m j) = false) := Lib.hid (fun j hj => by
          by_cases e : j = k
          · rw [e, t1]; rfl
          · exact HN.out j (by omega))
        clear t1
        go_wp2_with fail
        go_roundw
        case rel => exact ⟨k + 1, by omega, by go_num, HS.out, by first | rfl | trivial⟩
        case measure => simp [intOf]; omega
      · cases t2 : tb m k
        all_goals rw [t2] at c2
        · have HX := Lib.hid (next_is HC.out HM.out hlt t1 t2 HN.out)
          clear t1 t2
          go_wp2_with fail
          go_ret2
          rw [HX.out.1, HX.out.2.1, HX.out.2.2]
          exact ⟨rfl, Only.setCell _ _ _ _, ref_setCall H.out hlt false (fun i => tb_clr_if HC.out (by omega) (by omega) i)⟩
        · have HS : Hid (∀ j, j < k + 1 → (tb c j && !tb m j) = false) := Lib.hid (fun j hj => by
            by_cases e : j = k
            · rw [e, t2]; simp
            · exact HN.out j (by omega))
          clear t1 t2
          go_wp2_with fail
          go_roundw
          case rel => exact ⟨k + 1, by omega, by go_num, HS.out, by first | rfl | trivial⟩
          case measure => simp [intOf]; omega
    · obtain rfl : k = 8 := by omega
      have HX := Lib.hid (next_none HC.out HM.out hno)
      clear hno
      go_wp2_with fail
      go_ret2
      rw [HX.out.1, HX.out.2.1, HX.out.2.2]
      exact ⟨rfl, Only.refl _ _, H.out⟩
end Go.Proofs.Ytijclpkfmkbkpaa
