/-
  The contracts as the statements' walks use them: the lines' own block, and nothing turned of what was there at the beginning; 'set' and 'alive'. The rows are of eight bits.
-/
import Derived.Test.YtijclpkfmkbkpaaBits
import Derived.LoopTactic
namespace Go.Proofs.Ytijclpkfmkbkpaa
open Go.RowKit

/-- Of what was there in w0 nothing has turned in w; the lines lie in block p, made since. -/
def St (w0 : World) (p : Nat) (c m : Int) (w : World) : Prop := Below w0.heap.size w0 w ∧ w0.heap.size ≤ p ∧ w.heap[p]? = some (ob c m)
/-- Of what was there in w0 nothing has turned in w. -/
def Okw (w0 w : World) : Prop := Below w0.heap.size w0 w
theorem Okw.refl (w : World) : Okw w w := Below.refl _ _
theorem St.ok {w0 w : World} {p : Nat} {c m : Int} (h : St w0 p c m w) : Okw w0 w := h.1
theorem St.next {w0 w w' : World} {p : Nat} {c m c' m' : Int} (h : St w0 p c m w) (g : Only p w w') (k : w'.heap[p]? = some (ob c' m')) : St w0 p c' m' w' :=
  ⟨h.1.grown g h.1.size (fun _ e => by cases e; exact h.2.1), h.2.1, k⟩
theorem St.other {w0 w w' : World} {p : Nat} {c m : Int} (h : St w0 p c m w) (g : Below w.heap.size w w') : St w0 p c m w' :=
  ⟨h.1.trans (g.mono h.1.size), h.2.1, by rw [g.block p (Array.getElem?_eq_some_iff.1 h.2.2).1]; exact h.2.2⟩
theorem St.change {w0 w : World} {p : Nat} {c m c' m' : Int} (h : St w0 p c m w) (e : c = c') (f : m = m') : St w0 p c' m' w := by rw [← e, ← f]; exact h

section
variable {w0 w : World} {p : Nat} {c m : Int}

theorem new_step (h : Okw w0 w) : Calls Try.prog 16 #[] w fun e w' => e = .returned (.pointer (some ⟨w.heap.size, 0, none⟩)) ∧ St w0 w.heap.size 0 0 w' :=
  (new_any w).mono fun _ _ ⟨he, hw⟩ => ⟨he, by rw [← hw]; exact ⟨Below.alloc h h.size _, h.size, (MapKept.heap_alloc w _).1⟩⟩
theorem raise_step (i : Int) (h : St w0 p c m w) : Calls Try.prog 12 #[.pointer (some ⟨p, 0, none⟩), .int .i64 i] w fun e w' => e = .returned (.int .i64 (erL i)) ∧ St w0 p (rsC c i) m w' :=
  (raise_any w p c m i h.2.2).mono fun _ _ ⟨he, g, k⟩ => ⟨he, h.next g k⟩
theorem mask_step (i : Int) (on : Bool) (h : St w0 p c m w) : Calls Try.prog 13 #[.pointer (some ⟨p, 0, none⟩), .int .i64 i, .bool on] w fun e w' => e = .returned (.int .i64 (erL i)) ∧ St w0 p c (mkM m i on) w' :=
  (mask_any w p c m i on h.2.2).mono fun _ _ ⟨he, g, k⟩ => ⟨he, h.next g k⟩
theorem next_step (h : St w0 p c m w) : Calls Try.prog 11 #[.pointer (some ⟨p, 0, none⟩)] w fun e w' => e = .returned (.tuple #[.int .i64 (nxL c m), .int .i64 (nxE c m)]) ∧ St w0 p (nxC c m) m w' :=
  (next_any w p c m h.2.2).mono fun _ _ ⟨he, g, k⟩ => ⟨he, h.next g k⟩
theorem calls_step (h : St w0 p c m w) : Calls Try.prog 14 #[.pointer (some ⟨p, 0, none⟩)] w fun e w' => e = .returned (.int .u8 c) ∧ w = w' := calls_any w p c m h.2.2
theorem masks_step (h : St w0 p c m w) : Calls Try.prog 15 #[.pointer (some ⟨p, 0, none⟩)] w fun e w' => e = .returned (.int .u8 m) ∧ w = w' := masks_any w p c m h.2.2

/-- A line that is there. -/
theorem erL_in {i : Int} (h0 : 0 ≤ i) (h1 : i ≤ 7) : erL i = 0 := by unfold erL; rw [if_pos ⟨h0, h1⟩]
theorem rsC_in {i : Int} (c : Int) (h0 : 0 ≤ i) (h1 : i ≤ 7) : rsC c i = setB c i := by unfold rsC; rw [if_pos ⟨h0, h1⟩]
theorem mkM_on {i : Int} (m : Int) (h0 : 0 ≤ i) (h1 : i ≤ 7) : mkM m i true = setB m i := by unfold mkM; rw [if_pos ⟨h0, h1⟩]; rfl
theorem mkM_off {i : Int} (m : Int) (h0 : 0 ≤ i) (h1 : i ≤ 7) : mkM m i false = clrB m i := by unfold mkM; rw [if_pos ⟨h0, h1⟩]; rfl

theorem raise_in (i : Int) (h0 : 0 ≤ i) (h1 : i ≤ 7) (h : St w0 p c m w) : Calls Try.prog 12 #[.pointer (some ⟨p, 0, none⟩), .int .i64 i] w fun e w' => e = .returned (.int .i64 0) ∧ St w0 p (setB c i) m w' := by
  have := raise_step i h
  rw [erL_in h0 h1, rsC_in c h0 h1] at this; exact this
theorem mask_on (i : Int) (h0 : 0 ≤ i) (h1 : i ≤ 7) (h : St w0 p c m w) : Calls Try.prog 13 #[.pointer (some ⟨p, 0, none⟩), .int .i64 i, .bool true] w fun e w' => e = .returned (.int .i64 0) ∧ St w0 p c (setB m i) w' := by
  have := mask_step i true h
  rw [erL_in h0 h1, mkM_on m h0 h1] at this; exact this
theorem mask_off (i : Int) (h0 : 0 ≤ i) (h1 : i ≤ 7) (h : St w0 p c m w) : Calls Try.prog 13 #[.pointer (some ⟨p, 0, none⟩), .int .i64 i, .bool false] w fun e w' => e = .returned (.int .i64 0) ∧ St w0 p c (clrB m i) w' := by
  have := mask_step i false h
  rw [erL_in h0 h1, mkM_off m h0 h1] at this; exact this
end

set_option maxHeartbeats 2000000 in
theorem set_at (w0 w : World) (c m : Int) (p : Nat) (hp : p = w.heap.size) (hc : b8 c) (hm : b8 m) (h : Okw w0 w) :
    Calls Try.prog 22 #[.int .u8 c, .int .u8 m] w fun e w' => e = .returned (.pointer (some ⟨p, 0, none⟩)) ∧ St w0 p c m w' := by
  have HC := Lib.hid hc
  have HM := Lib.hid hm
  have HP := Lib.hid hp
  clear hp hc hm
  go_enter Try.func22, Try.ntmps22
  go_wp2_with fail
  refine (new_step h).mono ?_
  rintro e w1 ⟨rfl, hs⟩
  rw [← HP.out] at hs
  rw [← HP.out]
  go_wp2_with fail
  go_loopw [6] (fun i wr => ∃ k : Nat, k ≤ 8 ∧ i = .int .i64 ((k : Int) - 1) ∧ St w0 p (hi c k) (hi m k) wr) (fun i _ => (intOf i + 1).toNat)
  case atStart => exact ⟨8, by omega, rfl, by rw [hi_eight HC.out, hi_eight HM.out]; exact hs⟩
  case round =>
    obtain ⟨k, hk, rfl, hst⟩ := hrel
    clear hs
    cases k with
    | zero =>
      go_wp2_with fail
      go_ret
      exact ⟨rfl, by rw [hi_zero, hi_zero] at hst; exact hst⟩
    | succ j =>
      have hj0 : 0 ≤ (j : Int) := by omega
      have hj1 : (j : Int) ≤ 7 := by omega
      have hj8 : j < 8 := by omega
      have B1 := bit_test HC.out j
      have B2 := bit_test HM.out j
      cases t1 : tb c j <;> cases t2 : tb m j
      all_goals rw [t1] at B1
      all_goals rw [t2] at B2
      · have hst' := hst.change (hi_skip HC.out hj8 t1) (hi_skip HM.out hj8 t2)
        clear hst t1 t2
        go_wp2_with fail
        go_roundw
        case rel => exact ⟨j, by omega, by go_num, hst'⟩
        case measure => simp [intOf]
      · have g1 := Lib.hid (hi_skip HC.out hj8 t1)
        have g2 := Lib.hid (hi_set HM.out hj8 t2)
        clear t1 t2
        go_wp2_with (go_at_call 13; refine (mask_on _ hj0 hj1 hst).mono ?_; rintro e w2 ⟨rfl, hst2⟩)
        have hst' := hst2.change g1.out g2.out
        go_roundw
        case rel => exact ⟨j, by omega, by go_num, hst'⟩
        case measure => simp [intOf]
      · have g1 := Lib.hid (hi_set HC.out hj8 t1)
        have g2 := Lib.hid (hi_skip HM.out hj8 t2)
        clear t1 t2
        go_wp2_with (go_at_call 12; refine (raise_in _ hj0 hj1 hst).mono ?_; rintro e w2 ⟨rfl, hst2⟩)
        have hst' := hst2.change g1.out g2.out
        go_roundw
        case rel => exact ⟨j, by omega, by go_num, hst'⟩
        case measure => simp [intOf]
      · have g1 := Lib.hid (hi_set HC.out hj8 t1)
        have g2 := Lib.hid (hi_set HM.out hj8 t2)
        clear t1 t2
        go_wp2_with (first | (go_at_call 12; refine (raise_in _ hj0 hj1 hst).mono ?_; rintro e w2 ⟨rfl, hst2⟩) | (go_at_call 13; refine (mask_on _ hj0 hj1 hst2).mono ?_; rintro e w3 ⟨rfl, hst3⟩))
        have hst' := hst3.change g1.out g2.out
        go_roundw
        case rel => exact ⟨j, by omega, by go_num, hst'⟩
        case measure => simp [intOf]

theorem set_step (w0 w : World) (c m : Int) (hc : b8 c) (hm : b8 m) (h : Okw w0 w) :
    Calls Try.prog 22 #[.int .u8 c, .int .u8 m] w fun e w' => e = .returned (.pointer (some ⟨w.heap.size, 0, none⟩)) ∧ St w0 w.heap.size c m w' :=
  set_at w0 w c m _ rfl hc hm h
end Go.Proofs.Ytijclpkfmkbkpaa
