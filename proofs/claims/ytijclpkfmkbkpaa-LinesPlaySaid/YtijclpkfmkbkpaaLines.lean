/-
  Package lines, function by function: what each answers, and what it does to the lines' own block. No condition but that the lines lie in a block of their own.
-/
import Derived.Test.YtijclpkfmkbkpaaRows
import Derived.WalkKit
import Derived.WalkLawsBesides
import Derived.Carry
import Derived.Lib.Hide
import Derived.Lib.BitFns
namespace Go.Proofs.Ytijclpkfmkbkpaa
open Go.RowKit

/-- The lines' block: who calls, who is masked. -/
def ob (c m : Int) : Obj := .cells #[.int .u8 c, .int .u8 m, .bool true] 25

section
variable {w : World} {p : Nat} {c m : Int}
theorem ob_calls (h : w.heap[p]? = some (ob c m)) : w.cell? ⟨p, 0, none⟩ = some (.int .u8 c) := by unfold World.cell?; rw [h]; rfl
theorem ob_masks (h : w.heap[p]? = some (ob c m)) : w.cell? ⟨p, 1, none⟩ = some (.int .u8 m) := by unfold World.cell?; rw [h]; rfl
theorem ob_made (h : w.heap[p]? = some (ob c m)) : w.cell? ⟨p, 2, none⟩ = some (.bool true) := by unfold World.cell?; rw [h]; rfl
theorem ob_free (h : w.heap[p]? = some (ob c m)) (i : Nat) : w.frozen? ⟨p, i, none⟩ = false := by simp [World.frozen?, h, ob]
theorem ob_setCalls (h : w.heap[p]? = some (ob c m)) (c' : Int) : (w.setCell ⟨p, 0, none⟩ (.int .u8 c')).heap[p]? = some (ob c' m) := by
  simp [World.setCell, Array.getElem?_modify, h, ob]
theorem ob_setMasks (h : w.heap[p]? = some (ob c m)) (m' : Int) : (w.setCell ⟨p, 1, none⟩ (.int .u8 m')).heap[p]? = some (ob c m') := by
  simp [World.setCell, Array.getElem?_modify, h, ob]
end

set_option maxHeartbeats 400000 in
theorem new_any (w : World) : Calls Try.prog 16 #[] w fun e w' => e = .returned (.pointer (some ⟨w.heap.size, 0, none⟩)) ∧ w.alloc (ob 0 0) = w' := by
  go_enter Try.func16, Try.ntmps16
  go_wp2
  go_ret
  exact ⟨rfl, rfl⟩

set_option maxHeartbeats 400000 in
theorem there_any (w : World) (p : Nat) (c m : Int) (h : w.heap[p]? = some (ob c m)) : Calls Try.prog 24 #[.pointer (some ⟨p, 0, none⟩)] w fun e w' => e = .returned (.bool true) ∧ w = w' := by
  have hc := ob_made h
  go_enter Try.func24, Try.ntmps24
  go_wp2
  go_ret
  exact ⟨rfl, rfl⟩

set_option maxHeartbeats 400000 in
theorem there_nil (w : World) : Calls Try.prog 24 #[.pointer none] w fun e w' => e = .returned (.bool false) ∧ w = w' := by
  go_enter Try.func24, Try.ntmps24
  go_wp2
  go_ret
  exact ⟨rfl, rfl⟩

set_option maxHeartbeats 400000 in
theorem calls_any (w : World) (p : Nat) (c m : Int) (h : w.heap[p]? = some (ob c m)) : Calls Try.prog 14 #[.pointer (some ⟨p, 0, none⟩)] w fun e w' => e = .returned (.int .u8 c) ∧ w = w' := by
  have hc := ob_calls h
  go_enter Try.func14, Try.ntmps14
  go_wp2
  go_ret
  exact ⟨rfl, rfl⟩

set_option maxHeartbeats 400000 in
theorem masks_any (w : World) (p : Nat) (c m : Int) (h : w.heap[p]? = some (ob c m)) : Calls Try.prog 15 #[.pointer (some ⟨p, 0, none⟩)] w fun e w' => e = .returned (.int .u8 m) ∧ w = w' := by
  have hc := ob_masks h
  go_enter Try.func15, Try.ntmps15
  go_wp2
  go_ret
  exact ⟨rfl, rfl⟩

theorem ntz_eq (x : Int) (h0 : 0 ≤ x) (h1 : x ≤ 255) : wrap64 (Lib.ntz8 x) = (Lib.trailingZeros8 x.toNat : Int) := by
  have e := Lib.ntz8_eq ⟨x.toNat, by omega⟩
  have l := Lib.trailingZeros8_le8 ⟨x.toNat, by omega⟩
  simp only [Int.toNat_of_nonneg h0] at e
  simp only at l
  rw [e]
  unfold wrap64
  omega

set_option maxHeartbeats 400000 in
theorem ctz_any (x : Int) (w : World) (h0 : 0 ≤ x) (h1 : x ≤ 255) : Calls Try.prog 25 #[.int .u8 x] w fun e w' => e = .returned (.int .i64 (Lib.trailingZeros8 x.toNat)) ∧ w = w' := by
  have e : Hid (wrap64 (Lib.ntz8 x) = (Lib.trailingZeros8 x.toNat : Int)) := Lib.hid (ntz_eq x h0 h1)
  go_enter Try.func25, Try.ntmps25
  go_wp2
  go_ret
  rw [← e.out]; exact ⟨rfl, rfl⟩

/-- A bit more. -/
def setB (r i : Int) : Int := bits BinOp.or .u8 r (2 ^ i.toNat % 256)
/-- A bit less. -/
def clrB (r i : Int) : Int := bits BinOp.andNot .u8 r (2 ^ i.toNat % 256)
/-- The error of a line that is, or is not, there. -/
def erL (i : Int) : Int := if 0 ≤ i ∧ i ≤ 7 then 0 else 1

set_option maxHeartbeats 400000 in
theorem with_any (r i : Int) (w : World) (h0 : 0 ≤ i) (h1 : i ≤ 7) : Calls Try.prog 29 #[.int .u8 r, .int .i64 i] w fun e w' => e = .returned (.int .u8 (setB r i)) ∧ w = w' := by
  go_enter Try.func29, Try.ntmps29
  go_wp2
  go_ret
  exact ⟨rfl, rfl⟩

set_option maxHeartbeats 400000 in
theorem without_any (r i : Int) (w : World) (h0 : 0 ≤ i) (h1 : i ≤ 7) : Calls Try.prog 26 #[.int .u8 r, .int .i64 i] w fun e w' => e = .returned (.int .u8 (clrB r i)) ∧ w = w' := by
  go_enter Try.func26, Try.ntmps26
  go_wp2
  go_ret
  exact ⟨rfl, rfl⟩

set_option maxHeartbeats 400000 in
theorem atCalls_any (w : World) (B p : Nat) (hB : w.cell? ⟨B, 0, none⟩ = some (.pointer (some ⟨p, 0, none⟩))) :
    Calls Try.prog 28 #[.pointer (some ⟨B, 0, none⟩)] w fun e w' => e = .returned (.pointer (some ⟨p, 0, none⟩)) ∧ w = w' := by
  go_enter Try.func28, Try.ntmps28
  go_wp2
  go_ret
  exact ⟨rfl, rfl⟩

set_option maxHeartbeats 400000 in
theorem atMasks_any (w : World) (B p : Nat) (hB : w.cell? ⟨B, 0, none⟩ = some (.pointer (some ⟨p, 0, none⟩))) :
    Calls Try.prog 30 #[.pointer (some ⟨B, 0, none⟩)] w fun e w' => e = .returned (.pointer (some ⟨p, 1, none⟩)) ∧ w = w' := by
  go_enter Try.func30, Try.ntmps30
  go_wp2
  go_ret
  exact ⟨rfl, rfl⟩

/-- What a turn of a bit did: nothing, where the line is not there. -/
def turned (w : World) (p j : Nat) (i v : Int) : World := if 0 ≤ i ∧ i ≤ 7 then w.setCell ⟨p, j, none⟩ (.int .u8 v) else w

set_option maxHeartbeats 1000000 in
theorem turnR_any (w : World) (B p : Nat) (c m i : Int) (h : w.heap[p]? = some (ob c m)) (hB : w.cell? ⟨B, 0, none⟩ = some (.pointer (some ⟨p, 0, none⟩))) :
    Calls Try.prog 27 #[.pointer (some ⟨p, 0, none⟩), .int .i64 i, .func (.func 28) #[] #[.pointer (some ⟨B, 0, none⟩)], .func (.func 29) #[] #[]] w
      fun e w' => e = .returned (.int .i64 (erL i)) ∧ turned w p 0 i (setB c i) = w' := by
  by_cases hi : i < 0
  · have e : Hid (erL i = 1) := by show erL i = 1; unfold erL; rw [if_neg (by omega)]
    have e2 : Hid (turned w p 0 i (setB c i) = w) := by show turned w p 0 i (setB c i) = w; unfold turned; rw [if_neg (by omega)]
    go_enter Try.func27, Try.ntmps27
    go_wp2_with (go_at_call 24; refine (there_any _ p c m h).mono ?_; rintro e w1 ⟨rfl, rfl⟩)
    go_ret
    rw [e.out, e2.out]; exact ⟨rfl, rfl⟩
  · by_cases hi2 : 8 ≤ i
    · have e : Hid (erL i = 1) := by show erL i = 1; unfold erL; rw [if_neg (by omega)]
      have e2 : Hid (turned w p 0 i (setB c i) = w) := by show turned w p 0 i (setB c i) = w; unfold turned; rw [if_neg (by omega)]
      have hd : decide (i < 0) = false := by rw [decide_eq_false_iff_not]; exact hi
      clear hi
      go_enter Try.func27, Try.ntmps27
      go_wp2_with (go_at_call 24; refine (there_any _ p c m h).mono ?_; rintro e w1 ⟨rfl, rfl⟩)
      go_ret
      rw [e.out, e2.out]; exact ⟨rfl, rfl⟩
    · have e : Hid (erL i = 0) := by show erL i = 0; unfold erL; rw [if_pos (by omega)]
      have e2 : Hid (turned w p 0 i (setB c i) = w.setCell ⟨p, 0, none⟩ (.int .u8 (setB c i))) := by show turned w p 0 i (setB c i) = _; unfold turned; rw [if_pos (by omega)]
      have hd : decide (i < 0) = false := by rw [decide_eq_false_iff_not]; exact hi
      have hd2 : decide (8 ≤ i) = false := by rw [decide_eq_false_iff_not]; exact hi2
      have h0 : 0 ≤ i := by omega
      have h1 : i ≤ 7 := by omega
      have hc := ob_calls h
      have hf := ob_free h 0
      clear hi hi2
      go_enter Try.func27, Try.ntmps27
      go_wp2_with (first | (go_at_call 24; refine (there_any _ p c m h).mono ?_; rintro e w1 ⟨rfl, rfl⟩) | (go_at_call 28; refine (atCalls_any _ B p hB).mono ?_; rintro e w1 ⟨rfl, rfl⟩) | (go_at_call 29; refine (with_any _ _ _ h0 h1).mono ?_; rintro e w1 ⟨rfl, rfl⟩))
      go_ret
      rw [e.out, e2.out]; exact ⟨rfl, rfl⟩

set_option maxHeartbeats 1000000 in
theorem turnMon_any (w : World) (B p : Nat) (c m i : Int) (h : w.heap[p]? = some (ob c m)) (hB : w.cell? ⟨B, 0, none⟩ = some (.pointer (some ⟨p, 0, none⟩))) :
    Calls Try.prog 27 #[.pointer (some ⟨p, 0, none⟩), .int .i64 i, .func (.func 30) #[] #[.pointer (some ⟨B, 0, none⟩)], .func (.func 29) #[] #[]] w
      fun e w' => e = .returned (.int .i64 (erL i)) ∧ turned w p 1 i (setB m i) = w' := by
  by_cases hi : i < 0
  · have e : Hid (erL i = 1) := by show erL i = 1; unfold erL; rw [if_neg (by omega)]
    have e2 : Hid (turned w p 1 i (setB m i) = w) := by show turned w p 1 i (setB m i) = w; unfold turned; rw [if_neg (by omega)]
    go_enter Try.func27, Try.ntmps27
    go_wp2_with (go_at_call 24; refine (there_any _ p c m h).mono ?_; rintro e w1 ⟨rfl, rfl⟩)
    go_ret
    rw [e.out, e2.out]; exact ⟨rfl, rfl⟩
  · by_cases hi2 : 8 ≤ i
    · have e : Hid (erL i = 1) := by show erL i = 1; unfold erL; rw [if_neg (by omega)]
      have e2 : Hid (turned w p 1 i (setB m i) = w) := by show turned w p 1 i (setB m i) = w; unfold turned; rw [if_neg (by omega)]
      have hd : decide (i < 0) = false := by rw [decide_eq_false_iff_not]; exact hi
      clear hi
      go_enter Try.func27, Try.ntmps27
      go_wp2_with (go_at_call 24; refine (there_any _ p c m h).mono ?_; rintro e w1 ⟨rfl, rfl⟩)
      go_ret
      rw [e.out, e2.out]; exact ⟨rfl, rfl⟩
    · have e : Hid (erL i = 0) := by show erL i = 0; unfold erL; rw [if_pos (by omega)]
      have e2 : Hid (turned w p 1 i (setB m i) = w.setCell ⟨p, 1, none⟩ (.int .u8 (setB m i))) := by show turned w p 1 i (setB m i) = _; unfold turned; rw [if_pos (by omega)]
      have hd : decide (i < 0) = false := by rw [decide_eq_false_iff_not]; exact hi
      have hd2 : decide (8 ≤ i) = false := by rw [decide_eq_false_iff_not]; exact hi2
      have h0 : 0 ≤ i := by omega
      have h1 : i ≤ 7 := by omega
      have hc := ob_masks h
      have hf := ob_free h 1
      clear hi hi2
      go_enter Try.func27, Try.ntmps27
      go_wp2_with (first | (go_at_call 24; refine (there_any _ p c m h).mono ?_; rintro e w1 ⟨rfl, rfl⟩) | (go_at_call 30; refine (atMasks_any _ B p hB).mono ?_; rintro e w1 ⟨rfl, rfl⟩) | (go_at_call 29; refine (with_any _ _ _ h0 h1).mono ?_; rintro e w1 ⟨rfl, rfl⟩))
      go_ret
      rw [e.out, e2.out]; exact ⟨rfl, rfl⟩

set_option maxHeartbeats 1000000 in
theorem turnMoff_any (w : World) (B p : Nat) (c m i : Int) (h : w.heap[p]? = some (ob c m)) (hB : w.cell? ⟨B, 0, none⟩ = some (.pointer (some ⟨p, 0, none⟩))) :
    Calls Try.prog 27 #[.pointer (some ⟨p, 0, none⟩), .int .i64 i, .func (.func 30) #[] #[.pointer (some ⟨B, 0, none⟩)], .func (.func 26) #[] #[]] w
      fun e w' => e = .returned (.int .i64 (erL i)) ∧ turned w p 1 i (clrB m i) = w' := by
  by_cases hi : i < 0
  · have e : Hid (erL i = 1) := by show erL i = 1; unfold erL; rw [if_neg (by omega)]
    have e2 : Hid (turned w p 1 i (clrB m i) = w) := by show turned w p 1 i (clrB m i) = w; unfold turned; rw [if_neg (by omega)]
    go_enter Try.func27, Try.ntmps27
    go_wp2_with (go_at_call 24; refine (there_any _ p c m h).mono ?_; rintro e w1 ⟨rfl, rfl⟩)
    go_ret
    rw [e.out, e2.out]; exact ⟨rfl, rfl⟩
  · by_cases hi2 : 8 ≤ i
    · have e : Hid (erL i = 1) := by show erL i = 1; unfold erL; rw [if_neg (by omega)]
      have e2 : Hid (turned w p 1 i (clrB m i) = w) := by show turned w p 1 i (clrB m i) = w; unfold turned; rw [if_neg (by omega)]
      have hd : decide (i < 0) = false := by rw [decide_eq_false_iff_not]; exact hi
      clear hi
      go_enter Try.func27, Try.ntmps27
      go_wp2_with (go_at_call 24; refine (there_any _ p c m h).mono ?_; rintro e w1 ⟨rfl, rfl⟩)
      go_ret
      rw [e.out, e2.out]; exact ⟨rfl, rfl⟩
    · have e : Hid (erL i = 0) := by show erL i = 0; unfold erL; rw [if_pos (by omega)]
      have e2 : Hid (turned w p 1 i (clrB m i) = w.setCell ⟨p, 1, none⟩ (.int .u8 (clrB m i))) := by show turned w p 1 i (clrB m i) = _; unfold turned; rw [if_pos (by omega)]
      have hd : decide (i < 0) = false := by rw [decide_eq_false_iff_not]; exact hi
      have hd2 : decide (8 ≤ i) = false := by rw [decide_eq_false_iff_not]; exact hi2
      have h0 : 0 ≤ i := by omega
      have h1 : i ≤ 7 := by omega
      have hc := ob_masks h
      have hf := ob_free h 1
      clear hi hi2
      go_enter Try.func27, Try.ntmps27
      go_wp2_with (first | (go_at_call 24; refine (there_any _ p c m h).mono ?_; rintro e w1 ⟨rfl, rfl⟩) | (go_at_call 30; refine (atMasks_any _ B p hB).mono ?_; rintro e w1 ⟨rfl, rfl⟩) | (go_at_call 26; refine (without_any _ _ _ h0 h1).mono ?_; rintro e w1 ⟨rfl, rfl⟩))
      go_ret
      rw [e.out, e2.out]; exact ⟨rfl, rfl⟩

end Go.Proofs.Ytijclpkfmkbkpaa
