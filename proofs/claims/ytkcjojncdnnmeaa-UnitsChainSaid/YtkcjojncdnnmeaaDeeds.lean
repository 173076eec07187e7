/-
  units.Do and units.Holds, at every Op: what they answer; nothing that was there is turned. The numbers fit 32 bits; no other condition.
-/
import Derived.Test.YtkcjojncdnnmeaaFns
namespace Go.Proofs.Ytkcjojncdnnmeaa
open Go.RowKit Go.ChangeMaps Go.MapKept

/-- What an Op makes of two numbers; what is refused is 0. -/
def doV (o a b : Int) : Int :=
  if o = 3 then (a + b) % 4294967296 else if o = 4 then (a - b) % 4294967296 else if o = 5 then a * b % 4294967296
  else if o = 6 then bits BinOp.and .u32 a b else if o = 7 then bits BinOp.or .u32 a b else if o = 8 then bits BinOp.xor .u32 a b
  else if o = 9 then shlV a b else if o = 10 then shrV a b else 0
/-- Its error. -/
def doE (o : Int) : Int := if 3 ≤ o ∧ o ≤ 10 then 0 else 1
/-- Whether an Op's comparison holds; what is refused does not. -/
def hoV (o a b : Int) : Bool :=
  if o = 15 then a == b else if o = 16 then a != b else if o = 17 then decide (sg a < sg b) else if o = 18 then decide (a < b) else false
/-- Its error. -/
def hoE (o : Int) : Int := if 15 ≤ o ∧ o ≤ 18 then 0 else 1

/-- A whole number's key is found, or is not, by the numbers alone. -/
theorem find_no (k : Int) : ∀ (l : List (Nat × Nat × Nat)) (i : Nat), (∀ x ∈ l, k ≠ (x.1 : Int)) →
    Instr.findNow (.int .u8) (.int .u8 k) (l.map fun x => ent x.1 x.2.1 x.2.2) i = some none
  | [], _, _ => rfl
  | x :: r, i, h => by
    have h1 : (k == (x.1 : Int)) = false := by rw [beq_eq_false_iff_ne]; exact h x (.head _)
    have h2 := find_no k r (i + 1) (fun y hy => h y (.tail _ hy))
    simp [Instr.findNow, Instr.sameNow, ent, h1]
    simpa [ent] using h2

theorem zeroDeed (w : World) : (zeroValue 41).run Try.prog w = .ok (.nilFunc) w := by kernel_rfl

set_option maxHeartbeats 400000 in
theorem do3_any (a b : Int) (w : World) : Calls Try.prog 14 #[.int .u8 3, .int .u32 a, .int .u32 b] w fun e w' => e = .returned (.tuple #[.int .u32 ((a + b) % 4294967296), .int .i64 0]) ∧ Below w.heap.size w w' := by
  have hl := run_look (P := Try.prog) Try.underlying43 Try.underlying22 (w.alloc (.map deedsArr 8)) w.heap.size deedsArr 8 3 0 (.func (.func 30) #[] #[]) (MapKept.heap_alloc w _).1 rfl
  go_enter Try.func14, Try.ntmps14
  go_wp2_with (first | (go_at_call 22; refine (deeds_any _).mono ?_; rintro e w1 ⟨rfl, rfl⟩) | (go_at_call 30; refine (f30_any _ _ _).mono ?_; rintro e w1 ⟨rfl, rfl⟩))
  go_ret2
  exact ⟨rfl, (Below.refl _ _).alloc (Nat.le_refl _) _⟩

set_option maxHeartbeats 400000 in
theorem do4_any (a b : Int) (w : World) : Calls Try.prog 14 #[.int .u8 4, .int .u32 a, .int .u32 b] w fun e w' => e = .returned (.tuple #[.int .u32 ((a - b) % 4294967296), .int .i64 0]) ∧ Below w.heap.size w w' := by
  have hl := run_look (P := Try.prog) Try.underlying43 Try.underlying22 (w.alloc (.map deedsArr 8)) w.heap.size deedsArr 8 4 1 (.func (.func 31) #[] #[]) (MapKept.heap_alloc w _).1 rfl
  go_enter Try.func14, Try.ntmps14
  go_wp2_with (first | (go_at_call 22; refine (deeds_any _).mono ?_; rintro e w1 ⟨rfl, rfl⟩) | (go_at_call 31; refine (f31_any _ _ _).mono ?_; rintro e w1 ⟨rfl, rfl⟩))
  go_ret2
  exact ⟨rfl, (Below.refl _ _).alloc (Nat.le_refl _) _⟩

set_option maxHeartbeats 400000 in
theorem do5_any (a b : Int) (w : World) : Calls Try.prog 14 #[.int .u8 5, .int .u32 a, .int .u32 b] w fun e w' => e = .returned (.tuple #[.int .u32 (a * b % 4294967296), .int .i64 0]) ∧ Below w.heap.size w w' := by
  have hl := run_look (P := Try.prog) Try.underlying43 Try.underlying22 (w.alloc (.map deedsArr 8)) w.heap.size deedsArr 8 5 2 (.func (.func 32) #[] #[]) (MapKept.heap_alloc w _).1 rfl
  go_enter Try.func14, Try.ntmps14
  go_wp2_with (first | (go_at_call 22; refine (deeds_any _).mono ?_; rintro e w1 ⟨rfl, rfl⟩) | (go_at_call 32; refine (f32_any _ _ _).mono ?_; rintro e w1 ⟨rfl, rfl⟩))
  go_ret2
  exact ⟨rfl, (Below.refl _ _).alloc (Nat.le_refl _) _⟩

set_option maxHeartbeats 400000 in
theorem do6_any (a b : Int) (w : World) : Calls Try.prog 14 #[.int .u8 6, .int .u32 a, .int .u32 b] w fun e w' => e = .returned (.tuple #[.int .u32 (bits BinOp.and .u32 a b), .int .i64 0]) ∧ Below w.heap.size w w' := by
  have hl := run_look (P := Try.prog) Try.underlying43 Try.underlying22 (w.alloc (.map deedsArr 8)) w.heap.size deedsArr 8 6 3 (.func (.func 33) #[] #[]) (MapKept.heap_alloc w _).1 rfl
  go_enter Try.func14, Try.ntmps14
  go_wp2_with (first | (go_at_call 22; refine (deeds_any _).mono ?_; rintro e w1 ⟨rfl, rfl⟩) | (go_at_call 33; refine (f33_any _ _ _).mono ?_; rintro e w1 ⟨rfl, rfl⟩))
  go_ret2
  exact ⟨rfl, (Below.refl _ _).alloc (Nat.le_refl _) _⟩

set_option maxHeartbeats 400000 in
theorem do7_any (a b : Int) (w : World) : Calls Try.prog 14 #[.int .u8 7, .int .u32 a, .int .u32 b] w fun e w' => e = .returned (.tuple #[.int .u32 (bits BinOp.or .u32 a b), .int .i64 0]) ∧ Below w.heap.size w w' := by
  have hl := run_look (P := Try.prog) Try.underlying43 Try.underlying22 (w.alloc (.map deedsArr 8)) w.heap.size deedsArr 8 7 4 (.func (.func 34) #[] #[]) (MapKept.heap_alloc w _).1 rfl
  go_enter Try.func14, Try.ntmps14
  go_wp2_with (first | (go_at_call 22; refine (deeds_any _).mono ?_; rintro e w1 ⟨rfl, rfl⟩) | (go_at_call 34; refine (f34_any _ _ _).mono ?_; rintro e w1 ⟨rfl, rfl⟩))
  go_ret2
  exact ⟨rfl, (Below.refl _ _).alloc (Nat.le_refl _) _⟩

set_option maxHeartbeats 400000 in
theorem do8_any (a b : Int) (w : World) : Calls Try.prog 14 #[.int .u8 8, .int .u32 a, .int .u32 b] w fun e w' => e = .returned (.tuple #[.int .u32 (bits BinOp.xor .u32 a b), .int .i64 0]) ∧ Below w.heap.size w w' := by
  have hl := run_look (P := Try.prog) Try.underlying43 Try.underlying22 (w.alloc (.map deedsArr 8)) w.heap.size deedsArr 8 8 5 (.func (.func 35) #[] #[]) (MapKept.heap_alloc w _).1 rfl
  go_enter Try.func14, Try.ntmps14
  go_wp2_with (first | (go_at_call 22; refine (deeds_any _).mono ?_; rintro e w1 ⟨rfl, rfl⟩) | (go_at_call 35; refine (f35_any _ _ _).mono ?_; rintro e w1 ⟨rfl, rfl⟩))
  go_ret2
  exact ⟨rfl, (Below.refl _ _).alloc (Nat.le_refl _) _⟩

set_option maxHeartbeats 400000 in
theorem do9_any (a b : Int) (w : World) (hb0 : 0 ≤ b) (hb1 : b ≤ 4294967295) : Calls Try.prog 14 #[.int .u8 9, .int .u32 a, .int .u32 b] w fun e w' => e = .returned (.tuple #[.int .u32 (shlV a b), .int .i64 0]) ∧ Below w.heap.size w w' := by
  have hl := run_look (P := Try.prog) Try.underlying43 Try.underlying22 (w.alloc (.map deedsArr 8)) w.heap.size deedsArr 8 9 6 (.func (.func 36) #[] #[]) (MapKept.heap_alloc w _).1 rfl
  go_enter Try.func14, Try.ntmps14
  go_wp2_with (first | (go_at_call 22; refine (deeds_any _).mono ?_; rintro e w1 ⟨rfl, rfl⟩) | (go_at_call 36; refine (f36_any _ _ _ hb0 hb1).mono ?_; rintro e w1 ⟨rfl, rfl⟩))
  go_ret2
  exact ⟨rfl, (Below.refl _ _).alloc (Nat.le_refl _) _⟩

set_option maxHeartbeats 400000 in
theorem do10_any (a b : Int) (w : World) (hb0 : 0 ≤ b) (hb1 : b ≤ 4294967295) : Calls Try.prog 14 #[.int .u8 10, .int .u32 a, .int .u32 b] w fun e w' => e = .returned (.tuple #[.int .u32 (shrV a b), .int .i64 0]) ∧ Below w.heap.size w w' := by
  have hl := run_look (P := Try.prog) Try.underlying43 Try.underlying22 (w.alloc (.map deedsArr 8)) w.heap.size deedsArr 8 10 7 (.func (.func 37) #[] #[]) (MapKept.heap_alloc w _).1 rfl
  go_enter Try.func14, Try.ntmps14
  go_wp2_with (first | (go_at_call 22; refine (deeds_any _).mono ?_; rintro e w1 ⟨rfl, rfl⟩) | (go_at_call 37; refine (f37_any _ _ _ hb0 hb1).mono ?_; rintro e w1 ⟨rfl, rfl⟩))
  go_ret2
  exact ⟨rfl, (Below.refl _ _).alloc (Nat.le_refl _) _⟩

set_option maxHeartbeats 400000 in
theorem doNo_any (o a b : Int) (w : World) (ho : ¬ (3 ≤ o ∧ o ≤ 10)) : Calls Try.prog 14 #[.int .u8 o, .int .u32 a, .int .u32 b] w fun e w' => e = .returned (.tuple #[.int .u32 0, .int .i64 1]) ∧ Below w.heap.size w w' := by
  have hf : Instr.findNow (.int .u8) (.int .u8 o) deedsArr.toList 0 = some none :=
    find_no o [(3, 30, 0), (4, 31, 1), (5, 32, 2), (6, 33, 3), (7, 34, 4), (8, 35, 5), (9, 36, 6), (10, 37, 7)] 0 (by simp; omega)
  have hl := run_look_none (P := Try.prog) Try.underlying43 Try.underlying22 (w.alloc (.map deedsArr 8)) w.heap.size deedsArr 8 o _ (MapKept.heap_alloc w _).1 (zeroDeed _) hf
  clear hf ho
  go_enter Try.func14, Try.ntmps14
  go_wp2_with (go_at_call 22; refine (deeds_any _).mono ?_; rintro e w1 ⟨rfl, rfl⟩)
  go_ret2
  exact ⟨rfl, (Below.refl _ _).alloc (Nat.le_refl _) _⟩

theorem zeroAsk (w : World) : (zeroValue 33).run Try.prog w = .ok (.nilFunc) w := by kernel_rfl

set_option maxHeartbeats 400000 in
theorem ho15_any (a b : Int) (w : World) : Calls Try.prog 12 #[.int .u8 15, .int .u32 a, .int .u32 b] w fun e w' => e = .returned (.tuple #[.bool (a == b), .int .i64 0]) ∧ Below w.heap.size w w' := by
  have hl := run_look (P := Try.prog) Try.underlying39 Try.underlying22 (w.alloc (.map asksArr 4)) w.heap.size asksArr 4 15 0 (.func (.func 26) #[] #[]) (MapKept.heap_alloc w _).1 rfl
  go_enter Try.func12, Try.ntmps12
  go_wp2_with (first | (go_at_call 20; refine (asks_any _).mono ?_; rintro e w1 ⟨rfl, rfl⟩) | (go_at_call 26; refine (f26_any _ _ _).mono ?_; rintro e w1 ⟨rfl, rfl⟩))
  go_ret2
  exact ⟨rfl, (Below.refl _ _).alloc (Nat.le_refl _) _⟩

set_option maxHeartbeats 400000 in
theorem ho16_any (a b : Int) (w : World) : Calls Try.prog 12 #[.int .u8 16, .int .u32 a, .int .u32 b] w fun e w' => e = .returned (.tuple #[.bool (a != b), .int .i64 0]) ∧ Below w.heap.size w w' := by
  have hl := run_look (P := Try.prog) Try.underlying39 Try.underlying22 (w.alloc (.map asksArr 4)) w.heap.size asksArr 4 16 1 (.func (.func 27) #[] #[]) (MapKept.heap_alloc w _).1 rfl
  go_enter Try.func12, Try.ntmps12
  go_wp2_with (first | (go_at_call 20; refine (asks_any _).mono ?_; rintro e w1 ⟨rfl, rfl⟩) | (go_at_call 27; refine (f27_any _ _ _).mono ?_; rintro e w1 ⟨rfl, rfl⟩))
  go_ret2
  exact ⟨rfl, (Below.refl _ _).alloc (Nat.le_refl _) _⟩

set_option maxHeartbeats 400000 in
theorem ho17_any (a b : Int) (w : World) : Calls Try.prog 12 #[.int .u8 17, .int .u32 a, .int .u32 b] w fun e w' => e = .returned (.tuple #[.bool (decide (sg a < sg b)), .int .i64 0]) ∧ Below w.heap.size w w' := by
  have hl := run_look (P := Try.prog) Try.underlying39 Try.underlying22 (w.alloc (.map asksArr 4)) w.heap.size asksArr 4 17 2 (.func (.func 28) #[] #[]) (MapKept.heap_alloc w _).1 rfl
  go_enter Try.func12, Try.ntmps12
  go_wp2_with (first | (go_at_call 20; refine (asks_any _).mono ?_; rintro e w1 ⟨rfl, rfl⟩) | (go_at_call 28; refine (f28_any _ _ _).mono ?_; rintro e w1 ⟨rfl, rfl⟩))
  go_ret2
  exact ⟨rfl, (Below.refl _ _).alloc (Nat.le_refl _) _⟩

set_option maxHeartbeats 400000 in
theorem ho18_any (a b : Int) (w : World) : Calls Try.prog 12 #[.int .u8 18, .int .u32 a, .int .u32 b] w fun e w' => e = .returned (.tuple #[.bool (decide (a < b)), .int .i64 0]) ∧ Below w.heap.size w w' := by
  have hl := run_look (P := Try.prog) Try.underlying39 Try.underlying22 (w.alloc (.map asksArr 4)) w.heap.size asksArr 4 18 3 (.func (.func 29) #[] #[]) (MapKept.heap_alloc w _).1 rfl
  go_enter Try.func12, Try.ntmps12
  go_wp2_with (first | (go_at_call 20; refine (asks_any _).mono ?_; rintro e w1 ⟨rfl, rfl⟩) | (go_at_call 29; refine (f29_any _ _ _).mono ?_; rintro e w1 ⟨rfl, rfl⟩))
  go_ret2
  exact ⟨rfl, (Below.refl _ _).alloc (Nat.le_refl _) _⟩

set_option maxHeartbeats 400000 in
theorem hoNo_any (o a b : Int) (w : World) (ho : ¬ (15 ≤ o ∧ o ≤ 18)) : Calls Try.prog 12 #[.int .u8 o, .int .u32 a, .int .u32 b] w fun e w' => e = .returned (.tuple #[.bool false, .int .i64 1]) ∧ Below w.heap.size w w' := by
  have hf : Instr.findNow (.int .u8) (.int .u8 o) asksArr.toList 0 = some none :=
    find_no o [(15, 26, 0), (16, 27, 1), (17, 28, 2), (18, 29, 3)] 0 (by simp; omega)
  have hl := run_look_none (P := Try.prog) Try.underlying39 Try.underlying22 (w.alloc (.map asksArr 4)) w.heap.size asksArr 4 o _ (MapKept.heap_alloc w _).1 (zeroAsk _) hf
  clear hf ho
  go_enter Try.func12, Try.ntmps12
  go_wp2_with (go_at_call 20; refine (asks_any _).mono ?_; rintro e w1 ⟨rfl, rfl⟩)
  go_ret2
  exact ⟨rfl, (Below.refl _ _).alloc (Nat.le_refl _) _⟩

theorem do_any (o a b : Int) (w : World) (hb0 : 0 ≤ b) (hb1 : b ≤ 4294967295) :
    Calls Try.prog 14 #[.int .u8 o, .int .u32 a, .int .u32 b] w fun e w' => e = .returned (.tuple #[.int .u32 (doV o a b), .int .i64 (doE o)]) ∧ Below w.heap.size w w' := by
  by_cases ho : 3 ≤ o ∧ o ≤ 10
  · have hc : o = 3 ∨ o = 4 ∨ o = 5 ∨ o = 6 ∨ o = 7 ∨ o = 8 ∨ o = 9 ∨ o = 10 := by omega
    rcases hc with rfl | rfl | rfl | rfl | rfl | rfl | rfl | rfl
    · exact do3_any a b w
    · exact do4_any a b w
    · exact do5_any a b w
    · exact do6_any a b w
    · exact do7_any a b w
    · exact do8_any a b w
    · exact do9_any a b w hb0 hb1
    · exact do10_any a b w hb0 hb1
  · have e1 : doV o a b = 0 := by
      unfold doV
      rw [if_neg (by omega), if_neg (by omega), if_neg (by omega), if_neg (by omega), if_neg (by omega), if_neg (by omega), if_neg (by omega), if_neg (by omega)]
    have e2 : doE o = 1 := by unfold doE; rw [if_neg ho]
    rw [e1, e2]; exact doNo_any o a b w ho

theorem ho_any (o a b : Int) (w : World) :
    Calls Try.prog 12 #[.int .u8 o, .int .u32 a, .int .u32 b] w fun e w' => e = .returned (.tuple #[.bool (hoV o a b), .int .i64 (hoE o)]) ∧ Below w.heap.size w w' := by
  by_cases ho : 15 ≤ o ∧ o ≤ 18
  · have hc : o = 15 ∨ o = 16 ∨ o = 17 ∨ o = 18 := by omega
    rcases hc with rfl | rfl | rfl | rfl
    · exact ho15_any a b w
    · exact ho16_any a b w
    · exact ho17_any a b w
    · exact ho18_any a b w
  · have e1 : hoV o a b = false := by
      unfold hoV
      rw [if_neg (by omega), if_neg (by omega), if_neg (by omega), if_neg (by omega)]
    have e2 : hoE o = 1 := by unfold hoE; rw [if_neg ho]
    rw [e1, e2]; exact hoNo_any o a b w ho

/-- What the statements' 'do' answers. -/
def dw (o a b : Int) : Int := if doE o = 0 then doV o a b else 4294967219
/-- What the statements' 'holds' answers. -/
def hw (o a b : Int) : Bool := hoV o a b && (hoE o == 0)

set_option maxHeartbeats 400000 in
theorem dw_any (o a b : Int) (w : World) (hb0 : 0 ≤ b) (hb1 : b ≤ 4294967295) :
    Calls Try.prog 16 #[.int .u8 o, .int .u32 a, .int .u32 b] w fun e w' => e = .returned (.int .u32 (dw o a b)) ∧ Below w.heap.size w w' := by
  by_cases h : doE o = 0
  · have e : Hid (dw o a b = doV o a b) := by show dw o a b = _; unfold dw; rw [if_pos h]
    have h1 : (doE o != 0) = false := by rw [h]; rfl
    clear h
    go_enter Try.func16, Try.ntmps16
    go_wp2_with (go_at_call 14; refine (do_any _ _ _ _ hb0 hb1).mono ?_; rintro e w1 ⟨rfl, hw1⟩)
    go_ret
    rw [e.out]; exact ⟨rfl, hw1⟩
  · have e : Hid (dw o a b = 4294967219) := by show dw o a b = _; unfold dw; rw [if_neg h]
    have h1 : (doE o != 0) = true := by rw [bne_iff_ne]; exact h
    clear h
    go_enter Try.func16, Try.ntmps16
    go_wp2_with (go_at_call 14; refine (do_any _ _ _ _ hb0 hb1).mono ?_; rintro e w1 ⟨rfl, hw1⟩)
    go_ret
    rw [e.out]; exact ⟨rfl, hw1⟩

set_option maxHeartbeats 400000 in
theorem hw_any (o a b : Int) (w : World) :
    Calls Try.prog 18 #[.int .u8 o, .int .u32 a, .int .u32 b] w fun e w' => e = .returned (.bool (hw o a b)) ∧ Below w.heap.size w w' := by
  cases h : hoV o a b
  · have e : Hid (hw o a b = false) := by show hw o a b = _; unfold hw; rw [h]; rfl
    go_enter Try.func18, Try.ntmps18
    go_wp2_with (go_at_call 12; refine (ho_any _ _ _ _).mono ?_; rintro e w1 ⟨rfl, hw1⟩)
    go_ret
    rw [e.out]; exact ⟨rfl, hw1⟩
  · have e : Hid (hw o a b = (hoE o == 0)) := by show hw o a b = _; unfold hw; rw [h]; rfl
    go_enter Try.func18, Try.ntmps18
    go_wp2_with (go_at_call 12; refine (ho_any _ _ _ _).mono ?_; rintro e w1 ⟨rfl, hw1⟩)
    go_ret
    rw [e.out]; exact ⟨rfl, hw1⟩
end Go.Proofs.Ytkcjojncdnnmeaa
