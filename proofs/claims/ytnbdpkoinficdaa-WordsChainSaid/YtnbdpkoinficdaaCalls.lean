/-
  What the functions of package words, of its reference and 'alive' answer, each by a contract; no condition but that the arguments fit their kinds.
-/
import Derived.Test.YtnbdpkoinficdaaRows
import Derived.WalkKit
import Derived.WalkLawsBesides
namespace Go.Proofs.Ytnbdpkoinficdaa
open Go.RowKit

/-- words.Signed -/
def sg (a : Int) : Int := wrap32 a
/-- words.Of -/
def lo (n : Int) : Int := n % 4294967296
/-- words.Since -/
def sn (a b : Int) : Int := (b - a) % 4294967296
/-- words.Past -/
def ps (a b : Int) : Bool := decide (sn a b < 2147483648)

theorem bd_u32 {a : Int} (w : (Lit.int .u32 a).wf = true) : 0 ≤ a ∧ a ≤ 4294967295 := by
  have hmin : IntKind.u32.min = 0 := rfl
  have hmax : IntKind.u32.max = 4294967295 := rfl
  simp only [Lit.wf, Bool.and_eq_true, decide_eq_true_eq] at w; omega

set_option maxHeartbeats 400000 in
theorem turn1_any (a : Int) (w : World) :
    Calls Try.prog 20 #[.int .u32 a] w fun e w' => e = .returned (.int .i32 (wrap32 a)) ∧ w = w' := by
  go_enter Try.func20, Try.ntmps20
  go_wp2
  go_ret
  exact ⟨rfl, rfl⟩

set_option maxHeartbeats 400000 in
theorem turn2_any (a : Int) (w : World) :
    Calls Try.prog 21 #[.int .i64 a] w fun e w' => e = .returned (.int .u32 (lo a)) ∧ w = w' := by
  go_enter Try.func21, Try.ntmps21
  go_wp2
  go_ret
  exact ⟨rfl, rfl⟩

/-- 'wrap32' fits 64 bits. -/
theorem wrap64_wrap32 (a : Int) : wrap64 (wrap32 a) = wrap32 a := by unfold wrap64 wrap32; omega

set_option maxHeartbeats 400000 in
theorem signed_any (a : Int) (w : World) :
    Calls Try.prog 15 #[.int .u32 a] w fun e w' => e = .returned (.int .i64 (sg a)) ∧ w = w' := by
  have e : Hid (sg a = wrap64 (wrap32 a)) := (wrap64_wrap32 a).symm
  go_enter Try.func15, Try.ntmps15
  go_wp2
  go_ret
  rw [e.out]; exact ⟨rfl, rfl⟩

set_option maxHeartbeats 400000 in
theorem of_any (a : Int) (w : World) :
    Calls Try.prog 17 #[.int .i64 a] w fun e w' => e = .returned (.int .u32 (lo a)) ∧ w = w' := by
  go_enter Try.func17, Try.ntmps17
  go_wp2_with (go_at_call 21; refine (turn2_any _ _).mono ?_; rintro e w' ⟨rfl, rfl⟩)
  go_ret
  exact ⟨rfl, rfl⟩

set_option maxHeartbeats 400000 in
theorem since_any (a b : Int) (w : World) :
    Calls Try.prog 11 #[.int .u32 a, .int .u32 b] w fun e w' => e = .returned (.int .u32 (sn a b)) ∧ w = w' := by
  go_enter Try.func11, Try.ntmps11
  go_wp2
  go_ret
  exact ⟨rfl, rfl⟩

set_option maxHeartbeats 400000 in
theorem past_any (a b : Int) (w : World) :
    Calls Try.prog 13 #[.int .u32 a, .int .u32 b] w fun e w' => e = .returned (.bool (ps a b)) ∧ w = w' := by
  go_enter Try.func13, Try.ntmps13
  go_wp2_with (go_at_call 11; refine (since_any _ _ _).mono ?_; rintro e w' ⟨rfl, rfl⟩)
  go_ret
  exact ⟨rfl, rfl⟩

/-! The reference's functions: the same numbers. -/
set_option maxHeartbeats 400000 in
theorem rsigned_any (a : Int) (w : World) (h0 : 0 ≤ a) (h1 : a ≤ 4294967295) :
    Calls Try.prog 16 #[.int .u32 a] w fun e w' => e = .returned (.int .i64 (sg a)) ∧ w = w' := by
  by_cases h : 2147483648 ≤ a
  · have e : Hid (sg a = a - 4294967296) := by show sg a = _; unfold sg wrap32; omega
    go_enter Try.func16, Try.ntmps16
    go_wp2
    go_ret
    rw [e.out]; exact ⟨rfl, rfl⟩
  · have e : Hid (sg a = a) := by show sg a = _; unfold sg wrap32; omega
    go_enter Try.func16, Try.ntmps16
    go_wp2
    go_ret
    rw [e.out]; exact ⟨rfl, rfl⟩

/-- Go's remainder by 2^32, made whole. -/
theorem tmod_lo (a : Int) : -4294967296 < a.tmod 4294967296 ∧ a.tmod 4294967296 < 4294967296 ∧ (a.tmod 4294967296) % 4294967296 = a % 4294967296 := by
  by_cases h : 0 ≤ a
  · rw [Int.tmod_eq_emod_of_nonneg h]; omega
  · obtain ⟨b, rfl⟩ : ∃ b, a = -b := ⟨-a, by omega⟩
    rw [Int.neg_tmod, Int.tmod_eq_emod_of_nonneg (by omega)]; omega

set_option maxHeartbeats 400000 in
theorem rof_any (a : Int) (w : World) :
    Calls Try.prog 18 #[.int .i64 a] w fun e w' => e = .returned (.int .u32 (lo a)) ∧ w = w' := by
  obtain ⟨b1, b2, b3⟩ := tmod_lo a
  by_cases h : a.tmod 4294967296 < 0
  · have e : Hid (lo a = a.tmod 4294967296 + 4294967296) := by show lo a = _; unfold lo; omega
    clear b3
    go_enter Try.func18, Try.ntmps18
    go_wp2
    go_ret
    rw [e.out]; exact ⟨rfl, rfl⟩
  · have e : Hid (lo a = a.tmod 4294967296) := by show lo a = _; unfold lo; omega
    clear b3
    go_enter Try.func18, Try.ntmps18
    go_wp2
    go_ret
    rw [e.out]; exact ⟨rfl, rfl⟩

set_option maxHeartbeats 400000 in
theorem rsince_any (a b : Int) (w : World) (ha0 : 0 ≤ a) (ha1 : a ≤ 4294967295) (hb0 : 0 ≤ b) (hb1 : b ≤ 4294967295) :
    Calls Try.prog 12 #[.int .u32 a, .int .u32 b] w fun e w' => e = .returned (.int .u32 (sn a b)) ∧ w = w' := by
  go_enter Try.func12, Try.ntmps12
  go_wp2_with (go_at_call 18; refine (rof_any _ _).mono ?_; rintro e w' ⟨rfl, rfl⟩)
  go_ret
  exact ⟨rfl, rfl⟩

set_option maxHeartbeats 400000 in
theorem rpast_any (a b : Int) (w : World) (ha0 : 0 ≤ a) (ha1 : a ≤ 4294967295) (hb0 : 0 ≤ b) (hb1 : b ≤ 4294967295) :
    Calls Try.prog 14 #[.int .u32 a, .int .u32 b] w fun e w' => e = .returned (.bool (ps a b)) ∧ w = w' := by
  go_enter Try.func14, Try.ntmps14
  go_wp2_with (go_at_call 12; refine (rsince_any _ _ _ ha0 ha1 hb0 hb1).mono ?_; rintro e w' ⟨rfl, rfl⟩)
  go_ret
  exact ⟨rfl, rfl⟩

set_option maxHeartbeats 400000 in
theorem alive_any (w : World) :
    Calls Try.prog 19 #[] w fun e w' => e = .returned (.bool true) ∧ w = w' := by
  have h1 : (sg 5 == 5) = true := by decide +kernel
  have h2 : (sg 4294967295 == -1) = true := by decide +kernel
  have h3 : (sg 2147483648 == -2147483648) = true := by decide +kernel
  have h4 : (lo (-1) == 4294967295) = true := by decide +kernel
  have h5 : (lo 4294967299 == 3) = true := by decide +kernel
  have h6 : (sn 5 3 == 4294967294) = true := by decide +kernel
  have h7 : ps 3 5 = true := by decide +kernel
  have h8 : ps 5 3 = false := by decide +kernel
  have h9 : ps 4294967295 1 = true := by decide +kernel
  have h10 : ps 0 2147483648 = false := by decide +kernel
  go_enter Try.func19, Try.ntmps19
  go_wp2_with (first | (go_at_call 15; refine (signed_any _ _).mono ?_; rintro e w' ⟨rfl, rfl⟩) | (go_at_call 17; refine (of_any _ _).mono ?_; rintro e w' ⟨rfl, rfl⟩) | (go_at_call 11; refine (since_any _ _ _).mono ?_; rintro e w' ⟨rfl, rfl⟩) | (go_at_call 13; refine (past_any _ _ _).mono ?_; rintro e w' ⟨rfl, rfl⟩))
  go_ret
  exact ⟨rfl, rfl⟩
end Go.Proofs.Ytnbdpkoinficdaa
