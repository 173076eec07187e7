/-
  The contracts as the statements' walks use them: each hands on that nothing has turned of what was there at the beginning; and 'alive'. The numbers fit 32 bits.
-/
import Derived.Test.YtkcjojncdnnmeaaRef
namespace Go.Proofs.Ytkcjojncdnnmeaa
open Go.RowKit Go.ChangeMaps Go.MapKept

/-- Of what was there in w0 nothing has turned in w. -/
def Okw (w0 w : World) : Prop := Below w0.heap.size w0 w
theorem Okw.refl (w : World) : Okw w w := Below.refl _ _
theorem Okw.next {w0 w w' : World} (h : Okw w0 w) (g : Below w.heap.size w w') : Okw w0 w' := Below.trans h (g.mono h.size)
theorem Okw.alloc {w0 w : World} (h : Okw w0 w) (o : Obj) : Okw w0 (w.alloc o) := Below.alloc h h.size o

theorem bd_u32 {a : Int} (w : (Lit.int .u32 a).wf = true) : 0 ≤ a ∧ a ≤ 4294967295 := by
  have hmin : IntKind.u32.min = 0 := rfl
  have hmax : IntKind.u32.max = 4294967295 := rfl
  simp only [Lit.wf, Bool.and_eq_true, decide_eq_true_eq] at w; omega
theorem bd_u8 {a : Int} (w : (Lit.int .u8 a).wf = true) : 0 ≤ a ∧ a ≤ 255 := by
  have hmin : IntKind.u8.min = 0 := rfl
  have hmax : IntKind.u8.max = 255 := rfl
  simp only [Lit.wf, Bool.and_eq_true, decide_eq_true_eq] at w; omega

theorem do_step (o a b : Int) (w0 w : World) (h : Okw w0 w) (hb0 : 0 ≤ b) (hb1 : b ≤ 4294967295) :
    Calls Try.prog 14 #[.int .u8 o, .int .u32 a, .int .u32 b] w fun e w' => e = .returned (.tuple #[.int .u32 (doV o a b), .int .i64 (doE o)]) ∧ Okw w0 w' :=
  (do_any o a b w hb0 hb1).mono fun _ _ ⟨he, hw⟩ => ⟨he, h.next hw⟩
theorem ho_step (o a b : Int) (w0 w : World) (h : Okw w0 w) :
    Calls Try.prog 12 #[.int .u8 o, .int .u32 a, .int .u32 b] w fun e w' => e = .returned (.tuple #[.bool (hoV o a b), .int .i64 (hoE o)]) ∧ Okw w0 w' :=
  (ho_any o a b w).mono fun _ _ ⟨he, hw⟩ => ⟨he, h.next hw⟩
theorem rdo_step (o a b : Int) (w0 w : World) (h : Okw w0 w) (a0 : 0 ≤ a) (a1 : a ≤ 4294967295) (b0 : 0 ≤ b) (b1 : b ≤ 4294967295) :
    Calls Try.prog 15 #[.int .u8 o, .int .u32 a, .int .u32 b] w fun e w' => e = .returned (.tuple #[.int .u32 (doV o a b), .int .i64 (doE o)]) ∧ Okw w0 w' :=
  (rdo_any o a b w a0 a1 b0 b1).mono fun _ _ ⟨he, hw⟩ => ⟨he, h.next hw⟩
theorem dw_step (o a b : Int) (w0 w : World) (h : Okw w0 w) (hb0 : 0 ≤ b) (hb1 : b ≤ 4294967295) :
    Calls Try.prog 16 #[.int .u8 o, .int .u32 a, .int .u32 b] w fun e w' => e = .returned (.int .u32 (dw o a b)) ∧ Okw w0 w' :=
  (dw_any o a b w hb0 hb1).mono fun _ _ ⟨he, hw⟩ => ⟨he, h.next hw⟩
theorem hw_step (o a b : Int) (w0 w : World) (h : Okw w0 w) :
    Calls Try.prog 18 #[.int .u8 o, .int .u32 a, .int .u32 b] w fun e w' => e = .returned (.bool (hw o a b)) ∧ Okw w0 w' :=
  (hw_any o a b w).mono fun _ _ ⟨he, hw⟩ => ⟨he, h.next hw⟩

set_option maxHeartbeats 1000000 in
theorem alive_step (w0 w : World) (h : Okw w0 w) : Calls Try.prog 17 #[] w fun e w' => e = .returned (.bool true) ∧ Okw w0 w' := by
  have e1 : (doE 0 == 1) = true := by decide +kernel
  have e2 : (hoE 3 == 1) = true := by decide +kernel
  have e3 : (dw 3 4294967295 2 == 1) = true := by decide +kernel
  have e4 : (dw 4 1 2 == 4294967295) = true := by decide +kernel
  have e5 : (dw 5 65536 65536 == 0) = true := by decide +kernel
  have e6 : (dw 9 1 33 == 2) = true := by decide +kernel
  have e7 : (dw 10 2147483648 31 == 1) = true := by decide +kernel
  have e8 : (dw 8 12 10 == 6) = true := by decide +kernel
  have e9 : hw 17 4294967295 0 = true := by decide +kernel
  have e10 : hw 18 4294967295 0 = false := by decide +kernel
  go_enter Try.func17, Try.ntmps17
  go_wp2_with (first | (go_at_call 14; refine (do_step _ _ _ w0 _ (by assumption) (by omega) (by omega)).mono ?_; rintro e w1 ⟨rfl, h1⟩) | (go_at_call 12; refine (ho_step _ _ _ w0 _ (by assumption)).mono ?_; rintro e w1 ⟨rfl, h1⟩) | (go_at_call 16; refine (dw_step _ _ _ w0 _ (by assumption) (by omega) (by omega)).mono ?_; rintro e w1 ⟨rfl, h1⟩) | (go_at_call 18; refine (hw_step _ _ _ w0 _ (by assumption)).mono ?_; rintro e w1 ⟨rfl, h1⟩))
  go_ret
  exact ⟨rfl, by assumption⟩
end Go.Proofs.Ytkcjojncdnnmeaa
