/- UnitsShifts: for every input the call returns true, and its arguments are as they were; no condition.
   The frame round the walk was printed by proof-skeleton.mjs. -/
import Derived.Test.YtkcjojncdnnmeaaRows
import Derived.Test.YtkcjojncdnnmeaaLaws2
import Derived.WalkKit
import Derived.ProofKit
import Derived.OpenShut
namespace Go.Proofs.Ytkcjojncdnnmeaa.unitsShifts
open Go.ChangeShapes Go.WideShapes Go.ChangeAt Go.RowKit
set_option linter.unusedVariables false      -- a walk need not use every 'w<i>' (that an integer argument fits its kind)

theorem own : ownKnob Try.prog.godebug = none := by kernel_rfl

open Go.MapKept
/-! ### THE WALK -/
set_option maxHeartbeats 2000000 in
theorem walk (a0 : Int) (a1 : Int) (w0 : (Lit.int .u32 a0).wf = true) (w1 : (Lit.int .u32 a1).wf = true) (w : World) :
    Calls Try.prog 7 #[.int .u32 a0, .int .u32 a1] w fun e w' => e = .returned (.bool true) ∧ Okw w w' := by
  obtain ⟨g0, g0'⟩ := bd_u32 w0
  obtain ⟨g1, g1'⟩ := bd_u32 w1
  obtain ⟨k, hk⟩ : ∃ k : Nat, a1 % 32 = (k : Int) := ⟨(a1 % 32).toNat, by omega⟩
  have hk31 : k ≤ 31 := by omega
  have L := Lib.hid (shiftsLaw a0 a1 k g0 g0' hk)
  have hT := Lib.hid (shr_top a0 k g0 g0' hk31)
  have q0 : Okw w w := Okw.refl w
  go_enter Try.func7, Try.ntmps7
  go_wp2_with (first | (go_at_call 16; refine (dw_step _ _ _ w _ (by assumption) (by omega) (by omega)).mono ?_; rintro e w1 ⟨rfl, q1⟩))
  go_loopw [8, 9] (fun p i wr => Okw w wr ∧ ∃ j : Nat, j ≤ k ∧ i = .int .u32 (j : Int) ∧ p = .int .u32 (2 ^ j)) (fun _ i _ => (k - (intOf i).toNat))
  case atStart => exact ⟨by assumption, 0, by omega, rfl, by simp⟩
  case round =>
    obtain ⟨hwr, j, hj, rfl, rfl⟩ := hrel
    obtain ⟨pb, pb'⟩ := pow_bd j (by omega)
    by_cases hlt : j < k
    · have hd := Lib.hid (pow_double j (by omega))
      generalize (2 : Int) ^ j = z at *
      go_wp2_with (first | (go_at_call 16; refine (dw_step _ _ _ w _ (by assumption) (by omega) (by omega)).mono ?_; rintro e w1 ⟨rfl, q1⟩))
      go_roundw
      case rel => exact ⟨by assumption, j + 1, by omega, by go_num, by rw [hd.out]⟩
      case measure => simp [intOf]; omega
    · obtain rfl : j = k := by omega
      obtain ⟨r1, r2, r3, r4, r5, r6⟩ := L.out
      obtain ⟨p1, p1'⟩ := bd6 a0 (2 ^ j - 1)
      have r7 := hT.out
      generalize (2 : Int) ^ j = z at *
      clear hk
      by_cases hz : (j : Int) = 0
      · have hz' : ((j : Int) == 0) = true := by rw [beq_iff_eq]; exact hz
        clear hz
        go_wp2_with (first | (go_at_call 16; refine (dw_step _ _ _ w _ (by assumption) (by omega) (by omega)).mono ?_; rintro e w1 ⟨rfl, q1⟩) | (go_at_call 17; refine (alive_step w _ (by assumption)).mono ?_; rintro e w1 ⟨rfl, q1⟩))
        go_ret
        exact ⟨rfl, by assumption⟩
      · have hz' : ((j : Int) == 0) = false := by rw [beq_eq_false_iff_ne]; exact hz
        clear hz
        go_wp2_with (first | (go_at_call 16; refine (dw_step _ _ _ w _ (by assumption) (by omega) (by omega)).mono ?_; rintro e w1 ⟨rfl, q1⟩) | (go_at_call 17; refine (alive_step w _ (by assumption)).mono ?_; rintro e w1 ⟨rfl, q1⟩))
        go_ret
        exact ⟨rfl, by assumption⟩

/-! ### THE ROW's STEP: WRITTEN OUT: LEAVE IT -/
set_option maxRecDepth 100000 in
theorem lifted (os : Os) (started : os.Started) (H : Type) (enc : TypeId × Value → H) :
    ReturnsInHanded {} Try.checked os 7 .any (Rows.unitsShiftsSpec.pre6 enc Try.prog Try.f7 Rows.unitsShiftsRow.domain false) (Rows.unitsShiftsSpec.post enc Try.prog Try.f7 false true false false) := by
  refine returnsInHanded_of_change (C := Try.checked) own started (by kernel_rfl) Try.func7
    (ChangeSpec.witness6 (enc := enc) (C := Try.checked) false ⟨#[], #[.int .u32 0, .int .u32 0], []⟩ 8 (by kernel_rfl) (by kernel_rfl) (by kernel_rfl) (by kernel_rfl)) ?_
  intro W base args ds gs before hval0 hW hcnd _
  have hval : ∀ (j : Nat) t v, Try.f7.params[j]? = some t → args[j]? = some v → Value.okWide Try.prog W .any base t v := hval0
  have hW' := hW
  obtain ⟨p, q, hA0, hV, rfl, hfz, hnd⟩ := hW
  have hA : DataW.TrodAll enc Try.prog W 0 (fun _ => true) true Try.f7.params.toList args.toList ds p := hA0
  rw [Try.params7] at hA hval
  obtain ⟨v0, vs0, d0, ds0, p0, q0, hargs, rfl, rfl, h0, r0⟩ := trodAll_cons hA
  obtain ⟨v1, vs1, d1, ds1, p1, q1, rfl, rfl, rfl, h1, r1⟩ := trodAll_cons r0
  obtain ⟨rfl, rfl, rfl⟩ := trodAll_nil r1
  obtain rfl : args = #[v0, v1] := by cases args; simp_all
  obtain ⟨rfl, rfl⟩ := trodVars_none hV
  obtain ⟨a0, rfl, rfl, rfl, w0⟩ := open_int Try.underlying23 (hval 0 23 v0 rfl rfl) h0
  obtain ⟨a1, rfl, rfl, rfl, w1⟩ := open_int Try.underlying23 (hval 1 23 v1 rfl rfl) h1
  clear hA0 hval0
  simp only [List.append_nil] at hW'
  refine (walk a0 a1 w0 w1 W).mono fun e W' ⟨he, hg⟩ => ?_
  subst he
  exact ⟨_, rfl, _, _, _, [], [], [], hW', trodAll_mk1 (shut_bool Try.underlying4 _), (trodAll_cons_mk (shut_int Try.underlying23 w0) (trodAll_cons_mk (shut_int Try.underlying23 w1) trodAll_mk0)), rfl, Below.frame hg _, fun h => by cases h⟩

theorem over : Rows.unitsShiftsRow.holds Try.pinned (OpenSpec.ofChange Rows.unitsShiftsSpec) :=
  OpenClaim.holds_of_wide 7 Try.f7 rfl rfl rfl rfl rfl rfl rfl ⟨rfl, rfl, rfl, rfl, rfl⟩ rfl rfl rfl rfl rfl (by kernel_rfl) Try.func7 (by kernel_rfl)
    (of_decide_eq_true (by kernel_rfl)) (by unfold Func.isWrapper; first | (rw [if_pos (by decide +kernel)]; kernel_rfl) | (rw [if_neg (by decide +kernel)]; exact ⟨rfl, rfl⟩))
    (fun os started H enc _ => lifted os started H enc)

theorem proved : Rows.UnitsShiftsSaid :=
  over
end Go.Proofs.Ytkcjojncdnnmeaa.unitsShifts
