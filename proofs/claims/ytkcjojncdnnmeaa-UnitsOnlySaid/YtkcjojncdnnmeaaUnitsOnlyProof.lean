/- UnitsOnly: for every input the call returns true, and its arguments are as they were; no condition.
   The frame round the walk was printed by proof-skeleton.mjs. -/
import Derived.Test.YtkcjojncdnnmeaaRows
import Derived.Test.YtkcjojncdnnmeaaLaws
import Derived.WalkKit
import Derived.ProofKit
import Derived.OpenShut
namespace Go.Proofs.Ytkcjojncdnnmeaa.unitsOnly
open Go.ChangeShapes Go.WideShapes Go.ChangeAt Go.RowKit
set_option linter.unusedVariables false      -- a walk need not use every 'w<i>' (that an integer argument fits its kind)

theorem own : ownKnob Try.prog.godebug = none := by kernel_rfl

/-! ### THE WALK -/
set_option maxHeartbeats 2000000 in
theorem walk (a0 : Int) (a1 : Int) (a2 : Int) (w0 : (Lit.int .u8 a0).wf = true) (w1 : (Lit.int .u32 a1).wf = true) (w2 : (Lit.int .u32 a2).wf = true) (w : World) :
    Calls Try.prog 9 #[.int .u8 a0, .int .u32 a1, .int .u32 a2] w fun e w' => e = .returned (.bool true) ∧ Okw w w' := by
  obtain ⟨g0, g0'⟩ := bd_u8 w0
  obtain ⟨g1, g1'⟩ := bd_u32 w1
  obtain ⟨g2, g2'⟩ := bd_u32 w2
  have q0 : Okw w w := Okw.refl w
  by_cases c1 : 3 ≤ a0 ∧ a0 ≤ 10
  · have e1 : doE a0 = 0 := by unfold doE; rw [if_pos c1]
    have e2 : hoE a0 = 1 := by unfold hoE; rw [if_neg (by omega)]
    have e3 : hoV a0 a1 a2 = false := by unfold hoV; rw [if_neg (by omega), if_neg (by omega), if_neg (by omega), if_neg (by omega)]
    obtain ⟨k1, k2⟩ := c1
    go_enter Try.func9, Try.ntmps9
    go_wp2_with (first | (go_at_call 14; refine (do_step _ _ _ w _ (by assumption) (by omega) (by omega)).mono ?_; rintro e w1 ⟨rfl, q1⟩) | (go_at_call 12; refine (ho_step _ _ _ w _ (by assumption)).mono ?_; rintro e w1 ⟨rfl, q1⟩) | (go_at_call 17; refine (alive_step w _ (by assumption)).mono ?_; rintro e w1 ⟨rfl, q1⟩))
    go_ret
    exact ⟨rfl, by assumption⟩
  · have e1 : doE a0 = 1 := by unfold doE; rw [if_neg c1]
    have e3 : doV a0 a1 a2 = 0 := by
      unfold doV
      rw [if_neg (by omega), if_neg (by omega), if_neg (by omega), if_neg (by omega), if_neg (by omega), if_neg (by omega), if_neg (by omega), if_neg (by omega)]
    by_cases c2 : 15 ≤ a0 ∧ a0 ≤ 18
    · have e2 : hoE a0 = 0 := by unfold hoE; rw [if_pos c2]
      obtain ⟨k1, k2⟩ := c2
      have k3 : decide (a0 ≤ 10) = false := by rw [decide_eq_false_iff_not]; omega
      have k4 : 3 ≤ a0 := by omega
      clear c1
      go_enter Try.func9, Try.ntmps9
      go_wp2_with (first | (go_at_call 14; refine (do_step _ _ _ w _ (by assumption) (by omega) (by omega)).mono ?_; rintro e w1 ⟨rfl, q1⟩) | (go_at_call 12; refine (ho_step _ _ _ w _ (by assumption)).mono ?_; rintro e w1 ⟨rfl, q1⟩) | (go_at_call 17; refine (alive_step w _ (by assumption)).mono ?_; rintro e w1 ⟨rfl, q1⟩))
      go_ret
      exact ⟨rfl, by assumption⟩
    · have e2 : hoE a0 = 1 := by unfold hoE; rw [if_neg c2]
      have e4 : hoV a0 a1 a2 = false := by unfold hoV; rw [if_neg (by omega), if_neg (by omega), if_neg (by omega), if_neg (by omega)]
      by_cases k1 : 3 ≤ a0
      · have k2 : decide (a0 ≤ 10) = false := by rw [decide_eq_false_iff_not]; omega
        by_cases k3 : 15 ≤ a0
        · have k4 : decide (a0 ≤ 18) = false := by rw [decide_eq_false_iff_not]; omega
          clear c1 c2
          go_enter Try.func9, Try.ntmps9
          go_wp2_with (first | (go_at_call 14; refine (do_step _ _ _ w _ (by assumption) (by omega) (by omega)).mono ?_; rintro e w1 ⟨rfl, q1⟩) | (go_at_call 12; refine (ho_step _ _ _ w _ (by assumption)).mono ?_; rintro e w1 ⟨rfl, q1⟩) | (go_at_call 17; refine (alive_step w _ (by assumption)).mono ?_; rintro e w1 ⟨rfl, q1⟩))
          go_ret
          exact ⟨rfl, by assumption⟩
        · clear c1 c2
          go_enter Try.func9, Try.ntmps9
          go_wp2_with (first | (go_at_call 14; refine (do_step _ _ _ w _ (by assumption) (by omega) (by omega)).mono ?_; rintro e w1 ⟨rfl, q1⟩) | (go_at_call 12; refine (ho_step _ _ _ w _ (by assumption)).mono ?_; rintro e w1 ⟨rfl, q1⟩) | (go_at_call 17; refine (alive_step w _ (by assumption)).mono ?_; rintro e w1 ⟨rfl, q1⟩))
          go_ret
          exact ⟨rfl, by assumption⟩
      · have k3 : ¬ 15 ≤ a0 := by omega
        clear c1 c2
        go_enter Try.func9, Try.ntmps9
        go_wp2_with (first | (go_at_call 14; refine (do_step _ _ _ w _ (by assumption) (by omega) (by omega)).mono ?_; rintro e w1 ⟨rfl, q1⟩) | (go_at_call 12; refine (ho_step _ _ _ w _ (by assumption)).mono ?_; rintro e w1 ⟨rfl, q1⟩) | (go_at_call 17; refine (alive_step w _ (by assumption)).mono ?_; rintro e w1 ⟨rfl, q1⟩))
        go_ret
        exact ⟨rfl, by assumption⟩

/-! ### THE ROW's STEP: WRITTEN OUT: LEAVE IT -/
set_option maxRecDepth 100000 in
theorem lifted (os : Os) (started : os.Started) (H : Type) (enc : TypeId × Value → H) :
    ReturnsInHanded {} Try.checked os 9 .any (Rows.unitsOnlySpec.pre6 enc Try.prog Try.f9 Rows.unitsOnlyRow.domain false) (Rows.unitsOnlySpec.post enc Try.prog Try.f9 false true false false) := by
  refine returnsInHanded_of_change (C := Try.checked) own started (by kernel_rfl) Try.func9
    (ChangeSpec.witness6 (enc := enc) (C := Try.checked) false ⟨#[], #[.int .u8 0, .int .u32 0, .int .u32 0], []⟩ 8 (by kernel_rfl) (by kernel_rfl) (by kernel_rfl) (by kernel_rfl)) ?_
  intro W base args ds gs before hval0 hW hcnd _
  have hval : ∀ (j : Nat) t v, Try.f9.params[j]? = some t → args[j]? = some v → Value.okWide Try.prog W .any base t v := hval0
  have hW' := hW
  obtain ⟨p, q, hA0, hV, rfl, hfz, hnd⟩ := hW
  have hA : DataW.TrodAll enc Try.prog W 0 (fun _ => true) true Try.f9.params.toList args.toList ds p := hA0
  rw [Try.params9] at hA hval
  obtain ⟨v0, vs0, d0, ds0, p0, q0, hargs, rfl, rfl, h0, r0⟩ := trodAll_cons hA
  obtain ⟨v1, vs1, d1, ds1, p1, q1, rfl, rfl, rfl, h1, r1⟩ := trodAll_cons r0
  obtain ⟨v2, vs2, d2, ds2, p2, q2, rfl, rfl, rfl, h2, r2⟩ := trodAll_cons r1
  obtain ⟨rfl, rfl, rfl⟩ := trodAll_nil r2
  obtain rfl : args = #[v0, v1, v2] := by cases args; simp_all
  obtain ⟨rfl, rfl⟩ := trodVars_none hV
  obtain ⟨a0, rfl, rfl, rfl, w0⟩ := open_int Try.underlying22 (hval 0 22 v0 rfl rfl) h0
  obtain ⟨a1, rfl, rfl, rfl, w1⟩ := open_int Try.underlying23 (hval 1 23 v1 rfl rfl) h1
  obtain ⟨a2, rfl, rfl, rfl, w2⟩ := open_int Try.underlying23 (hval 2 23 v2 rfl rfl) h2
  clear hA0 hval0
  simp only [List.append_nil] at hW'
  refine (walk a0 a1 a2 w0 w1 w2 W).mono fun e W' ⟨he, hg⟩ => ?_
  subst he
  exact ⟨_, rfl, _, _, _, [], [], [], hW', trodAll_mk1 (shut_bool Try.underlying4 _), (trodAll_cons_mk (shut_int Try.underlying22 w0) (trodAll_cons_mk (shut_int Try.underlying23 w1) (trodAll_cons_mk (shut_int Try.underlying23 w2) trodAll_mk0))), rfl, Below.frame hg _, fun h => by cases h⟩

theorem over : Rows.unitsOnlyRow.holds Try.pinned (OpenSpec.ofChange Rows.unitsOnlySpec) :=
  OpenClaim.holds_of_wide 9 Try.f9 rfl rfl rfl rfl rfl rfl rfl ⟨rfl, rfl, rfl, rfl, rfl⟩ rfl rfl rfl rfl rfl (by kernel_rfl) Try.func9 (by kernel_rfl)
    (of_decide_eq_true (by kernel_rfl)) (by unfold Func.isWrapper; first | (rw [if_pos (by decide +kernel)]; kernel_rfl) | (rw [if_neg (by decide +kernel)]; exact ⟨rfl, rfl⟩))
    (fun os started H enc _ => lifted os started H enc)

theorem proved : Rows.UnitsOnlySaid :=
  over
end Go.Proofs.Ytkcjojncdnnmeaa.unitsOnly
