/- UnitsOften: for every input the call returns true, and its arguments are as they were; no condition.
   The frame round the walk was printed by proof-skeleton.mjs. -/
import Derived.Test.YtkcjojncdnnmeaaRows
import Derived.Test.YtkcjojncdnnmeaaLaws2
import Derived.WalkKit
import Derived.ProofKit
import Derived.OpenShut
namespace Go.Proofs.Ytkcjojncdnnmeaa.unitsOften
open Go.ChangeShapes Go.WideShapes Go.ChangeAt Go.RowKit
set_option linter.unusedVariables false      -- a walk need not use every 'w<i>' (that an integer argument fits its kind)

theorem own : ownKnob Try.prog.godebug = none := by kernel_rfl

/-! ### THE WALK -/
set_option maxHeartbeats 2000000 in
theorem walk (a0 : Int) (a1 : Int) (w0 : (Lit.int .u32 a0).wf = true) (w1 : (Lit.int .u8 a1).wf = true) (w : World) :
    Calls Try.prog 10 #[.int .u32 a0, .int .u8 a1] w fun e w' => e = .returned (.bool true) ∧ Okw w w' := by
  obtain ⟨g0, g0'⟩ := bd_u32 w0
  obtain ⟨g1, g1'⟩ := bd_u8 w1
  have q0 : Okw w w := Okw.refl w
  go_enter Try.func10, Try.ntmps10
  go_wp2_with (first | (go_at_call 16; refine (dw_step _ _ _ w _ (by assumption) (by omega) (by omega)).mono ?_; rintro e w1 ⟨rfl, q1⟩))
  go_loopw [5, 6] (fun s i wr => Okw w wr ∧ ∃ j : Nat, (j : Int) ≤ a1 ∧ i = .int .i64 (j : Int) ∧ s = .int .u32 (a0 * (j : Int) % 4294967296)) (fun _ i _ => (a1 - intOf i).toNat)
  case atStart => exact ⟨by assumption, 0, by omega, rfl, by simp⟩
  case round =>
    obtain ⟨hwr, j, hj, rfl, rfl⟩ := hrel
    have hd := Lib.hid (often_up a0 j)
    by_cases hlt : (j : Int) < a1
    · generalize a0 * (j : Int) % 4294967296 = z at *
      go_wp2_with (first | (go_at_call 16; refine (dw_step _ _ _ w _ (by assumption) (by omega) (by omega)).mono ?_; rintro e w1 ⟨rfl, q1⟩))
      go_roundw
      case rel => exact ⟨by assumption, j + 1, by omega, by go_num, by rw [hd.out]⟩
      case measure => simp [intOf]; omega
    · obtain rfl : (j : Int) = a1 := by omega
      have hne : (a0 * (j : Int) % 4294967296 != dw 5 a0 j) = false := by rw [dw5]; simp
      have hst : Hid (a0 * (j : Int) % 4294967296 = a0 * ((j : Int) - (0 : Nat)) % 4294967296) := by show a0 * (j : Int) % 4294967296 = _; simp
      clear hd
      generalize a0 * (j : Int) % 4294967296 = z at *
      go_wp2_with (first | (go_at_call 16; refine (dw_step _ _ _ w _ (by assumption) (by omega) (by omega)).mono ?_; rintro e w1 ⟨rfl, q1⟩))
      go_loopw [5, 7] (fun s i wr => Okw w wr ∧ ∃ m : Nat, m ≤ j ∧ i = .int .i64 (m : Int) ∧ s = .int .u32 (a0 * ((j : Int) - (m : Int)) % 4294967296)) (fun _ i _ => (j - (intOf i).toNat))
      case atStart => exact ⟨by assumption, 0, by omega, rfl, by rw [hst.out]⟩
      case round =>
        obtain ⟨hwr2, m, hm, rfl, rfl⟩ := hrel
        have hd := Lib.hid (often_down a0 j m)
        by_cases hlt2 : m < j
        · generalize a0 * ((j : Int) - (m : Int)) % 4294967296 = y at *
          go_wp2_with (first | (go_at_call 16; refine (dw_step _ _ _ w _ (by assumption) (by omega) (by omega)).mono ?_; rintro e w1 ⟨rfl, q1⟩))
          go_roundw
          case rel => exact ⟨by assumption, m + 1, by omega, by go_num, by rw [hd.out]⟩
          case measure => simp [intOf]; omega
        · obtain rfl : m = j := by omega
          have hz : (a0 * ((m : Int) - (m : Int)) % 4294967296 == 0) = true := by simp
          clear hd
          generalize a0 * ((m : Int) - (m : Int)) % 4294967296 = y at *
          go_wp2_with (first | (go_at_call 16; refine (dw_step _ _ _ w _ (by assumption) (by omega) (by omega)).mono ?_; rintro e w1 ⟨rfl, q1⟩) | (go_at_call 17; refine (alive_step w _ (by assumption)).mono ?_; rintro e w1 ⟨rfl, q1⟩))
          go_ret
          exact ⟨rfl, by assumption⟩

/-! ### THE ROW's STEP: WRITTEN OUT: LEAVE IT -/
set_option maxRecDepth 100000 in
theorem lifted (os : Os) (started : os.Started) (H : Type) (enc : TypeId × Value → H) :
    ReturnsInHanded {} Try.checked os 10 .any (Rows.unitsOftenSpec.pre6 enc Try.prog Try.f10 Rows.unitsOftenRow.domain false) (Rows.unitsOftenSpec.post enc Try.prog Try.f10 false true false false) := by
  refine returnsInHanded_of_change (C := Try.checked) own started (by kernel_rfl) Try.func10
    (ChangeSpec.witness6 (enc := enc) (C := Try.checked) false ⟨#[], #[.int .u32 0, .int .u8 0], []⟩ 8 (by kernel_rfl) (by kernel_rfl) (by kernel_rfl) (by kernel_rfl)) ?_
  intro W base args ds gs before hval0 hW hcnd _
  have hval : ∀ (j : Nat) t v, Try.f10.params[j]? = some t → args[j]? = some v → Value.okWide Try.prog W .any base t v := hval0
  have hW' := hW
  obtain ⟨p, q, hA0, hV, rfl, hfz, hnd⟩ := hW
  have hA : DataW.TrodAll enc Try.prog W 0 (fun _ => true) true Try.f10.params.toList args.toList ds p := hA0
  rw [Try.params10] at hA hval
  obtain ⟨v0, vs0, d0, ds0, p0, q0, hargs, rfl, rfl, h0, r0⟩ := trodAll_cons hA
  obtain ⟨v1, vs1, d1, ds1, p1, q1, rfl, rfl, rfl, h1, r1⟩ := trodAll_cons r0
  obtain ⟨rfl, rfl, rfl⟩ := trodAll_nil r1
  obtain rfl : args = #[v0, v1] := by cases args; simp_all
  obtain ⟨rfl, rfl⟩ := trodVars_none hV
  obtain ⟨a0, rfl, rfl, rfl, w0⟩ := open_int Try.underlying23 (hval 0 23 v0 rfl rfl) h0
  obtain ⟨a1, rfl, rfl, rfl, w1⟩ := open_int Try.underlying5 (hval 1 5 v1 rfl rfl) h1
  clear hA0 hval0
  simp only [List.append_nil] at hW'
  refine (walk a0 a1 w0 w1 W).mono fun e W' ⟨he, hg⟩ => ?_
  subst he
  exact ⟨_, rfl, _, _, _, [], [], [], hW', trodAll_mk1 (shut_bool Try.underlying4 _), (trodAll_cons_mk (shut_int Try.underlying23 w0) (trodAll_cons_mk (shut_int Try.underlying5 w1) trodAll_mk0)), rfl, Below.frame hg _, fun h => by cases h⟩

theorem over : Rows.unitsOftenRow.holds Try.pinned (OpenSpec.ofChange Rows.unitsOftenSpec) :=
  OpenClaim.holds_of_wide 10 Try.f10 rfl rfl rfl rfl rfl rfl rfl ⟨rfl, rfl, rfl, rfl, rfl⟩ rfl rfl rfl rfl rfl (by kernel_rfl) Try.func10 (by kernel_rfl)
    (of_decide_eq_true (by kernel_rfl)) (by unfold Func.isWrapper; first | (rw [if_pos (by decide +kernel)]; kernel_rfl) | (rw [if_neg (by decide +kernel)]; exact ⟨rfl, rfl⟩))
    (fun os started H enc _ => lifted os started H enc)

theorem proved : Rows.UnitsOftenSaid :=
  over
end Go.Proofs.Ytkcjojncdnnmeaa.unitsOften
