/- LinesOnce: for every input the call returns true, and its arguments are as they were; no condition.
   The frame round the walk was printed by proof-skeleton.mjs. -/
import Derived.Test.YtijclpkfmkbkpaaRows
import Derived.Test.YtijclpkfmkbkpaaTold
import Derived.WalkKit
import Derived.ProofKit
import Derived.OpenShut
namespace Go.Proofs.Ytijclpkfmkbkpaa.linesOnce
open Go.ChangeShapes Go.WideShapes Go.ChangeAt Go.RowKit
set_option linter.unusedVariables false      -- a walk need not use every 'w<i>' (that an integer argument fits its kind)

theorem own : ownKnob Try.prog.godebug = none := by kernel_rfl

/-! ### THE WALK -/
set_option maxHeartbeats 2000000 in
theorem walk (a0 : Int) (a1 : Int) (w0 : (Lit.int .u8 a0).wf = true) (w1 : (Lit.int .u8 a1).wf = true) (w : World) :
    Calls Try.prog 7 #[.int .u8 a0, .int .u8 a1] w fun e w' => e = .returned (.bool true) ∧ Okw w w' := by
  obtain ⟨g0, g0'⟩ := bd_u8 w0
  obtain ⟨g1, g1'⟩ := bd_u8 w1
  have k0 : 0 ≤ a0 % 8 := by omega
  have k1 : a0 % 8 ≤ 7 := by omega
  have H1 := Lib.hid (one_next k0 k1)
  have H2 := Lib.hid (one_again k0 k1)
  have H0 := Lib.hid none_next
  have q0 : Okw w w := Okw.refl w
  go_enter Try.func7, Try.ntmps7
  go_wp2_with fail
  refine (new_step q0).mono ?_; rintro e w1 ⟨rfl, s1⟩
  obtain ⟨p0, hp0⟩ : ∃ p, p = w.heap.size := ⟨_, rfl⟩
  rw [← hp0] at s1 ⊢
  clear q0 hp0
  go_wp2_with fail
  go_loopw [7] (fun i wr => ∃ j : Nat, (j : Int) ≤ a1 % 20 + 1 ∧ i = .int .i64 (j : Int) ∧ ∃ c, ((j = 0 ∧ c = 0) ∨ (1 ≤ j ∧ c = setB 0 (a0 % 8))) ∧ St w p0 c 0 wr) (fun i _ => (a1 % 20 + 1 - intOf i).toNat)
  case atStart => exact ⟨0, by omega, rfl, 0, Or.inl ⟨rfl, rfl⟩, s1⟩
  case round =>
    obtain ⟨j, hj, rfl, c, hcj, hst⟩ := hrel
    clear s1
    by_cases hlt : (j : Int) < a1 % 20 + 1
    · have e : Hid (setB c (a0 % 8) = setB 0 (a0 % 8)) := by
        show setB c (a0 % 8) = setB 0 (a0 % 8)
        rcases hcj with ⟨_, rfl⟩ | ⟨_, rfl⟩
        · rfl
        · exact H2.out
      clear hcj
      go_wp2_with (go_at_call 12; refine (raise_in _ k0 k1 hst).mono ?_; rintro e w2 ⟨rfl, s2⟩)
      go_roundw
      case rel => exact ⟨j + 1, by omega, by go_num, _, Or.inr ⟨by omega, rfl⟩, s2.change e.out rfl⟩
      case measure => simp [intOf]; omega
    · have s2 : St w p0 (setB 0 (a0 % 8)) 0 wr := by
        rcases hcj with ⟨hj0, _⟩ | ⟨_, rfl⟩
        · omega
        · exact hst
      clear hcj hst
      obtain ⟨wo, rfl⟩ : ∃ wo : World, wo = wr := ⟨_, rfl⟩
      go_wp2_with fail
      go_loopw [8] (fun i wr => ∃ n : Nat, n ≤ 3 ∧ i = .int .i64 (n : Int) ∧ St w p0 (setB 0 (a0 % 8)) 0 wr) (fun i _ => 3 - (intOf i).toNat)
      case atStart => exact ⟨0, by omega, rfl, s2⟩
      case round =>
        obtain ⟨n, hn, rfl, s3⟩ := hrel
        clear s2
        by_cases hlt3 : n < 3
        · go_wp2_with fail
          refine (next_num (a0 % 8) 0 0 H1.out.1 H1.out.2.1 H1.out.2.2 s3).mono ?_; rintro e w4 ⟨rfl, s4⟩
          clear s3
          go_wp2_with fail
          refine (next_num 0 11 0 H0.out.1 H0.out.2.1 H0.out.2.2 s4).mono ?_; rintro e w5 ⟨rfl, s5⟩
          clear s4
          go_wp2_with fail
          refine (calls_step s5).mono ?_; rintro e w6 ⟨rfl, rfl⟩
          go_wp2_with fail
          refine (raise_in _ k0 k1 s5).mono ?_; rintro e w6 ⟨rfl, s6⟩
          clear s5
          go_wp2_with fail
          go_roundw
          case rel => exact ⟨n + 1, by omega, by go_num, s6⟩
          case measure => simp [intOf]; omega
        · obtain rfl : n = 3 := by omega
          go_wp2_with (go_at_call 23; refine (alive_keep s3).mono ?_; rintro e w4 ⟨rfl, s4⟩)
          go_ret
          exact ⟨rfl, s4.ok⟩

/-! ### THE ROW's STEP: WRITTEN OUT: LEAVE IT -/
set_option maxRecDepth 100000 in
theorem lifted (os : Os) (started : os.Started) (H : Type) (enc : TypeId × Value → H) :
    ReturnsInHanded {} Try.checked os 7 .any (Rows.linesOnceSpec.pre6 enc Try.prog Try.f7 Rows.linesOnceRow.domain false) (Rows.linesOnceSpec.post enc Try.prog Try.f7 false true false false) := by
  refine returnsInHanded_of_change (C := Try.checked) own started (by kernel_rfl) Try.func7
    (ChangeSpec.witness6 (enc := enc) (C := Try.checked) false ⟨#[], #[.int .u8 0, .int .u8 0], []⟩ 8 (by kernel_rfl) (by kernel_rfl) (by kernel_rfl) (by kernel_rfl)) ?_
  intro W base args ds gs before hval0 hW hcnd _
  have hval : ∀ (j : Nat) t v, Try.f7.params[j]? = some t → args[j]? = some v → Value.okWide Try.prog W .any base t v := hval0
  have hW' := hW
  obtain ⟨p, q, hA0, hV, rfl, hfz, hnd⟩ := hW
  have hA : DataW.TrodAll enc Try.prog W 0 (fun _ => true) true Try.f7.params.toList args.toList ds p := hA0
  rw [Try.params7] at hA hval
  obtain ⟨v0, vs0, d0, ds0, p0, q0, hargs, rfl, rfl, h0, r0⟩ := trodAll_cons hA
  obtain ⟨v1, vs1, d1, ds1, p1, q1, rfl, rfl, rfl, h1, r1⟩ := trodAll_cons r0
  obtain ⟨rfl, rfl, rfl⟩ := trodAll_nil r1
  obtain rfl : args = #[v0, v1] := by cases args; simp_all
  obtain ⟨rfl, rfl⟩ := trodVars_none hV
  obtain ⟨a0, rfl, rfl, rfl, w0⟩ := open_int Try.underlying5 (hval 0 5 v0 rfl rfl) h0
  obtain ⟨a1, rfl, rfl, rfl, w1⟩ := open_int Try.underlying5 (hval 1 5 v1 rfl rfl) h1
  clear hA0 hval0
  simp only [List.append_nil] at hW'
  refine (walk a0 a1 w0 w1 W).mono fun e W' ⟨he, hg⟩ => ?_
  subst he
  exact ⟨_, rfl, _, _, _, [], [], [], hW', trodAll_mk1 (shut_bool Try.underlying4 _), (trodAll_cons_mk (shut_int Try.underlying5 w0) (trodAll_cons_mk (shut_int Try.underlying5 w1) trodAll_mk0)), rfl, Below.frame hg _, fun h => by cases h⟩

theorem over : Rows.linesOnceRow.holds Try.pinned (OpenSpec.ofChange Rows.linesOnceSpec) :=
  OpenClaim.holds_of_wide 7 Try.f7 rfl rfl rfl rfl rfl rfl rfl ⟨rfl, rfl, rfl, rfl, rfl⟩ rfl rfl rfl rfl rfl (by kernel_rfl) Try.func7 (by kernel_rfl)
    (of_decide_eq_true (by kernel_rfl)) (by unfold Func.isWrapper; first | (rw [if_pos (by decide +kernel)]; kernel_rfl) | (rw [if_neg (by decide +kernel)]; exact ⟨rfl, rfl⟩))
    (fun os started H enc _ => lifted os started H enc)

theorem proved : Rows.LinesOnceSaid :=
  over
end Go.Proofs.Ytijclpkfmkbkpaa.linesOnce
