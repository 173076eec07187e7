/- LinesApart: for every input the call returns true, and its arguments are as they were; no condition.
   The frame round the walk was printed by proof-skeleton.mjs. -/
import Derived.Test.YtijclpkfmkbkpaaRows
import Derived.Test.YtijclpkfmkbkpaaAlive
import Derived.WalkKit
import Derived.ProofKit
import Derived.OpenShut
namespace Go.Proofs.Ytijclpkfmkbkpaa.linesApart
open Go.ChangeShapes Go.WideShapes Go.ChangeAt Go.RowKit
set_option linter.unusedVariables false      -- a walk need not use every 'w<i>' (that an integer argument fits its kind)

theorem own : ownKnob Try.prog.godebug = none := by kernel_rfl

theorem or_zero {c : Int} (hc : b8 c) : bits BinOp.or .u8 c 0 = c := by
  obtain ⟨x, hx, rfl⟩ := b8_nat hc
  have := or8 x 0 hx (by decide)
  rw [Nat.or_zero] at this; exact this
theorem not_zero {c : Int} (hc : b8 c) : bits BinOp.andNot .u8 c 0 = c := by
  refine row_ext ⟨bits_lo_u8 _ _ _, bits_hi_u8 _ _ _⟩ hc (fun j hj => ?_)
  obtain ⟨x, hx, rfl⟩ := b8_nat hc
  have := andNot8 x 0 hx j
  rw [Nat.zero_testBit] at this
  rw [show ((0 : Nat) : Int) = 0 from rfl] at this
  rw [this]; unfold tb; simp
theorem set_clr {m i : Int} (hm : b8 m) (h0 : 0 ≤ i) (h1 : i ≤ 7) : clrB (setB m i) i = clrB m i := by
  refine row_ext (b8_clrB _ _) (b8_clrB _ _) (fun j hj => ?_)
  rw [tb_clrB (b8_setB m i) h0 h1, tb_clrB hm h0 h1, tb_setB hm h0 h1]
  cases tb m j <;> cases decide (i.toNat = j) <;> rfl
/-! ### THE WALK -/
set_option maxHeartbeats 2000000 in
theorem walk (a0 : Int) (a1 : Int) (a2 : Int) (w0 : (Lit.int .u8 a0).wf = true) (w1 : (Lit.int .u8 a1).wf = true) (w2 : (Lit.int .i64 a2).wf = true) (w : World) :
    Calls Try.prog 6 #[.int .u8 a0, .int .u8 a1, .int .i64 a2] w fun e w' => e = .returned (.bool true) ∧ Okw w w' := by
  have hc := bd_u8 w0
  have hm := bd_u8 w1
  obtain ⟨p0, hp0⟩ : ∃ p, p = w.heap.size := ⟨_, rfl⟩
  have HP := Lib.hid hp0
  have HC := Lib.hid hc
  have HM := Lib.hid hm
  clear hp0
  have q0 : Okw w w := Okw.refl w
  by_cases hr : 0 ≤ a2 ∧ a2 ≤ 7
  · obtain ⟨h0, h1⟩ := hr
    have f1 : (setB a0 a2 != bits BinOp.or .u8 a0 (2 ^ a2.toNat % 256)) = false := by simp [setB]
    have f2 : (setB a1 a2 != bits BinOp.or .u8 a1 (2 ^ a2.toNat % 256)) = false := by simp [setB]
    have f3 : (setB a0 a2 == bits BinOp.or .u8 a0 (2 ^ a2.toNat % 256)) = true := by simp [setB]
    have f4 : (clrB (setB a1 a2) a2 == bits BinOp.andNot .u8 a1 (2 ^ a2.toNat % 256)) = true := by rw [set_clr hm h0 h1]; simp [clrB]
    clear hc hm
    go_enter Try.func6, Try.ntmps6
    go_wp2_with fail
    refine (set_at w _ _ _ p0 HP.out HC.out HM.out q0).mono ?_; rintro e w1 ⟨rfl, s1⟩
    clear q0
    go_wp2_with fail
    refine (raise_in _ h0 h1 s1).mono ?_; rintro e w2 ⟨rfl, s2⟩
    clear s1
    go_wp2_with fail
    refine (calls_step s2).mono ?_; rintro e w3 ⟨rfl, rfl⟩
    go_wp2_with fail
    refine (masks_step s2).mono ?_; rintro e w3 ⟨rfl, rfl⟩
    go_wp2_with fail
    refine (mask_on _ h0 h1 s2).mono ?_; rintro e w3 ⟨rfl, s3⟩
    clear s2
    go_wp2_with fail
    refine (calls_step s3).mono ?_; rintro e w4 ⟨rfl, rfl⟩
    go_wp2_with fail
    refine (masks_step s3).mono ?_; rintro e w4 ⟨rfl, rfl⟩
    go_wp2_with fail
    refine (mask_off _ h0 h1 s3).mono ?_; rintro e w4 ⟨rfl, s4⟩
    clear s3
    go_wp2_with fail
    refine (alive_keep s4).mono ?_; rintro e w5 ⟨rfl, s5⟩
    clear s4
    go_wp2_with fail
    refine (calls_step s5).mono ?_; rintro e w6 ⟨rfl, rfl⟩
    go_wp2_with fail
    refine (masks_step s5).mono ?_; rintro e w6 ⟨rfl, rfl⟩
    go_wp2_with fail
    go_ret
    exact ⟨rfl, s5.ok⟩
  · have f1 : (a0 != bits BinOp.or .u8 a0 0) = false := by rw [or_zero hc]; simp
    have f2 : (a1 != bits BinOp.or .u8 a1 0) = false := by rw [or_zero hm]; simp
    have f3 : (a0 == bits BinOp.or .u8 a0 0) = true := by rw [or_zero hc]; simp
    have f4 : (a1 == bits BinOp.andNot .u8 a1 0) = true := by rw [not_zero hm]; simp
    have E1 : erL a2 = 1 := by unfold erL; rw [if_neg hr]
    have E2 : rsC a0 a2 = a0 := by unfold rsC; rw [if_neg hr]
    have E3 : mkM a1 a2 true = a1 := by unfold mkM; rw [if_neg hr]
    have E4 : mkM a1 a2 false = a1 := by unfold mkM; rw [if_neg hr]
    have HE := Lib.hid (And.intro E1 (And.intro E2 (And.intro E3 E4)))
    clear hc hm E1 E2 E3 E4
    by_cases h0 : 0 ≤ a2
    all_goals
      first
        | have h2 : decide (a2 < 8) = false := by rw [decide_eq_false_iff_not]; omega
        | have h2 : decide (0 ≤ a2) = false := by rw [decide_eq_false_iff_not]; exact h0
      clear hr
      go_enter Try.func6, Try.ntmps6
      go_wp2_with fail
      refine (set_at w _ _ _ p0 HP.out HC.out HM.out q0).mono ?_; rintro e w1 ⟨rfl, s1⟩
      clear q0
      go_wp2_with fail
      refine (raise_num _ 1 _ HE.out.1 HE.out.2.1 s1).mono ?_; rintro e w2 ⟨rfl, s2⟩
      clear s1
      go_wp2_with fail
      refine (calls_step s2).mono ?_; rintro e w3 ⟨rfl, rfl⟩
      go_wp2_with fail
      refine (masks_step s2).mono ?_; rintro e w3 ⟨rfl, rfl⟩
      go_wp2_with fail
      refine (mask_num _ 1 _ true HE.out.1 HE.out.2.2.1 s2).mono ?_; rintro e w3 ⟨rfl, s3⟩
      clear s2
      go_wp2_with fail
      refine (calls_step s3).mono ?_; rintro e w4 ⟨rfl, rfl⟩
      go_wp2_with fail
      refine (masks_step s3).mono ?_; rintro e w4 ⟨rfl, rfl⟩
      go_wp2_with fail
      refine (mask_num _ 1 _ false HE.out.1 HE.out.2.2.2 s3).mono ?_; rintro e w4 ⟨rfl, s4⟩
      clear s3
      go_wp2_with fail
      refine (alive_keep s4).mono ?_; rintro e w5 ⟨rfl, s5⟩
      clear s4
      go_wp2_with fail
      refine (calls_step s5).mono ?_; rintro e w6 ⟨rfl, rfl⟩
      go_wp2_with fail
      refine (masks_step s5).mono ?_; rintro e w6 ⟨rfl, rfl⟩
      go_wp2_with fail
      go_ret
      exact ⟨rfl, s5.ok⟩

/-! ### THE ROW's STEP: WRITTEN OUT: LEAVE IT -/
set_option maxRecDepth 100000 in
theorem lifted (os : Os) (started : os.Started) (H : Type) (enc : TypeId × Value → H) :
    ReturnsInHanded {} Try.checked os 6 .any (Rows.linesApartSpec.pre6 enc Try.prog Try.f6 Rows.linesApartRow.domain false) (Rows.linesApartSpec.post enc Try.prog Try.f6 false true false false) := by
  refine returnsInHanded_of_change (C := Try.checked) own started (by kernel_rfl) Try.func6
    (ChangeSpec.witness6 (enc := enc) (C := Try.checked) false ⟨#[], #[.int .u8 0, .int .u8 0, .int .i64 0], []⟩ 8 (by kernel_rfl) (by kernel_rfl) (by kernel_rfl) (by kernel_rfl)) ?_
  intro W base args ds gs before hval0 hW hcnd _
  have hval : ∀ (j : Nat) t v, Try.f6.params[j]? = some t → args[j]? = some v → Value.okWide Try.prog W .any base t v := hval0
  have hW' := hW
  obtain ⟨p, q, hA0, hV, rfl, hfz, hnd⟩ := hW
  have hA : DataW.TrodAll enc Try.prog W 0 (fun _ => true) true Try.f6.params.toList args.toList ds p := hA0
  rw [Try.params6] at hA hval
  obtain ⟨v0, vs0, d0, ds0, p0, q0, hargs, rfl, rfl, h0, r0⟩ := trodAll_cons hA
  obtain ⟨v1, vs1, d1, ds1, p1, q1, rfl, rfl, rfl, h1, r1⟩ := trodAll_cons r0
  obtain ⟨v2, vs2, d2, ds2, p2, q2, rfl, rfl, rfl, h2, r2⟩ := trodAll_cons r1
  obtain ⟨rfl, rfl, rfl⟩ := trodAll_nil r2
  obtain rfl : args = #[v0, v1, v2] := by cases args; simp_all
  obtain ⟨rfl, rfl⟩ := trodVars_none hV
  obtain ⟨a0, rfl, rfl, rfl, w0⟩ := open_int Try.underlying5 (hval 0 5 v0 rfl rfl) h0
  obtain ⟨a1, rfl, rfl, rfl, w1⟩ := open_int Try.underlying5 (hval 1 5 v1 rfl rfl) h1
  obtain ⟨a2, rfl, rfl, rfl, w2⟩ := open_int Try.underlying3 (hval 2 3 v2 rfl rfl) h2
  clear hA0 hval0
  simp only [List.append_nil] at hW'
  refine (walk a0 a1 a2 w0 w1 w2 W).mono fun e W' ⟨he, hg⟩ => ?_
  subst he
  exact ⟨_, rfl, _, _, _, [], [], [], hW', trodAll_mk1 (shut_bool Try.underlying4 _), (trodAll_cons_mk (shut_int Try.underlying5 w0) (trodAll_cons_mk (shut_int Try.underlying5 w1) (trodAll_cons_mk (shut_int Try.underlying3 w2) trodAll_mk0))), rfl, Below.frame hg _, fun h => by cases h⟩

theorem over : Rows.linesApartRow.holds Try.pinned (OpenSpec.ofChange Rows.linesApartSpec) :=
  OpenClaim.holds_of_wide 6 Try.f6 rfl rfl rfl rfl rfl rfl rfl ⟨rfl, rfl, rfl, rfl, rfl⟩ rfl rfl rfl rfl rfl (by kernel_rfl) Try.func6 (by kernel_rfl)
    (of_decide_eq_true (by kernel_rfl)) (by unfold Func.isWrapper; first | (rw [if_pos (by decide +kernel)]; kernel_rfl) | (rw [if_neg (by decide +kernel)]; exact ⟨rfl, rfl⟩))
    (fun os started H enc _ => lifted os started H enc)

theorem proved : Rows.LinesApartSaid :=
  over
end Go.Proofs.Ytijclpkfmkbkpaa.linesApart
