/- LinesTwo: for every input the call returns true, and its arguments are as they were; no condition.
   The frame round the walk was printed by proof-skeleton.mjs. -/
import Derived.Test.YtijclpkfmkbkpaaRows
import Derived.Test.YtijclpkfmkbkpaaAlive
import Derived.WalkKit
import Derived.ProofKit
import Derived.OpenShut
namespace Go.Proofs.Ytijclpkfmkbkpaa.linesTwo
open Go.ChangeShapes Go.WideShapes Go.ChangeAt Go.RowKit
set_option linter.unusedVariables false      -- a walk need not use every 'w<i>' (that an integer argument fits its kind)

theorem own : ownKnob Try.prog.godebug = none := by kernel_rfl

/-! ### THE WALK -/
set_option maxHeartbeats 2000000 in
theorem walk (a0 : Int) (a1 : Int) (w0 : (Lit.int .u8 a0).wf = true) (w1 : (Lit.int .u8 a1).wf = true) (w : World) :
    Calls Try.prog 8 #[.int .u8 a0, .int .u8 a1] w fun e w' => e = .returned (.bool true) ∧ Okw w w' := by
  have hc := bd_u8 w0
  have hm := bd_u8 w1
  obtain ⟨p0, hp0⟩ : ∃ p, p = w.heap.size := ⟨_, rfl⟩
  have HP := Lib.hid hp0
  have HC := Lib.hid hc
  have HM := Lib.hid hm
  clear hp0 hc hm
  have q0 : Okw w w := Okw.refl w
  go_enter Try.func8, Try.ntmps8
  go_wp2_with fail
  refine (set_at w _ _ _ p0 HP.out HC.out HM.out q0).mono ?_; rintro e w1 ⟨rfl, s1⟩
  go_wp2_with fail
  refine (new_any w1).mono ?_; rintro e w2 ⟨rfl, g2⟩
  have t2 : St w w1.heap.size 0 0 w2 := by rw [← g2]; exact ⟨Below.alloc s1.1 s1.1.size _, s1.1.size, (MapKept.heap_alloc w1 _).1⟩
  have s2 : St w p0 a0 a1 w2 := s1.other (by rw [← g2]; exact Below.alloc (Below.refl _ _) (Nat.le_refl _) _)
  have hne : p0 ≠ w1.heap.size := Nat.ne_of_lt s1.lt
  obtain ⟨q, hq⟩ : ∃ q, q = w1.heap.size := ⟨_, rfl⟩
  rw [← hq] at t2 hne ⊢
  have HN := Lib.hid hne
  clear hq g2 hne s1 q0
  go_wp2_with fail
  refine (calls_step t2).mono ?_; rintro e w3 ⟨rfl, rfl⟩
  go_wp2_with fail
  refine (masks_step t2).mono ?_; rintro e w3 ⟨rfl, rfl⟩
  go_wp2_with fail
  refine (next_any w2 q 0 0 t2.2.2).mono ?_; rintro e w3 ⟨rfl, g3, _⟩
  have s3 : St w p0 a0 a1 w3 := s2.keep g3 t2.2.1 HN.out
  have e1 : nxE 0 0 = 11 := by decide +kernel
  have e2 : nxL 0 0 = 0 := by decide +kernel
  clear s2 t2 g3
  go_wp2_with fail
  refine (alive_keep s3).mono ?_; rintro e w4 ⟨rfl, s4⟩
  go_wp2_with fail
  refine (calls_step s4).mono ?_; rintro e w5 ⟨rfl, rfl⟩
  go_wp2_with fail
  refine (masks_step s4).mono ?_; rintro e w5 ⟨rfl, rfl⟩
  go_wp2_with fail
  go_ret
  exact ⟨rfl, s4.ok⟩

/-! ### THE ROW's STEP: WRITTEN OUT: LEAVE IT -/
set_option maxRecDepth 100000 in
theorem lifted (os : Os) (started : os.Started) (H : Type) (enc : TypeId × Value → H) :
    ReturnsInHanded {} Try.checked os 8 .any (Rows.linesTwoSpec.pre6 enc Try.prog Try.f8 Rows.linesTwoRow.domain false) (Rows.linesTwoSpec.post enc Try.prog Try.f8 false true false false) := by
  refine returnsInHanded_of_change (C := Try.checked) own started (by kernel_rfl) Try.func8
    (ChangeSpec.witness6 (enc := enc) (C := Try.checked) false ⟨#[], #[.int .u8 0, .int .u8 0], []⟩ 8 (by kernel_rfl) (by kernel_rfl) (by kernel_rfl) (by kernel_rfl)) ?_
  intro W base args ds gs before hval0 hW hcnd _
  have hval : ∀ (j : Nat) t v, Try.f8.params[j]? = some t → args[j]? = some v → Value.okWide Try.prog W .any base t v := hval0
  have hW' := hW
  obtain ⟨p, q, hA0, hV, rfl, hfz, hnd⟩ := hW
  have hA : DataW.TrodAll enc Try.prog W 0 (fun _ => true) true Try.f8.params.toList args.toList ds p := hA0
  rw [Try.params8] at hA hval
  obtain ⟨v0, vs0, d0, ds0, p0, q0, hargs, rfl, rfl, h0, r0⟩ := trodAll_cons hA
  obtain ⟨v1, vs1, d1, ds1, p1, q1, rfl, rfl, rfl, h1, r1⟩ := trodAll_cons r0
  obtain ⟨rfl, rfl, rfl⟩ := trodAll_nil r1
  obtain rfl : args = #[v0, v1] := by cases args; simp_all
  obtain ⟨rfl, rfl⟩ := trodVars_none hV
  obtain ⟨a0, rfl, rfl, rfl, w0⟩ := open_int Try.underlying5 (hval 0 5 v0 rfl rfl) h0
  obtain ⟨a1, rfl, rfl, rfl, w1⟩ := open_int Try.underlying5 (hval 1 5 v1 rfl rfl) h1
  clear hA0 hval0
  simp only [List.append_nil] at hW'
  refine (walk a0 a1 w0 w1 W).mono fun e W' ⟨he, hg⟩ => ?_
  subst he
  exact ⟨_, rfl, _, _, _, [], [], [], hW', trodAll_mk1 (shut_bool Try.underlying4 _), (trodAll_cons_mk (shut_int Try.underlying5 w0) (trodAll_cons_mk (shut_int Try.underlying5 w1) trodAll_mk0)), rfl, Below.frame hg _, fun h => by cases h⟩

theorem over : Rows.linesTwoRow.holds Try.pinned (OpenSpec.ofChange Rows.linesTwoSpec) :=
  OpenClaim.holds_of_wide 8 Try.f8 rfl rfl rfl rfl rfl rfl rfl ⟨rfl, rfl, rfl, rfl, rfl⟩ rfl rfl rfl rfl rfl (by kernel_rfl) Try.func8 (by kernel_rfl)
    (of_decide_eq_true (by kernel_rfl)) (by unfold Func.isWrapper; first | (rw [if_pos (by decide +kernel)]; kernel_rfl) | (rw [if_neg (by decide +kernel)]; exact ⟨rfl, rfl⟩))
    (fun os started H enc _ => lifted os started H enc)

theorem proved : Rows.LinesTwoSaid :=
  over
end Go.Proofs.Ytijclpkfmkbkpaa.linesTwo
