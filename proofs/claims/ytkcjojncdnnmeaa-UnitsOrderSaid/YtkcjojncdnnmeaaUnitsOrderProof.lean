/- UnitsOrder: for every input the call returns true, and its arguments are as they were; no condition.
   The frame round the walk was printed by proof-skeleton.mjs. -/
import Derived.Test.YtkcjojncdnnmeaaRows
import Derived.Test.YtkcjojncdnnmeaaLaws2
import Derived.WalkKit
import Derived.ProofKit
import Derived.OpenShut
namespace Go.Proofs.Ytkcjojncdnnmeaa.unitsOrder
open Go.ChangeShapes Go.WideShapes Go.ChangeAt Go.RowKit
set_option linter.unusedVariables false      -- a walk need not use every 'w<i>' (that an integer argument fits its kind)

theorem own : ownKnob Try.prog.godebug = none := by kernel_rfl

/-- How two numbers lie, by what 'holds' answers of them: the sum of each three is 1. -/
theorem three (a b : Int) (a0 : 0 ≤ a) (a1 : a ≤ 4294967295) (b0 : 0 ≤ b) (b1 : b ≤ 4294967295) :
    (hw 15 a b = true ∧ hw 17 a b = false ∧ hw 17 b a = false ∧ hw 18 a b = false ∧ hw 18 b a = false) ∨
    (hw 15 a b = false ∧ (hw 17 a b = true ∧ hw 17 b a = false ∨ hw 17 a b = false ∧ hw 17 b a = true) ∧ (hw 18 a b = true ∧ hw 18 b a = false ∨ hw 18 a b = false ∧ hw 18 b a = true)) := by
  simp only [hw15, hw17, hw18, decide_eq_true_eq, decide_eq_false_iff_not, beq_iff_eq, beq_eq_false_iff_ne]
  unfold sg wrap32
  omega
theorem cell_of_okw {w0 w : World} (h : Okw w0 w) {p : Addr} {v : Value} (hb : p.block < w0.heap.size) (hc : w0.cell? p = some v) : w.cell? p = some v := by
  rw [Below.cell h hb]; exact hc

theorem okw_after {w0 w : World} (o : Obj) (h : Okw (w0.alloc o) w) : Okw w0 w := ((Okw.refl w0).alloc o).next h

theorem tails (a b : Int) (a0 : 0 ≤ a) (a1 : a ≤ 4294967295) (b0 : 0 ≤ b) (b1 : b ≤ 4294967295) :
    (a == b) = hw 15 a b ∧ hw 16 a b = !hw 15 a b ∧ hw 18 (bits BinOp.xor .u32 a 2147483648) (bits BinOp.xor .u32 b 2147483648) = hw 17 a b ∧
      decide (sg a < sg b) = hw 17 a b ∧ (hw 17 a 0 == (a / 2147483648 == 1)) = true := by
  refine ⟨?_, ?_, ?_, ?_, signLaw a a0 a1⟩
  · rw [hw15]
  · rw [hw15, hw16]; simp [bne]
  · exact (beq_iff_eq.1 (orderLaw a b a0 a1 b0 b1)).symm
  · rw [hw17]
/-! ### THE WALK -/
set_option maxHeartbeats 2000000 in
theorem walk (a0 : Int) (a1 : Int) (w0 : (Lit.int .u32 a0).wf = true) (w1 : (Lit.int .u32 a1).wf = true) (w : World) :
    Calls Try.prog 8 #[.int .u32 a0, .int .u32 a1] w fun e w' => e = .returned (.bool true) ∧ Okw w w' := by
  obtain ⟨g0, g0'⟩ := bd_u32 w0
  obtain ⟨g1, g1'⟩ := bd_u32 w1
  have q0 : Okw (w.alloc (.cells #[.int .u8 17, .int .u8 18] 22)) (w.alloc (.cells #[.int .u8 17, .int .u8 18] 22)) := Okw.refl _
  have hc0 := cell_new w #[.int .u8 17, .int .u8 18] 22 0 _ rfl
  have hc1 := cell_new w #[.int .u8 17, .int .u8 18] 22 1 _ rfl
  have HC := Lib.hid (And.intro hc0 hc1)
  clear hc0 hc1
  obtain ⟨t1, t2, t3, t4, t5⟩ := tails a0 a1 g0 g0' g1 g1'
  rcases three a0 a1 g0 g0' g1 g1' with ⟨e1, e2, e3, e4, e5⟩ | ⟨e1, ⟨e2, e3⟩ | ⟨e2, e3⟩, ⟨e4, e5⟩ | ⟨e4, e5⟩⟩
  all_goals
    rw [e1] at t1 t2
    rw [e2] at t3 t4
    go_enter Try.func8, Try.ntmps8
    go_wp2_with (go_at_call 18; refine (hw_step _ _ _ (w.alloc (.cells #[.int .u8 17, .int .u8 18] 22)) _ (by assumption)).mono ?_; rintro e w1 ⟨rfl, q1⟩)
    go_loopw [7] (fun i wr => Okw (w.alloc (.cells #[.int .u8 17, .int .u8 18] 22)) wr ∧ ∃ k : Nat, k ≤ 2 ∧ i = .int .i64 (k : Int)) (fun i _ => 2 - (intOf i).toNat)
    case atStart => exact ⟨by assumption, 0, by omega, rfl⟩
    case round =>
      obtain ⟨hwr, k, hk, rfl⟩ := hrel
      obtain rfl | rfl | rfl : k = 0 ∨ k = 1 ∨ k = 2 := by omega
      · have hc : ∀ wx, Okw (w.alloc (.cells #[.int .u8 17, .int .u8 18] 22)) wx → wx.cell? ⟨w.heap.size, 0, none⟩ = some (.int .u8 17) := fun wx hx => cell_of_okw hx (p := ⟨w.heap.size, 0, none⟩) (by show w.heap.size < _; simp) (HC.out.1)
        go_wp2_with (go_at_call 18; refine (hw_step _ _ _ (w.alloc (.cells #[.int .u8 17, .int .u8 18] 22)) _ (by assumption)).mono ?_; rintro e w1 ⟨rfl, q1⟩)
        go_roundw
        case rel => exact ⟨by assumption, 1, by omega, rfl⟩
        case measure => simp [intOf]
      · have hc : ∀ wx, Okw (w.alloc (.cells #[.int .u8 17, .int .u8 18] 22)) wx → wx.cell? ⟨w.heap.size, 1, none⟩ = some (.int .u8 18) := fun wx hx => cell_of_okw hx (p := ⟨w.heap.size, 1, none⟩) (by show w.heap.size < _; simp) (HC.out.2)
        go_wp2_with (go_at_call 18; refine (hw_step _ _ _ (w.alloc (.cells #[.int .u8 17, .int .u8 18] 22)) _ (by assumption)).mono ?_; rintro e w1 ⟨rfl, q1⟩)
        go_roundw
        case rel => exact ⟨by assumption, 2, by omega, rfl⟩
        case measure => simp [intOf]
      · go_wp2_with (first | (go_at_call 18; refine (hw_step _ _ _ (w.alloc (.cells #[.int .u8 17, .int .u8 18] 22)) _ (by assumption)).mono ?_; rintro e w1 ⟨rfl, q1⟩) | (go_at_call 17; refine (alive_step (w.alloc (.cells #[.int .u8 17, .int .u8 18] 22)) _ (by assumption)).mono ?_; rintro e w1 ⟨rfl, q1⟩) | (go_at_call 19; refine (signed_any _ _).mono ?_; rintro e w1 ⟨rfl, rfl⟩))
        go_ret
        exact ⟨rfl, okw_after (.cells #[.int .u8 17, .int .u8 18] 22) (by assumption)⟩

/-! ### THE ROW's STEP: WRITTEN OUT: LEAVE IT -/
set_option maxRecDepth 100000 in
theorem lifted (os : Os) (started : os.Started) (H : Type) (enc : TypeId × Value → H) :
    ReturnsInHanded {} Try.checked os 8 .any (Rows.unitsOrderSpec.pre6 enc Try.prog Try.f8 Rows.unitsOrderRow.domain false) (Rows.unitsOrderSpec.post enc Try.prog Try.f8 false true false false) := by
  refine returnsInHanded_of_change (C := Try.checked) own started (by kernel_rfl) Try.func8
    (ChangeSpec.witness6 (enc := enc) (C := Try.checked) false ⟨#[], #[.int .u32 0, .int .u32 0], []⟩ 8 (by kernel_rfl) (by kernel_rfl) (by kernel_rfl) (by kernel_rfl)) ?_
  intro W base args ds gs before hval0 hW hcnd _
  have hval : ∀ (j : Nat) t v, Try.f8.params[j]? = some t → args[j]? = some v → Value.okWide Try.prog W .any base t v := hval0
  have hW' := hW
  obtain ⟨p, q, hA0, hV, rfl, hfz, hnd⟩ := hW
  have hA : DataW.TrodAll enc Try.prog W 0 (fun _ => true) true Try.f8.params.toList args.toList ds p := hA0
  rw [Try.params8] at hA hval
  obtain ⟨v0, vs0, d0, ds0, p0, q0, hargs, rfl, rfl, h0, r0⟩ := trodAll_cons hA
  obtain ⟨v1, vs1, d1, ds1, p1, q1, rfl, rfl, rfl, h1, r1⟩ := trodAll_cons r0
  obtain ⟨rfl, rfl, rfl⟩ := trodAll_nil r1
  obtain rfl : args = #[v0, v1] := by cases args; simp_all
  obtain ⟨rfl, rfl⟩ := trodVars_none hV
  obtain ⟨a0, rfl, rfl, rfl, w0⟩ := open_int Try.underlying23 (hval 0 23 v0 rfl rfl) h0
  obtain ⟨a1, rfl, rfl, rfl, w1⟩ := open_int Try.underlying23 (hval 1 23 v1 rfl rfl) h1
  clear hA0 hval0
  simp only [List.append_nil] at hW'
  refine (walk a0 a1 w0 w1 W).mono fun e W' ⟨he, hg⟩ => ?_
  subst he
  exact ⟨_, rfl, _, _, _, [], [], [], hW', trodAll_mk1 (shut_bool Try.underlying4 _), (trodAll_cons_mk (shut_int Try.underlying23 w0) (trodAll_cons_mk (shut_int Try.underlying23 w1) trodAll_mk0)), rfl, Below.frame hg _, fun h => by cases h⟩

theorem over : Rows.unitsOrderRow.holds Try.pinned (OpenSpec.ofChange Rows.unitsOrderSpec) :=
  OpenClaim.holds_of_wide 8 Try.f8 rfl rfl rfl rfl rfl rfl rfl ⟨rfl, rfl, rfl, rfl, rfl⟩ rfl rfl rfl rfl rfl (by kernel_rfl) Try.func8 (by kernel_rfl)
    (of_decide_eq_true (by kernel_rfl)) (by unfold Func.isWrapper; first | (rw [if_pos (by decide +kernel)]; kernel_rfl) | (rw [if_neg (by decide +kernel)]; exact ⟨rfl, rfl⟩))
    (fun os started H enc _ => lifted os started H enc)

theorem proved : Rows.UnitsOrderSaid :=
  over
end Go.Proofs.Ytkcjojncdnnmeaa.unitsOrder
