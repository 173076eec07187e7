/- LinesNone: for every input the call returns true, and its arguments are as they were; no condition.
   The frame round the walk was printed by proof-skeleton.mjs. -/
import Derived.Test.YtijclpkfmkbkpaaRows
import Derived.Test.YtijclpkfmkbkpaaNo
import Derived.WalkKit
import Derived.ProofKit
import Derived.OpenShut
namespace Go.Proofs.Ytijclpkfmkbkpaa.linesNone
open Go.ChangeShapes Go.WideShapes Go.ChangeAt Go.RowKit
set_option linter.unusedVariables false      -- a walk need not use every 'w<i>' (that an integer argument fits its kind)

theorem own : ownKnob Try.prog.godebug = none := by kernel_rfl

section
variable {W1 w : World} {v : Value}
theorem next_nos (h : Okw W1 w) (k : NoL v W1) : Calls Try.prog 11 #[v] w fun e w' => e = .returned (.tuple #[.int .i64 0, .int .i64 2]) ∧ w = w' := next_no v w (k.okw h)
theorem raise_nos (i : Int) (h : Okw W1 w) (k : NoL v W1) : Calls Try.prog 12 #[v, .int .i64 i] w fun e w' => e = .returned (.int .i64 2) ∧ Okw W1 w' := (raise_no v i w (k.okw h)).mono fun _ _ ⟨he, g⟩ => ⟨he, h.next g⟩
theorem mask_nos (i : Int) (on : Bool) (h : Okw W1 w) (k : NoL v W1) : Calls Try.prog 13 #[v, .int .i64 i, .bool on] w fun e w' => e = .returned (.int .i64 2) ∧ Okw W1 w' := (mask_no v i on w (k.okw h)).mono fun _ _ ⟨he, g⟩ => ⟨he, h.next g⟩
theorem calls_nos (h : Okw W1 w) (k : NoL v W1) : Calls Try.prog 14 #[v] w fun e w' => e = .returned (.int .u8 0) ∧ w = w' := calls_no v w (k.okw h)
theorem masks_nos (h : Okw W1 w) (k : NoL v W1) : Calls Try.prog 15 #[v] w fun e w' => e = .returned (.int .u8 0) ∧ w = w' := masks_no v w (k.okw h)
end
/-! ### THE WALK -/
set_option maxRecDepth 100000 in
set_option maxHeartbeats 2000000 in
theorem walk (a0 : Int) (a1 : Bool) (w0 : (Lit.int .i64 a0).wf = true) (w : World) :
    Calls Try.prog 3 #[.int .i64 a0, .bool a1] w fun e w' => e = .returned (.bool true) ∧ Okw w w' := by
  have q0 : Okw ((w.alloc (.cells #[.int .u8 0, .int .u8 0, .bool false] 25)).alloc (.cells #[.pointer none, .pointer (some ⟨w.heap.size, 0, none⟩)] 22)) ((w.alloc (.cells #[.int .u8 0, .int .u8 0, .bool false] 25)).alloc (.cells #[.pointer none, .pointer (some ⟨w.heap.size, 0, none⟩)] 22)) := Okw.refl _
  have n0 : NoL (.pointer none) ((w.alloc (.cells #[.int .u8 0, .int .u8 0, .bool false] 25)).alloc (.cells #[.pointer none, .pointer (some ⟨w.heap.size, 0, none⟩)] 22)) := Or.inl rfl
  have n0 := Lib.hid n0
  have n1 : NoL (.pointer (some ⟨w.heap.size, 0, none⟩)) ((w.alloc (.cells #[.int .u8 0, .int .u8 0, .bool false] 25)).alloc (.cells #[.pointer none, .pointer (some ⟨w.heap.size, 0, none⟩)] 22)) :=
    NoL.alloc (Or.inr ⟨w.heap.size, rfl, cell_new w _ 25 0 _ rfl, cell_new w _ 25 1 _ rfl, cell_new w _ 25 2 _ rfl, by simp⟩) _
  have n1 := Lib.hid n1
  go_enter Try.func3, Try.ntmps3
  go_wp2_with fail
  go_loopw [6] (fun i wr => Okw ((w.alloc (.cells #[.int .u8 0, .int .u8 0, .bool false] 25)).alloc (.cells #[.pointer none, .pointer (some ⟨w.heap.size, 0, none⟩)] 22)) wr ∧ ∃ k : Nat, k ≤ 2 ∧ i = .int .i64 (k : Int)) (fun i _ => 2 - (intOf i).toNat)
  case atStart => exact ⟨by assumption, 0, by omega, rfl⟩
  case round =>
    obtain ⟨hwr, k, hk, rfl⟩ := hrel
    obtain rfl | rfl | rfl : k = 0 ∨ k = 1 ∨ k = 2 := by omega
    · have hc : ∀ wx, Okw ((w.alloc (.cells #[.int .u8 0, .int .u8 0, .bool false] 25)).alloc (.cells #[.pointer none, .pointer (some ⟨w.heap.size, 0, none⟩)] 22)) wx → wx.cell? ⟨w.heap.size + 1, 0, none⟩ = some (.pointer none) := fun wx hx => cell_of_okw hx (p := ⟨w.heap.size + 1, 0, none⟩) (by show w.heap.size + 1 < _; simp) (by simp)
      go_wp2_with (first | (go_at_call 11; refine (next_nos (W1 := ((w.alloc (.cells #[.int .u8 0, .int .u8 0, .bool false] 25)).alloc (.cells #[.pointer none, .pointer (some ⟨w.heap.size, 0, none⟩)] 22))) (by assumption) n0.out).mono ?_; rintro e w1 ⟨rfl, rfl⟩) | (go_at_call 12; refine (raise_nos (W1 := ((w.alloc (.cells #[.int .u8 0, .int .u8 0, .bool false] 25)).alloc (.cells #[.pointer none, .pointer (some ⟨w.heap.size, 0, none⟩)] 22))) _ (by assumption) n0.out).mono ?_; rintro e w1 ⟨rfl, q1⟩) | (go_at_call 13; refine (mask_nos (W1 := ((w.alloc (.cells #[.int .u8 0, .int .u8 0, .bool false] 25)).alloc (.cells #[.pointer none, .pointer (some ⟨w.heap.size, 0, none⟩)] 22))) _ _ (by assumption) n0.out).mono ?_; rintro e w1 ⟨rfl, q1⟩) | (go_at_call 14; refine (calls_nos (W1 := ((w.alloc (.cells #[.int .u8 0, .int .u8 0, .bool false] 25)).alloc (.cells #[.pointer none, .pointer (some ⟨w.heap.size, 0, none⟩)] 22))) (by assumption) n0.out).mono ?_; rintro e w1 ⟨rfl, rfl⟩) | (go_at_call 15; refine (masks_nos (W1 := ((w.alloc (.cells #[.int .u8 0, .int .u8 0, .bool false] 25)).alloc (.cells #[.pointer none, .pointer (some ⟨w.heap.size, 0, none⟩)] 22))) (by assumption) n0.out).mono ?_; rintro e w1 ⟨rfl, rfl⟩))
      go_roundw
      case rel => exact ⟨by assumption, 1, by omega, rfl⟩
      case measure => simp [intOf]
    · have hc : ∀ wx, Okw ((w.alloc (.cells #[.int .u8 0, .int .u8 0, .bool false] 25)).alloc (.cells #[.pointer none, .pointer (some ⟨w.heap.size, 0, none⟩)] 22)) wx → wx.cell? ⟨w.heap.size + 1, 1, none⟩ = some (.pointer (some ⟨w.heap.size, 0, none⟩)) := fun wx hx => cell_of_okw hx (p := ⟨w.heap.size + 1, 1, none⟩) (by show w.heap.size + 1 < _; simp) (by simp)
      go_wp2_with (first | (go_at_call 11; refine (next_nos (W1 := ((w.alloc (.cells #[.int .u8 0, .int .u8 0, .bool false] 25)).alloc (.cells #[.pointer none, .pointer (some ⟨w.heap.size, 0, none⟩)] 22))) (by assumption) n1.out).mono ?_; rintro e w1 ⟨rfl, rfl⟩) | (go_at_call 12; refine (raise_nos (W1 := ((w.alloc (.cells #[.int .u8 0, .int .u8 0, .bool false] 25)).alloc (.cells #[.pointer none, .pointer (some ⟨w.heap.size, 0, none⟩)] 22))) _ (by assumption) n1.out).mono ?_; rintro e w1 ⟨rfl, q1⟩) | (go_at_call 13; refine (mask_nos (W1 := ((w.alloc (.cells #[.int .u8 0, .int .u8 0, .bool false] 25)).alloc (.cells #[.pointer none, .pointer (some ⟨w.heap.size, 0, none⟩)] 22))) _ _ (by assumption) n1.out).mono ?_; rintro e w1 ⟨rfl, q1⟩) | (go_at_call 14; refine (calls_nos (W1 := ((w.alloc (.cells #[.int .u8 0, .int .u8 0, .bool false] 25)).alloc (.cells #[.pointer none, .pointer (some ⟨w.heap.size, 0, none⟩)] 22))) (by assumption) n1.out).mono ?_; rintro e w1 ⟨rfl, rfl⟩) | (go_at_call 15; refine (masks_nos (W1 := ((w.alloc (.cells #[.int .u8 0, .int .u8 0, .bool false] 25)).alloc (.cells #[.pointer none, .pointer (some ⟨w.heap.size, 0, none⟩)] 22))) (by assumption) n1.out).mono ?_; rintro e w1 ⟨rfl, rfl⟩))
      go_roundw
      case rel => exact ⟨by assumption, 2, by omega, rfl⟩
      case measure => simp [intOf]
    · go_wp2_with fail
      go_ret
      refine ⟨rfl, Okw.next (Okw.refl w) ?_⟩
      exact Below.trans ((Below.alloc (Below.refl _ _) (Nat.le_refl _) _).alloc (by simp) _) (Below.mono hwr (by simp; omega))

/-! ### THE ROW's STEP: WRITTEN OUT: LEAVE IT -/
set_option maxRecDepth 100000 in
theorem lifted (os : Os) (started : os.Started) (H : Type) (enc : TypeId × Value → H) :
    ReturnsInHanded {} Try.checked os 3 .any (Rows.linesNoneSpec.pre6 enc Try.prog Try.f3 Rows.linesNoneRow.domain false) (Rows.linesNoneSpec.post enc Try.prog Try.f3 false true false false) := by
  refine returnsInHanded_of_change (C := Try.checked) own started (by kernel_rfl) Try.func3
    (ChangeSpec.witness6 (enc := enc) (C := Try.checked) false ⟨#[], #[.int .i64 0, .bool false], []⟩ 8 (by kernel_rfl) (by kernel_rfl) (by kernel_rfl) (by kernel_rfl)) ?_
  intro W base args ds gs before hval0 hW hcnd _
  have hval : ∀ (j : Nat) t v, Try.f3.params[j]? = some t → args[j]? = some v → Value.okWide Try.prog W .any base t v := hval0
  have hW' := hW
  obtain ⟨p, q, hA0, hV, rfl, hfz, hnd⟩ := hW
  have hA : DataW.TrodAll enc Try.prog W 0 (fun _ => true) true Try.f3.params.toList args.toList ds p := hA0
  rw [Try.params3] at hA hval
  obtain ⟨v0, vs0, d0, ds0, p0, q0, hargs, rfl, rfl, h0, r0⟩ := trodAll_cons hA
  obtain ⟨v1, vs1, d1, ds1, p1, q1, rfl, rfl, rfl, h1, r1⟩ := trodAll_cons r0
  obtain ⟨rfl, rfl, rfl⟩ := trodAll_nil r1
  obtain rfl : args = #[v0, v1] := by cases args; simp_all
  obtain ⟨rfl, rfl⟩ := trodVars_none hV
  obtain ⟨a0, rfl, rfl, rfl, w0⟩ := open_int Try.underlying3 (hval 0 3 v0 rfl rfl) h0
  obtain ⟨a1, rfl, rfl, rfl⟩ := open_bool Try.underlying4 (hval 1 4 v1 rfl rfl) h1
  clear hA0 hval0
  simp only [List.append_nil] at hW'
  refine (walk a0 a1 w0 W).mono fun e W' ⟨he, hg⟩ => ?_
  subst he
  exact ⟨_, rfl, _, _, _, [], [], [], hW', trodAll_mk1 (shut_bool Try.underlying4 _), (trodAll_cons_mk (shut_int Try.underlying3 w0) (trodAll_cons_mk (shut_bool Try.underlying4 _) trodAll_mk0)), rfl, Below.frame hg _, fun h => by cases h⟩

theorem over : Rows.linesNoneRow.holds Try.pinned (OpenSpec.ofChange Rows.linesNoneSpec) :=
  OpenClaim.holds_of_wide 3 Try.f3 rfl rfl rfl rfl rfl rfl rfl ⟨rfl, rfl, rfl, rfl, rfl⟩ rfl rfl rfl rfl rfl (by kernel_rfl) Try.func3 (by kernel_rfl)
    (of_decide_eq_true (by kernel_rfl)) (by unfold Func.isWrapper; first | (rw [if_pos (by decide +kernel)]; kernel_rfl) | (rw [if_neg (by decide +kernel)]; exact ⟨rfl, rfl⟩))
    (fun os started H enc _ => lifted os started H enc)

theorem proved : Rows.LinesNoneSaid :=
  over
end Go.Proofs.Ytijclpkfmkbkpaa.linesNone
