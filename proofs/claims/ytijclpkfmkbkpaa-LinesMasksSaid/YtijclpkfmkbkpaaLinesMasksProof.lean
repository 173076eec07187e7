/- LinesMasks: for every input the call returns true, and its arguments are as they were; no condition.
   The frame round the walk was printed by proof-skeleton.mjs. -/
import Derived.Test.YtijclpkfmkbkpaaRows
import Derived.Test.YtijclpkfmkbkpaaBetween
import Derived.WalkKit
import Derived.ProofKit
import Derived.OpenShut
import Derived.Lib.SmallJoins
import Derived.Deep.RegionHeld3
import Derived.ShutString
import Derived.ChangeOld
import Derived.Below
namespace Go.Proofs.Ytijclpkfmkbkpaa.linesMasks
open Go.ChangeShapes Go.WideShapes Go.ChangeAt Go.RowKit
open Go.ChangeMaps (open_string shut_string)
set_option linter.unusedVariables false

theorem own : ownKnob Try.prog.godebug = none := by kernel_rfl
theorem laidOut : laidOutB Try.prog = true := by kernel_rfl

theorem cells50 : Try.prog.cellsOf 50 = 2 := by kernel_rfl
theorem cells5 : Try.prog.cellsOf 5 = 1 := by kernel_rfl
theorem two_of {cs : Array Value} (h : cs.size = 2) : ∃ c0 c1, cs = #[c0, c1] := by
  obtain ⟨l⟩ := cs
  match l, h with
  | [c0, c1], _ => exact ⟨c0, c1, rfl⟩
/-- An array of two whole numbers of 8 bits that came in by value. -/
theorem open_two {H : Type} {enc : TypeId × Value → H} {w : World} {r : Reach} {b0 base : Nat} {spare : Nat → Bool} {held : Bool} {v : Value} {d : DataW H} {p : List MemPlace}
    (hv : Value.okWide Try.prog w r b0 50 v) (h : DataW.Trod enc Try.prog w base spare held 50 v d p) :
    ∃ x y : Int, v = .agg #[.int .u8 x, .int .u8 y] ∧ (Lit.int .u8 x).wf = true ∧ (Lit.int .u8 y).wf = true := by
  simp only [Value.okWide, Try.underlying50] at hv
  obtain ⟨cs, rfl, hsz, _⟩ := hv
  obtain ⟨c0, c1, rfl⟩ := two_of (hsz.trans cells50)
  obtain ⟨fuel, hf⟩ := h
  obtain ⟨xs, m, _, _, _, hl, hi⟩ := DataW.trod_array Try.underlying50 hf
  have h0 := hi 0 (by decide)
  have h1 := hi 1 (by decide)
  rw [cells5] at h0 h1
  obtain ⟨y0, y1, rfl⟩ : ∃ y0 y1, xs = [y0, y1] := by
    match xs, hl with
    | [y0, y1], _ => exact ⟨y0, y1, rfl⟩
  simp [Value.cells] at h0 h1
  obtain ⟨x, ex, _, wx⟩ := DataW.trod_int Try.underlying5 h0
  obtain ⟨y, ey, _, wy⟩ := DataW.trod_int Try.underlying5 h1
  simp at ex ey
  subst ex ey
  exact ⟨x, y, rfl, wx, wy⟩

theorem St.drew {w0 w : World} {p : Nat} {c m : Int} (h : St w0 p c m w) : St w0 p c m w.drew := ⟨Below.drew h.1, h.2.1, h.2.2⟩
/-! ### THE WALK -/
set_option maxRecDepth 100000 in
set_option maxHeartbeats 4000000 in
theorem walk (a00 a01 a1 : Int) (a2 : Bool) (w : World) (w00 : (Lit.int .u8 a00).wf = true) (w01 : (Lit.int .u8 a01).wf = true) (w1 : (Lit.int .u8 a1).wf = true) :
    Calls Try.prog 10 #[.agg #[.int .u8 a00, .int .u8 a01], .int .u8 a1, .bool a2] w fun e w' => e = .returned (.bool true) ∧ Below w.heap.size w w' := by
  have hc := bd_u8 w00
  have hm := bd_u8 w01
  obtain ⟨g1, g1'⟩ := bd_u8 w1
  have k0 : 0 ≤ a1 % 8 := by omega
  have k1 : a1 % 8 ≤ 7 := by omega
  have q0 : Okw w (w.alloc (.cells #[.int .u8 a00, .int .u8 a01] 50)) := (Below.refl _ _).alloc (Nat.le_refl _) _
  obtain ⟨p0, hp0⟩ : ∃ p, p = (w.alloc (.cells #[.int .u8 a00, .int .u8 a01] 50)).heap.size := ⟨_, rfl⟩
  have HP := Lib.hid hp0
  have HC := Lib.hid hc
  have HM := Lib.hid hm
  have BT := Lib.hid (bit_test0 hc (a1 % 8).toNat)
  clear hp0 hc hm w00 w01 w1
  cases a2
  · go_enter Try.func10, Try.ntmps10
    go_wp2_with fail
    refine (set_at w _ _ _ p0 HP.out HC.out (b8_clrB a01 (a1 % 8)) q0).mono ?_; rintro e w2 ⟨rfl, s1⟩
    clear q0
    go_wp2_with fail
    refine (mask_on _ k0 k1 s1).mono ?_; rintro e w3 ⟨rfl, s2⟩
    clear s1
    go_wp2_with fail
    have s3 := s2
    clear s2
    go_loopw [11] (fun i wr => ∃ n : Nat, n ≤ 8 ∧ i = .int .i64 (n : Int) ∧ ∃ (j : Nat) (c : Int), n ≤ j ∧ j ≤ 8 ∧ Told a00 (setB (clrB a01 (a1 % 8)) (a1 % 8)) j c ∧ St w p0 c (setB (clrB a01 (a1 % 8)) (a1 % 8)) wr) (fun i _ => 8 - (intOf i).toNat)
    case atStart => exact ⟨0, by omega, rfl, 0, _, Nat.le_refl _, by omega, told_start HC.out, s3⟩
    case round =>
      obtain ⟨n, hn, rfl, j, c, hnj, hj8, hTold, st⟩ := hrel
      clear s3
      by_cases hlt : n < 8
      · rcases told_next HC.out (b8_setB _ _) (8 - j) j c (by omega) hTold with ⟨e1, e2, e3, e4⟩ | ⟨k, h1, h2, h3, h4, h5, h6⟩
        · have HN := Lib.hid (And.intro e1 (And.intro e2 e3))
          have HT8 := Lib.hid e4
          clear hTold e1 e2 e3 e4
          go_wp2_with fail
          refine (next_num 0 11 c HN.out.1 HN.out.2.1 HN.out.2.2 st).mono ?_; rintro e w5 ⟨rfl, st⟩
          have HE := Lib.hid (told_end HC.out (b8_setB _ _) HT8.out)
          go_wp2_with fail
          refine (next_num 0 11 c HE.out.1 HE.out.2.1 HE.out.2.2.1 st).mono ?_; rintro e w5 ⟨rfl, t5⟩
          clear st
          go_wp2_with fail
          refine (mask_off _ k0 k1 t5).mono ?_; rintro e w6 ⟨rfl, t6⟩
          have t7 := t6.change HE.out.2.2.2 (on_off HM.out k0 k1)
          clear t5 t6
          have BT0 := BT.out
          cases hk : tb a00 (a1 % 8).toNat
          · rw [hk] at BT0
            simp only [Bool.not_false] at BT0
            have HA := Lib.hid (after_no HC.out HM.out k0 k1 hk)
            clear hk
            go_wp2_with fail
            refine (next_num 0 11 _ HA.out.1 HA.out.2 rfl t7).mono ?_; rintro e w8 ⟨rfl, t8⟩
            clear t7
            go_wp2_with (go_at_call 23; refine (alive_keep (by assumption)).mono ?_; rintro e w1 ⟨rfl, q1⟩)
            go_ret
            exact ⟨rfl, q1.ok⟩
          · rw [hk] at BT0
            simp only [Bool.not_true] at BT0
            have HA := Lib.hid (after_yes HC.out HM.out k0 k1 hk)
            clear hk
            go_wp2_with fail
            refine (next_num (a1 % 8) 0 _ HA.out.1 HA.out.2 rfl t7).mono ?_; rintro e w8 ⟨rfl, t8⟩
            clear t7
            have hmm : (clrB a01 (a1 % 8) == bits BinOp.andNot .u8 a01 (IntKind.u8.wrap (2 ^ (a1 % 8).toNat))) = true := by rw [IntKind.wrap_u8]; simp [clrB]
            go_wp2_with fail
            go_region_held3 (fun _ => True) (first | exact trivial) ((first | (go_at_call 23; refine (alive_keep (St.drew t8)).mono ?_; rintro e w9 ⟨rfl, q1⟩) | (go_at_call 15; refine (masks_step (by assumption)).mono ?_; rintro e w10 ⟨rfl, rfl⟩)))
            all_goals
              go_wp2_with fail
              go_ret
              exact ⟨rfl, q1.ok⟩
        · have hne : ((k : Int) == a1 % 8) = false := by
            rw [beq_eq_false_iff_ne]
            intro e
            rw [show k = (a1 % 8).toNat by omega, tb_setB (b8_clrB _ _) k0 k1] at h3
            simp at h3
          have HN := Lib.hid (And.intro h4 h5)
          have HT := Lib.hid h6
          clear hTold h3 h4 h5 h6
          go_wp2_with (go_at_call 11; refine (next_num (k : Int) 0 _ HN.out.1 HN.out.2 rfl st).mono ?_; rintro e w5 ⟨rfl, t5⟩)
          go_roundw
          case rel => exact ⟨n + 1, by omega, by go_num, k + 1, _, by omega, by omega, HT.out, t5⟩
          case measure => simp [intOf]; omega
      · obtain rfl : n = 8 := by omega
        obtain rfl : j = 8 := by omega
        have HT8 := Lib.hid hTold
        clear hTold
        have HE := Lib.hid (told_end HC.out (b8_setB _ _) HT8.out)
        go_wp2_with fail
        refine (next_num 0 11 c HE.out.1 HE.out.2.1 HE.out.2.2.1 st).mono ?_; rintro e w5 ⟨rfl, t5⟩
        clear st
        go_wp2_with fail
        refine (mask_off _ k0 k1 t5).mono ?_; rintro e w6 ⟨rfl, t6⟩
        have t7 := t6.change HE.out.2.2.2 (on_off HM.out k0 k1)
        clear t5 t6
        have BT0 := BT.out
        cases hk : tb a00 (a1 % 8).toNat
        · rw [hk] at BT0
          simp only [Bool.not_false] at BT0
          have HA := Lib.hid (after_no HC.out HM.out k0 k1 hk)
          clear hk
          go_wp2_with fail
          refine (next_num 0 11 _ HA.out.1 HA.out.2 rfl t7).mono ?_; rintro e w8 ⟨rfl, t8⟩
          clear t7
          go_wp2_with (go_at_call 23; refine (alive_keep (by assumption)).mono ?_; rintro e w1 ⟨rfl, q1⟩)
          go_ret
          exact ⟨rfl, q1.ok⟩
        · rw [hk] at BT0
          simp only [Bool.not_true] at BT0
          have HA := Lib.hid (after_yes HC.out HM.out k0 k1 hk)
          clear hk
          go_wp2_with fail
          refine (next_num (a1 % 8) 0 _ HA.out.1 HA.out.2 rfl t7).mono ?_; rintro e w8 ⟨rfl, t8⟩
          clear t7
          have hmm : (clrB a01 (a1 % 8) == bits BinOp.andNot .u8 a01 (IntKind.u8.wrap (2 ^ (a1 % 8).toNat))) = true := by rw [IntKind.wrap_u8]; simp [clrB]
          go_wp2_with fail
          go_region_held3 (fun _ => True) (first | exact trivial) ((first | (go_at_call 23; refine (alive_keep (St.drew t8)).mono ?_; rintro e w9 ⟨rfl, q1⟩) | (go_at_call 15; refine (masks_step (by assumption)).mono ?_; rintro e w10 ⟨rfl, rfl⟩)))
          all_goals
            go_wp2_with fail
            go_ret
            exact ⟨rfl, q1.ok⟩
  · go_enter Try.func10, Try.ntmps10
    go_wp2_with fail
    refine (set_at w _ _ _ p0 HP.out HC.out (b8_clrB a01 (a1 % 8)) q0).mono ?_; rintro e w2 ⟨rfl, s1⟩
    clear q0
    go_wp2_with fail
    refine (mask_on _ k0 k1 s1).mono ?_; rintro e w3 ⟨rfl, s2⟩
    clear s1
    go_wp2_with fail
    refine (raise_in _ k0 k1 s2).mono ?_; rintro e w4 ⟨rfl, s3⟩
    clear s2
    go_wp2_with fail
    go_loopw [11] (fun i wr => ∃ n : Nat, n ≤ 8 ∧ i = .int .i64 (n : Int) ∧ ∃ (j : Nat) (c : Int), n ≤ j ∧ j ≤ 8 ∧ Told (setB a00 (a1 % 8)) (setB (clrB a01 (a1 % 8)) (a1 % 8)) j c ∧ St w p0 c (setB (clrB a01 (a1 % 8)) (a1 % 8)) wr) (fun i _ => 8 - (intOf i).toNat)
    case atStart => exact ⟨0, by omega, rfl, 0, _, Nat.le_refl _, by omega, told_start (b8_setB _ _), s3⟩
    case round =>
      obtain ⟨n, hn, rfl, j, c, hnj, hj8, hTold, st⟩ := hrel
      clear s3
      by_cases hlt : n < 8
      · rcases told_next (b8_setB _ _) (b8_setB _ _) (8 - j) j c (by omega) hTold with ⟨e1, e2, e3, e4⟩ | ⟨k, h1, h2, h3, h4, h5, h6⟩
        · have HN := Lib.hid (And.intro e1 (And.intro e2 e3))
          have HT8 := Lib.hid e4
          clear hTold e1 e2 e3 e4
          go_wp2_with fail
          refine (next_num 0 11 c HN.out.1 HN.out.2.1 HN.out.2.2 st).mono ?_; rintro e w5 ⟨rfl, st⟩
          have HE := Lib.hid (told_end (b8_setB _ _) (b8_setB _ _) HT8.out)
          go_wp2_with fail
          refine (next_num 0 11 c HE.out.1 HE.out.2.1 HE.out.2.2.1 st).mono ?_; rintro e w5 ⟨rfl, t5⟩
          clear st
          go_wp2_with fail
          refine (mask_off _ k0 k1 t5).mono ?_; rintro e w6 ⟨rfl, t6⟩
          have t7 := t6.change HE.out.2.2.2 (on_off HM.out k0 k1)
          clear t5 t6
          have HA := Lib.hid (after_yes (b8_setB _ _) HM.out k0 k1 (by rw [tb_setB HC.out k0 k1]; simp))
          go_wp2_with fail
          refine (next_num (a1 % 8) 0 _ HA.out.1 HA.out.2 rfl t7).mono ?_; rintro e w8 ⟨rfl, t8⟩
          clear t7
          have hmm : (clrB a01 (a1 % 8) == bits BinOp.andNot .u8 a01 (IntKind.u8.wrap (2 ^ (a1 % 8).toNat))) = true := by rw [IntKind.wrap_u8]; simp [clrB]
          go_wp2_with fail
          go_region_held3 (fun _ => True) (first | exact trivial) ((first | (go_at_call 23; refine (alive_keep (St.drew t8)).mono ?_; rintro e w9 ⟨rfl, q1⟩) | (go_at_call 15; refine (masks_step (by assumption)).mono ?_; rintro e w10 ⟨rfl, rfl⟩)))
          all_goals
            go_wp2_with fail
            go_ret
            exact ⟨rfl, q1.ok⟩
        · have hne : ((k : Int) == a1 % 8) = false := by
            rw [beq_eq_false_iff_ne]
            intro e
            rw [show k = (a1 % 8).toNat by omega, tb_setB (b8_clrB _ _) k0 k1] at h3
            simp at h3
          have HN := Lib.hid (And.intro h4 h5)
          have HT := Lib.hid h6
          clear hTold h3 h4 h5 h6
          go_wp2_with (go_at_call 11; refine (next_num (k : Int) 0 _ HN.out.1 HN.out.2 rfl st).mono ?_; rintro e w5 ⟨rfl, t5⟩)
          go_roundw
          case rel => exact ⟨n + 1, by omega, by go_num, k + 1, _, by omega, by omega, HT.out, t5⟩
          case measure => simp [intOf]; omega
      · obtain rfl : n = 8 := by omega
        obtain rfl : j = 8 := by omega
        have HT8 := Lib.hid hTold
        clear hTold
        have HE := Lib.hid (told_end (b8_setB _ _) (b8_setB _ _) HT8.out)
        go_wp2_with fail
        refine (next_num 0 11 c HE.out.1 HE.out.2.1 HE.out.2.2.1 st).mono ?_; rintro e w5 ⟨rfl, t5⟩
        clear st
        go_wp2_with fail
        refine (mask_off _ k0 k1 t5).mono ?_; rintro e w6 ⟨rfl, t6⟩
        have t7 := t6.change HE.out.2.2.2 (on_off HM.out k0 k1)
        clear t5 t6
        have HA := Lib.hid (after_yes (b8_setB _ _) HM.out k0 k1 (by rw [tb_setB HC.out k0 k1]; simp))
        go_wp2_with fail
        refine (next_num (a1 % 8) 0 _ HA.out.1 HA.out.2 rfl t7).mono ?_; rintro e w8 ⟨rfl, t8⟩
        clear t7
        have hmm : (clrB a01 (a1 % 8) == bits BinOp.andNot .u8 a01 (IntKind.u8.wrap (2 ^ (a1 % 8).toNat))) = true := by rw [IntKind.wrap_u8]; simp [clrB]
        go_wp2_with fail
        go_region_held3 (fun _ => True) (first | exact trivial) ((first | (go_at_call 23; refine (alive_keep (St.drew t8)).mono ?_; rintro e w9 ⟨rfl, q1⟩) | (go_at_call 15; refine (masks_step (by assumption)).mono ?_; rintro e w10 ⟨rfl, rfl⟩)))
        all_goals
          go_wp2_with fail
          go_ret
          exact ⟨rfl, q1.ok⟩

/-! ### THE ROW's STEP: WRITTEN OUT: LEAVE IT -/
set_option maxRecDepth 100000 in
theorem lifted (os : Os) (started : os.Started) (H : Type) (enc : TypeId × Value → H) :
    ReturnsInHanded {} Try.checked os 10 .any (Rows.linesMasksSpec.pre6 enc Try.prog Try.f10 Rows.linesMasksRow.domain false) (Rows.linesMasksSpec.post enc Try.prog Try.f10 false true false false) := by
  refine returnsInHanded_of_change (C := Try.checked) own started (by kernel_rfl) Try.func10
    (ChangeSpec.witness6 (enc := enc) (C := Try.checked) false ⟨#[], #[.agg #[.int .u8 0, .int .u8 0], .int .u8 0, .bool false], []⟩ 8 (by kernel_rfl) (by kernel_rfl) (by kernel_rfl) (by kernel_rfl)) ?_
  intro W base args ds gs before hval0 hW hcnd _
  have hval : ∀ (j : Nat) t v, Try.f10.params[j]? = some t → args[j]? = some v → Value.okWide Try.prog W .any base t v := hval0
  have hW' := hW
  obtain ⟨p, q, hA0, hV, rfl, hfz, hnd⟩ := hW
  have hA : DataW.TrodAll enc Try.prog W 0 (fun _ => true) true Try.f10.params.toList args.toList ds p := hA0
  rw [Try.params10] at hA hval
  obtain ⟨v0, vs0, d0, ds0, p0, q0, hargs, rfl, rfl, h0, r0⟩ := trodAll_cons hA
  obtain ⟨v1, vs1, d1, ds1, p1, q1, rfl, rfl, rfl, h1, r1⟩ := trodAll_cons r0
  obtain ⟨v2, vs2, d2, ds2, p2, q2, rfl, rfl, rfl, h2, r2⟩ := trodAll_cons r1
  obtain ⟨rfl, rfl, rfl⟩ := trodAll_nil r2
  obtain rfl : args = #[v0, v1, v2] := by cases args; simp_all
  obtain ⟨rfl, rfl⟩ := trodVars_none hV
  have k0 := h0
  have lt0 : ∀ x ∈ p0, x.block < W.heap.size := by obtain ⟨m, hm⟩ := k0; exact DataW.trod_lt m _ _ _ hm
  obtain ⟨a00, a01, rfl, w00, w01⟩ := open_two (hval 0 50 v0 rfl rfl) h0
  obtain ⟨a1, rfl, rfl, rfl, w1⟩ := open_int Try.underlying5 (hval 1 5 v1 rfl rfl) h1
  obtain ⟨a2, rfl, rfl, rfl⟩ := open_bool Try.underlying4 (hval 2 4 v2 rfl rfl) h2
  clear hA0 hval0
  refine (walk a00 a01 a1 a2 W w00 w01 w1).mono fun e W' ⟨he, bel⟩ => ?_
  subst he
  exact ⟨_, rfl, _, _, _, [], _, [], hW', trodAll_mk1 (shut_bool Try.underlying4 _), (trodAll_cons_mk (Below.trod laidOut (by kernel_rfl) (of_decide_eq_true (by kernel_rfl)) k0 bel lt0) (trodAll_cons_mk (shut_int Try.underlying5 w1) (trodAll_cons_mk (shut_bool Try.underlying4 _) trodAll_mk0))), rfl, bel.frame _, fun h => by cases h⟩

theorem over : Rows.linesMasksRow.holds Try.pinned (OpenSpec.ofChange Rows.linesMasksSpec) :=
  OpenClaim.holds_of_wide 10 Try.f10 rfl rfl rfl rfl rfl rfl rfl ⟨rfl, rfl, rfl, rfl, rfl⟩ rfl rfl rfl rfl rfl (by kernel_rfl) Try.func10 (by kernel_rfl)
    (of_decide_eq_true (by kernel_rfl)) (by unfold Func.isWrapper; first | (rw [if_pos (by decide +kernel)]; kernel_rfl) | (rw [if_neg (by decide +kernel)]; exact ⟨rfl, rfl⟩))
    (fun os started H enc _ => lifted os started H enc)

theorem proved : Rows.LinesMasksSaid := over
end Go.Proofs.Ytijclpkfmkbkpaa.linesMasks
