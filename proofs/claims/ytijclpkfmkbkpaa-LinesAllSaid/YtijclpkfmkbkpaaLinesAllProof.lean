/- LinesAll: for every input the call returns true, and its arguments are as they were; no condition.
   The frame round the walk was printed by proof-skeleton.mjs. -/
import Derived.Test.YtijclpkfmkbkpaaRows
import Derived.Test.YtijclpkfmkbkpaaTold
import Derived.WalkKit
import Derived.ProofKit
import Derived.OpenShut
namespace Go.Proofs.Ytijclpkfmkbkpaa.linesAll
open Go.ChangeShapes Go.WideShapes Go.ChangeAt Go.RowKit
set_option linter.unusedVariables false      -- a walk need not use every 'w<i>' (that an integer argument fits its kind)

theorem own : ownKnob Try.prog.godebug = none := by kernel_rfl

/-- A turn's lines and masks: at first as they were set; then those that were masked, unmasked; then none. -/
def Cs (c m : Int) (t : Nat) : Int := if t = 0 then c else if t = 1 then bits BinOp.and .u8 c m else 0
def Ms (m : Int) (t : Nat) : Int := if t = 0 then m else 0
/-! ### THE WALK -/
set_option maxRecDepth 100000 in
set_option maxHeartbeats 2000000 in
theorem walk (a0 : Int) (a1 : Int) (w0 : (Lit.int .u8 a0).wf = true) (w1 : (Lit.int .u8 a1).wf = true) (w : World) :
    Calls Try.prog 5 #[.int .u8 a0, .int .u8 a1] w fun e w' => e = .returned (.bool true) ∧ Okw w w' := by
  have hc := bd_u8 w0
  have hm := bd_u8 w1
  obtain ⟨p0, hp0⟩ : ∃ p, p = w.heap.size := ⟨_, rfl⟩
  have HP := Lib.hid hp0
  have HC := Lib.hid hc
  have HM := Lib.hid hm
  clear hp0 hc hm
  have q0 : Okw w w := Okw.refl w
  go_enter Try.func5, Try.ntmps5
  go_wp2_with fail
  refine (set_at w _ _ _ p0 HP.out HC.out HM.out q0).mono ?_; rintro e w1 ⟨rfl, s1⟩
  clear q0
  go_wp2_with fail
  refine (calls_step s1).mono ?_; rintro e w2 ⟨rfl, rfl⟩
  go_wp2_with fail
  refine (masks_step s1).mono ?_; rintro e w2 ⟨rfl, rfl⟩
  go_wp2_with fail
  go_loopw [6] (fun tn wr => ∃ t : Nat, t ≤ 2 ∧ tn = .int .i64 (t : Int) ∧ St w p0 (Cs a0 a1 t) (Ms a1 t) wr) (fun tn _ => 2 - (intOf tn).toNat)
  case atStart => exact ⟨0, by omega, rfl, s1⟩
  case round =>
    obtain ⟨t, ht, rfl, hst⟩ := hrel
    clear s1
    obtain ⟨wo, rfl⟩ : ∃ wo : World, wo = wr := ⟨_, rfl⟩
    obtain rfl | rfl | rfl : t = 0 ∨ t = 1 ∨ t = 2 := by omega
    · have s2 : St w p0 a0 a1 wo := hst
      clear hst
      go_wp2_with fail
      go_loopw [7] (fun i wr => ∃ n : Nat, n ≤ 8 ∧ i = .int .i64 (n : Int) ∧ ∃ c, Told a0 a1 n c ∧ St w p0 c a1 wr) (fun i _ => 8 - (intOf i).toNat)
      case atStart => exact ⟨0, by omega, rfl, _, told_start HC.out, s2⟩
      case round =>
        obtain ⟨n, hn, rfl, c, hTold, s3⟩ := hrel
        clear s2
        have HT := Lib.hid hTold
        clear hTold
        by_cases hlt : n < 8
        · have B1 := bit_test HM.out n
          have B2 := bit_test0 HC.out n
          cases t1 : tb a0 n <;> cases t2 : tb a1 n
          all_goals rw [t2] at B1
          all_goals rw [t1] at B2
          all_goals simp only [Bool.not_true, Bool.not_false] at B2
          · have hn2 := Lib.hid (told_no HT.out (by rw [t1, t2]; rfl))
            clear t1 t2
            go_wp2_with fail
            go_roundw
            case rel => exact ⟨n + 1, by omega, by go_num, c, hn2.out, s3⟩
            case measure => simp [intOf]; omega
          · have hn2 := Lib.hid (told_no HT.out (by rw [t1, t2]; rfl))
            clear t1 t2
            go_wp2_with fail
            go_roundw
            case rel => exact ⟨n + 1, by omega, by go_num, c, hn2.out, s3⟩
            case measure => simp [intOf]; omega
          · have hY := Lib.hid (told_yes HM.out hlt HT.out t1 t2)
            clear t1 t2
            go_wp2_with (go_at_call 11; refine (next_num (n : Int) 0 _ hY.out.1 hY.out.2.1 rfl s3).mono ?_; rintro e w4 ⟨rfl, s4⟩)
            go_roundw
            case rel => ((repeat apply Exists.intro); exact ⟨⟨n + 1, by omega, by go_num, _, hY.out.2.2, s4⟩, rfl⟩)
            case measure => simp [intOf]; omega
          · have hn2 := Lib.hid (told_no HT.out (by rw [t1, t2]; rfl))
            clear t1 t2
            go_wp2_with fail
            go_roundw
            case rel => exact ⟨n + 1, by omega, by go_num, c, hn2.out, s3⟩
            case measure => simp [intOf]; omega
        · obtain rfl : n = 8 := by omega
          have hE := Lib.hid (told_end HC.out HM.out HT.out)
          clear HT
          have hcm : (c != bits BinOp.and .u8 a0 a1) = false := by rw [hE.out.2.2.2]; simp
          go_wp2_with fail
          refine (next_num 0 11 c hE.out.1 hE.out.2.1 hE.out.2.2.1 s3).mono ?_; rintro e w4 ⟨rfl, s4⟩
          clear s3
          go_wp2_with fail
          refine (calls_step s4).mono ?_; rintro e w5 ⟨rfl, rfl⟩
          go_wp2_with fail
          obtain ⟨wq, rfl⟩ : ∃ wq : World, wq = w4 := ⟨_, rfl⟩
          go_loopw [13] (fun i wr => ∃ n : Nat, n ≤ 8 ∧ i = .int .i64 (n : Int) ∧ ∃ m, Clr a1 n m ∧ St w p0 c m wr) (fun i _ => 8 - (intOf i).toNat)
          case atStart => exact ⟨0, by omega, rfl, _, clr_start HM.out, s4⟩
          case round =>
            obtain ⟨n, hn, rfl, m, hClr, s5⟩ := hrel
            clear s4
            have HK := Lib.hid hClr
            clear hClr
            by_cases hlt : n < 8
            · have hS := Lib.hid (clr_step hlt HK.out)
              go_wp2_with (go_at_call 13; refine (mask_off (n : Int) (by omega) (by omega) s5).mono ?_; rintro e w6 ⟨rfl, s6⟩)
              go_roundw
              case rel => exact ⟨n + 1, by omega, by go_num, _, hS.out, s6⟩
              case measure => simp [intOf]; omega
            · obtain rfl : n = 8 := by omega
              have hz := Lib.hid (clr_end HK.out)
              go_wp2_with fail
              go_roundw
              case rel => exact ⟨1, by omega, rfl, s5.change hE.out.2.2.2 hz.out⟩
              case measure => simp [intOf]
    · have s2 : St w p0 (bits BinOp.and .u8 a0 a1) 0 wo := hst
      clear hst
      go_wp2_with fail
      go_loopw [7] (fun i wr => ∃ n : Nat, n ≤ 8 ∧ i = .int .i64 (n : Int) ∧ ∃ c, Told (bits BinOp.and .u8 a0 a1) 0 n c ∧ St w p0 c 0 wr) (fun i _ => 8 - (intOf i).toNat)
      case atStart => exact ⟨0, by omega, rfl, _, told_start (b8_and _ _), s2⟩
      case round =>
        obtain ⟨n, hn, rfl, c, hTold, s3⟩ := hrel
        clear s2
        have HT := Lib.hid hTold
        clear hTold
        by_cases hlt : n < 8
        · have B1 := bit_test HM.out n
          have B2 := bit_test0 HC.out n
          cases t1 : tb a0 n <;> cases t2 : tb a1 n
          all_goals rw [t2] at B1
          all_goals rw [t1] at B2
          all_goals simp only [Bool.not_true, Bool.not_false] at B2
          · have hn2 := Lib.hid (told_no HT.out (by rw [tb_and HC.out HM.out, t1, t2]; rfl))
            clear t1 t2
            go_wp2_with fail
            go_roundw
            case rel => exact ⟨n + 1, by omega, by go_num, c, hn2.out, s3⟩
            case measure => simp [intOf]; omega
          · have hn2 := Lib.hid (told_no HT.out (by rw [tb_and HC.out HM.out, t1, t2]; rfl))
            clear t1 t2
            go_wp2_with fail
            go_roundw
            case rel => exact ⟨n + 1, by omega, by go_num, c, hn2.out, s3⟩
            case measure => simp [intOf]; omega
          · have hn2 := Lib.hid (told_no HT.out (by rw [tb_and HC.out HM.out, t1, t2]; rfl))
            clear t1 t2
            go_wp2_with fail
            go_roundw
            case rel => exact ⟨n + 1, by omega, by go_num, c, hn2.out, s3⟩
            case measure => simp [intOf]; omega
          · have hY := Lib.hid (told_yes b8_zero hlt HT.out (by rw [tb_and HC.out HM.out, t1, t2]; rfl) (tb_zero n))
            clear t1 t2
            go_wp2_with (go_at_call 11; refine (next_num (n : Int) 0 _ hY.out.1 hY.out.2.1 rfl s3).mono ?_; rintro e w4 ⟨rfl, s4⟩)
            go_roundw
            case rel => ((repeat apply Exists.intro); exact ⟨⟨n + 1, by omega, by go_num, _, hY.out.2.2, s4⟩, rfl⟩)
            case measure => simp [intOf]; omega
        · obtain rfl : n = 8 := by omega
          have hE := Lib.hid (told_end (b8_and _ _) b8_zero HT.out)
          clear HT
          go_wp2_with fail
          refine (next_num 0 11 c hE.out.1 hE.out.2.1 hE.out.2.2.1 s3).mono ?_; rintro e w4 ⟨rfl, s4⟩
          clear s3
          go_wp2_with fail
          obtain ⟨wq, rfl⟩ : ∃ wq : World, wq = w4 := ⟨_, rfl⟩
          go_loopw [13] (fun i wr => ∃ n : Nat, n ≤ 8 ∧ i = .int .i64 (n : Int) ∧ ∃ m, Clr 0 n m ∧ St w p0 c m wr) (fun i _ => 8 - (intOf i).toNat)
          case atStart => exact ⟨0, by omega, rfl, _, clr_start b8_zero, s4⟩
          case round =>
            obtain ⟨n, hn, rfl, m, hClr, s5⟩ := hrel
            clear s4
            have HK := Lib.hid hClr
            clear hClr
            by_cases hlt : n < 8
            · have hS := Lib.hid (clr_step hlt HK.out)
              go_wp2_with (go_at_call 13; refine (mask_off (n : Int) (by omega) (by omega) s5).mono ?_; rintro e w6 ⟨rfl, s6⟩)
              go_roundw
              case rel => exact ⟨n + 1, by omega, by go_num, _, hS.out, s6⟩
              case measure => simp [intOf]; omega
            · obtain rfl : n = 8 := by omega
              have hz := Lib.hid (clr_end HK.out)
              go_wp2_with fail
              go_roundw
              case rel => exact ⟨2, by omega, rfl, s5.change (hE.out.2.2.2.trans (zero_of_bits (b8_and _ _) (fun j _ => by rw [tb_and (b8_and _ _) b8_zero, tb_zero, Bool.and_false]))) hz.out⟩
              case measure => simp [intOf]
    · have s2 : St w p0 0 0 wo := hst
      clear hst
      go_wp2_with fail
      refine (alive_keep s2).mono ?_; rintro e w4 ⟨rfl, s4⟩
      go_wp2_with fail
      refine (calls_step s4).mono ?_; rintro e w5 ⟨rfl, rfl⟩
      go_wp2_with fail
      refine (masks_step s4).mono ?_; rintro e w5 ⟨rfl, rfl⟩
      go_wp2_with fail
      go_ret
      exact ⟨rfl, s4.ok⟩

/-! ### THE ROW's STEP: WRITTEN OUT: LEAVE IT -/
set_option maxRecDepth 100000 in
theorem lifted (os : Os) (started : os.Started) (H : Type) (enc : TypeId × Value → H) :
    ReturnsInHanded {} Try.checked os 5 .any (Rows.linesAllSpec.pre6 enc Try.prog Try.f5 Rows.linesAllRow.domain false) (Rows.linesAllSpec.post enc Try.prog Try.f5 false true false false) := by
  refine returnsInHanded_of_change (C := Try.checked) own started (by kernel_rfl) Try.func5
    (ChangeSpec.witness6 (enc := enc) (C := Try.checked) false ⟨#[], #[.int .u8 0, .int .u8 0], []⟩ 8 (by kernel_rfl) (by kernel_rfl) (by kernel_rfl) (by kernel_rfl)) ?_
  intro W base args ds gs before hval0 hW hcnd _
  have hval : ∀ (j : Nat) t v, Try.f5.params[j]? = some t → args[j]? = some v → Value.okWide Try.prog W .any base t v := hval0
  have hW' := hW
  obtain ⟨p, q, hA0, hV, rfl, hfz, hnd⟩ := hW
  have hA : DataW.TrodAll enc Try.prog W 0 (fun _ => true) true Try.f5.params.toList args.toList ds p := hA0
  rw [Try.params5] at hA hval
  obtain ⟨v0, vs0, d0, ds0, p0, q0, hargs, rfl, rfl, h0, r0⟩ := trodAll_cons hA
  obtain ⟨v1, vs1, d1, ds1, p1, q1, rfl, rfl, rfl, h1, r1⟩ := trodAll_cons r0
  obtain ⟨rfl, rfl, rfl⟩ := trodAll_nil r1
  obtain rfl : args = #[v0, v1] := by cases args; simp_all
  obtain ⟨rfl, rfl⟩ := trodVars_none hV
  obtain ⟨a0, rfl, rfl, rfl, w0⟩ := open_int Try.underlying5 (hval 0 5 v0 rfl rfl) h0
  obtain ⟨a1, rfl, rfl, rfl, w1⟩ := open_int Try.underlying5 (hval 1 5 v1 rfl rfl) h1
  clear hA0 hval0
  simp only [List.append_nil] at hW'
  refine (walk a0 a1 w0 w1 W).mono fun e W' ⟨he, hg⟩ => ?_
  subst he
  exact ⟨_, rfl, _, _, _, [], [], [], hW', trodAll_mk1 (shut_bool Try.underlying4 _), (trodAll_cons_mk (shut_int Try.underlying5 w0) (trodAll_cons_mk (shut_int Try.underlying5 w1) trodAll_mk0)), rfl, Below.frame hg _, fun h => by cases h⟩

theorem over : Rows.linesAllRow.holds Try.pinned (OpenSpec.ofChange Rows.linesAllSpec) :=
  OpenClaim.holds_of_wide 5 Try.f5 rfl rfl rfl rfl rfl rfl rfl ⟨rfl, rfl, rfl, rfl, rfl⟩ rfl rfl rfl rfl rfl (by kernel_rfl) Try.func5 (by kernel_rfl)
    (of_decide_eq_true (by kernel_rfl)) (by unfold Func.isWrapper; first | (rw [if_pos (by decide +kernel)]; kernel_rfl) | (rw [if_neg (by decide +kernel)]; exact ⟨rfl, rfl⟩))
    (fun os started H enc _ => lifted os started H enc)

theorem proved : Rows.LinesAllSaid :=
  over
end Go.Proofs.Ytijclpkfmkbkpaa.linesAll
