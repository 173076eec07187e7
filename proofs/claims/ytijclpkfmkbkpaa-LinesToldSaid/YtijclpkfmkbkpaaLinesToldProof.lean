/- LinesTold: for every input the call returns true, and its arguments are as they were; no condition.
   The frame round the walk was printed by proof-skeleton.mjs. -/
import Derived.Test.YtijclpkfmkbkpaaRows
import Derived.Test.YtijclpkfmkbkpaaLeast
import Derived.WalkKit
import Derived.ProofKit
import Derived.OpenShut
import Derived.ShutString
import Derived.ChangeOld
import Derived.Below
namespace Go.Proofs.Ytijclpkfmkbkpaa.linesTold
open Go.ChangeShapes Go.WideShapes Go.ChangeAt Go.RowKit
open Go.ChangeMaps (open_string shut_string)
set_option linter.unusedVariables false

theorem own : ownKnob Try.prog.godebug = none := by kernel_rfl
theorem laidOut : laidOutB Try.prog = true := by kernel_rfl

/-- WHAT THE WALK IS TOLD OF A SLICE OF INTEGERS THAT CAME IN: it is nil; or it leads to a row of 'cap' cells, the numbers 'zs' (the first 'len' are its elements, the rest its spare room), each fitting its kind. -/
def IsRow (k : IntKind) (w : World) (a : Option Addr) (len cap : Nat) (zs : List Int) : Prop :=
  (a = none ∧ len = 0 ∧ cap = 0 ∧ zs = []) ∨
  ∃ x, a = some x ∧ len ≤ cap ∧ cap ≤ maxLen ∧ zs.length = cap ∧ (∀ i, i < zs.length → w.cell? (x.add i) = some (.int k (zs.getD i 0))) ∧ ∀ n ∈ zs, (Lit.int k n).wf = true

/-- A count for the loop: twice as much as a row may be, till the first one was told. -/
def firstOf : Value → Nat
  | .bool true => 256
  | _ => 0
/-- An element of the row: a whole number of 8 bits, in its cell, as long as nothing is turned. -/
theorem row_at {w : World} {a : Option Addr} {len cap : Nat} {z : List Int} (h : IsRow .u8 w a len cap z) (hp : 0 < len) :
    ∃ b off, a = some ⟨b, off, none⟩ ∧ ∀ j, j < len → ∃ x : Int, 0 ≤ x ∧ x ≤ 255 ∧ ∀ wx, Okw w wx → wx.cell? ⟨b, off + j, none⟩ = some (.int .u8 x) := by
  rcases h with ⟨_, h, _, _⟩ | ⟨x, ha, hl, hm, hz, hc, hw⟩
  · omega
  · obtain ⟨b, off, hx, hcell⟩ := ints_at hc (by omega)
    refine ⟨b, off, by rw [ha, hx], fun j hj => ?_⟩
    have hlt : j < z.length := by omega
    have hmem : z.getD j 0 ∈ z := by simp [List.getD, hlt]
    obtain ⟨g0, g1⟩ := bd_u8 (hw _ hmem)
    exact ⟨z.getD j 0, g0, g1, fun wx hx => arg_cell hx (hcell j hlt)⟩
/-! ### THE WALK -/
set_option maxRecDepth 100000 in
set_option maxHeartbeats 4000000 in
theorem walk (a0 : Option Addr) (len0 cap0 : Nat) (z0 : List Int) (a1 : Int) (w : World) (w0 : IsRow .u8 w a0 len0 cap0 z0) (w1 : (Lit.int .u8 a1).wf = true) :
    Calls Try.prog 9 #[.slice a0 len0 cap0, .int .u8 a1] w fun e w' => e = .returned (.bool true) ∧ Below w.heap.size w w' := by
  have q0 : Okw w w := Okw.refl w
  obtain ⟨g1, g1'⟩ := bd_u8 w1
  have hlen : len0 ≤ maxLen := by
    rcases w0 with ⟨_, h, _, _⟩ | ⟨x, ha, hl, hm, hz, hc, hw⟩
    · omega
    · omega
  unfold maxLen at hlen
  have HR := Lib.hid (fun hp => row_at w0 hp)
  have H0 := Lib.hid none_next
  by_cases hbig : (20 : Int) < (len0 : Int)
  · clear w0 w1
    go_enter Try.func9, Try.ntmps9
    go_wp2_with (go_at_call 23; refine (alive_step w _ (by assumption)).mono ?_; rintro e w1 ⟨rfl, q1⟩)
    go_ret
    exact ⟨rfl, by assumption⟩
  · have hd : decide ((20 : Int) < (len0 : Int)) = false := by rw [decide_eq_false_iff_not]; exact hbig
    clear w0 w1 hbig
    go_enter Try.func9, Try.ntmps9
    go_wp2_with fail
    refine (alive_step w _ q0).mono ?_; rintro e wa ⟨rfl, qa⟩
    clear q0
    go_wp2_with fail
    refine (new_step qa).mono ?_; rintro e w1 ⟨rfl, s1⟩
    obtain ⟨p0, hp0⟩ : ∃ p, p = wa.heap.size := ⟨_, rfl⟩
    rw [← hp0] at s1 ⊢
    clear hp0 qa
    go_wp2_with fail
    go_loopw [6, 7] (fun cs i wr => ∃ j : Nat, j ≤ len0 ∧ i = .int .i64 (j : Int) ∧ ∃ c, b8 c ∧ cs = .int .u8 c ∧ St w p0 c 0 wr) (fun _ i _ => len0 - (intOf i).toNat)
    case atStart => exact ⟨0, by omega, rfl, 0, b8_zero, rfl, s1⟩
    case round =>
      obtain ⟨j, hj, rfl, c, hb, rfl, s2⟩ := hrel
      clear s1
      by_cases hlt : j < len0
      · obtain ⟨b, off, ha, hcs⟩ := HR.out (by omega)
        obtain ⟨x, x0, x1, hx⟩ := hcs j hlt
        have hcell := hx _ s2.ok
        have HX := Lib.hid hx
        clear hx hcs
        subst ha
        have k0 : 0 ≤ x % 8 := by omega
        have k1 : x % 8 ≤ 7 := by omega
        go_wp2_with fail
        refine (raise_in _ k0 k1 s2).mono ?_; rintro e w3 ⟨rfl, s3⟩
        have hcell3 := HX.out _ s3.ok
        clear s2 hcell hb
        go_wp2_with fail
        go_roundw
        case rel => exact ⟨j + 1, by omega, by go_num, setB c (x % 8), b8_setB _ _, rfl, s3⟩
        case measure => simp [intOf]; omega
      · obtain ⟨wo, rfl⟩ : ∃ wo : World, wo = wr := ⟨_, rfl⟩
        go_wp2_with fail
        go_loopw [6, 8] (fun cs f wr => ∃ c, b8 c ∧ cs = .int .u8 c ∧ (∃ fb : Bool, f = .bool fb) ∧ St w p0 c 0 wr) (fun cs f _ => (intOf cs).toNat + firstOf f)
        case atStart => exact ⟨c, hb, rfl, ⟨true, rfl⟩, s2⟩
        case round =>
          obtain ⟨d, hdb, rfl, ⟨fb, rfl⟩, s3⟩ := hrel
          clear s2 hb hj hlt
          by_cases hz : d = 0
          · subst hz
            go_wp2_with fail
            refine (next_num 0 11 0 H0.out.1 H0.out.2.1 H0.out.2.2 s3).mono ?_; rintro e w4 ⟨rfl, s4⟩
            go_wp2_with fail
            go_ret
            exact ⟨rfl, s4.ok⟩
          · obtain ⟨i, hi, ti, tl, n1, n2, n3⟩ := next_some hdb hz
            have hz' : (d != 0) = true := by rw [bne_iff_ne]; exact hz
            have B0 := bit_test0 hdb i
            rw [ti] at B0
            simp only [Bool.not_true] at B0
            have B1 : (bits BinOp.and .u8 d (2 ^ i - 1) != 0) = false := by rw [low_zero hdb hi tl]; rfl
            obtain ⟨pw0, pw1⟩ := pow_bd8 i hi
            have HN := Lib.hid (And.intro n1 (And.intro n2 n3))
            have HL := Lib.hid (clrB_lt hdb hi ti)
            have HB := Lib.hid (b8_clrB d i)
            have HE : Hid (clrB d (i : Int) = bits BinOp.andNot .u8 d (2 ^ i)) := by
              show clrB d (i : Int) = _
              unfold clrB
              rw [Int.toNat_natCast, Int.emod_eq_of_lt (by omega) (by omega)]
            clear hz ti tl n1 n2 n3
            have k0 : 0 ≤ a1 % 8 := by omega
            have k1 : a1 % 8 ≤ 7 := by omega
            cases fb
            · go_wp2_with fail
              refine (next_num (i : Int) 0 _ HN.out.1 HN.out.2.1 HN.out.2.2 s3).mono ?_; rintro e w4 ⟨rfl, s4⟩
              have s5 := s4.change HE.out rfl
              clear s3 s4
              go_wp2_with fail
              refine (calls_step s5).mono ?_; rintro e w6 ⟨rfl, rfl⟩
              go_wp2_with fail
              go_roundw
              case rel => exact ⟨_, by rw [← HE.out]; exact HB.out, rfl, ⟨false, rfl⟩, s5⟩
              case measure =>
                have h1 := HL.out
                have h2 := HB.out.1
                rw [HE.out] at h1 h2
                simp only [intOf, firstOf]
                omega
            · go_wp2_with fail
              refine (next_num (i : Int) 0 _ HN.out.1 HN.out.2.1 HN.out.2.2 s3).mono ?_; rintro e w4 ⟨rfl, s4⟩
              have s5 := s4.change HE.out rfl
              clear s3 s4
              go_wp2_with fail
              refine (raise_in _ k0 k1 s5).mono ?_; rintro e w6 ⟨rfl, s6⟩
              clear s5
              go_wp2_with fail
              refine (calls_step s6).mono ?_; rintro e w7 ⟨rfl, rfl⟩
              have s7 : St w p0 (bits BinOp.or .u8 (bits BinOp.andNot .u8 d (2 ^ i)) (2 ^ (a1 % 8).toNat % 256)) 0 w6 := s6
              clear s6
              unfold setB
              go_wp2_with fail
              go_roundw
              case rel => exact ⟨_, b8_setB (bits BinOp.andNot .u8 d (2 ^ i)) (a1 % 8), rfl, ⟨false, rfl⟩, s7⟩
              case measure =>
                have h3 := (b8_setB (bits BinOp.andNot .u8 d (2 ^ i)) (a1 % 8)).2
                have h4 := (b8_setB (bits BinOp.andNot .u8 d (2 ^ i)) (a1 % 8)).1
                unfold setB at h3 h4
                simp only [intOf, firstOf]
                omega

/-! ### THE ROW's STEP: WRITTEN OUT: LEAVE IT -/
set_option maxRecDepth 100000 in
theorem lifted (os : Os) (started : os.Started) (H : Type) (enc : TypeId × Value → H) :
    ReturnsInHanded {} Try.checked os 9 .any (Rows.linesToldSpec.pre6 enc Try.prog Try.f9 Rows.linesToldRow.domain false) (Rows.linesToldSpec.post enc Try.prog Try.f9 false true false false) := by
  refine returnsInHanded_of_change (C := Try.checked) own started (by kernel_rfl) Try.func9
    (ChangeSpec.witness6 (enc := enc) (C := Try.checked) false ⟨#[], #[.slice none 0 0, .int .u8 0], []⟩ 8 (by kernel_rfl) (by kernel_rfl) (by kernel_rfl) (by kernel_rfl)) ?_
  intro W base args ds gs before hval0 hW hcnd _
  have hval : ∀ (j : Nat) t v, Try.f9.params[j]? = some t → args[j]? = some v → Value.okWide Try.prog W .any base t v := hval0
  have hW' := hW
  obtain ⟨p, q, hA0, hV, rfl, hfz, hnd⟩ := hW
  have hA : DataW.TrodAll enc Try.prog W 0 (fun _ => true) true Try.f9.params.toList args.toList ds p := hA0
  rw [Try.params9] at hA hval
  obtain ⟨v0, vs0, d0, ds0, p0, q0, hargs, rfl, rfl, h0, r0⟩ := trodAll_cons hA
  obtain ⟨v1, vs1, d1, ds1, p1, q1, rfl, rfl, rfl, h1, r1⟩ := trodAll_cons r0
  obtain ⟨rfl, rfl, rfl⟩ := trodAll_nil r1
  obtain rfl : args = #[v0, v1] := by cases args; simp_all
  obtain ⟨rfl, rfl⟩ := trodVars_none hV
  obtain ⟨a0, len0, cap0, rfl⟩ := okWide_slice Try.underlying48 (hval 0 48 v0 rfl rfl)
  have k0 := h0
  have lt0 : ∀ x ∈ p0, x.block < W.heap.size := by obtain ⟨m, hm⟩ := k0; exact DataW.trod_lt m _ _ _ hm
  obtain ⟨z0, w0⟩ : ∃ zs, IsRow .u8 W a0 len0 cap0 zs := by
    obtain ⟨fuel, hf⟩ := h0
    rcases open_ints Try.underlying48 Try.underlying5 (by kernel_rfl) hf with ⟨hcs, _⟩ | ⟨x, l, c, zs, hcs, _, hl, hm, hz, _, hcell, hwz⟩
    · simp [Value.cells] at hcs
      obtain ⟨rfl, rfl, rfl⟩ := hcs
      exact ⟨[], .inl ⟨rfl, rfl, rfl, rfl⟩⟩
    · simp [Value.cells] at hcs
      obtain ⟨rfl, rfl, rfl⟩ := hcs
      exact ⟨zs, .inr ⟨_, rfl, hl, hm, by simpa using hz, hcell, hwz⟩⟩
  obtain ⟨a1, rfl, rfl, rfl, w1⟩ := open_int Try.underlying5 (hval 1 5 v1 rfl rfl) h1
  clear hA0 hval0
  refine (walk a0 len0 cap0 z0 a1 W w0 w1).mono fun e W' ⟨he, bel⟩ => ?_
  subst he
  exact ⟨_, rfl, _, _, _, [], _, [], hW', trodAll_mk1 (shut_bool Try.underlying4 _), (trodAll_cons_mk (Below.trod laidOut (by kernel_rfl) (of_decide_eq_true (by kernel_rfl)) k0 bel lt0) (trodAll_cons_mk (shut_int Try.underlying5 w1) trodAll_mk0)), rfl, bel.frame _, fun h => by cases h⟩

theorem over : Rows.linesToldRow.holds Try.pinned (OpenSpec.ofChange Rows.linesToldSpec) :=
  OpenClaim.holds_of_wide 9 Try.f9 rfl rfl rfl rfl rfl rfl rfl ⟨rfl, rfl, rfl, rfl, rfl⟩ rfl rfl rfl rfl rfl (by kernel_rfl) Try.func9 (by kernel_rfl)
    (of_decide_eq_true (by kernel_rfl)) (by unfold Func.isWrapper; first | (rw [if_pos (by decide +kernel)]; kernel_rfl) | (rw [if_neg (by decide +kernel)]; exact ⟨rfl, rfl⟩))
    (fun os started H enc _ => lifted os started H enc)

theorem proved : Rows.LinesToldSaid := over
end Go.Proofs.Ytijclpkfmkbkpaa.linesTold
