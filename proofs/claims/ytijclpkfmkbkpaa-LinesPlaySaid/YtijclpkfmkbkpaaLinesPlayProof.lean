/- LinesPlay: for every input the call returns true, and its arguments are as they were; no condition.
   The frame round the walk is turned from LinesTold's (printed by proof-skeleton.mjs); the slice of structs is opened by hand. -/
import Derived.Test.YtijclpkfmkbkpaaRows
import Derived.Test.YtijclpkfmkbkpaaBoth
import Derived.Test.YtijclpkfmkbkpaaTold
import Derived.Test.YtijclpkfmkbkpaaLeast
import Derived.WalkKit
import Derived.ProofKit
import Derived.OpenShut
import Derived.ShutString
import Derived.ChangeOld
import Derived.Below
import Derived.Deep.RegionHeld3
import Derived.Deep.Slices
import Derived.Deep.Fields
namespace Go.Proofs.Ytijclpkfmkbkpaa.linesPlay
open Go.ChangeShapes Go.WideShapes Go.ChangeAt Go.RowKit
open Go.ChangeMaps (open_string shut_string)
set_option linter.unusedVariables false

theorem own : ownKnob Try.prog.godebug = none := by kernel_rfl
theorem laidOut : laidOutB Try.prog = true := by kernel_rfl

/-- Acts that came in: there are none; or they lie in a row, kind and line by turns. -/
def IsActs (w : World) (a : Option Addr) (len : Nat) : Prop :=
  len = 0 ∨ (len ≤ maxLen ∧ ∃ b off, a = some ⟨b, off, none⟩ ∧ ∀ j, j < len → ∃ k l : Int, (0 ≤ k ∧ k ≤ 255) ∧
    w.cell? ⟨b, off + j * 2, none⟩ = some (.int .u8 k) ∧ w.cell? ⟨b, off + j * 2 + 1, none⟩ = some (.int .i64 l))

theorem two_fields {H : Type} {enc : TypeId × Value → H} {w : World} {n : Nat} {cs : List Value} {x : DataW H × List MemPlace} (h : DataW.trod enc Try.prog w 0 (fun _ => true) true n 41 cs = some x) :
    ∃ k l : Int, cs = [.int .u8 k, .int .i64 l] ∧ (Lit.int .u8 k).wf = true ∧ (Lit.int .i64 l).wf = true := by
  obtain ⟨ys, m, _, _, hlen, hyl, hf⟩ := DataW.trod_struct Try.underlying41 h
  have hc : Try.prog.cellsOf 41 = 2 := by kernel_rfl
  rw [hc] at hlen
  match cs, hlen, ys, hyl with
  | [v0, v1], _, [y0, y1], _ =>
    have h0 := hf 0 _ rfl
    have h1 := hf 1 _ rfl
    have c5 : Try.prog.cellsOf 5 = 1 := by kernel_rfl
    have c3 : Try.prog.cellsOf 3 = 1 := by kernel_rfl
    simp [c5, c3] at h0 h1
    obtain ⟨k, e0, _, k0⟩ := DataW.trod_int Try.underlying5 h0
    obtain ⟨l, e1, _, k1⟩ := DataW.trod_int Try.underlying3 h1
    simp at e0 e1
    subst e0 e1
    exact ⟨k, l, rfl, k0, k1⟩

/-- The argument, opened. -/
theorem acts_of {H : Type} {enc : TypeId × Value → H} {w : World} {a : Option Addr} {len cap : Nat} {d : DataW H} {p : List MemPlace} (h : DataW.Trod enc Try.prog w 0 (fun _ => true) true 34 (.slice a len cap) d p) : IsActs w a len := by
  obtain ⟨fuel, hf⟩ := h
  rcases Go.Deep.open_slice Try.underlying34 hf with ⟨hcs, _⟩ | ⟨x, l, c, m, n, D, Pl, hcs, _, hl, hm, hmm, _, hi⟩
  · simp [Value.cells] at hcs
    exact .inl hcs.2.1
  · simp [Value.cells] at hcs
    obtain ⟨rfl, rfl, rfl⟩ := hcs
    have hc : Try.prog.cellsOf 41 = 2 := by kernel_rfl
    rw [hc] at hi
    simp only [if_true] at hmm
    subst hmm
    by_cases h0 : len = 0
    · exact .inl h0
    · refine .inr ⟨by omega, ?_⟩
      have key : ∀ j, j < len → ∃ k l : Int, (0 ≤ k ∧ k ≤ 255) ∧ w.cell? (x.add (j * 2)) = some (.int .u8 k) ∧ w.cell? (x.add (j * 2 + 1)) = some (.int .i64 l) := by
        intro j hj
        obtain ⟨cs', hcells, ht⟩ := hi j (by omega)
        obtain ⟨k, l, rfl, wk, wl⟩ := two_fields ht
        obtain ⟨_, _, hat⟩ := World.cells?_some hcells
        have a0 := hat 0 (by decide)
        have a1 := hat 1 (by decide)
        rw [Go.Deep.add_add] at a0 a1
        obtain ⟨u0, u1⟩ := bd_u8 wk
        exact ⟨k, l, ⟨u0, by omega⟩, a0, a1⟩
      obtain ⟨b, off, spot⟩ := x
      obtain ⟨k0, l0, _, hc0, _⟩ := key 0 (by omega)
      have hspot : spot = none := by simpa [Addr.add] using World.cell?_spot hc0
      subst hspot
      refine ⟨b, off, rfl, fun j hj => ?_⟩
      obtain ⟨k, l, hk, c0, c1⟩ := key j hj
      rw [Go.WideShapes.add_plain] at c0 c1
      exact ⟨k, l, hk, c0, c1⟩

/-! ### THE WALK -/
set_option maxRecDepth 100000 in
set_option maxHeartbeats 4000000 in
theorem walk (a0 : Option Addr) (len0 cap0 : Nat) (w : World) (w0 : IsActs w a0 len0) (hlen : len0 ≤ maxLen) :
    Calls Try.prog 4 #[.slice a0 len0 cap0] w fun e w' => e = .returned (.bool true) ∧ Below w.heap.size w w' := by
  have q0 : Okw w w := Okw.refl w
  unfold maxLen at hlen
  have HR := Lib.hid w0
  by_cases hbig : (500 : Int) < (len0 : Int)
  · clear w0
    go_enter Try.func4, Try.ntmps4
    go_wp2_with fail
    go_ret
    exact ⟨rfl, q0⟩
  · have hd : decide ((500 : Int) < (len0 : Int)) = false := by rw [decide_eq_false_iff_not]; exact hbig
    clear w0 hbig
    go_enter Try.func4, Try.ntmps4
    go_wp2_with fail
    refine (new_step q0).mono ?_; rintro e w1 ⟨rfl, s1⟩
    obtain ⟨p0, hp0⟩ : ∃ p, p = w.heap.size := ⟨_, rfl⟩
    rw [← hp0] at s1 ⊢
    clear hp0 q0
    have t1 := s1.two
    rw [refOb_zero] at t1
    obtain ⟨q1, hq1⟩ : ∃ q, q = w1.heap.size := ⟨_, rfl⟩
    rw [← hq1] at t1
    have HQ := Lib.hid hq1
    clear hq1 s1
    go_wp2_with fail
    rw [← HQ.out]
    go_loopw [5] (fun i wr => ∃ j : Nat, j ≤ len0 ∧ i = .int .i64 (j : Int) ∧ ∃ c m, b8 c ∧ b8 m ∧ Two w p0 q1 c m c m wr) (fun i _ => len0 - (intOf i).toNat)
    case atStart => exact ⟨0, by omega, rfl, 0, 0, b8_null, b8_null, t1⟩
    case round =>
      obtain ⟨j, hj, rfl, c, m, hc, hm, s2⟩ := hrel
      clear t1
      by_cases hlt : j < len0
      · obtain h | ⟨_, b, off, rfl, hcs⟩ := HR.out
        · omega
        obtain ⟨k, l, hk, c0, c1⟩ := hcs j hlt
        have c0' := arg_cell s2.ok c0
        have c1' := arg_cell s2.ok c1
        have t3 := s2.tri (k := k) (l := l)
        obtain ⟨r0, hr0⟩ : ∃ r, r = wr.heap.size := ⟨_, rfl⟩
        rw [← hr0] at t3
        have HR0 := Lib.hid hr0
        obtain ⟨w3, hw3⟩ : ∃ w3, w3 = wr.alloc (.cells #[.int .u8 k, .int .i64 l] 41) := ⟨_, rfl⟩
        rw [← hw3] at t3
        have HW3 := Lib.hid hw3
        have T3 := Lib.hid t3
        clear c0 c1 hcs hr0 hw3 t3
        have HC := Lib.hid hc
        have HM := Lib.hid hm
        clear hc hm
        have hk4 : k % 4 = 0 ∨ k % 4 = 1 ∨ k % 4 = 2 ∨ k % 4 = 3 := by omega
        rcases hk4 with hk0 | hk1 | hk2 | hk3
        · have e0 : (k % 4 == 0) = true := by rw [beq_iff_eq]; omega
          have e1 : (k % 4 == 1) = false := by rw [beq_eq_false_iff_ne]; omega
          have e2 : (k % 4 == 2) = false := by rw [beq_eq_false_iff_ne]; omega
          clear hk0
          go_wp2_with fail
          clear c0' c1' s2
          rw [← HR0.out, ← HW3.out]
          have t3 := T3.out
          go_region_held3 (fun wx => wx.cell? ⟨r0, 0, none⟩ = some (.int .u8 k) ∧ wx.cell? ⟨r0, 1, none⟩ = some (.int .i64 l)) (first | (exact ⟨Tri.kind (by assumption), Tri.line (by assumption)⟩) | (exact ⟨Tri.kind (Tri.drew (by assumption)), Tri.line (Tri.drew (by assumption))⟩) | go_keep) (first | (go_at_call 12; refine (raiseL (by first | assumption | (exact Tri.drew (by assumption))) _).mono ?_; rintro e w4 ⟨rfl, h4⟩) | (go_at_call 17; refine (raiseR (by first | assumption | (exact Tri.drew (by assumption))) HC.out _).mono ?_; rintro e w4 ⟨rfl, h4⟩))
          all_goals
            have s4 : Two w p0 q1 (rsC c l) (m) (rsC c l) (m) _ := Tri.two (by assumption)
            go_wp2_with (first | (go_at_call 14; refine (callsL s4).mono ?_; rintro e w8 ⟨rfl, rfl⟩) | (go_at_call 20; refine (callsR s4 (b8_rsC HC.out l)).mono ?_; rintro e w8 ⟨rfl, s5⟩; clear s4) | (go_at_call 15; refine (masksL s5).mono ?_; rintro e w8 ⟨rfl, rfl⟩) | (go_at_call 21; refine (masksR s5 HM.out).mono ?_; rintro e w8 ⟨rfl, s6⟩; clear s5))
            go_roundw
            case rel => exact ⟨j + 1, by omega, by go_num, rsC c l, m, (b8_rsC HC.out l), HM.out, s6⟩
            case measure => simp [intOf]; omega
        · have e0 : (k % 4 == 0) = false := by rw [beq_eq_false_iff_ne]; omega
          have e1 : (k % 4 == 1) = true := by rw [beq_iff_eq]; omega
          have e2 : (k % 4 == 2) = false := by rw [beq_eq_false_iff_ne]; omega
          clear hk1
          go_wp2_with fail
          clear c0' c1' s2
          rw [← HR0.out, ← HW3.out]
          have t3 := T3.out
          have ET : Hid ((k.tmod 4 == 1) = true) := Lib.hid (by rw [Int.tmod_eq_emod_of_nonneg hk.1]; exact e1)
          go_region_held3 (fun wx => wx.cell? ⟨r0, 0, none⟩ = some (.int .u8 k) ∧ wx.cell? ⟨r0, 1, none⟩ = some (.int .i64 l)) (first | (exact ⟨Tri.kind (by assumption), Tri.line (by assumption)⟩) | (exact ⟨Tri.kind (Tri.drew (by assumption)), Tri.line (Tri.drew (by assumption))⟩) | go_keep) (first | (go_at_call 13; refine (maskL (by first | assumption | (exact Tri.drew (by assumption))) _ _).mono ?_; rintro e w4 ⟨rfl, h4⟩) | (go_at_call 18; refine (maskR (by first | assumption | (exact Tri.drew (by assumption))) HM.out _ _).mono ?_; rintro e w4 ⟨rfl, h4⟩))
          all_goals
            rw [ET.out] at h4
            have s4 : Two w p0 q1 (c) (mkM m l true) (c) (mkM m l true) _ := Tri.two (by assumption)
            go_wp2_with (first | (go_at_call 14; refine (callsL s4).mono ?_; rintro e w8 ⟨rfl, rfl⟩) | (go_at_call 20; refine (callsR s4 HC.out).mono ?_; rintro e w8 ⟨rfl, s5⟩; clear s4) | (go_at_call 15; refine (masksL s5).mono ?_; rintro e w8 ⟨rfl, rfl⟩) | (go_at_call 21; refine (masksR s5 (b8_mkM HM.out l true)).mono ?_; rintro e w8 ⟨rfl, s6⟩; clear s5))
            go_roundw
            case rel => exact ⟨j + 1, by omega, by go_num, c, mkM m l true, HC.out, (b8_mkM HM.out l true), s6⟩
            case measure => simp [intOf]; omega
        · have e0 : (k % 4 == 0) = false := by rw [beq_eq_false_iff_ne]; omega
          have e1 : (k % 4 == 1) = false := by rw [beq_eq_false_iff_ne]; omega
          have e2 : (k % 4 == 2) = true := by rw [beq_iff_eq]; omega
          clear hk2
          go_wp2_with fail
          clear c0' c1' s2
          rw [← HR0.out, ← HW3.out]
          have t3 := T3.out
          have ET : Hid ((k.tmod 4 == 1) = false) := Lib.hid (by rw [Int.tmod_eq_emod_of_nonneg hk.1]; exact e1)
          go_region_held3 (fun wx => wx.cell? ⟨r0, 0, none⟩ = some (.int .u8 k) ∧ wx.cell? ⟨r0, 1, none⟩ = some (.int .i64 l)) (first | (exact ⟨Tri.kind (by assumption), Tri.line (by assumption)⟩) | (exact ⟨Tri.kind (Tri.drew (by assumption)), Tri.line (Tri.drew (by assumption))⟩) | go_keep) (first | (go_at_call 13; refine (maskL (by first | assumption | (exact Tri.drew (by assumption))) _ _).mono ?_; rintro e w4 ⟨rfl, h4⟩) | (go_at_call 18; refine (maskR (by first | assumption | (exact Tri.drew (by assumption))) HM.out _ _).mono ?_; rintro e w4 ⟨rfl, h4⟩))
          all_goals
            rw [ET.out] at h4
            have s4 : Two w p0 q1 (c) (mkM m l false) (c) (mkM m l false) _ := Tri.two (by assumption)
            go_wp2_with (first | (go_at_call 14; refine (callsL s4).mono ?_; rintro e w8 ⟨rfl, rfl⟩) | (go_at_call 20; refine (callsR s4 HC.out).mono ?_; rintro e w8 ⟨rfl, s5⟩; clear s4) | (go_at_call 15; refine (masksL s5).mono ?_; rintro e w8 ⟨rfl, rfl⟩) | (go_at_call 21; refine (masksR s5 (b8_mkM HM.out l false)).mono ?_; rintro e w8 ⟨rfl, s6⟩; clear s5))
            go_roundw
            case rel => exact ⟨j + 1, by omega, by go_num, c, mkM m l false, HC.out, (b8_mkM HM.out l false), s6⟩
            case measure => simp [intOf]; omega
        · have e0 : (k % 4 == 0) = false := by rw [beq_eq_false_iff_ne]; omega
          have e1 : (k % 4 == 1) = false := by rw [beq_eq_false_iff_ne]; omega
          have e2 : (k % 4 == 2) = false := by rw [beq_eq_false_iff_ne]; omega
          clear hk3
          go_wp2_with fail
          clear c0' c1' s2
          rw [← HR0.out, ← HW3.out]
          have t3 := T3.out
          refine (nextL t3).mono ?_; rintro e w4 ⟨rfl, h4⟩
          clear t3
          go_wp2_with fail
          refine (nextR h4 HC.out HM.out).mono ?_; rintro e w5 ⟨rfl, h5⟩
          clear h4
          have s4 : Two w p0 q1 (nxC c m) (m) (nxC c m) (m) _ := Tri.two (by assumption)
          go_wp2_with (first | (go_at_call 14; refine (callsL s4).mono ?_; rintro e w8 ⟨rfl, rfl⟩) | (go_at_call 20; refine (callsR s4 (b8_nxC HC.out)).mono ?_; rintro e w8 ⟨rfl, s5⟩; clear s4) | (go_at_call 15; refine (masksL s5).mono ?_; rintro e w8 ⟨rfl, rfl⟩) | (go_at_call 21; refine (masksR s5 HM.out).mono ?_; rintro e w8 ⟨rfl, s6⟩; clear s5))
          go_roundw
          case rel => exact ⟨j + 1, by omega, by go_num, nxC c m, m, (b8_nxC HC.out), HM.out, s6⟩
          case measure => simp [intOf]; omega
      · go_wp2_with fail
        go_ret
        exact ⟨rfl, s2.ok⟩

/-! ### THE ROW's STEP -/
set_option maxRecDepth 100000 in
theorem lifted (os : Os) (started : os.Started) (H : Type) (enc : TypeId × Value → H) :
    ReturnsInHanded {} Try.checked os 4 .any (Rows.linesPlaySpec.pre6 enc Try.prog Try.f4 Rows.linesPlayRow.domain false) (Rows.linesPlaySpec.post enc Try.prog Try.f4 false true false false) := by
  refine returnsInHanded_of_change (C := Try.checked) own started (by kernel_rfl) Try.func4
    (ChangeSpec.witness6 (enc := enc) (C := Try.checked) false ⟨#[], #[.slice none 0 0], []⟩ 8 (by kernel_rfl) (by kernel_rfl) (by kernel_rfl) (by kernel_rfl)) ?_
  intro W base args ds gs before hval0 hW hcnd _
  have hval : ∀ (j : Nat) t v, Try.f4.params[j]? = some t → args[j]? = some v → Value.okWide Try.prog W .any base t v := hval0
  have hW' := hW
  obtain ⟨p, q, hA0, hV, rfl, hfz, hnd⟩ := hW
  have hA : DataW.TrodAll enc Try.prog W 0 (fun _ => true) true Try.f4.params.toList args.toList ds p := hA0
  rw [Try.params4] at hA hval
  obtain ⟨v0, vs0, d0, ds0, p0, q0, hargs, rfl, rfl, h0, r0⟩ := trodAll_cons hA
  obtain ⟨rfl, rfl, rfl⟩ := trodAll_nil r0
  obtain rfl : args = #[v0] := by cases args; simp_all
  obtain ⟨rfl, rfl⟩ := trodVars_none hV
  obtain ⟨a0, len0, cap0, rfl⟩ := okWide_slice Try.underlying34 (hval 0 34 v0 rfl rfl)
  have k0 := h0
  have lt0 : ∀ x ∈ p0, x.block < W.heap.size := by obtain ⟨m, hm⟩ := k0; exact DataW.trod_lt m _ _ _ hm
  have w0 := acts_of h0
  have hlen : len0 ≤ maxLen := by
    rcases w0 with h | ⟨h, _⟩
    · omega
    · exact h
  clear hA0 hval0
  refine (walk a0 len0 cap0 W w0 hlen).mono fun e W' ⟨he, bel⟩ => ?_
  subst he
  exact ⟨_, rfl, _, _, _, [], _, [], hW', trodAll_mk1 (shut_bool Try.underlying4 _), (trodAll_cons_mk (Below.trod laidOut (by kernel_rfl) (of_decide_eq_true (by kernel_rfl)) k0 bel lt0) trodAll_mk0), rfl, bel.frame _, fun h => by cases h⟩

theorem over : Rows.linesPlayRow.holds Try.pinned (OpenSpec.ofChange Rows.linesPlaySpec) :=
  OpenClaim.holds_of_wide 4 Try.f4 rfl rfl rfl rfl rfl rfl rfl ⟨rfl, rfl, rfl, rfl, rfl⟩ rfl rfl rfl rfl rfl (by kernel_rfl) Try.func4 (by kernel_rfl)
    (of_decide_eq_true (by kernel_rfl)) (by unfold Func.isWrapper; first | (rw [if_pos (by decide +kernel)]; kernel_rfl) | (rw [if_neg (by decide +kernel)]; exact ⟨rfl, rfl⟩))
    (fun os started H enc _ => lifted os started H enc)

theorem proved : Rows.LinesPlaySaid := over
end Go.Proofs.Ytijclpkfmkbkpaa.linesPlay
