/-
  The top, part 34: NapWait.
-/
import Derived.Test.YtcngfaggignmpaaGreatDoorS13
import Derived.Test.YtcngfaggignmpaaGreatDoorS14
import Derived.Test.YtcngfaggignmpaaGreatDoorS32
import Derived.Test.YtcngfaggignmpaaGreatDoorS33

/-
  The kernel: a task sleeps.
-/
namespace Go.Proofs.YtcngfaggignmpaaGreatDoor
open Go.RowKit

section
variable {B T U : Nat} {tb : Nat → Nat} {m : KM} {w : World} {i xb : Nat} {t : TM} {hh v mm d : Int}
theorem nap_cells (U i : Nat) (t : TM) (hh v mm d : Int) : (((((((((tcells i t U).setIfInBounds 1 (.int .u8 2)).setIfInBounds 5 (.int .u8 2)).setIfInBounds 6 (.int .u32 hh)).setIfInBounds 7 (.int .u32 v)).setIfInBounds 8 (.int .u32 mm)).setIfInBounds 9 (.int .i64 d)).setIfInBounds 14 (.pointer none)).setIfInBounds 10 (.int .i64 d)) = tcells i (KM.nap t hh v mm d) U := by
  simp [tcells, KM.nap]

set_option maxRecDepth 100000 in
set_option maxHeartbeats 4000000 in
theorem nap_any (h : KS B T U tb m w) (hc : Cons m) (hi : i < 16) (ht : m.tk i = some t) (hd : 1 ≤ d ∧ d ≤ 255) (haw : Awake m i) (hlen : m.sl.length ≤ 16) (hs : ∀ k, k ≤ m.sl.length → 0 ≤ ahead m.sl k ∧ ahead m.sl k ≤ 1099511627776) (ha : AK xb B i tb 2 hh v mm d 0 w) (hx : U + 3 ≤ xb) :
    Calls Tryz.prog 139 #[.pointer (some ⟨xb, 0, none⟩), .pointer none] w fun e w' => e = .returned (.agg #[.bool true, .int .i64 0, .int .u32 0]) ∧ KS B T U tb (m.naps i t hh v mm d) w' ∧ Ch (Sk B T U w) w w' := by
  have H := Lib.hid (h.no (Ch.alloc w (.cells #[.bool false, .int .i64 0, .int .u32 0] 216)))
  have hmax : max d (-1) = d := by omega
  have HC := Lib.hid hc
  have HT := Lib.hid ht
  have HAW := Lib.hid haw
  have HS := Lib.hid hs
  have HA : Hid (AK xb B i tb 2 hh v mm d 0 (w.alloc (.cells #[.bool false, .int .i64 0, .int .u32 0] 216))) := Lib.hid (ha.keeps (S := No) (Ch.alloc w _) (fun x => x))
  have hC0 : Ch (Sk B T U w) w (w.alloc (.cells #[.bool false, .int .i64 0, .int .u32 0] 216)) := Ch.alloc w _
  have hR0 := Row.new w 216 #[.bool false, .int .i64 0, .int .u32 0]
  obtain ⟨W0, hW0⟩ : ∃ W0, W0 = w.alloc (.cells #[.bool false, .int .i64 0, .int .u32 0] 216) := ⟨_, rfl⟩
  have HW0 := Lib.hid hW0
  rw [← hW0] at H HA hC0 hR0
  have HR0 := Lib.hid hR0
  have hne : xb ≠ tb i := AK.ne h ha hi ht
  have hne2 : tb i ≠ xb := fun e => hne e.symm
  have hrb : U + 3 ≤ w.heap.size := h.wait.2.2.1
  have c0 : W0.cell? ⟨xb, 0, none⟩ = some (.pointer (some ⟨B + 69, 0, none⟩)) := Row.cell HA.out (j := 0) rfl
  have c1 : W0.cell? ⟨xb, 1, none⟩ = some (.int .i64 i) := Row.cell HA.out (j := 1) rfl
  have c2 := H.out.cReady
  clear h hc ht haw hs ha hW0 hR0
  go_enter Tryz.func139, Tryz.ntmps139
  go_wp2_with fail
  rw [← HW0.out]
  obtain ⟨rb, hrbe⟩ : ∃ rb, rb = w.heap.size := ⟨_, rfl⟩
  rw [← hrbe] at HR0 hrb ⊢
  have HRBE := Lib.hid hrbe
  clear hrbe
  go_region_held3 (fun wx => wx.cell? ⟨xb, 0, none⟩ = some (.pointer (some ⟨B + 69, 0, none⟩)) ∧ wx.cell? ⟨xb, 1, none⟩ = some (.int .i64 i) ∧ wx.cell? ⟨B + 69, 52, none⟩ = some (.pointer (some ⟨B, 0, none⟩))) (first | exact ⟨by assumption, by assumption, by assumption⟩) (first
    | (go_at_call 95; refine (rm_step (H.out.drewN 1) HC.out hi).mono ?_; rintro e w1 ⟨⟨n, rfl⟩, hk, hch⟩
       have ha1 : AK xb B i tb 2 hh v mm d 0 w1 := (HA.out.keeps (S := No) (Ch.drewN W0 1) (fun x => x)).keeps hch (AK.sk (HA.out.keeps (S := No) (Ch.drewN W0 1) (fun x => x)) hx)
       have HRW : Hid (Row rb 216 #[.bool false, .int .i64 0, .int .u32 0] w1) := Lib.hid ((HR0.out.drewN 1).keeps hch (by rintro (⟨_, e⟩ | ⟨_, ty, cs, r, ht⟩); (· omega); rcases ht with rfl | rfl <;> exact absurd ((HR0.out.drewN 1).ty r) (by decide)))
       have d0 : w1.cell? ⟨xb, 0, none⟩ = some (.pointer (some ⟨B + 69, 0, none⟩)) := Row.cell ha1 (j := 0) rfl
       have d1 : w1.cell? ⟨xb, 1, none⟩ = some (.int .i64 i) := Row.cell ha1 (j := 1) rfl
       have d2 := hk.cReady
       have HA1 := Lib.hid ha1
       have HK1 := Lib.hid hk
       have HC1 : Hid (Ch (Sk B T U w) w w1) := Lib.hid ((hC0.tr (Ch.ofNo B T U (Ch.drewN W0 1))).tr hch)
       clear ha1 hk hch))
  all_goals
    clear c0 c1 c2 d0 d1 d2 hC0
    have HT1 : Hid ((m.rm i).tk i = some t) := Lib.hid (by rw [KM.rm_tk]; exact HT.out)
    have e2 : w1.cell? ⟨xb, 2, none⟩ = some (.pointer (some ⟨tb i, 0, none⟩)) := Row.cell HA1.out (j := 2) rfl
    have e3 : w1.cell? ⟨xb, 3, none⟩ = some (.int .u8 2) := Row.cell HA1.out (j := 3) rfl
    have e4 : w1.cell? ⟨xb, 4, none⟩ = some (.int .u32 hh) := Row.cell HA1.out (j := 4) rfl
    have e5 : w1.cell? ⟨xb, 5, none⟩ = some (.int .u32 v) := Row.cell HA1.out (j := 5) rfl
    have e6 : w1.cell? ⟨xb, 6, none⟩ = some (.int .u32 mm) := Row.cell HA1.out (j := 6) rfl
    have e7 : w1.cell? ⟨xb, 7, none⟩ = some (.int .i64 d) := Row.cell HA1.out (j := 7) rfl
    have hrow := HK1.out.task i t hi HT1.out
    have g1 := hrow.cell (j := 1) rfl
    have g2 := hrow.cell (j := 5) rfl
    have g3 := hrow.cell (j := 6) rfl
    have g4 := hrow.cell (j := 7) rfl
    have g5 := hrow.cell (j := 8) rfl
    have g6 := hrow.cell (j := 9) rfl
    have g7 := hrow.cell (j := 14) rfl
    have f1 := hrow.free 1
    have f2 := hrow.free 5
    have f3 := hrow.free 6
    have f4 := hrow.free 7
    have f5 := hrow.free 8
    have f6 := hrow.free 9
    have f7 := hrow.free 14
    have f8 := hrow.free 10
    have g8 := hrow.cell (j := 10) rfl
    have HROW := Lib.hid hrow
    clear hrow
    go_wp2_with fail
    go_region_held3 (fun wx => wx.cell? ⟨xb, 2, none⟩ = some (.pointer (some ⟨tb i, 0, none⟩)) ∧ wx.cell? ⟨xb, 3, none⟩ = some (.int .u8 2) ∧ wx.cell? ⟨xb, 4, none⟩ = some (.int .u32 hh) ∧ wx.cell? ⟨xb, 5, none⟩ = some (.int .u32 v) ∧ wx.cell? ⟨xb, 6, none⟩ = some (.int .u32 mm) ∧ wx.cell? ⟨xb, 7, none⟩ = some (.int .i64 d)) (go_keep) (fail)
    all_goals
      have hrow7 := ((((((HROW.out.set 1 (.int .u8 2)).set 5 (.int .u8 2)).set 6 (.int .u32 hh)).set 7 (.int .u32 v)).set 8 (.int .u32 mm)).set 9 (.int .i64 d)).set 14 (.pointer none)
      have hch7 := ((((((Ch.set1 w1 (tb i) 1 (.int .u8 2)).trans (Ch.set1 _ (tb i) 5 (.int .u8 2))).trans (Ch.set1 _ (tb i) 6 (.int .u32 hh))).trans (Ch.set1 _ (tb i) 7 (.int .u32 v))).trans (Ch.set1 _ (tb i) 8 (.int .u32 mm))).trans (Ch.set1 _ (tb i) 9 (.int .i64 d))).trans (Ch.set1 _ (tb i) 14 (.pointer none))
      obtain ⟨W2, hW2⟩ : ∃ W2, W2 = (((((((w1.setCell ⟨tb i, 1, none⟩ (.int .u8 2)).setCell ⟨tb i, 5, none⟩ (.int .u8 2)).setCell ⟨tb i, 6, none⟩ (.int .u32 hh)).setCell ⟨tb i, 7, none⟩ (.int .u32 v)).setCell ⟨tb i, 8, none⟩ (.int .u32 mm)).setCell ⟨tb i, 9, none⟩ (.int .i64 d)).setCell ⟨tb i, 14, none⟩ (.pointer none)) := ⟨_, rfl⟩
      rw [← hW2] at hrow7 hch7 ⊢
      have HRW7 := Lib.hid hrow7
      have HCH7 := Lib.hid hch7
      clear hW2 e2 e3 e4 e5 e6 e7 g1 g2 g3 g4 g5 g6 g7 g8 f1 f2 f3 f4 f5 f6 f7 f8
      have HA2 : Hid (AK xb B i tb 2 hh v mm d 0 W2) := Lib.hid (HA1.out.keeps hch7 hne)
      have HRB2 : Hid (Row rb 216 #[.bool false, .int .i64 0, .int .u32 0] W2) := Lib.hid (HRW.out.keeps hch7 (fun e => by subst e; exact absurd (HRW.out.ty (HK1.out.task i t hi HT1.out)) (by decide)))
      have d2 : W2.cell? ⟨xb, 2, none⟩ = some (.pointer (some ⟨tb i, 0, none⟩)) := Row.cell HA2.out (j := 2) rfl
      have d7 : W2.cell? ⟨xb, 7, none⟩ = some (.int .i64 d) := Row.cell HA2.out (j := 7) rfl
      have g8 := hrow7.cell (j := 10) (v := .int .i64 t.left) (by simp [tcells])
      have f8 := hrow7.free 10
      clear hrow7 hch7
      go_wp2_with fail
      go_region_held3 (fun wx => wx.cell? ⟨xb, 2, none⟩ = some (.pointer (some ⟨tb i, 0, none⟩)) ∧ wx.cell? ⟨xb, 7, none⟩ = some (.int .i64 d)) (go_keep) (fail)
      all_goals
        have hrow8 : Row (tb i) 127 (tcells i (KM.nap t hh v mm d) U) (W2.setCell ⟨tb i, 10, none⟩ (.int .i64 d)) := by
          have := HRW7.out.set 10 (.int .i64 d)
          rw [nap_cells] at this
          exact this
        have hks := HK1.out.task' (HCH7.out.trans (Ch.set1 W2 (tb i) 10 (.int .i64 d))) hi HT1.out hrow8
        have HRB3 : Hid (Row rb 216 #[.bool false, .int .i64 0, .int .u32 0] (W2.setCell ⟨tb i, 10, none⟩ (.int .i64 d))) := Lib.hid (HRB2.out.keeps (Ch.set1 W2 (tb i) 10 (.int .i64 d)) (fun e => by subst e; exact absurd (HRB2.out.ty HRW7.out) (by decide)))
        have HA3 : Hid (AK xb B i tb 2 hh v mm d 0 (W2.setCell ⟨tb i, 10, none⟩ (.int .i64 d))) := Lib.hid (HA2.out.keeps (Ch.set1 W2 (tb i) 10 (.int .i64 d)) hne)
        obtain ⟨W3, hW3⟩ : ∃ W3, W3 = (W2.setCell ⟨tb i, 10, none⟩ (.int .i64 d)) := ⟨_, rfl⟩
        rw [← hW3] at hrow8 hks HRB3 HA3 ⊢
        have HKS := Lib.hid hks
        clear hW3 d2 d7 g8 f8
        have k2 : W3.cell? ⟨xb, 2, none⟩ = some (.pointer (some ⟨tb i, 0, none⟩)) := Row.cell HA3.out (j := 2) rfl
        have k1 : W3.cell? ⟨xb, 1, none⟩ = some (.int .i64 i) := Row.cell HA3.out (j := 1) rfl
        have k0 : W3.cell? ⟨xb, 0, none⟩ = some (.pointer (some ⟨B + 69, 0, none⟩)) := Row.cell HA3.out (j := 0) rfl
        have k3 : W3.cell? ⟨tb i, 10, none⟩ = some (.int .i64 d) := hrow8.cell (j := 10) rfl
        have k5 := hks.1.cSleeps
        have hdp : decide (0 < d) = true := by rw [decide_eq_true_iff]; omega
        clear hrow8 hks
        go_wp2_with fail
        go_region_held3 (fun wx => wx.cell? ⟨xb, 0, none⟩ = some (.pointer (some ⟨B + 69, 0, none⟩)) ∧ wx.cell? ⟨xb, 2, none⟩ = some (.pointer (some ⟨tb i, 0, none⟩)) ∧ wx.cell? ⟨xb, 1, none⟩ = some (.int .i64 i) ∧ wx.cell? ⟨tb i, 10, none⟩ = some (.int .i64 d) ∧ wx.cell? ⟨B + 69, 53, none⟩ = some (.pointer (some ⟨B + 65, 0, none⟩))) (first | exact ⟨by assumption, by assumption, by assumption, by assumption, by assumption⟩) (first
          | (go_at_call 178; refine (dlPut_any _ (B + 65) (U + 3) i d m.sl (by omega) (by have := (HKS.out.1.drewN 3).sleeps; rwa [show ((m.rm i).setT i (KM.nap t hh v mm d)).sl = m.sl from KM.rm_sl _ _] at this) HAW.out.2 (by omega) HS.out (by have := (HKS.out.1.drewN 3).wait.2.2.1; exact this) (by omega)).mono ?_; rintro e w4 ⟨rfl, hdl, hch4⟩
             have hk4 := (HKS.out.1.drewN 3).sleeps' hch4 hdl
             have hA4 := (HA3.out.keeps (S := No) (Ch.drewN W3 3) (fun x => x)).keeps hk4.2 (AK.sk (HA3.out.keeps (S := No) (Ch.drewN W3 3) (fun x => x)) hx)
             have j0 : w4.cell? ⟨xb, 0, none⟩ = some (.pointer (some ⟨B + 69, 0, none⟩)) := Row.cell hA4 (j := 0) rfl
             have j2 : w4.cell? ⟨xb, 2, none⟩ = some (.pointer (some ⟨tb i, 0, none⟩)) := Row.cell hA4 (j := 2) rfl
             have j1 : w4.cell? ⟨xb, 1, none⟩ = some (.int .i64 i) := Row.cell hA4 (j := 1) rfl
             have j4 : w4.cell? ⟨tb i, 10, none⟩ = some (.int .i64 d) := hk4.1.tCell hi (KM.setT_tk _ _ _) (j := 10) rfl
             have j5 := hk4.1.cSleeps
             have HK4 := Lib.hid hk4
             have HRB4 : Hid (Row rb 216 #[.bool false, .int .i64 0, .int .u32 0] w4) := Lib.hid ((HRB3.out.drewN 3).keeps hk4.2 (skNot hrb (by decide) (HRB3.out.drewN 3)))
             clear hk4 hdl hch4 hA4))
        all_goals
          clear k0 k1 k2 k3 k5 j0 j1 j2 j4 j5
          have z1 := HRB4.out.cell (j := 0) rfl
          have z2 := HRB4.out.cell (j := 1) rfl
          have z3 := HRB4.out.cell (j := 2) rfl
          have y1 := HRB4.out.free 0
          have y2 := HRB4.out.free 1
          have y3 := HRB4.out.free 2
          go_wp2_with fail
          refine bodyPost_ret (v := .agg #[.bool true, .int .i64 0, .int .u32 0]) (by simp [results, Tryz.results139, go_sem, z1, z2, z3]) rfl ?_
          have hc3 := ((Ch.set1 w4 rb 0 (.bool true)).trans (Ch.set1 _ rb 1 (.int .i64 0))).trans (Ch.set1 _ rb 2 (.int .u32 0))
          have hk5 := HK4.out.1.other HRB4.out hrb (by decide) hc3
          refine ⟨rfl, hk5, ?_⟩
          have hA := ((HC1.out.tr HKS.out.2).tr (Ch.ofNo B T U (Ch.drewN W3 3))).tr HK4.out.2
          exact hA.trans' hc3 (fun k hk e => by rw [HRBE.out] at e; omega)
end
end Go.Proofs.YtcngfaggignmpaaGreatDoor
