/-
  The top, part 13: Waiting, Shared, SharedWait.
-/
import Derived.Test.YtcngfaggignmpaaGreatDoorS12

/-
  The kernel: a task waits for the row, for ever.
-/
namespace Go.Proofs.YtcngfaggignmpaaGreatDoor
open Go.RowKit

namespace KM
/-- A task that waits for the row. -/
def asks (t : TM) (what hh v mm : Int) : TM := { t with wait := true, what := what, hh := hh, v := v, mm := mm, wt := -1, left := -1, on := true }
def waits (m : KM) (i : Nat) (t : TM) (what hh v mm : Int) : KM := { ((m.rm i).setT i (asks t what hh v mm)) with wl := some (i, t.rank) }
end KM

section
variable {B T U : Nat} {tb : Nat → Nat} {m : KM} {w : World} {i xb : Nat} {t : TM} {what hh v mm wt o : Int}
theorem asks_cells (U i : Nat) (t : TM) (what hh v mm : Int) : (((((((((tcells i t U).setIfInBounds 1 (.int .u8 2)).setIfInBounds 5 (.int .u8 what)).setIfInBounds 6 (.int .u32 hh)).setIfInBounds 7 (.int .u32 v)).setIfInBounds 8 (.int .u32 mm)).setIfInBounds 9 (.int .i64 (-1))).setIfInBounds 14 (.pointer (some ⟨U + 2, 0, none⟩))).setIfInBounds 10 (.int .i64 (-1))) = tcells i (KM.asks t what hh v mm) U := by
  simp [tcells, KM.asks]
theorem AK.ne (h : KS B T U tb m w) (a : AK xb B i tb what hh v mm wt o w) {j : Nat} (hj : j < 16) (ht : m.tk j = some t) : xb ≠ tb j := Row.ne a (h.task j t hj ht) (by decide)
theorem AK.sk (a : AK xb B i tb what hh v mm wt o w) (hx : U + 3 ≤ xb) : ¬ Sk B T U w xb := by
  rintro (⟨_, h⟩ | ⟨_, ty, cs, r, ht⟩)
  · omega
  · rcases ht with rfl | rfl <;> exact absurd (Row.ty a r) (by decide)

theorem KS.other {w' : World} {p : Nat} {ty : TypeId} {cs : Array Value} (h : KS B T U tb m w) (a : Row p ty cs w) (hx : U + 3 ≤ p) (hty : ty ≠ 127 ∧ ty ≠ 182 ∧ ty ≠ 289) (g : Ch (fun x => x = p) w w') : KS B T U tb m w' :=
  h.keeps g (fun k e => by rw [e]; exact hx) (fun k cs t e r => by
    subst e
    have := r.ty a
    subst this
    exact hty)

set_option maxRecDepth 100000 in
set_option maxHeartbeats 4000000 in
theorem waits_any (h : KS B T U tb m w) (hc : Cons m) (hi : i < 16) (ht : m.tk i = some t) (hr : t.rank < 32) (hw : m.wl = none) (ha : AK xb B i tb what hh v mm (-1) 0 w) (hx : U + 3 ≤ xb) :
    Calls Tryz.prog 139 #[.pointer (some ⟨xb, 0, none⟩), .pointer (some ⟨U + 2, 0, none⟩)] w fun e w' => e = .returned (.agg #[.bool true, .int .i64 0, .int .u32 0]) ∧ KS B T U tb (m.waits i t what hh v mm) w' ∧ Ch (Sk B T U w) w w' := by
  have H := Lib.hid (h.no (Ch.alloc w (.cells #[.bool false, .int .i64 0, .int .u32 0] 216)))
  have HC := Lib.hid hc
  have HT := Lib.hid ht
  have HWL := Lib.hid hw
  have HA : Hid (AK xb B i tb what hh v mm (-1) 0 (w.alloc (.cells #[.bool false, .int .i64 0, .int .u32 0] 216))) := Lib.hid (ha.keeps (S := No) (Ch.alloc w _) (fun x => x))
  have hC0 : Ch (Sk B T U w) w (w.alloc (.cells #[.bool false, .int .i64 0, .int .u32 0] 216)) := Ch.alloc w _
  have hR0 := Row.new w 216 #[.bool false, .int .i64 0, .int .u32 0]
  obtain ⟨W0, hW0⟩ : ∃ W0, W0 = w.alloc (.cells #[.bool false, .int .i64 0, .int .u32 0] 216) := ⟨_, rfl⟩
  have HW0 := Lib.hid hW0
  rw [← hW0] at H HA hC0 hR0
  have HR0 := Lib.hid hR0
  have hne : xb ≠ tb i := AK.ne h ha hi ht
  have hne2 : tb i ≠ xb := fun e => hne e.symm
  have hrb : U + 3 ≤ w.heap.size := h.wait.2.2.1
  have c0 : W0.cell? ⟨xb, 0, none⟩ = some (.pointer (some ⟨B + 69, 0, none⟩)) := Row.cell HA.out (j := 0) rfl
  have c1 : W0.cell? ⟨xb, 1, none⟩ = some (.int .i64 i) := Row.cell HA.out (j := 1) rfl
  have c2 := H.out.cReady
  clear h hc ht hw ha hW0 hR0
  go_enter Tryz.func139, Tryz.ntmps139
  go_wp2_with fail
  rw [← HW0.out]
  obtain ⟨rb, hrbe⟩ : ∃ rb, rb = w.heap.size := ⟨_, rfl⟩
  rw [← hrbe] at HR0 hrb ⊢
  have HRBE := Lib.hid hrbe
  clear hrbe
  go_region_held3 (fun wx => wx.cell? ⟨xb, 0, none⟩ = some (.pointer (some ⟨B + 69, 0, none⟩)) ∧ wx.cell? ⟨xb, 1, none⟩ = some (.int .i64 i) ∧ wx.cell? ⟨B + 69, 52, none⟩ = some (.pointer (some ⟨B, 0, none⟩))) (first | exact ⟨by assumption, by assumption, by assumption⟩) (first
    | (go_at_call 95; refine (rm_step (H.out.drewN 1) HC.out hi).mono ?_; rintro e w1 ⟨⟨n, rfl⟩, hk, hch⟩
       have ha1 : AK xb B i tb what hh v mm (-1) 0 w1 := (HA.out.keeps (S := No) (Ch.drewN W0 1) (fun x => x)).keeps hch (AK.sk (HA.out.keeps (S := No) (Ch.drewN W0 1) (fun x => x)) hx)
       have HRW : Hid (Row rb 216 #[.bool false, .int .i64 0, .int .u32 0] w1) := Lib.hid ((HR0.out.drewN 1).keeps hch (by rintro (⟨_, e⟩ | ⟨_, ty, cs, r, ht⟩); (· omega); rcases ht with rfl | rfl <;> exact absurd ((HR0.out.drewN 1).ty r) (by decide)))
       have d0 : w1.cell? ⟨xb, 0, none⟩ = some (.pointer (some ⟨B + 69, 0, none⟩)) := Row.cell ha1 (j := 0) rfl
       have d1 : w1.cell? ⟨xb, 1, none⟩ = some (.int .i64 i) := Row.cell ha1 (j := 1) rfl
       have d2 := hk.cReady
       have HA1 := Lib.hid ha1
       have HK1 := Lib.hid hk
       have HC1 : Hid (Ch (Sk B T U w) w w1) := Lib.hid ((hC0.tr (Ch.ofNo B T U (Ch.drewN W0 1))).tr hch)
       clear ha1 hk hch))
  all_goals
    clear c0 c1 c2 d0 d1 d2 hC0
    have HT1 : Hid ((m.rm i).tk i = some t) := Lib.hid (by rw [KM.rm_tk]; exact HT.out)
    have e2 : w1.cell? ⟨xb, 2, none⟩ = some (.pointer (some ⟨tb i, 0, none⟩)) := Row.cell HA1.out (j := 2) rfl
    have e3 : w1.cell? ⟨xb, 3, none⟩ = some (.int .u8 what) := Row.cell HA1.out (j := 3) rfl
    have e4 : w1.cell? ⟨xb, 4, none⟩ = some (.int .u32 hh) := Row.cell HA1.out (j := 4) rfl
    have e5 : w1.cell? ⟨xb, 5, none⟩ = some (.int .u32 v) := Row.cell HA1.out (j := 5) rfl
    have e6 : w1.cell? ⟨xb, 6, none⟩ = some (.int .u32 mm) := Row.cell HA1.out (j := 6) rfl
    have e7 : w1.cell? ⟨xb, 7, none⟩ = some (.int .i64 (-1)) := Row.cell HA1.out (j := 7) rfl
    have hrow := HK1.out.task i t hi HT1.out
    have g1 := hrow.cell (j := 1) rfl
    have g2 := hrow.cell (j := 5) rfl
    have g3 := hrow.cell (j := 6) rfl
    have g4 := hrow.cell (j := 7) rfl
    have g5 := hrow.cell (j := 8) rfl
    have g6 := hrow.cell (j := 9) rfl
    have g7 := hrow.cell (j := 14) rfl
    have f1 := hrow.free 1
    have f2 := hrow.free 5
    have f3 := hrow.free 6
    have f4 := hrow.free 7
    have f5 := hrow.free 8
    have f6 := hrow.free 9
    have f7 := hrow.free 14
    have f8 := hrow.free 10
    have g8 := hrow.cell (j := 10) rfl
    have HROW := Lib.hid hrow
    clear hrow
    go_wp2_with fail
    go_region_held3 (fun wx => wx.cell? ⟨xb, 2, none⟩ = some (.pointer (some ⟨tb i, 0, none⟩)) ∧ wx.cell? ⟨xb, 3, none⟩ = some (.int .u8 what) ∧ wx.cell? ⟨xb, 4, none⟩ = some (.int .u32 hh) ∧ wx.cell? ⟨xb, 5, none⟩ = some (.int .u32 v) ∧ wx.cell? ⟨xb, 6, none⟩ = some (.int .u32 mm) ∧ wx.cell? ⟨xb, 7, none⟩ = some (.int .i64 (-1))) (go_keep) (fail)
    all_goals
      have hrow7 := ((((((HROW.out.set 1 (.int .u8 2)).set 5 (.int .u8 what)).set 6 (.int .u32 hh)).set 7 (.int .u32 v)).set 8 (.int .u32 mm)).set 9 (.int .i64 (-1))).set 14 (.pointer (some ⟨U + 2, 0, none⟩))
      have hch7 := ((((((Ch.set1 w1 (tb i) 1 (.int .u8 2)).trans (Ch.set1 _ (tb i) 5 (.int .u8 what))).trans (Ch.set1 _ (tb i) 6 (.int .u32 hh))).trans (Ch.set1 _ (tb i) 7 (.int .u32 v))).trans (Ch.set1 _ (tb i) 8 (.int .u32 mm))).trans (Ch.set1 _ (tb i) 9 (.int .i64 (-1)))).trans (Ch.set1 _ (tb i) 14 (.pointer (some ⟨U + 2, 0, none⟩)))
      obtain ⟨W2, hW2⟩ : ∃ W2, W2 = (((((((w1.setCell ⟨tb i, 1, none⟩ (.int .u8 2)).setCell ⟨tb i, 5, none⟩ (.int .u8 what)).setCell ⟨tb i, 6, none⟩ (.int .u32 hh)).setCell ⟨tb i, 7, none⟩ (.int .u32 v)).setCell ⟨tb i, 8, none⟩ (.int .u32 mm)).setCell ⟨tb i, 9, none⟩ (.int .i64 (-1))).setCell ⟨tb i, 14, none⟩ (.pointer (some ⟨U + 2, 0, none⟩))) := ⟨_, rfl⟩
      rw [← hW2] at hrow7 hch7 ⊢
      have HRW7 := Lib.hid hrow7
      have HCH7 := Lib.hid hch7
      clear hW2 e2 e3 e4 e5 e6 e7 g1 g2 g3 g4 g5 g6 g7 g8 f1 f2 f3 f4 f5 f6 f7 f8
      have HA2 : Hid (AK xb B i tb what hh v mm (-1) 0 W2) := Lib.hid (HA1.out.keeps hch7 hne)
      have HRB2 : Hid (Row rb 216 #[.bool false, .int .i64 0, .int .u32 0] W2) := Lib.hid (HRW.out.keeps hch7 (fun e => by subst e; exact absurd (HRW.out.ty (HK1.out.task i t hi HT1.out)) (by decide)))
      have d2 : W2.cell? ⟨xb, 2, none⟩ = some (.pointer (some ⟨tb i, 0, none⟩)) := Row.cell HA2.out (j := 2) rfl
      have d7 : W2.cell? ⟨xb, 7, none⟩ = some (.int .i64 (-1)) := Row.cell HA2.out (j := 7) rfl
      have g8 := hrow7.cell (j := 10) (v := .int .i64 t.left) (by simp [tcells])
      have f8 := hrow7.free 10
      clear hrow7 hch7
      go_wp2_with fail
      go_region_held3 (fun wx => wx.cell? ⟨xb, 2, none⟩ = some (.pointer (some ⟨tb i, 0, none⟩)) ∧ wx.cell? ⟨xb, 7, none⟩ = some (.int .i64 (-1))) (go_keep) (fail)
      all_goals
        have hrow8 : Row (tb i) 127 (tcells i (KM.asks t what hh v mm) U) (W2.setCell ⟨tb i, 10, none⟩ (.int .i64 (-1))) := by
          have := HRW7.out.set 10 (.int .i64 (-1))
          rw [asks_cells] at this
          exact this
        have hks := HK1.out.task' (HCH7.out.trans (Ch.set1 W2 (tb i) 10 (.int .i64 (-1)))) hi HT1.out hrow8
        have HRB3 : Hid (Row rb 216 #[.bool false, .int .i64 0, .int .u32 0] (W2.setCell ⟨tb i, 10, none⟩ (.int .i64 (-1)))) := Lib.hid (HRB2.out.keeps (Ch.set1 W2 (tb i) 10 (.int .i64 (-1))) (fun e => by subst e; exact absurd (HRB2.out.ty HRW7.out) (by decide)))
        have HA3 : Hid (AK xb B i tb what hh v mm (-1) 0 (W2.setCell ⟨tb i, 10, none⟩ (.int .i64 (-1)))) := Lib.hid (HA2.out.keeps (Ch.set1 W2 (tb i) 10 (.int .i64 (-1))) hne)
        obtain ⟨W3, hW3⟩ : ∃ W3, W3 = (W2.setCell ⟨tb i, 10, none⟩ (.int .i64 (-1))) := ⟨_, rfl⟩
        rw [← hW3] at hrow8 hks HRB3 HA3 ⊢
        have HKS := Lib.hid hks
        clear hW3 d2 d7 g8 f8
        have k2 : W3.cell? ⟨xb, 2, none⟩ = some (.pointer (some ⟨tb i, 0, none⟩)) := Row.cell HA3.out (j := 2) rfl
        have k1 : W3.cell? ⟨xb, 1, none⟩ = some (.int .i64 i) := Row.cell HA3.out (j := 1) rfl
        have k3 : W3.cell? ⟨tb i, 10, none⟩ = some (.int .i64 (-1)) := hrow8.cell (j := 10) rfl
        have k4 : W3.cell? ⟨tb i, 4, none⟩ = some (.int .i64 t.rank) := hrow8.cell (j := 4) rfl
        have k5 : W3.cell? ⟨U + 2, 5, none⟩ = some (.pointer (some ⟨U + 1, 0, none⟩)) := hks.1.thing.cell (j := 5) rfl
        have HWQ : Hid (WQ U (U + 3) none W3) := Lib.hid (by have := hks.1.wait; rw [show ((m.rm i).setT i (KM.asks t what hh v mm)).wl = none from by show (m.rm i).wl = none; rw [KM.rm_wl]; exact HWL.out] at this; exact this)
        clear hrow8 hks
        go_wp2_with fail
        go_region_held3 (fun wx => wx.cell? ⟨xb, 2, none⟩ = some (.pointer (some ⟨tb i, 0, none⟩)) ∧ wx.cell? ⟨xb, 1, none⟩ = some (.int .i64 i) ∧ wx.cell? ⟨tb i, 4, none⟩ = some (.int .i64 t.rank) ∧ wx.cell? ⟨U + 2, 5, none⟩ = some (.pointer (some ⟨U + 1, 0, none⟩))) (first | exact ⟨by assumption, by assumption, by assumption, by assumption⟩) (first
          | (go_at_call 155; refine (wqPut_any _ U (U + 3) i t.rank hr (HWQ.out.drewN 3)).mono ?_; rintro e w4 ⟨rfl, hwq, hch4⟩
             have hk4 := (HKS.out.1.drewN 3).wait' hch4 hwq
             have j2 : w4.cell? ⟨xb, 2, none⟩ = some (.pointer (some ⟨tb i, 0, none⟩)) := Row.cell ((HA3.out.keeps (S := No) (Ch.drewN W3 3) (fun x => x)).keeps hch4 (by omega)) (j := 2) rfl
             have j1 : w4.cell? ⟨xb, 1, none⟩ = some (.int .i64 i) := Row.cell ((HA3.out.keeps (S := No) (Ch.drewN W3 3) (fun x => x)).keeps hch4 (by omega)) (j := 1) rfl
             have j4 : w4.cell? ⟨tb i, 4, none⟩ = some (.int .i64 t.rank) := hk4.1.tCell hi (KM.setT_tk _ _ _) (j := 4) rfl
             have j5 : w4.cell? ⟨U + 2, 5, none⟩ = some (.pointer (some ⟨U + 1, 0, none⟩)) := hk4.1.thing.cell (j := 5) rfl
             have HK4 := Lib.hid hk4
             have HRB4 : Hid (Row rb 216 #[.bool false, .int .i64 0, .int .u32 0] w4) := Lib.hid ((HRB3.out.drewN 3).keeps hch4 (by omega))
             clear hk4 hwq hch4))
        all_goals
          clear k1 k2 k3 k4 k5 j1 j2 j4 j5
          have z1 := HRB4.out.cell (j := 0) rfl
          have z2 := HRB4.out.cell (j := 1) rfl
          have z3 := HRB4.out.cell (j := 2) rfl
          have y1 := HRB4.out.free 0
          have y2 := HRB4.out.free 1
          have y3 := HRB4.out.free 2
          go_wp2_with fail
          refine bodyPost_ret (v := .agg #[.bool true, .int .i64 0, .int .u32 0]) (by simp [results, Tryz.results139, go_sem, z1, z2, z3]) rfl ?_
          have hc3 := ((Ch.set1 w4 rb 0 (.bool true)).trans (Ch.set1 _ rb 1 (.int .i64 0))).trans (Ch.set1 _ rb 2 (.int .u32 0))
          have hk5 := HK4.out.1.other HRB4.out hrb (by decide) hc3
          refine ⟨rfl, hk5, ?_⟩
          have hA := ((HC1.out.tr HKS.out.2).tr (Ch.ofNo B T U (Ch.drewN W3 3))).tr HK4.out.2
          exact hA.trans' hc3 (fun k hk e => by rw [HRBE.out] at e; omega)
end
end Go.Proofs.YtcngfaggignmpaaGreatDoor

/-
  The kernel: something is asked of the row.
-/
namespace Go.Proofs.YtcngfaggignmpaaGreatDoor
open Go.RowKit

section
variable {B T U : Nat} {tb : Nat → Nat} {m : KM} {w : World} {i xb : Nat} {t : TM} {what hh v mm wt o : Int}
/-- The place of an ask among those of a row: Put, or Get. -/
theorem blocks_pg (w : World) (hh v mm wt : Int) (hw : what = 7 ∨ what = 9) (hwt : (wt == 0) = false) : Calls Tryz.prog 135 #[askV what hh v mm wt] w fun e w' => e = .returned (.bool true) ∧ Ch No w w' := by
  rcases hw with rfl | rfl
  · exact blocks_row w 7 hh v mm wt 0 (by omega) hwt rfl (fun j hj => by omega) rfl rfl
  · refine blocks_row w 9 hh v mm wt 2 (by omega) hwt rfl (fun j hj => ?_) rfl rfl
    match j, hj with
    | 0, _ => rfl
    | 1, _ => rfl

set_option maxRecDepth 100000 in
set_option maxHeartbeats 4000000 in
theorem shared_ok {x : Int} {l : List Int} (h : KS B T U tb m w) (hi : i < 16) (ht : m.tk i = some t) (hw : what = 7 ∨ what = 9) (hwt : (wt == 0) = false) (hwm : decide (1073741824 < wt) = false) (ha : AK xb B i tb what hh v mm wt 0 w) (hx : U + 3 ≤ xb) (hr : tryR m.most m.row what v = some (x, l)) :
    Calls Tryz.prog 72 #[.pointer (some ⟨xb, 0, none⟩)] w fun e w' => e = .returned (.agg #[.bool false, .int .i64 0, .int .u32 x]) ∧ KS B T U tb { m with row := l } w' ∧ Ch (Sk B T U w) w w' := by
  have H := Lib.hid (h.no (Ch.alloc w (.cells #[.bool false, .int .i64 0, .int .u32 0] 216)))
  have HT := Lib.hid ht
  have HW := Lib.hid hw
  have HR := Lib.hid hr
  have HA : Hid (AK xb B i tb what hh v mm wt 0 (w.alloc (.cells #[.bool false, .int .i64 0, .int .u32 0] 216))) := Lib.hid (ha.keeps (S := No) (Ch.alloc w _) (fun x => x))
  have hC0 : Ch (Sk B T U w) w (w.alloc (.cells #[.bool false, .int .i64 0, .int .u32 0] 216)) := Ch.alloc w _
  have hR0 := Row.new w 216 #[.bool false, .int .i64 0, .int .u32 0]
  obtain ⟨W0, hW0⟩ : ∃ W0, W0 = w.alloc (.cells #[.bool false, .int .i64 0, .int .u32 0] 216) := ⟨_, rfl⟩
  have HW0 := Lib.hid hW0
  rw [← hW0] at H HA hC0 hR0
  have HR0 := Lib.hid hR0
  have hrb : U + 3 ≤ w.heap.size := h.wait.2.2.1
  have c0 : W0.cell? ⟨xb, 0, none⟩ = some (.pointer (some ⟨B + 69, 0, none⟩)) := Row.cell HA.out (j := 0) rfl
  have c8 : W0.cell? ⟨xb, 8, none⟩ = some (.int .i64 0) := Row.cell HA.out (j := 8) rfl
  have c1 := H.out.cThing
  have c3 : W0.cell? ⟨xb, 3, none⟩ = some (.int .u8 what) := Row.cell HA.out (j := 3) rfl
  have c4 : W0.cell? ⟨xb, 4, none⟩ = some (.int .u32 hh) := Row.cell HA.out (j := 4) rfl
  have c5 : W0.cell? ⟨xb, 5, none⟩ = some (.int .u32 v) := Row.cell HA.out (j := 5) rfl
  have c6 : W0.cell? ⟨xb, 6, none⟩ = some (.int .u32 mm) := Row.cell HA.out (j := 6) rfl
  have c7 : W0.cell? ⟨xb, 7, none⟩ = some (.int .i64 wt) := Row.cell HA.out (j := 7) rfl
  have hwho : (((256 : Int) + i) == 0) = false := by rw [beq_eq_false_iff_ne]; omega
  have HWHO := Lib.hid hwho
  clear h ht hw ha hW0 hR0 hr hwho
  go_enter Tryz.func72, Tryz.ntmps72
  go_wp2_with fail
  rw [← HW0.out]
  obtain ⟨rb, hrbe⟩ : ∃ rb, rb = w.heap.size := ⟨_, rfl⟩
  rw [← hrbe] at HR0 hrb ⊢
  have HRBE := Lib.hid hrbe
  clear hrbe
  go_quiet (fail)
  go_wp2_with fail
  refine (blocks_pg _ hh v mm wt HW.out hwt).mono ?_; rintro e w1 ⟨rfl, hch1⟩
  have hk1 := (H.out.drewN nq).no hch1
  have ha1 : AK xb B i tb what hh v mm wt 0 w1 := (HA.out.keeps (S := No) (Ch.drewN W0 nq) (fun x => x)).keeps hch1 (fun x => x)
  have HRW : Hid (Row rb 216 #[.bool false, .int .i64 0, .int .u32 0] w1) := Lib.hid ((HR0.out.drewN nq).keeps hch1 (fun x => x))
  have HC1 : Hid (Ch (Sk B T U w) w w1) := Lib.hid ((hC0.tr (Ch.ofNo B T U (Ch.drewN W0 nq))).tr (Ch.ofNo B T U hch1))
  have d2 : w1.cell? ⟨xb, 2, none⟩ = some (.pointer (some ⟨tb i, 0, none⟩)) := Row.cell ha1 (j := 2) rfl
  have d3 : w1.cell? ⟨xb, 3, none⟩ = some (.int .u8 what) := Row.cell ha1 (j := 3) rfl
  have d4 : w1.cell? ⟨xb, 4, none⟩ = some (.int .u32 hh) := Row.cell ha1 (j := 4) rfl
  have d5 : w1.cell? ⟨xb, 5, none⟩ = some (.int .u32 v) := Row.cell ha1 (j := 5) rfl
  have d6 : w1.cell? ⟨xb, 6, none⟩ = some (.int .u32 mm) := Row.cell ha1 (j := 6) rfl
  have d7 : w1.cell? ⟨xb, 7, none⟩ = some (.int .i64 wt) := Row.cell ha1 (j := 7) rfl
  have k1 : w1.cell? ⟨U + 2, 4, none⟩ = some (.pointer (some ⟨T, 0, none⟩)) := hk1.thing.cell (j := 4) rfl
  have k2 : w1.cell? ⟨tb i, 0, none⟩ = some (.int .u32 (256 + i)) := hk1.tCell hi HT.out (j := 0) rfl
  have HK1 := Lib.hid hk1
  have HA1 := Lib.hid ha1
  clear c0 c1 c3 c4 c5 c6 c7 c8 hk1 ha1 hch1 hC0
  go_wp2_with fail
  go_region_held3 (fun wx => wx.cell? ⟨xb, 2, none⟩ = some (.pointer (some ⟨tb i, 0, none⟩)) ∧ wx.cell? ⟨xb, 3, none⟩ = some (.int .u8 what) ∧ wx.cell? ⟨xb, 4, none⟩ = some (.int .u32 hh) ∧ wx.cell? ⟨xb, 5, none⟩ = some (.int .u32 v) ∧ wx.cell? ⟨xb, 6, none⟩ = some (.int .u32 mm) ∧ wx.cell? ⟨xb, 7, none⟩ = some (.int .i64 wt) ∧ wx.cell? ⟨U + 2, 4, none⟩ = some (.pointer (some ⟨T, 0, none⟩)) ∧ wx.cell? ⟨tb i, 0, none⟩ = some (.int .u32 (256 + i))) (first | exact ⟨by assumption, by assumption, by assumption, by assumption, by assumption, by assumption, by assumption, by assumption⟩) (first
    | (go_at_call 136; refine (try_ok (hh := hh) (mm := mm) (wt := wt) (HK1.out.drewN 1) HWHO.out HW.out HR.out).mono ?_; rintro e w2 ⟨rfl, hk2, hch2⟩
       have ha2 : AK xb B i tb what hh v mm wt 0 w2 := (HA1.out.keeps (S := No) (Ch.drewN w1 1) (fun x => x)).keeps hch2 (AK.sk (HA1.out.keeps (S := No) (Ch.drewN w1 1) (fun x => x)) hx)
       have HRW2 : Hid (Row rb 216 #[.bool false, .int .i64 0, .int .u32 0] w2) := Lib.hid ((HRW.out.drewN 1).keeps hch2 (by rintro (⟨_, e⟩ | ⟨_, ty, cs, r, ht⟩); (· omega); rcases ht with rfl | rfl <;> exact absurd ((HRW.out.drewN 1).ty r) (by decide)))
       have e2 : w2.cell? ⟨xb, 2, none⟩ = some (.pointer (some ⟨tb i, 0, none⟩)) := Row.cell ha2 (j := 2) rfl
       have e3 : w2.cell? ⟨xb, 3, none⟩ = some (.int .u8 what) := Row.cell ha2 (j := 3) rfl
       have e4 : w2.cell? ⟨xb, 4, none⟩ = some (.int .u32 hh) := Row.cell ha2 (j := 4) rfl
       have e5 : w2.cell? ⟨xb, 5, none⟩ = some (.int .u32 v) := Row.cell ha2 (j := 5) rfl
       have e6 : w2.cell? ⟨xb, 6, none⟩ = some (.int .u32 mm) := Row.cell ha2 (j := 6) rfl
       have e7 : w2.cell? ⟨xb, 7, none⟩ = some (.int .i64 wt) := Row.cell ha2 (j := 7) rfl
       have j1 : w2.cell? ⟨U + 2, 4, none⟩ = some (.pointer (some ⟨T, 0, none⟩)) := hk2.thing.cell (j := 4) rfl
       have j2 : w2.cell? ⟨tb i, 0, none⟩ = some (.int .u32 (256 + i)) := hk2.tCell hi HT.out (j := 0) rfl
       have HK2 := Lib.hid hk2
       have HCH2 : Hid (Ch (Sk B T U w) w w2) := Lib.hid ((HC1.out.tr (Ch.ofNo B T U (Ch.drewN w1 1))).tr hch2)
       clear hk2 hch2 ha2))
  all_goals
    clear d2 d3 d4 d5 d6 d7 k1 k2 e2 e3 e4 e5 e6 e7 j1 j2
    have z1 := HRW2.out.cell (j := 0) rfl
    have z2 := HRW2.out.cell (j := 1) rfl
    have z3 := HRW2.out.cell (j := 2) rfl
    have y1 := HRW2.out.free 0
    have y2 := HRW2.out.free 1
    have y3 := HRW2.out.free 2
    go_wp2_with fail
    refine bodyPost_ret (v := .agg #[.bool false, .int .i64 0, .int .u32 x]) (by simp [results, Tryz.results72, go_sem, z1, z2, z3]) rfl ?_
    have hc3 := ((Ch.set1 w2 rb 0 (.bool false)).trans (Ch.set1 _ rb 1 (.int .i64 0))).trans (Ch.set1 _ rb 2 (.int .u32 x))
    exact ⟨rfl, HK2.out.other HRW2.out hrb (by decide) hc3, HCH2.out.trans' hc3 (fun k hk e => by rw [HRBE.out] at e; omega)⟩
end
end Go.Proofs.YtcngfaggignmpaaGreatDoor

/-
  The kernel: something is asked of the row, and is waited for.
-/
namespace Go.Proofs.YtcngfaggignmpaaGreatDoor
open Go.RowKit

section
variable {B T U : Nat} {tb : Nat → Nat} {m : KM} {w : World} {i xb : Nat} {t : TM} {what hh v mm : Int}
set_option maxRecDepth 100000 in
set_option maxHeartbeats 4000000 in
theorem shared_wait (h : KS B T U tb m w) (hc : Cons m) (hrk : t.rank < 32) (hwl : m.wl = none) (hi : i < 16) (ht : m.tk i = some t) (hw : what = 7 ∨ what = 9) (ha : AK xb B i tb what hh v mm (-1) 0 w) (hx : U + 3 ≤ xb) (hr : tryR m.most m.row what v = none) :
    Calls Tryz.prog 72 #[.pointer (some ⟨xb, 0, none⟩)] w fun e w' => e = .returned (.agg #[.bool true, .int .i64 0, .int .u32 0]) ∧ KS B T U tb (m.waits i t what hh v mm) w' ∧ Ch (Sk B T U w) w w' := by
  have H := Lib.hid (h.no (Ch.alloc w (.cells #[.bool false, .int .i64 0, .int .u32 0] 216)))
  have HT := Lib.hid ht
  have HW := Lib.hid hw
  have HR := Lib.hid hr
  have HCO := Lib.hid hc
  have HWL := Lib.hid hwl
  have h5 : (what == 5) = false := by rcases hw with rfl | rfl <;> rfl
  have HA : Hid (AK xb B i tb what hh v mm (-1) 0 (w.alloc (.cells #[.bool false, .int .i64 0, .int .u32 0] 216))) := Lib.hid (ha.keeps (S := No) (Ch.alloc w _) (fun x => x))
  have hC0 : Ch (Sk B T U w) w (w.alloc (.cells #[.bool false, .int .i64 0, .int .u32 0] 216)) := Ch.alloc w _
  have hR0 := Row.new w 216 #[.bool false, .int .i64 0, .int .u32 0]
  obtain ⟨W0, hW0⟩ : ∃ W0, W0 = w.alloc (.cells #[.bool false, .int .i64 0, .int .u32 0] 216) := ⟨_, rfl⟩
  have HW0 := Lib.hid hW0
  rw [← hW0] at H HA hC0 hR0
  have HR0 := Lib.hid hR0
  have hrb : U + 3 ≤ w.heap.size := h.wait.2.2.1
  have c0 : W0.cell? ⟨xb, 0, none⟩ = some (.pointer (some ⟨B + 69, 0, none⟩)) := Row.cell HA.out (j := 0) rfl
  have c8 : W0.cell? ⟨xb, 8, none⟩ = some (.int .i64 0) := Row.cell HA.out (j := 8) rfl
  have c1 := H.out.cThing
  have c3 : W0.cell? ⟨xb, 3, none⟩ = some (.int .u8 what) := Row.cell HA.out (j := 3) rfl
  have c4 : W0.cell? ⟨xb, 4, none⟩ = some (.int .u32 hh) := Row.cell HA.out (j := 4) rfl
  have c5 : W0.cell? ⟨xb, 5, none⟩ = some (.int .u32 v) := Row.cell HA.out (j := 5) rfl
  have c6 : W0.cell? ⟨xb, 6, none⟩ = some (.int .u32 mm) := Row.cell HA.out (j := 6) rfl
  have c7 : W0.cell? ⟨xb, 7, none⟩ = some (.int .i64 (-1)) := Row.cell HA.out (j := 7) rfl
  have hwho : (((256 : Int) + i) == 0) = false := by rw [beq_eq_false_iff_ne]; omega
  have HWHO := Lib.hid hwho
  clear h ht hw ha hW0 hR0 hr hwho hc hwl
  go_enter Tryz.func72, Tryz.ntmps72
  go_wp2_with fail
  rw [← HW0.out]
  obtain ⟨rb, hrbe⟩ : ∃ rb, rb = w.heap.size := ⟨_, rfl⟩
  rw [← hrbe] at HR0 hrb ⊢
  have HRBE := Lib.hid hrbe
  clear hrbe
  go_quiet (fail)
  go_wp2_with fail
  refine (blocks_pg _ hh v mm (-1) HW.out rfl).mono ?_; rintro e w1 ⟨rfl, hch1⟩
  have hk1 := (H.out.drewN nq).no hch1
  have ha1 : AK xb B i tb what hh v mm (-1) 0 w1 := (HA.out.keeps (S := No) (Ch.drewN W0 nq) (fun x => x)).keeps hch1 (fun x => x)
  have HRW : Hid (Row rb 216 #[.bool false, .int .i64 0, .int .u32 0] w1) := Lib.hid ((HR0.out.drewN nq).keeps hch1 (fun x => x))
  have HC1 : Hid (Ch (Sk B T U w) w w1) := Lib.hid ((hC0.tr (Ch.ofNo B T U (Ch.drewN W0 nq))).tr (Ch.ofNo B T U hch1))
  have d2 : w1.cell? ⟨xb, 2, none⟩ = some (.pointer (some ⟨tb i, 0, none⟩)) := Row.cell ha1 (j := 2) rfl
  have d3 : w1.cell? ⟨xb, 3, none⟩ = some (.int .u8 what) := Row.cell ha1 (j := 3) rfl
  have d4 : w1.cell? ⟨xb, 4, none⟩ = some (.int .u32 hh) := Row.cell ha1 (j := 4) rfl
  have d5 : w1.cell? ⟨xb, 5, none⟩ = some (.int .u32 v) := Row.cell ha1 (j := 5) rfl
  have d6 : w1.cell? ⟨xb, 6, none⟩ = some (.int .u32 mm) := Row.cell ha1 (j := 6) rfl
  have d7 : w1.cell? ⟨xb, 7, none⟩ = some (.int .i64 (-1)) := Row.cell ha1 (j := 7) rfl
  have k1 : w1.cell? ⟨U + 2, 4, none⟩ = some (.pointer (some ⟨T, 0, none⟩)) := hk1.thing.cell (j := 4) rfl
  have k2 : w1.cell? ⟨tb i, 0, none⟩ = some (.int .u32 (256 + i)) := hk1.tCell hi HT.out (j := 0) rfl
  have HK1 := Lib.hid hk1
  have HA1 := Lib.hid ha1
  clear c0 c1 c3 c4 c5 c6 c7 c8 hk1 ha1 hch1 hC0
  go_wp2_with fail
  go_region_held3 (fun wx => wx.cell? ⟨xb, 2, none⟩ = some (.pointer (some ⟨tb i, 0, none⟩)) ∧ wx.cell? ⟨xb, 3, none⟩ = some (.int .u8 what) ∧ wx.cell? ⟨xb, 4, none⟩ = some (.int .u32 hh) ∧ wx.cell? ⟨xb, 5, none⟩ = some (.int .u32 v) ∧ wx.cell? ⟨xb, 6, none⟩ = some (.int .u32 mm) ∧ wx.cell? ⟨xb, 7, none⟩ = some (.int .i64 (-1)) ∧ wx.cell? ⟨U + 2, 4, none⟩ = some (.pointer (some ⟨T, 0, none⟩)) ∧ wx.cell? ⟨tb i, 0, none⟩ = some (.int .u32 (256 + i))) (first | exact ⟨by assumption, by assumption, by assumption, by assumption, by assumption, by assumption, by assumption, by assumption⟩) (first
    | (go_at_call 136; refine (try_no (hh := hh) (mm := mm) (wt := -1) (HK1.out.drewN 1) HWHO.out HW.out HR.out).mono ?_; rintro e w2 ⟨rfl, hk2, hch2⟩
       have ha2 : AK xb B i tb what hh v mm (-1) 0 w2 := (HA1.out.keeps (S := No) (Ch.drewN w1 1) (fun x => x)).keeps hch2 (AK.sk (HA1.out.keeps (S := No) (Ch.drewN w1 1) (fun x => x)) hx)
       have HRW2 : Hid (Row rb 216 #[.bool false, .int .i64 0, .int .u32 0] w2) := Lib.hid ((HRW.out.drewN 1).keeps hch2 (by rintro (⟨_, e⟩ | ⟨_, ty, cs, r, ht⟩); (· omega); rcases ht with rfl | rfl <;> exact absurd ((HRW.out.drewN 1).ty r) (by decide)))
       have e2 : w2.cell? ⟨xb, 2, none⟩ = some (.pointer (some ⟨tb i, 0, none⟩)) := Row.cell ha2 (j := 2) rfl
       have e3 : w2.cell? ⟨xb, 3, none⟩ = some (.int .u8 what) := Row.cell ha2 (j := 3) rfl
       have e4 : w2.cell? ⟨xb, 4, none⟩ = some (.int .u32 hh) := Row.cell ha2 (j := 4) rfl
       have e5 : w2.cell? ⟨xb, 5, none⟩ = some (.int .u32 v) := Row.cell ha2 (j := 5) rfl
       have e6 : w2.cell? ⟨xb, 6, none⟩ = some (.int .u32 mm) := Row.cell ha2 (j := 6) rfl
       have e7 : w2.cell? ⟨xb, 7, none⟩ = some (.int .i64 (-1)) := Row.cell ha2 (j := 7) rfl
       have j1 : w2.cell? ⟨U + 2, 4, none⟩ = some (.pointer (some ⟨T, 0, none⟩)) := hk2.thing.cell (j := 4) rfl
       have j2 : w2.cell? ⟨tb i, 0, none⟩ = some (.int .u32 (256 + i)) := hk2.tCell hi HT.out (j := 0) rfl
       have HK2 := Lib.hid hk2
       have HCH2 : Hid (Ch (Sk B T U w) w w2) := Lib.hid ((HC1.out.tr (Ch.ofNo B T U (Ch.drewN w1 1))).tr hch2)
       have HA2 := Lib.hid ha2
       clear hk2 hch2 ha2))
  all_goals
    have q0 : w2.cell? ⟨xb, 0, none⟩ = some (.pointer (some ⟨B + 69, 0, none⟩)) := Row.cell HA2.out (j := 0) rfl
    clear d2 d3 d4 d5 d6 d7 k1 k2 j1 j2
    go_wp2_with fail
    go_quiet (fail)
    go_wp2_with fail
    refine (waits_any (HK2.out.drewN nq) HCO.out hi HT.out hrk HWL.out (HA2.out.keeps (S := No) (Ch.drewN w2 nq) (fun x => x)) hx).mono ?_; rintro e w3 ⟨rfl, hk3, hch3⟩
    have HRW3 : Hid (Row rb 216 #[.bool false, .int .i64 0, .int .u32 0] w3) := Lib.hid ((HRW2.out.drewN nq).keeps hch3 (by rintro (⟨_, e⟩ | ⟨_, ty, cs, r, ht⟩); (· omega); rcases ht with rfl | rfl <;> exact absurd ((HRW2.out.drewN nq).ty r) (by decide)))
    have HK3 := Lib.hid hk3
    have HCH3 : Hid (Ch (Sk B T U w) w w3) := Lib.hid ((HCH2.out.tr (Ch.ofNo B T U (Ch.drewN w2 nq))).tr hch3)
    clear hk3 hch3 e2 e3 e4 e5 e6 e7 q0
    have z1 := HRW3.out.cell (j := 0) rfl
    have z2 := HRW3.out.cell (j := 1) rfl
    have z3 := HRW3.out.cell (j := 2) rfl
    have y1 := HRW3.out.free 0
    have y2 := HRW3.out.free 1
    have y3 := HRW3.out.free 2
    go_wp2_with fail
    refine bodyPost_ret (v := .agg #[.bool true, .int .i64 0, .int .u32 0]) (by simp [results, Tryz.results72, go_sem, z1, z2, z3]) rfl ?_
    have hc3 := ((Ch.set1 w3 rb 0 (.bool true)).trans (Ch.set1 _ rb 1 (.int .i64 0))).trans (Ch.set1 _ rb 2 (.int .u32 0))
    exact ⟨rfl, HK3.out.other HRW3.out hrb (by decide) hc3, HCH3.out.trans' hc3 (fun k hk e => by rw [HRBE.out] at e; omega)⟩
end
end Go.Proofs.YtcngfaggignmpaaGreatDoor
