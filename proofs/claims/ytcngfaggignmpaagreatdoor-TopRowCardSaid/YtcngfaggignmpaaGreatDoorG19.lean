/-
  The top, part 19: AskWait, Tick.
-/
import Derived.Test.YtcngfaggignmpaaGreatDoorG18

/-
  The kernel: Ask, of the row, that is waited for.
-/
namespace Go.Proofs.YtcngfaggignmpaaGreatDoor
open Go.RowKit

section
variable {B T U : Nat} {tb : Nat → Nat} {m : KM} {w : World} {i r : Nat} {t : TM} {what v mm : Int}
set_option maxRecDepth 100000 in
set_option maxHeartbeats 4000000 in
theorem ask_wait {l' : List Int} (h : KS B T U tb m w) (hc : Cons m) (hi : i < 16) (ht : m.tk i = some t) (hr : r < 32) (hl : m.ls r = (i : Int) :: l') (hn : ∀ j, r < j → j < 32 → m.ls j = [])
    (hrk : t.rank < 32)
    (hw : what = 7 ∨ what = 9) (htr : tryR m.most m.row what v = none) (hwl : m.wl = none) (hcalm : Calm (m.waits i t what 256 v mm)) :
    Calls Tryz.prog 34 #[.pointer (some ⟨B + 69, 0, none⟩), askV what 256 v mm (-1)] w fun e w' => e = .returned (.tuple #[.bool false, .int .i64 0]) ∧ KS B T U tb (m.waits i t what 256 v mm) w' ∧ Ch (Sk B T U w) w w' := by
  have hbx0 : U + 3 ≤ w.heap.size := h.wait.2.2.1
  have hC0 : Ch No w (w.alloc (.cells #[.int .u8 what, .int .u32 256, .int .u32 v, .int .u32 mm, .int .i64 (-1)] 112)) := Ch.alloc w _
  have hb0 := Row.new w 112 #[.int .u8 what, .int .u32 256, .int .u32 v, .int .u32 mm, .int .i64 (-1)]
  have H0 := Lib.hid (h.no hC0)
  obtain ⟨W0, hW0⟩ : ∃ W0, W0 = w.alloc (.cells #[.int .u8 what, .int .u32 256, .int .u32 v, .int .u32 mm, .int .i64 (-1)] 112) := ⟨_, rfl⟩
  have HW0 := Lib.hid hW0
  rw [← hW0] at hC0 hb0 H0
  have HB0 := Lib.hid hb0
  have HCO := Lib.hid hc
  have HT := Lib.hid ht
  have HL := Lib.hid hl
  have HN := Lib.hid hn
  have HW := Lib.hid hw
  have HTR := Lib.hid htr
  have HWL := Lib.hid hwl
  have HCALM := Lib.hid hcalm
  have c1 := H0.out.cReady
  have a1 : decide (what < 1) = false := by rcases hw with rfl | rfl <;> rfl
  have a2 : decide (20 < what) = false := by rcases hw with rfl | rfl <;> rfl
  have a3 : (what == 20) = false := by rcases hw with rfl | rfl <;> rfl
  have hi1 : 0 ≤ (i : Int) ∧ (i : Int) < 16 := by omega
  clear h hc ht hl hn hw htr hwl hcalm hb0 hW0
  have hnf : ∀ W : World, (binOp .eql 211 .nilFunc .nilFunc).run Tryz.prog W = .ok (.bool true) W := fun _ => by kernel_rfl
  unfold askV
  go_enter_defers Tryz.func34, Tryz.ntmps34
  go_wp2_with fail
  rw [← HW0.out]
  refine (kThere_any H0.out).mono ?_; rintro e w1 ⟨rfl, rfl⟩
  go_wp2_with fail
  refine (rqFirst_any _ B r m.ls m.rk i l' H0.out.ready hr HL.out HN.out).mono ?_; rintro e w1 ⟨rfl, hch1⟩
  have hk1 := H0.out.no hch1
  have hb1 := HB0.out.keeps hch1 (fun x => x)
  have HC1 : Hid (Ch (Sk B T U w) w w1) := Lib.hid (Ch.ofNo B T U (hC0.trans hch1))
  obtain ⟨bb, hbb⟩ : ∃ bb, bb = w.heap.size := ⟨_, rfl⟩
  rw [← hbb] at hb1 HB0 ⊢
  have d0 : w1.cell? ⟨bb, 0, none⟩ = some (.int .u8 what) := hb1.cell (j := 0) rfl
  have d1 : w1.cell? ⟨bb, 1, none⟩ = some (.int .u32 256) := hb1.cell (j := 1) rfl
  have d2 : w1.cell? ⟨bb, 2, none⟩ = some (.int .u32 v) := hb1.cell (j := 2) rfl
  have d3 : w1.cell? ⟨bb, 3, none⟩ = some (.int .u32 mm) := hb1.cell (j := 3) rfl
  have d4 : w1.cell? ⟨bb, 4, none⟩ = some (.int .i64 (-1)) := hb1.cell (j := 4) rfl
  have d5 := hk1.cTask hi HT.out
  have HK1 := Lib.hid hk1
  have HB1 := Lib.hid hb1
  have hx : U + 3 ≤ w1.heap.size := hk1.wait.2.2.1
  have hbx : U + 3 ≤ bb := by rw [hbb]; exact hbx0
  have HBB := Lib.hid hbb
  clear hk1 hb1 hch1 c1 hC0 hbb
  go_wp2_with fail
  go_region_held3 (fun wx => wx.cell? ⟨bb, 0, none⟩ = some (.int .u8 what) ∧ wx.cell? ⟨bb, 1, none⟩ = some (.int .u32 256) ∧ wx.cell? ⟨bb, 2, none⟩ = some (.int .u32 v) ∧ wx.cell? ⟨bb, 3, none⟩ = some (.int .u32 mm) ∧ wx.cell? ⟨bb, 4, none⟩ = some (.int .i64 (-1)) ∧ wx.cell? ⟨B + 69, 4 + i, none⟩ = some (.pointer (some ⟨tb i, 0, none⟩))) (go_keep) (fail)
  all_goals
    have hA := Row.new w1 208 #[.pointer (some ⟨B + 69, 0, none⟩), .int .i64 i, .pointer (some ⟨tb i, 0, none⟩), .int .u8 what, .int .u32 256, .int .u32 v, .int .u32 mm, .int .i64 (-1), .int .i64 0]
    have hcA : Ch No w1 (w1.alloc (.cells #[.pointer (some ⟨B + 69, 0, none⟩), .int .i64 i, .pointer (some ⟨tb i, 0, none⟩), .int .u8 what, .int .u32 256, .int .u32 v, .int .u32 mm, .int .i64 (-1), .int .i64 0] 208)).drew := (Ch.alloc w1 _).trans (Ch.drewN _ 1)
    have hne : bb ≠ w1.heap.size := by have := HB1.out.lt; omega
    have HA2 : Hid (AK w1.heap.size B i tb what 256 v mm (-1) 0 (w1.alloc (.cells #[.pointer (some ⟨B + 69, 0, none⟩), .int .i64 i, .pointer (some ⟨tb i, 0, none⟩), .int .u8 what, .int .u32 256, .int .u32 v, .int .u32 mm, .int .i64 (-1), .int .i64 0] 208)).drew) := Lib.hid (hA.drewN 1)
    obtain ⟨xb, hxb⟩ : ∃ xb, xb = w1.heap.size := ⟨_, rfl⟩
    have HXB := Lib.hid hxb
    obtain ⟨W2, hW2⟩ : ∃ W2, W2 = (w1.alloc (.cells #[.pointer (some ⟨B + 69, 0, none⟩), .int .i64 i, .pointer (some ⟨tb i, 0, none⟩), .int .u8 what, .int .u32 256, .int .u32 v, .int .u32 mm, .int .i64 (-1), .int .i64 0] 208)).drew := ⟨_, rfl⟩
    rw [← hW2, ← hxb] at HA2 ⊢
    rw [← hxb] at hne hx
    rw [← hW2] at hcA
    have HK2 := Lib.hid (HK1.out.no hcA)
    have HB2 := Lib.hid (HB1.out.keeps hcA (fun x => x))
    have HC2 : Hid (Ch (Sk B T U w) w W2) := Lib.hid (HC1.out.tr (Ch.ofNo B T U hcA))
    have hwx : w.heap.size ≤ xb := by rw [hxb]; exact HC1.out.size
    clear hA hcA hxb hW2 d0 d1 d2 d3 d4 d5
    go_wp2_with fail
    refine (of_pg HW.out HK2.out HA2.out hx).mono ?_; rintro e w3 ⟨rfl, ha3, hk3, hch3⟩
    have hb3 := HB2.out.keeps hch3 hne
    have HA3 := Lib.hid ha3
    have HK3 := Lib.hid hk3
    have HB3 := Lib.hid hb3
    have HC3 : Hid (Ch (Sk B T U w) w w3) := Lib.hid (HC2.out.trans' hch3 (fun k hk e => by omega))
    have d0 : w3.cell? ⟨bb, 0, none⟩ = some (.int .u8 what) := hb3.cell (j := 0) rfl
    clear ha3 hk3 hb3 hch3
    go_wp2_with fail
    go_region_held3 (fun wx => wx.cell? ⟨bb, 0, none⟩ = some (.int .u8 what)) (first | assumption | go_keep) (first
      | (go_at_call 71; refine (deeds_any _).mono ?_; rintro e w4 ⟨rfl, rfl⟩
         have hdl := deed_any HW.out (w3.alloc (.map deedsArr 6)).drew w3.heap.size (MapKept.heap_alloc w3 _).1))
    all_goals
      have hc4 : Ch No w3 (w3.alloc (.map deedsArr 6)).drew := (Ch.alloc w3 _).trans (Ch.drewN _ 1)
      obtain ⟨W4, hW4⟩ : ∃ W4, W4 = (w3.alloc (.map deedsArr 6)).drew := ⟨_, rfl⟩
      rw [← hW4] at hc4 hdl ⊢
      have HA4 := Lib.hid (HA3.out.keeps hc4 (fun x => x))
      have HK4 := Lib.hid (HK3.out.no hc4)
      have HB4 := Lib.hid (HB3.out.keeps hc4 (fun x => x))
      have HC4 := Lib.hid (HC3.out.tr (Ch.ofNo B T U hc4))
      clear hdl hW4 hc4 d0
      go_wp2_with fail
      refine (shared_wait HK4.out HCO.out hrk HWL.out hi HT.out HW.out HA4.out hx HTR.out).mono ?_; rintro e w5 ⟨rfl, hk5, hch5⟩
      have HK5 := Lib.hid hk5
      have HC5 := Lib.hid (HC4.out.tr hch5)
      clear hk5 hch5
      go_wp2_with fail
      refine leaves_cons (f := 57) (args := #[.pointer (some ⟨B + 69, 0, none⟩)]) (by simp) (by simp [go_sem]) ?_
      have hcz : Ch No w5 (w5.alloc (.cells #[.bool true, .int .i64 0, .int .u32 0] 216)) := Ch.alloc w5 _
      refine (anew_deferred .returning (HK5.out.no hcz) HCALM.out).mono ?_
      rintro e u' w9 ⟨rfl, rfl, hch9⟩
      exact ⟨.tuple #[.bool false, .int .i64 0], by simp [results, Tryz.f34, go_sem], rfl, (HK5.out.no hcz).no hch9, (HC5.out.tr (Ch.ofNo B T U hcz)).tr (Ch.ofNo B T U hch9)⟩
end
end Go.Proofs.YtcngfaggignmpaaGreatDoor

/-
  The kernel: a tick goes by, where nobody sleeps.
-/
namespace Go.Proofs.YtcngfaggignmpaaGreatDoor
open Go.RowKit

namespace KM
/-- A tick goes by: i runs. -/
def tick (m : KM) (i : Nat) (t : TM) : KM :=
  let m1 := ({ m with now := (m.now + 1) % 4294967296 } : KM).setT i { t with ran := t.ran + 1 }
  if m.slice ≤ t.ran + 1 then m1.joins i { t with ran := t.ran + 1 } else m1
end KM

section
variable {B T U : Nat} {tb : Nat → Nat} {m : KM} {w : World} {i r : Nat} {t : TM}
theorem ran_cells (U i : Nat) (t : TM) (n : Int) : (tcells i t U).setIfInBounds 15 (.int .i64 n) = tcells i { t with ran := n } U := by
  simp [tcells]
theorem KS.onTick (h : KS B T U tb m w) (n : Int) : KS B T U tb { m with now := n } (w.setCell ⟨B + 69, 1, none⟩ (.int .u32 n)) ∧ Ch (Sk B T U w) w (w.setCell ⟨B + 69, 1, none⟩ (.int .u32 n)) := by
  obtain ⟨cs, r, k⟩ := h.kern
  have hs := k.size
  have e : ∀ (j : Nat), j ≠ 1 → (cs.setIfInBounds 1 (.int .u32 n))[j]? = cs[j]? := fun j hj => by rw [set_get (by omega), if_neg (fun e => hj e.symm)]
  refine h.kern' (Ch.set1 w (B + 69) 1 _) (tk := m.tk) (fun _ _ e => e) (r.set 1 (.int .u32 n)) ⟨by simp [hs], ?_, ?_, ?_, ?_, fun i hi => ?_, fun i hi => ?_, ?_, ?_, ?_⟩
  · rw [e 0 (by omega)]; exact k.slice
  · rw [set_get (by omega), if_pos rfl]
  · rw [e 2 (by omega)]; exact k.th
  · rw [e 3 (by omega)]; exact k.oh
  · rw [e _ (by omega)]; exact k.task i hi
  · rw [e _ (by omega)]; exact k.thing i hi
  · rw [e _ (by omega)]; exact k.ready
  · rw [e _ (by omega)]; exact k.sleeps
  · rw [e _ (by omega)]; exact k.alarms

set_option maxRecDepth 100000 in
set_option maxHeartbeats 4000000 in
theorem tick_any {l' : List Int} (h : KS B T U tb m w) (hc : Cons m) (hi : i < 16) (ht : m.tk i = some t) (hr : r < 32) (hl : m.ls r = (i : Int) :: l') (hn : ∀ j, r < j → j < 32 → m.ls j = []) (hrk : t.rank < 32)
    (hran : 0 ≤ t.ran ∧ t.ran < 1000000) (hs : m.sl = []) (hleft : ∀ j u, j < 16 → (m.tick i t).tk j = some u → u.left ≤ 0) (hcalm : Calm (m.tick i t)) :
    Calls Tryz.prog 39 #[.pointer (some ⟨B + 69, 0, none⟩)] w fun e w' => e = .returned (.int .i64 0) ∧ KS B T U tb (m.tick i t) w' ∧ Ch (Sk B T U w) w w' := by
  have H := Lib.hid h
  have HCO := Lib.hid hc
  have HT := Lib.hid ht
  have HL := Lib.hid hl
  have HN := Lib.hid hn
  have HS := Lib.hid hs
  have HLEFT := Lib.hid hleft
  have HCALM := Lib.hid hcalm
  have c1 := h.cNow
  have f1 := h.kFree 1
  have hi1 : 0 ≤ (i : Int) ∧ (i : Int) < 16 := by omega
  have hw64 : wrap64 (t.ran + 1) = t.ran + 1 := by unfold wrap64; omega
  have hk1 := h.onTick ((m.now + 1) % 4294967296)
  have d1 := hk1.1.cReady
  have HK1 := Lib.hid hk1
  clear h hc ht hl hn hs hleft hcalm hran hk1
  go_enter Tryz.func39, Tryz.ntmps39
  go_wp2_with fail
  refine (kThere_any H.out).mono ?_; rintro e w1 ⟨rfl, rfl⟩
  go_wp2_with fail
  refine (rqFirst_any _ B r m.ls m.rk i l' HK1.out.1.ready hr HL.out HN.out).mono ?_; rintro e w2 ⟨rfl, hch2⟩
  have HK2 := Lib.hid (HK1.out.1.no hch2)
  have HC2 := Lib.hid (HK1.out.2.tr (Ch.ofNo B T U hch2))
  have k1 := HK2.out.cTask hi HT.out
  have k2 : w2.cell? ⟨tb i, 15, none⟩ = some (.int .i64 t.ran) := HK2.out.tCell hi HT.out (j := 15) rfl
  have k3 := HK2.out.tFree hi HT.out 15
  have hrow := (HK2.out.task i t hi HT.out).set 15 (.int .i64 (t.ran + 1))
  rw [ran_cells] at hrow
  have hk3 := HK2.out.task' (Ch.set1 w2 (tb i) 15 (.int .i64 (t.ran + 1))) hi HT.out (t' := { t with ran := t.ran + 1 }) hrow
  have e1 := hk3.1.cTask hi (KM.setT_tk _ _ _)
  have e2 : (w2.setCell ⟨tb i, 15, none⟩ (.int .i64 (t.ran + 1))).cell? ⟨tb i, 15, none⟩ = some (.int .i64 (t.ran + 1)) := hk3.1.tCell hi (KM.setT_tk _ _ _) (j := 15) rfl
  have e3 : (w2.setCell ⟨tb i, 15, none⟩ (.int .i64 (t.ran + 1))).cell? ⟨B + 69, 0, none⟩ = some (.int .i64 m.slice) := hk3.1.cSlice
  have HK3 := Lib.hid hk3
  clear hch2 hrow hk3 c1 f1 d1
  go_wp2_with fail
  have HC3 : Hid (Ch (Sk B T U w) w (w2.setCell ⟨tb i, 15, none⟩ (.int .i64 (t.ran + 1)))) := Lib.hid (HC2.out.tr HK3.out.2)
  clear k1 k2 k3
  by_cases hsl : m.slice ≤ t.ran + 1
  · have hd : decide (m.slice ≤ t.ran + 1) = true := by rw [decide_eq_true_iff]; exact hsl
    have HTICK : Hid (m.tick i t = ((({ m with now := (m.now + 1) % 4294967296 } : KM).setT i { t with ran := t.ran + 1 }).joins i { t with ran := t.ran + 1 })) := Lib.hid (by unfold KM.tick; simp only []; rw [if_pos hsl])
    clear hsl
    go_quiet (fail)
    clear e1 e2 e3
    go_wp2_with fail
    refine (joins_any (t := { t with ran := t.ran + 1 }) (HK3.out.1.drewN nq) HCO.out hi (KM.setT_tk _ _ _) hrk).mono ?_; rintro e w4 ⟨rfl, hk4, hch4⟩
    have HK4 : Hid (KS B T U tb (m.tick i t) w4) := Lib.hid (by rw [HTICK.out]; exact hk4)
    have HC4 := Lib.hid ((HC3.out.tr (Ch.ofNo B T U (Ch.drewN _ nq))).tr hch4)
    clear hk4 hch4
    go_wp2_with fail
    refine (anew_any HK4.out HCALM.out).mono ?_; rintro e w5 ⟨rfl, hch5⟩
    have HK5 := Lib.hid (HK4.out.no hch5)
    have HC5 := Lib.hid (HC4.out.tr (Ch.ofNo B T U hch5))
    have s1 := HK5.out.cSleeps
    have HSL : Hid (DL (B + 65) (U + 3) [] w5) := Lib.hid (by have := HK5.out.sleeps; rw [show (m.tick i t).sl = [] from by unfold KM.tick; simp only []; split <;> (first | exact HS.out | (show ((KM.rm _ i)).sl = []; rw [KM.rm_sl]; exact HS.out))] at this; exact this)
    have s2 := HK5.out.cAlarms
    clear hch5
    go_wp2_with fail
    refine (dlTick_none _ (B + 65) (U + 3) HSL.out).mono ?_; rintro e w6 ⟨rfl, rfl⟩
    go_wp2_with (first | (refine wpList_load_mid rfl 90 _ rfl (B + 69) 4 rfl (tarr tb (m.tick i t)) _ HK5.out.tRange Tryz.underlying90 rfl (by rw [info90]; simp [tarr]) ?_))
    go_loopw [7, 73] (fun _ iv wx => ∃ k : Nat, k ≤ 16 ∧ iv = .int .i64 (k : Int) ∧ wx = w5) (fun _ iv _ => 16 - (intOf iv).toNat)
    case atStart => exact ⟨0, by omega, rfl, rfl⟩
    case round =>
      obtain ⟨k, hk, rfl, hwx⟩ := hrel
      subst hwx
      by_cases hlt : k < 16
      · have hidx := tarr_index tb (m.tick i t) k hlt
        have hk1 : 0 ≤ (k : Int) ∧ (k : Int) < 16 := by omega
        cases htk : (m.tick i t).tk k with
        | none =>
          have hp : tptr tb (m.tick i t) k = none := by unfold tptr; rw [htk]; rfl
          rw [hp] at hidx
          clear hp htk
          go_wp2_with fail
          go_roundw
          case rel => exact ⟨k + 1, by omega, by go_num, by first | rfl | trivial⟩
          case measure => simp [intOf]; omega
        | some u =>
          have hp : tptr tb (m.tick i t) k = some ⟨tb k, 0, none⟩ := by unfold tptr; rw [htk]; rfl
          rw [hp] at hidx
          have q1 : wr.cell? ⟨tb k, 10, none⟩ = some (.int .i64 u.left) := HK5.out.tCell hlt htk (j := 10) rfl
          have q2 : decide (0 < u.left) = false := by rw [decide_eq_false_iff_not]; have := HLEFT.out k u hlt htk; omega
          clear hp htk
          go_wp2_with fail
          go_roundw
          case rel => exact ⟨k + 1, by omega, by go_num, by first | rfl | trivial⟩
          case measure => simp [intOf]; omega
      · obtain rfl : k = 16 := by omega
        go_wp2_with fail
        go_loopw [9, 10, 98] (fun _ _ iv wx => iv = .int .i64 0 ∧ wx = wr) (fun _ _ _ _ => 0)
        case atStart => exact ⟨rfl, rfl⟩
        case round =>
          obtain ⟨rfl, hwx⟩ := hrel
          subst hwx
          go_wp2_with fail
          refine (alTick_none _ (B + 66) HK5.out.alarms).mono ?_; rintro e w7 ⟨rfl, rfl⟩
          go_wp2_with fail
          go_loopw [12, 13, 127] (fun _ _ iv wx => iv = .int .i64 0 ∧ wx = wr) (fun _ _ _ _ => 0)
          case atStart => exact ⟨rfl, rfl⟩
          case round =>
            obtain ⟨rfl, hwx⟩ := hrel
            subst hwx
            go_wp2_with fail
            go_ret
            exact ⟨rfl, HK5.out, HC5.out⟩
  · have hd : decide (m.slice ≤ t.ran + 1) = false := by rw [decide_eq_false_iff_not]; exact hsl
    have HTICK : Hid (m.tick i t = ({ m with now := (m.now + 1) % 4294967296 } : KM).setT i { t with ran := t.ran + 1 }) := Lib.hid (by unfold KM.tick; simp only []; rw [if_neg hsl])
    clear hsl
    go_quiet (fail)
    clear e1 e2 e3
    go_wp2_with fail
    have HK4 : Hid (KS B T U tb (m.tick i t) ((w2.setCell ⟨tb i, 15, none⟩ (.int .i64 (t.ran + 1))).drewN nq)) := Lib.hid (by rw [HTICK.out]; exact HK3.out.1.drewN nq)
    have HC4 := Lib.hid (HC3.out.tr (Ch.ofNo B T U (Ch.drewN _ nq)))
    refine (anew_any HK4.out HCALM.out).mono ?_; rintro e w5 ⟨rfl, hch5⟩
    have HK5 := Lib.hid (HK4.out.no hch5)
    have HC5 := Lib.hid (HC4.out.tr (Ch.ofNo B T U hch5))
    have s1 := HK5.out.cSleeps
    have HSL : Hid (DL (B + 65) (U + 3) [] w5) := Lib.hid (by have := HK5.out.sleeps; rw [show (m.tick i t).sl = [] from by unfold KM.tick; simp only []; split <;> (first | exact HS.out | (show ((KM.rm _ i)).sl = []; rw [KM.rm_sl]; exact HS.out))] at this; exact this)
    have s2 := HK5.out.cAlarms
    clear hch5
    go_wp2_with fail
    refine (dlTick_none _ (B + 65) (U + 3) HSL.out).mono ?_; rintro e w6 ⟨rfl, rfl⟩
    go_wp2_with (first | (refine wpList_load_mid rfl 90 _ rfl (B + 69) 4 rfl (tarr tb (m.tick i t)) _ HK5.out.tRange Tryz.underlying90 rfl (by rw [info90]; simp [tarr]) ?_))
    go_loopw [7, 73] (fun _ iv wx => ∃ k : Nat, k ≤ 16 ∧ iv = .int .i64 (k : Int) ∧ wx = w5) (fun _ iv _ => 16 - (intOf iv).toNat)
    case atStart => exact ⟨0, by omega, rfl, rfl⟩
    case round =>
      obtain ⟨k, hk, rfl, hwx⟩ := hrel
      subst hwx
      by_cases hlt : k < 16
      · have hidx := tarr_index tb (m.tick i t) k hlt
        have hk1 : 0 ≤ (k : Int) ∧ (k : Int) < 16 := by omega
        cases htk : (m.tick i t).tk k with
        | none =>
          have hp : tptr tb (m.tick i t) k = none := by unfold tptr; rw [htk]; rfl
          rw [hp] at hidx
          clear hp htk
          go_wp2_with fail
          go_roundw
          case rel => exact ⟨k + 1, by omega, by go_num, by first | rfl | trivial⟩
          case measure => simp [intOf]; omega
        | some u =>
          have hp : tptr tb (m.tick i t) k = some ⟨tb k, 0, none⟩ := by unfold tptr; rw [htk]; rfl
          rw [hp] at hidx
          have q1 : wr.cell? ⟨tb k, 10, none⟩ = some (.int .i64 u.left) := HK5.out.tCell hlt htk (j := 10) rfl
          have q2 : decide (0 < u.left) = false := by rw [decide_eq_false_iff_not]; have := HLEFT.out k u hlt htk; omega
          clear hp htk
          go_wp2_with fail
          go_roundw
          case rel => exact ⟨k + 1, by omega, by go_num, by first | rfl | trivial⟩
          case measure => simp [intOf]; omega
      · obtain rfl : k = 16 := by omega
        go_wp2_with fail
        go_loopw [9, 10, 98] (fun _ _ iv wx => iv = .int .i64 0 ∧ wx = wr) (fun _ _ _ _ => 0)
        case atStart => exact ⟨rfl, rfl⟩
        case round =>
          obtain ⟨rfl, hwx⟩ := hrel
          subst hwx
          go_wp2_with fail
          refine (alTick_none _ (B + 66) HK5.out.alarms).mono ?_; rintro e w7 ⟨rfl, rfl⟩
          go_wp2_with fail
          go_loopw [12, 13, 127] (fun _ _ iv wx => iv = .int .i64 0 ∧ wx = wr) (fun _ _ _ _ => 0)
          case atStart => exact ⟨rfl, rfl⟩
          case round =>
            obtain ⟨rfl, hwx⟩ := hrel
            subst hwx
            go_wp2_with fail
            go_ret
            exact ⟨rfl, HK5.out, HC5.out⟩
end
end Go.Proofs.YtcngfaggignmpaaGreatDoor
