/-
  The top, part 11: Served.
-/
import Derived.Test.YtcngfaggignmpaaGreatDoorS10

/-
  The kernel: serves.
-/
namespace Go.Proofs.YtcngfaggignmpaaGreatDoor
open Go.RowKit

namespace KM
/-- Who waits for the thing is served, if it may be. -/
def serves (m : KM) : KM := match m.wl with
  | none => m
  | some (j, _) => match m.tk j with
    | none => m
    | some t => match tryR m.most m.row t.what t.v with
      | some (x, l) => ({ m with row := l }).answers j t 0 x
      | none => m
theorem answers_wl {m : KM} {j : Nat} {t : TM} {e v : Int} (hw : t.wait = true) (ho : t.on = true) : (m.answers j t e v).wl = none := by
  unfold answers
  rw [if_pos hw]
  unfold joins setT put
  simp only [rm_wl]
  unfold stops setT
  simp only [rm_wl]
  unfold noWait told
  simp [ho]
theorem serves_none {m : KM} (h : m.wl = none) : m.serves = m := by unfold serves; rw [h]
theorem serves_ok {m : KM} {j r : Nat} {t : TM} {x : Int} {l : List Int} (h : m.wl = some (j, r)) (ht : m.tk j = some t) (hr : tryR m.most m.row t.what t.v = some (x, l)) : m.serves = ({ m with row := l }).answers j t 0 x := by
  unfold serves; rw [h]; dsimp only; rw [ht]; dsimp only; rw [hr]
theorem serves_no {m : KM} {j r : Nat} {t : TM} (h : m.wl = some (j, r)) (ht : m.tk j = some t) (hr : tryR m.most m.row t.what t.v = none) : m.serves = m := by
  unfold serves; rw [h]; dsimp only; rw [ht]; dsimp only; rw [hr]
end KM

section
variable {B T U : Nat} {tb : Nat → Nat} {m : KM} {w : World} {j r : Nat} {t : TM}
set_option maxRecDepth 100000 in
set_option maxHeartbeats 1000000 in
theorem serves_nobody (h : KS B T U tb m w) (hw : m.wl = none) :
    Calls Tryz.prog 73 #[.pointer (some ⟨B + 69, 0, none⟩), .pointer (some ⟨U + 2, 0, none⟩)] w fun e w' => e = .returned (.tuple #[]) ∧ Ch No w w' := by
  have HW : Hid (WQ U (U + 3) none w) := Lib.hid (by have := h.wait; rw [hw] at this; exact this)
  have c1 := h.thing.cell (j := 5) rfl
  clear h hw
  go_enter Tryz.func73, Tryz.ntmps73
  go_wp2_with fail
  refine (wqList_none _ U (U + 3) HW.out).mono ?_; rintro e w1 ⟨rfl, hch⟩
  go_wp2_with fail
  go_loopw [4, 5, 6, 7] (fun v _ _ _ wr => v = .slice none 0 0 ∧ wr = w1) (fun _ _ _ _ _ => 0)
  case atStart => exact ⟨rfl, rfl⟩
  case round =>
    obtain ⟨rfl, rfl⟩ := hrel
    go_wp2_with fail
    go_end0
    exact ⟨rfl, hch⟩

set_option maxRecDepth 100000 in
set_option maxHeartbeats 4000000 in
theorem serves_one (h : KS B T U tb m w) (hc : Cons m) (hj : j < 16) (hw : m.wl = some (j, r)) (ht : m.tk j = some t) (hr : t.rank < 32) (hon : t.on = true) (hwt : t.wait = true) (hwh : t.what = 7 ∨ t.what = 9) (ha : 0 ≤ t.ans ∧ t.ans < 1000000000) (hs : Awake m j) :
    Calls Tryz.prog 73 #[.pointer (some ⟨B + 69, 0, none⟩), .pointer (some ⟨U + 2, 0, none⟩)] w fun e w' => e = .returned (.tuple #[]) ∧ KS B T U tb m.serves w' ∧ Ch (Sk B T U w) w w' := by
  have H := Lib.hid h
  have HC := Lib.hid hc
  have HWL := Lib.hid hw
  have HT := Lib.hid ht
  have HON := Lib.hid hon
  have HWT := Lib.hid hwt
  have HWH := Lib.hid hwh
  have HA := Lib.hid ha
  have HS := Lib.hid hs
  have HW : Hid (WQ U (U + 3) (some (j, r)) w) := Lib.hid (by have := h.wait; rw [hw] at this; exact this)
  have c1 := h.thing.cell (j := 5) rfl
  have hj1 : 0 ≤ (j : Int) ∧ (j : Int) < 16 := by omega
  have hwho : (((256 : Int) + j) == 0) = false := by rw [beq_eq_false_iff_ne]; omega
  have HWHO := Lib.hid hwho
  clear h hw hc ht hon hwt hwh ha hs hwho
  go_enter Tryz.func73, Tryz.ntmps73
  go_wp2_with fail
  refine (wqList_some _ U (U + 3) j r HW.out).mono ?_; rintro e w1 ⟨⟨g, rfl, hge, hcs⟩, hch⟩
  have HCS := Lib.hid hcs
  have HK1 := Lib.hid (H.out.no hch)
  have HCH := Lib.hid hch
  clear hcs hch c1
  go_wp2_with fail
  go_loopw [4, 5, 6, 7] (fun v _ _ _ wr => (v = .slice (some ⟨g, 0, none⟩) 1 1 ∧ wr = w1) ∨ ((∃ a c, v = .slice a 0 c) ∧ KS B T U tb m.serves wr ∧ Ch (Sk B T U w) w wr)) (fun v _ _ _ _ => match v with | .slice _ n _ => n | _ => 0)
  case atStart => exact .inl ⟨rfl, rfl⟩
  case round =>
    rcases hrel with ⟨rfl, rfl⟩ | ⟨⟨a, c, rfl⟩, hk, hch⟩
    · obtain ⟨cs, hrow, h0⟩ := HCS.out
      have c0 := hrow.cell h0
      have d1 : wr.cell? ⟨U + 2, 4, none⟩ = some (.pointer (some ⟨T, 0, none⟩)) := HK1.out.thing.cell (j := 4) rfl
      have d2 := HK1.out.cTask hj HT.out
      have d3 : wr.cell? ⟨tb j, 0, none⟩ = some (.int .u32 (256 + j)) := HK1.out.tCell hj HT.out (j := 0) rfl
      have d4 : wr.cell? ⟨tb j, 5, none⟩ = some (.int .u8 t.what) := HK1.out.tCell hj HT.out (j := 5) rfl
      have d5 : wr.cell? ⟨tb j, 6, none⟩ = some (.int .u32 t.hh) := HK1.out.tCell hj HT.out (j := 6) rfl
      have d6 : wr.cell? ⟨tb j, 7, none⟩ = some (.int .u32 t.v) := HK1.out.tCell hj HT.out (j := 7) rfl
      have d7 : wr.cell? ⟨tb j, 8, none⟩ = some (.int .u32 t.mm) := HK1.out.tCell hj HT.out (j := 8) rfl
      have d8 : wr.cell? ⟨tb j, 9, none⟩ = some (.int .i64 t.wt) := HK1.out.tCell hj HT.out (j := 9) rfl
      clear hrow h0
      cases htr : tryR m.most m.row t.what t.v with
      | some p =>
        obtain ⟨x, l⟩ := p
        have HTR := Lib.hid htr
        clear htr
        go_wp2_with fail
        go_region_held3 (fun wx => wx.cell? ⟨U + 2, 4, none⟩ = some (.pointer (some ⟨T, 0, none⟩)) ∧ wx.cell? ⟨B + 69, 4 + j, none⟩ = some (.pointer (some ⟨tb j, 0, none⟩)) ∧ wx.cell? ⟨tb j, 0, none⟩ = some (.int .u32 (256 + j)) ∧ wx.cell? ⟨tb j, 5, none⟩ = some (.int .u8 t.what) ∧ wx.cell? ⟨tb j, 6, none⟩ = some (.int .u32 t.hh) ∧ wx.cell? ⟨tb j, 7, none⟩ = some (.int .u32 t.v) ∧ wx.cell? ⟨tb j, 8, none⟩ = some (.int .u32 t.mm) ∧ wx.cell? ⟨tb j, 9, none⟩ = some (.int .i64 t.wt)) (first | exact ⟨by assumption, by assumption, by assumption, by assumption, by assumption, by assumption, by assumption, by assumption⟩) (first
          | (go_at_call 136; refine (try_ok (hh := t.hh) (mm := t.mm) (wt := t.wt) (HK1.out.drewN 1) HWHO.out HWH.out HTR.out).mono ?_; rintro e w2 ⟨rfl, hk2, hch2⟩
             have e1 : w2.cell? ⟨U + 2, 4, none⟩ = some (.pointer (some ⟨T, 0, none⟩)) := hk2.thing.cell (j := 4) rfl
             have e2 := hk2.cTask hj HT.out
             have e3 : w2.cell? ⟨tb j, 0, none⟩ = some (.int .u32 (256 + j)) := hk2.tCell hj HT.out (j := 0) rfl
             have e4 : w2.cell? ⟨tb j, 5, none⟩ = some (.int .u8 t.what) := hk2.tCell hj HT.out (j := 5) rfl
             have e5 : w2.cell? ⟨tb j, 6, none⟩ = some (.int .u32 t.hh) := hk2.tCell hj HT.out (j := 6) rfl
             have e6 : w2.cell? ⟨tb j, 7, none⟩ = some (.int .u32 t.v) := hk2.tCell hj HT.out (j := 7) rfl
             have e7 : w2.cell? ⟨tb j, 8, none⟩ = some (.int .u32 t.mm) := hk2.tCell hj HT.out (j := 8) rfl
             have e8 : w2.cell? ⟨tb j, 9, none⟩ = some (.int .i64 t.wt) := hk2.tCell hj HT.out (j := 9) rfl
             have HK2 := Lib.hid hk2
             have HCH2 : Hid (Ch (Sk B T U w) w w2) := Lib.hid (((Ch.ofNo B T U HCH.out).tr (Ch.ofNo B T U (Ch.drewN wr 1))).tr hch2)
             clear hk2 hch2))
        all_goals
          clear d1 d2 d3 d4 d5 d6 d7 d8 e1 e2 e3 e4 e5 e6 e7 e8
          go_wp2_with fail
          refine (answers_any (m := { m with row := l }) 0 x HK2.out HC.out hj HT.out hr (fun _ => ⟨r, HWL.out⟩) HS.out HA.out).mono ?_; rintro e w3 ⟨rfl, hk3, hch3⟩
          have hwl : (({ m with row := l } : KM).answers j t 0 x).wl = none := KM.answers_wl HWT.out HON.out
          have HW3 : Hid (WQ U (U + 3) none w3) := Lib.hid (by have := hk3.wait; rw [hwl] at this; exact this)
          have g1 := hk3.thing.cell (j := 5) rfl
          have HK3 := Lib.hid hk3
          have HCH3 := Lib.hid (HCH2.out.tr hch3)
          clear hk3 hch3 hwl
          go_wp2_with fail
          refine (wqList_none _ U (U + 3) HW3.out).mono ?_; rintro e w4 ⟨rfl, hch4⟩
          have HK4 : Hid (KS B T U tb m.serves w4) := Lib.hid (by rw [KM.serves_ok HWL.out HT.out HTR.out]; exact HK3.out.no hch4)
          have HCH4 := Lib.hid (HCH3.out.tr (Ch.ofNo B T U hch4))
          clear hch4 g1
          go_wp2_with fail
          go_roundw
          case rel => exact .inr ⟨⟨_, _, rfl⟩, HK4.out, HCH4.out⟩
          case measure => simp
      | none =>
        have HTR := Lib.hid htr
        clear htr
        go_wp2_with fail
        go_region_held3 (fun wx => wx.cell? ⟨U + 2, 4, none⟩ = some (.pointer (some ⟨T, 0, none⟩)) ∧ wx.cell? ⟨B + 69, 4 + j, none⟩ = some (.pointer (some ⟨tb j, 0, none⟩)) ∧ wx.cell? ⟨tb j, 0, none⟩ = some (.int .u32 (256 + j)) ∧ wx.cell? ⟨tb j, 5, none⟩ = some (.int .u8 t.what) ∧ wx.cell? ⟨tb j, 6, none⟩ = some (.int .u32 t.hh) ∧ wx.cell? ⟨tb j, 7, none⟩ = some (.int .u32 t.v) ∧ wx.cell? ⟨tb j, 8, none⟩ = some (.int .u32 t.mm) ∧ wx.cell? ⟨tb j, 9, none⟩ = some (.int .i64 t.wt)) (first | exact ⟨by assumption, by assumption, by assumption, by assumption, by assumption, by assumption, by assumption, by assumption⟩) (first
          | (go_at_call 136; refine (try_no (hh := t.hh) (mm := t.mm) (wt := t.wt) (HK1.out.drewN 1) HWHO.out HWH.out HTR.out).mono ?_; rintro e w2 ⟨rfl, hk2, hch2⟩
             have e1 : w2.cell? ⟨U + 2, 4, none⟩ = some (.pointer (some ⟨T, 0, none⟩)) := hk2.thing.cell (j := 4) rfl
             have e2 := hk2.cTask hj HT.out
             have e3 : w2.cell? ⟨tb j, 0, none⟩ = some (.int .u32 (256 + j)) := hk2.tCell hj HT.out (j := 0) rfl
             have e4 : w2.cell? ⟨tb j, 5, none⟩ = some (.int .u8 t.what) := hk2.tCell hj HT.out (j := 5) rfl
             have e5 : w2.cell? ⟨tb j, 6, none⟩ = some (.int .u32 t.hh) := hk2.tCell hj HT.out (j := 6) rfl
             have e6 : w2.cell? ⟨tb j, 7, none⟩ = some (.int .u32 t.v) := hk2.tCell hj HT.out (j := 7) rfl
             have e7 : w2.cell? ⟨tb j, 8, none⟩ = some (.int .u32 t.mm) := hk2.tCell hj HT.out (j := 8) rfl
             have e8 : w2.cell? ⟨tb j, 9, none⟩ = some (.int .i64 t.wt) := hk2.tCell hj HT.out (j := 9) rfl
             have HK2 := Lib.hid hk2
             have HCH2 : Hid (Ch (Sk B T U w) w w2) := Lib.hid (((Ch.ofNo B T U HCH.out).tr (Ch.ofNo B T U (Ch.drewN wr 1))).tr hch2)
             clear hk2 hch2))
        all_goals
          clear d1 d2 d3 d4 d5 d6 d7 d8 e1 e2 e3 e4 e5 e6 e7 e8
          go_wp2_with fail
          have HK3 : Hid (KS B T U tb m.serves w2) := Lib.hid (by rw [KM.serves_no HWL.out HT.out HTR.out]; exact HK2.out)
          go_roundw
          case rel => exact .inr ⟨⟨_, _, rfl⟩, HK3.out, HCH2.out⟩
          case measure => simp
    · have HK := Lib.hid hk
      have HCX := Lib.hid hch
      clear hk hch
      go_wp2_with fail
      go_end0
      exact ⟨rfl, HK.out, HCX.out⟩
end
end Go.Proofs.YtcngfaggignmpaaGreatDoor
