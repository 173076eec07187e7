/-
  The top, part 14: Serves, Served.
-/
import Derived.Test.YtcngfaggignmpaaGreatDoorG13

/-
  The kernel: those that wait for a thing are served; who runs; the place of a thing.
-/
namespace Go.Proofs.YtcngfaggignmpaaGreatDoor
open Go.RowKit

section
variable {B T U : Nat} {tb : Nat → Nat} {m : KM} {w : World} {i : Nat} {t : TM}
theorem try_ok {who what hh v mm wt x : Int} {l' : List Int} (h : KS B T U tb m w) (hwho : (who == 0) = false) (hw : what = 7 ∨ what = 9) (hr : tryR m.most m.row what v = some (x, l')) :
    Calls Tryz.prog 136 #[.pointer (some ⟨T, 0, none⟩), .int .u32 who, askV what hh v mm wt] w fun e w' => e = .returned (.tuple #[.int .u32 x, .int .i64 0]) ∧ KS B T U tb { m with row := l' } w' ∧ Ch (Sk B T U w) w w' := by
  have hfin : ∀ (e : Ending) (w' : World), (e = .returned (.tuple #[.int .u32 x, .int .i64 0]) ∧ TH T m.most l' w' ∧ Ch (fun k => k = T + 1) w w') → e = .returned (.tuple #[.int .u32 x, .int .i64 0]) ∧ KS B T U tb { m with row := l' } w' ∧ Ch (Sk B T U w) w w' := fun e w' ⟨a, b, c⟩ => by
    have := h.obj' c b
    exact ⟨a, this.1, this.2⟩
  rcases hw with rfl | rfl
  · unfold tryR at hr
    rw [if_pos rfl] at hr
    split at hr
    · rename_i hlt
      cases hr
      exact (try_by w T m.most 0 m.row _ who 7 hh v mm wt 0 0 (by omega) rfl (fun j hj => by omega) rfl hwho h.obj (fun W hc => rowTry_put W T m.most m.row who hh v mm wt hlt (h.obj.no hc))).mono hfin
    · cases hr
  · unfold tryR at hr
    rw [if_neg (by omega)] at hr
    have ho := h.obj
    cases hrow : m.row with
    | nil => rw [hrow] at hr; cases hr
    | cons y l =>
      rw [hrow] at hr ho
      cases hr
      refine (try_by w T m.most 2 (x :: l') l' who 9 hh v mm wt x 0 (by omega) rfl (fun j hj => ?_) rfl hwho ho (fun W hc => rowTry_get W T m.most x l' who hh v mm wt (ho.no hc))).mono hfin
      match j, hj with
      | 0, _ => rfl
      | 1, _ => rfl
theorem try_no {who what hh v mm wt : Int} (h : KS B T U tb m w) (hwho : (who == 0) = false) (hw : what = 7 ∨ what = 9) (hr : tryR m.most m.row what v = none) :
    Calls Tryz.prog 136 #[.pointer (some ⟨T, 0, none⟩), .int .u32 who, askV what hh v mm wt] w fun e w' => e = .returned (.tuple #[.int .u32 0, .int .i64 7]) ∧ KS B T U tb m w' ∧ Ch (Sk B T U w) w w' := by
  have hfin : ∀ (e : Ending) (w' : World), (e = .returned (.tuple #[.int .u32 0, .int .i64 7]) ∧ TH T m.most m.row w' ∧ Ch (fun k => k = T + 1) w w') → e = .returned (.tuple #[.int .u32 0, .int .i64 7]) ∧ KS B T U tb m w' ∧ Ch (Sk B T U w) w w' := fun e w' ⟨a, b, c⟩ => by
    have := h.obj' c b
    exact ⟨a, this.1, this.2⟩
  rcases hw with rfl | rfl
  · unfold tryR at hr
    rw [if_pos rfl] at hr
    split at hr
    · cases hr
    · rename_i hlt
      have hroom : m.row.length = m.most := by
        obtain ⟨f, ty, cs, hq⟩ := h.obj.queue
        have := hq.room
        omega
      exact (try_by w T m.most 0 m.row _ who 7 hh v mm wt 0 7 (by omega) rfl (fun j hj => by omega) rfl hwho h.obj (fun W hc => rowTry_full W T m.most m.row who hh v mm wt hroom (h.obj.no hc))).mono hfin
  · unfold tryR at hr
    rw [if_neg (by omega)] at hr
    have ho := h.obj
    cases hrow : m.row with
    | cons y l => rw [hrow] at hr; cases hr
    | nil =>
      rw [hrow] at ho
      refine (try_by w T m.most 2 [] [] who 9 hh v mm wt 0 7 (by omega) rfl (fun j hj => ?_) rfl hwho ho (fun W hc => rowTry_none W T m.most who hh v mm wt (ho.no hc))).mono (fun e w' hx => hfin e w' (by rw [hrow]; exact hx))
      match j, hj with
      | 0, _ => rfl
      | 1, _ => rfl

set_option maxHeartbeats 1000000 in
theorem spot_any (h : KS B T U tb m w) : Calls Tryz.prog 49 #[.pointer (some ⟨B + 69, 0, none⟩), .int .u32 256] w fun e w' => e = .returned (.tuple #[.int .i64 0, .int .i64 0]) ∧ Ch No w w' := by
  have H := Lib.hid h
  have c1 := h.cOh
  clear h
  go_enter Tryz.func49, Tryz.ntmps49
  go_wp2_with fail
  refine (kThere_any H.out).mono ?_; rintro e w1 ⟨rfl, rfl⟩
  go_wp2_with fail
  refine (handPlace_any _ (B + 71) 32 oage oused 0 1 (by omega) (by omega) (by omega) rfl rfl H.out.oh).mono ?_; rintro e w1 ⟨rfl, hch⟩
  go_wp2_with fail
  go_ret2
  exact ⟨rfl, hch⟩

set_option maxHeartbeats 1000000 in
theorem place_any (h : KS B T U tb m w) (hi : i < 16) (ha : m.age i = 1) (hu : m.used i = true) : Calls Tryz.prog 65 #[.pointer (some ⟨B + 69, 0, none⟩), .int .u32 (256 + i)] w fun e w' => e = .returned (.tuple #[.int .i64 i, .int .i64 0]) ∧ Ch No w w' := by
  have H := Lib.hid h
  have c1 := h.cTh
  have HA := Lib.hid ha
  have HU := Lib.hid hu
  clear h ha hu
  go_enter Tryz.func65, Tryz.ntmps65
  go_wp2_with fail
  refine (kThere_any H.out).mono ?_; rintro e w1 ⟨rfl, rfl⟩
  go_wp2_with fail
  refine (handPlace_any _ (B + 70) 16 m.age m.used i 1 (by omega) (by omega) (by omega) HA.out HU.out H.out.th).mono ?_; rintro e w1 ⟨rfl, hch⟩
  go_wp2_with fail
  go_ret2
  exact ⟨rfl, hch⟩

set_option maxRecDepth 100000 in
set_option maxHeartbeats 1000000 in
theorem runs_any {r : Nat} {l : List Int} (h : KS B T U tb m w) (hi : i < 16) (ht : m.tk i = some t) (hr : r < 32) (hl : m.ls r = (i : Int) :: l) (hn : ∀ j, r < j → j < 32 → m.ls j = []) :
    Calls Tryz.prog 31 #[.pointer (some ⟨B + 69, 0, none⟩)] w fun e w' => e = .returned (.int .u32 (256 + i)) ∧ Ch No w w' := by
  have H := Lib.hid h
  have c1 := h.cReady
  have HL := Lib.hid hl
  have HN := Lib.hid hn
  have HT := Lib.hid ht
  have hi1 : 0 ≤ (i : Int) ∧ (i : Int) < 16 := by omega
  clear h hl hn ht
  go_enter Tryz.func31, Tryz.ntmps31
  go_wp2_with fail
  refine (kThere_any H.out).mono ?_; rintro e w1 ⟨rfl, rfl⟩
  go_wp2_with fail
  refine (rqFirst_any _ B r m.ls m.rk i l H.out.ready hr HL.out HN.out).mono ?_; rintro e w1 ⟨rfl, hch⟩
  have hk := H.out.no hch
  have d1 := hk.cTask hi HT.out
  have d2 : w1.cell? ⟨tb i, 0, none⟩ = some (.int .u32 (256 + i)) := hk.tCell hi HT.out (j := 0) rfl
  clear hk c1
  go_wp2_with fail
  go_ret
  exact ⟨rfl, hch⟩
end
end Go.Proofs.YtcngfaggignmpaaGreatDoor

/-
  The kernel: serves.
-/
namespace Go.Proofs.YtcngfaggignmpaaGreatDoor
open Go.RowKit

namespace KM
/-- Who waits for the thing is served, if it may be. -/
def serves (m : KM) : KM := match m.wl with
  | none => m
  | some (j, _) => match m.tk j with
    | none => m
    | some t => match tryR m.most m.row t.what t.v with
      | some (x, l) => ({ m with row := l }).answers j t 0 x
      | none => m
theorem answers_wl {m : KM} {j : Nat} {t : TM} {e v : Int} (hw : t.wait = true) (ho : t.on = true) : (m.answers j t e v).wl = none := by
  unfold answers
  rw [if_pos hw]
  unfold joins setT put
  simp only [rm_wl]
  unfold stops setT
  simp only [rm_wl]
  unfold noWait told
  simp [ho]
theorem serves_none {m : KM} (h : m.wl = none) : m.serves = m := by unfold serves; rw [h]
theorem serves_ok {m : KM} {j r : Nat} {t : TM} {x : Int} {l : List Int} (h : m.wl = some (j, r)) (ht : m.tk j = some t) (hr : tryR m.most m.row t.what t.v = some (x, l)) : m.serves = ({ m with row := l }).answers j t 0 x := by
  unfold serves; rw [h]; dsimp only; rw [ht]; dsimp only; rw [hr]
theorem serves_no {m : KM} {j r : Nat} {t : TM} (h : m.wl = some (j, r)) (ht : m.tk j = some t) (hr : tryR m.most m.row t.what t.v = none) : m.serves = m := by
  unfold serves; rw [h]; dsimp only; rw [ht]; dsimp only; rw [hr]
end KM

section
variable {B T U : Nat} {tb : Nat → Nat} {m : KM} {w : World} {j r : Nat} {t : TM}
set_option maxRecDepth 100000 in
set_option maxHeartbeats 1000000 in
theorem serves_nobody (h : KS B T U tb m w) (hw : m.wl = none) :
    Calls Tryz.prog 73 #[.pointer (some ⟨B + 69, 0, none⟩), .pointer (some ⟨U + 2, 0, none⟩)] w fun e w' => e = .returned (.tuple #[]) ∧ Ch No w w' := by
  have HW : Hid (WQ U (U + 3) none w) := Lib.hid (by have := h.wait; rw [hw] at this; exact this)
  have c1 := h.thing.cell (j := 5) rfl
  clear h hw
  go_enter Tryz.func73, Tryz.ntmps73
  go_wp2_with fail
  refine (wqList_none _ U (U + 3) HW.out).mono ?_; rintro e w1 ⟨rfl, hch⟩
  go_wp2_with fail
  go_loopw [4, 5, 6, 7] (fun v _ _ _ wr => v = .slice none 0 0 ∧ wr = w1) (fun _ _ _ _ _ => 0)
  case atStart => exact ⟨rfl, rfl⟩
  case round =>
    obtain ⟨rfl, rfl⟩ := hrel
    go_wp2_with fail
    go_end0
    exact ⟨rfl, hch⟩

set_option maxRecDepth 100000 in
set_option maxHeartbeats 4000000 in
theorem serves_one (h : KS B T U tb m w) (hc : Cons m) (hj : j < 16) (hw : m.wl = some (j, r)) (ht : m.tk j = some t) (hr : t.rank < 32) (hon : t.on = true) (hwt : t.wait = true) (hwh : t.what = 7 ∨ t.what = 9) (ha : 0 ≤ t.ans ∧ t.ans < 1000000000) (hs : m.sl = []) :
    Calls Tryz.prog 73 #[.pointer (some ⟨B + 69, 0, none⟩), .pointer (some ⟨U + 2, 0, none⟩)] w fun e w' => e = .returned (.tuple #[]) ∧ KS B T U tb m.serves w' ∧ Ch (Sk B T U w) w w' := by
  have H := Lib.hid h
  have HC := Lib.hid hc
  have HWL := Lib.hid hw
  have HT := Lib.hid ht
  have HON := Lib.hid hon
  have HWT := Lib.hid hwt
  have HWH := Lib.hid hwh
  have HA := Lib.hid ha
  have HS := Lib.hid hs
  have HW : Hid (WQ U (U + 3) (some (j, r)) w) := Lib.hid (by have := h.wait; rw [hw] at this; exact this)
  have c1 := h.thing.cell (j := 5) rfl
  have hj1 : 0 ≤ (j : Int) ∧ (j : Int) < 16 := by omega
  have hwho : (((256 : Int) + j) == 0) = false := by rw [beq_eq_false_iff_ne]; omega
  have HWHO := Lib.hid hwho
  clear h hw hc ht hon hwt hwh ha hs hwho
  go_enter Tryz.func73, Tryz.ntmps73
  go_wp2_with fail
  refine (wqList_some _ U (U + 3) j r HW.out).mono ?_; rintro e w1 ⟨⟨g, rfl, hge, hcs⟩, hch⟩
  have HCS := Lib.hid hcs
  have HK1 := Lib.hid (H.out.no hch)
  have HCH := Lib.hid hch
  clear hcs hch c1
  go_wp2_with fail
  go_loopw [4, 5, 6, 7] (fun v _ _ _ wr => (v = .slice (some ⟨g, 0, none⟩) 1 1 ∧ wr = w1) ∨ ((∃ a c, v = .slice a 0 c) ∧ KS B T U tb m.serves wr ∧ Ch (Sk B T U w) w wr)) (fun v _ _ _ _ => match v with | .slice _ n _ => n | _ => 0)
  case atStart => exact .inl ⟨rfl, rfl⟩
  case round =>
    rcases hrel with ⟨rfl, rfl⟩ | ⟨⟨a, c, rfl⟩, hk, hch⟩
    · obtain ⟨cs, hrow, h0⟩ := HCS.out
      have c0 := hrow.cell h0
      have d1 : wr.cell? ⟨U + 2, 4, none⟩ = some (.pointer (some ⟨T, 0, none⟩)) := HK1.out.thing.cell (j := 4) rfl
      have d2 := HK1.out.cTask hj HT.out
      have d3 : wr.cell? ⟨tb j, 0, none⟩ = some (.int .u32 (256 + j)) := HK1.out.tCell hj HT.out (j := 0) rfl
      have d4 : wr.cell? ⟨tb j, 5, none⟩ = some (.int .u8 t.what) := HK1.out.tCell hj HT.out (j := 5) rfl
      have d5 : wr.cell? ⟨tb j, 6, none⟩ = some (.int .u32 t.hh) := HK1.out.tCell hj HT.out (j := 6) rfl
      have d6 : wr.cell? ⟨tb j, 7, none⟩ = some (.int .u32 t.v) := HK1.out.tCell hj HT.out (j := 7) rfl
      have d7 : wr.cell? ⟨tb j, 8, none⟩ = some (.int .u32 t.mm) := HK1.out.tCell hj HT.out (j := 8) rfl
      have d8 : wr.cell? ⟨tb j, 9, none⟩ = some (.int .i64 t.wt) := HK1.out.tCell hj HT.out (j := 9) rfl
      clear hrow h0
      cases htr : tryR m.most m.row t.what t.v with
      | some p =>
        obtain ⟨x, l⟩ := p
        have HTR := Lib.hid htr
        clear htr
        go_wp2_with fail
        go_region_held3 (fun wx => wx.cell? ⟨U + 2, 4, none⟩ = some (.pointer (some ⟨T, 0, none⟩)) ∧ wx.cell? ⟨B + 69, 4 + j, none⟩ = some (.pointer (some ⟨tb j, 0, none⟩)) ∧ wx.cell? ⟨tb j, 0, none⟩ = some (.int .u32 (256 + j)) ∧ wx.cell? ⟨tb j, 5, none⟩ = some (.int .u8 t.what) ∧ wx.cell? ⟨tb j, 6, none⟩ = some (.int .u32 t.hh) ∧ wx.cell? ⟨tb j, 7, none⟩ = some (.int .u32 t.v) ∧ wx.cell? ⟨tb j, 8, none⟩ = some (.int .u32 t.mm) ∧ wx.cell? ⟨tb j, 9, none⟩ = some (.int .i64 t.wt)) (first | exact ⟨by assumption, by assumption, by assumption, by assumption, by assumption, by assumption, by assumption, by assumption⟩) (first
          | (go_at_call 136; refine (try_ok (hh := t.hh) (mm := t.mm) (wt := t.wt) (HK1.out.drewN 1) HWHO.out HWH.out HTR.out).mono ?_; rintro e w2 ⟨rfl, hk2, hch2⟩
             have e1 : w2.cell? ⟨U + 2, 4, none⟩ = some (.pointer (some ⟨T, 0, none⟩)) := hk2.thing.cell (j := 4) rfl
             have e2 := hk2.cTask hj HT.out
             have e3 : w2.cell? ⟨tb j, 0, none⟩ = some (.int .u32 (256 + j)) := hk2.tCell hj HT.out (j := 0) rfl
             have e4 : w2.cell? ⟨tb j, 5, none⟩ = some (.int .u8 t.what) := hk2.tCell hj HT.out (j := 5) rfl
             have e5 : w2.cell? ⟨tb j, 6, none⟩ = some (.int .u32 t.hh) := hk2.tCell hj HT.out (j := 6) rfl
             have e6 : w2.cell? ⟨tb j, 7, none⟩ = some (.int .u32 t.v) := hk2.tCell hj HT.out (j := 7) rfl
             have e7 : w2.cell? ⟨tb j, 8, none⟩ = some (.int .u32 t.mm) := hk2.tCell hj HT.out (j := 8) rfl
             have e8 : w2.cell? ⟨tb j, 9, none⟩ = some (.int .i64 t.wt) := hk2.tCell hj HT.out (j := 9) rfl
             have HK2 := Lib.hid hk2
             have HCH2 : Hid (Ch (Sk B T U w) w w2) := Lib.hid (((Ch.ofNo B T U HCH.out).tr (Ch.ofNo B T U (Ch.drewN wr 1))).tr hch2)
             clear hk2 hch2))
        all_goals
          clear d1 d2 d3 d4 d5 d6 d7 d8 e1 e2 e3 e4 e5 e6 e7 e8
          go_wp2_with fail
          refine (answers_any (m := { m with row := l }) 0 x HK2.out HC.out hj HT.out hr (fun _ => ⟨r, HWL.out⟩) HS.out HA.out).mono ?_; rintro e w3 ⟨rfl, hk3, hch3⟩
          have hwl : (({ m with row := l } : KM).answers j t 0 x).wl = none := KM.answers_wl HWT.out HON.out
          have HW3 : Hid (WQ U (U + 3) none w3) := Lib.hid (by have := hk3.wait; rw [hwl] at this; exact this)
          have g1 := hk3.thing.cell (j := 5) rfl
          have HK3 := Lib.hid hk3
          have HCH3 := Lib.hid (HCH2.out.tr hch3)
          clear hk3 hch3 hwl
          go_wp2_with fail
          refine (wqList_none _ U (U + 3) HW3.out).mono ?_; rintro e w4 ⟨rfl, hch4⟩
          have HK4 : Hid (KS B T U tb m.serves w4) := Lib.hid (by rw [KM.serves_ok HWL.out HT.out HTR.out]; exact HK3.out.no hch4)
          have HCH4 := Lib.hid (HCH3.out.tr (Ch.ofNo B T U hch4))
          clear hch4 g1
          go_wp2_with fail
          go_roundw
          case rel => exact .inr ⟨⟨_, _, rfl⟩, HK4.out, HCH4.out⟩
          case measure => simp
      | none =>
        have HTR := Lib.hid htr
        clear htr
        go_wp2_with fail
        go_region_held3 (fun wx => wx.cell? ⟨U + 2, 4, none⟩ = some (.pointer (some ⟨T, 0, none⟩)) ∧ wx.cell? ⟨B + 69, 4 + j, none⟩ = some (.pointer (some ⟨tb j, 0, none⟩)) ∧ wx.cell? ⟨tb j, 0, none⟩ = some (.int .u32 (256 + j)) ∧ wx.cell? ⟨tb j, 5, none⟩ = some (.int .u8 t.what) ∧ wx.cell? ⟨tb j, 6, none⟩ = some (.int .u32 t.hh) ∧ wx.cell? ⟨tb j, 7, none⟩ = some (.int .u32 t.v) ∧ wx.cell? ⟨tb j, 8, none⟩ = some (.int .u32 t.mm) ∧ wx.cell? ⟨tb j, 9, none⟩ = some (.int .i64 t.wt)) (first | exact ⟨by assumption, by assumption, by assumption, by assumption, by assumption, by assumption, by assumption, by assumption⟩) (first
          | (go_at_call 136; refine (try_no (hh := t.hh) (mm := t.mm) (wt := t.wt) (HK1.out.drewN 1) HWHO.out HWH.out HTR.out).mono ?_; rintro e w2 ⟨rfl, hk2, hch2⟩
             have e1 : w2.cell? ⟨U + 2, 4, none⟩ = some (.pointer (some ⟨T, 0, none⟩)) := hk2.thing.cell (j := 4) rfl
             have e2 := hk2.cTask hj HT.out
             have e3 : w2.cell? ⟨tb j, 0, none⟩ = some (.int .u32 (256 + j)) := hk2.tCell hj HT.out (j := 0) rfl
             have e4 : w2.cell? ⟨tb j, 5, none⟩ = some (.int .u8 t.what) := hk2.tCell hj HT.out (j := 5) rfl
             have e5 : w2.cell? ⟨tb j, 6, none⟩ = some (.int .u32 t.hh) := hk2.tCell hj HT.out (j := 6) rfl
             have e6 : w2.cell? ⟨tb j, 7, none⟩ = some (.int .u32 t.v) := hk2.tCell hj HT.out (j := 7) rfl
             have e7 : w2.cell? ⟨tb j, 8, none⟩ = some (.int .u32 t.mm) := hk2.tCell hj HT.out (j := 8) rfl
             have e8 : w2.cell? ⟨tb j, 9, none⟩ = some (.int .i64 t.wt) := hk2.tCell hj HT.out (j := 9) rfl
             have HK2 := Lib.hid hk2
             have HCH2 : Hid (Ch (Sk B T U w) w w2) := Lib.hid (((Ch.ofNo B T U HCH.out).tr (Ch.ofNo B T U (Ch.drewN wr 1))).tr hch2)
             clear hk2 hch2))
        all_goals
          clear d1 d2 d3 d4 d5 d6 d7 d8 e1 e2 e3 e4 e5 e6 e7 e8
          go_wp2_with fail
          have HK3 : Hid (KS B T U tb m.serves w2) := Lib.hid (by rw [KM.serves_no HWL.out HT.out HTR.out]; exact HK2.out)
          go_roundw
          case rel => exact .inr ⟨⟨_, _, rfl⟩, HK3.out, HCH2.out⟩
          case measure => simp
    · have HK := Lib.hid hk
      have HCX := Lib.hid hch
      clear hk hch
      go_wp2_with fail
      go_end0
      exact ⟨rfl, HK.out, HCX.out⟩
end
end Go.Proofs.YtcngfaggignmpaaGreatDoor
