/-
  The top, part 36: NapPut.
-/
import Derived.Test.YtcngfaggignmpaaGreatDoorS14

/-
  The kernel: Ask, of the row, that would not wait, answered at once.
-/
namespace Go.Proofs.YtcngfaggignmpaaGreatDoor
open Go.RowKit

section
variable {B T U : Nat} {tb : Nat → Nat} {m : KM} {w : World} {i xb r : Nat} {t : TM} {what hh v mm : Int}
set_option maxRecDepth 100000 in
set_option maxHeartbeats 4000000 in
theorem shared_zero {x : Int} {l : List Int} (h : KS B T U tb m w) (hi : i < 16) (ht : m.tk i = some t) (hw : what = 7 ∨ what = 9) (ha : AK xb B i tb what hh v mm 0 0 w) (hx : U + 3 ≤ xb) (hr : tryR m.most m.row what v = some (x, l)) :
    Calls Tryz.prog 72 #[.pointer (some ⟨xb, 0, none⟩)] w fun e w' => e = .returned (.agg #[.bool false, .int .i64 0, .int .u32 x]) ∧ KS B T U tb { m with row := l } w' ∧ Ch (Sk B T U w) w w' := by
  have H := Lib.hid (h.no (Ch.alloc w (.cells #[.bool false, .int .i64 0, .int .u32 0] 216)))
  have HT := Lib.hid ht
  have HW := Lib.hid hw
  have HR := Lib.hid hr
  have HA : Hid (AK xb B i tb what hh v mm 0 0 (w.alloc (.cells #[.bool false, .int .i64 0, .int .u32 0] 216))) := Lib.hid (ha.keeps (S := No) (Ch.alloc w _) (fun x => x))
  have hC0 : Ch (Sk B T U w) w (w.alloc (.cells #[.bool false, .int .i64 0, .int .u32 0] 216)) := Ch.alloc w _
  have hR0 := Row.new w 216 #[.bool false, .int .i64 0, .int .u32 0]
  obtain ⟨W0, hW0⟩ : ∃ W0, W0 = w.alloc (.cells #[.bool false, .int .i64 0, .int .u32 0] 216) := ⟨_, rfl⟩
  have HW0 := Lib.hid hW0
  rw [← hW0] at H HA hC0 hR0
  have HR0 := Lib.hid hR0
  have hrb : U + 3 ≤ w.heap.size := h.wait.2.2.1
  have c0 : W0.cell? ⟨xb, 0, none⟩ = some (.pointer (some ⟨B + 69, 0, none⟩)) := Row.cell HA.out (j := 0) rfl
  have c8 : W0.cell? ⟨xb, 8, none⟩ = some (.int .i64 0) := Row.cell HA.out (j := 8) rfl
  have c1 := H.out.cThing
  have c3 : W0.cell? ⟨xb, 3, none⟩ = some (.int .u8 what) := Row.cell HA.out (j := 3) rfl
  have c4 : W0.cell? ⟨xb, 4, none⟩ = some (.int .u32 hh) := Row.cell HA.out (j := 4) rfl
  have c5 : W0.cell? ⟨xb, 5, none⟩ = some (.int .u32 v) := Row.cell HA.out (j := 5) rfl
  have c6 : W0.cell? ⟨xb, 6, none⟩ = some (.int .u32 mm) := Row.cell HA.out (j := 6) rfl
  have c7 : W0.cell? ⟨xb, 7, none⟩ = some (.int .i64 0) := Row.cell HA.out (j := 7) rfl
  have hwho : (((256 : Int) + i) == 0) = false := by rw [beq_eq_false_iff_ne]; omega
  have HWHO := Lib.hid hwho
  clear h ht hw ha hW0 hR0 hr hwho
  go_enter Tryz.func72, Tryz.ntmps72
  go_wp2_with fail
  rw [← HW0.out]
  obtain ⟨rb, hrbe⟩ : ∃ rb, rb = w.heap.size := ⟨_, rfl⟩
  rw [← hrbe] at HR0 hrb ⊢
  have HRBE := Lib.hid hrbe
  clear hrbe
  go_quiet (fail)
  go_wp2_with fail
  refine (blocks_zero _ what hh v mm).mono ?_; rintro e w1 ⟨rfl, hch1⟩
  have hk1 := (H.out.drewN nq).no hch1
  have ha1 : AK xb B i tb what hh v mm 0 0 w1 := (HA.out.keeps (S := No) (Ch.drewN W0 nq) (fun x => x)).keeps hch1 (fun x => x)
  have HRW : Hid (Row rb 216 #[.bool false, .int .i64 0, .int .u32 0] w1) := Lib.hid ((HR0.out.drewN nq).keeps hch1 (fun x => x))
  have HC1 : Hid (Ch (Sk B T U w) w w1) := Lib.hid ((hC0.tr (Ch.ofNo B T U (Ch.drewN W0 nq))).tr (Ch.ofNo B T U hch1))
  have d2 : w1.cell? ⟨xb, 2, none⟩ = some (.pointer (some ⟨tb i, 0, none⟩)) := Row.cell ha1 (j := 2) rfl
  have d3 : w1.cell? ⟨xb, 3, none⟩ = some (.int .u8 what) := Row.cell ha1 (j := 3) rfl
  have d4 : w1.cell? ⟨xb, 4, none⟩ = some (.int .u32 hh) := Row.cell ha1 (j := 4) rfl
  have d5 : w1.cell? ⟨xb, 5, none⟩ = some (.int .u32 v) := Row.cell ha1 (j := 5) rfl
  have d6 : w1.cell? ⟨xb, 6, none⟩ = some (.int .u32 mm) := Row.cell ha1 (j := 6) rfl
  have d7 : w1.cell? ⟨xb, 7, none⟩ = some (.int .i64 0) := Row.cell ha1 (j := 7) rfl
  have k1 : w1.cell? ⟨U + 2, 4, none⟩ = some (.pointer (some ⟨T, 0, none⟩)) := hk1.thing.cell (j := 4) rfl
  have k2 : w1.cell? ⟨tb i, 0, none⟩ = some (.int .u32 (256 + i)) := hk1.tCell hi HT.out (j := 0) rfl
  have HK1 := Lib.hid hk1
  have HA1 := Lib.hid ha1
  clear c0 c1 c3 c4 c5 c6 c7 c8 hk1 ha1 hch1 hC0
  go_wp2_with fail
  go_region_held3 (fun wx => wx.cell? ⟨xb, 2, none⟩ = some (.pointer (some ⟨tb i, 0, none⟩)) ∧ wx.cell? ⟨xb, 3, none⟩ = some (.int .u8 what) ∧ wx.cell? ⟨xb, 4, none⟩ = some (.int .u32 hh) ∧ wx.cell? ⟨xb, 5, none⟩ = some (.int .u32 v) ∧ wx.cell? ⟨xb, 6, none⟩ = some (.int .u32 mm) ∧ wx.cell? ⟨xb, 7, none⟩ = some (.int .i64 0) ∧ wx.cell? ⟨U + 2, 4, none⟩ = some (.pointer (some ⟨T, 0, none⟩)) ∧ wx.cell? ⟨tb i, 0, none⟩ = some (.int .u32 (256 + i))) (first | exact ⟨by assumption, by assumption, by assumption, by assumption, by assumption, by assumption, by assumption, by assumption⟩) (first
    | (go_at_call 136; refine (try_ok (hh := hh) (mm := mm) (wt := 0) (HK1.out.drewN 1) HWHO.out HW.out HR.out).mono ?_; rintro e w2 ⟨rfl, hk2, hch2⟩
       have ha2 : AK xb B i tb what hh v mm 0 0 w2 := (HA1.out.keeps (S := No) (Ch.drewN w1 1) (fun x => x)).keeps hch2 (AK.sk (HA1.out.keeps (S := No) (Ch.drewN w1 1) (fun x => x)) hx)
       have HRW2 : Hid (Row rb 216 #[.bool false, .int .i64 0, .int .u32 0] w2) := Lib.hid ((HRW.out.drewN 1).keeps hch2 (by rintro (⟨_, e⟩ | ⟨_, ty, cs, r, ht⟩); (· omega); rcases ht with rfl | rfl <;> exact absurd ((HRW.out.drewN 1).ty r) (by decide)))
       have e2 : w2.cell? ⟨xb, 2, none⟩ = some (.pointer (some ⟨tb i, 0, none⟩)) := Row.cell ha2 (j := 2) rfl
       have e3 : w2.cell? ⟨xb, 3, none⟩ = some (.int .u8 what) := Row.cell ha2 (j := 3) rfl
       have e4 : w2.cell? ⟨xb, 4, none⟩ = some (.int .u32 hh) := Row.cell ha2 (j := 4) rfl
       have e5 : w2.cell? ⟨xb, 5, none⟩ = some (.int .u32 v) := Row.cell ha2 (j := 5) rfl
       have e6 : w2.cell? ⟨xb, 6, none⟩ = some (.int .u32 mm) := Row.cell ha2 (j := 6) rfl
       have e7 : w2.cell? ⟨xb, 7, none⟩ = some (.int .i64 0) := Row.cell ha2 (j := 7) rfl
       have j1 : w2.cell? ⟨U + 2, 4, none⟩ = some (.pointer (some ⟨T, 0, none⟩)) := hk2.thing.cell (j := 4) rfl
       have j2 : w2.cell? ⟨tb i, 0, none⟩ = some (.int .u32 (256 + i)) := hk2.tCell hi HT.out (j := 0) rfl
       have HK2 := Lib.hid hk2
       have HCH2 : Hid (Ch (Sk B T U w) w w2) := Lib.hid ((HC1.out.tr (Ch.ofNo B T U (Ch.drewN w1 1))).tr hch2)
       clear hk2 hch2 ha2))
  all_goals
    clear d2 d3 d4 d5 d6 d7 k1 k2 e2 e3 e4 e5 e6 e7 j1 j2
    have z1 := HRW2.out.cell (j := 0) rfl
    have z2 := HRW2.out.cell (j := 1) rfl
    have z3 := HRW2.out.cell (j := 2) rfl
    have y1 := HRW2.out.free 0
    have y2 := HRW2.out.free 1
    have y3 := HRW2.out.free 2
    go_wp2_with fail
    refine bodyPost_ret (v := .agg #[.bool false, .int .i64 0, .int .u32 x]) (by simp [results, Tryz.results72, go_sem, z1, z2, z3]) rfl ?_
    have hc3 := ((Ch.set1 w2 rb 0 (.bool false)).trans (Ch.set1 _ rb 1 (.int .i64 0))).trans (Ch.set1 _ rb 2 (.int .u32 x))
    exact ⟨rfl, HK2.out.other HRW2.out hrb (by decide) hc3, HCH2.out.trans' hc3 (fun k hk e => by rw [HRBE.out] at e; omega)⟩
set_option maxRecDepth 100000 in
set_option maxHeartbeats 4000000 in
theorem ask_zero {x : Int} {l l' : List Int} (h : KS B T U tb m w) (hc : Cons m) (hi : i < 16) (ht : m.tk i = some t) (hr : r < 32) (hl : m.ls r = (i : Int) :: l') (hn : ∀ j, r < j → j < 32 → m.ls j = [])
    (hrk : t.rank < 32) (hon : t.on = false) (hwt0 : t.wait = false) (ha : 0 ≤ t.ans ∧ t.ans < 1000000000) (hs : Awake m i ∧ ∀ j r, m.wl = some (j, r) → Awake m j)
    (hw : what = 7 ∨ what = 9) (htr : tryR m.most m.row what v = some (x, l))
    (hv : Svd (({ m with row := l } : KM).setT i (KM.told t 0 x))) (hcalm : Calm (({ m with row := l } : KM).setT i (KM.told t 0 x)).serves) :
    Calls Tryz.prog 34 #[.pointer (some ⟨B + 69, 0, none⟩), askV what 256 v mm 0] w fun e w' => e = .returned (.tuple #[.bool true, .int .i64 0]) ∧ KS B T U tb (({ m with row := l } : KM).setT i (KM.told t 0 x)).serves w' ∧ Ch (Sk B T U w) w w' := by
  have hbx0 : U + 3 ≤ w.heap.size := h.wait.2.2.1
  have hC0 : Ch No w (w.alloc (.cells #[.int .u8 what, .int .u32 256, .int .u32 v, .int .u32 mm, .int .i64 0] 112)) := Ch.alloc w _
  have hb0 := Row.new w 112 #[.int .u8 what, .int .u32 256, .int .u32 v, .int .u32 mm, .int .i64 0]
  have H0 := Lib.hid (h.no hC0)
  obtain ⟨W0, hW0⟩ : ∃ W0, W0 = w.alloc (.cells #[.int .u8 what, .int .u32 256, .int .u32 v, .int .u32 mm, .int .i64 0] 112) := ⟨_, rfl⟩
  have HW0 := Lib.hid hW0
  rw [← hW0] at hC0 hb0 H0
  have HB0 := Lib.hid hb0
  have HCO := Lib.hid hc
  have HT := Lib.hid ht
  have HL := Lib.hid hl
  have HN := Lib.hid hn
  have HON := Lib.hid hon
  have HWT0 := Lib.hid hwt0
  have HS := Lib.hid hs
  have HW := Lib.hid hw
  have HTR := Lib.hid htr
  have HV := Lib.hid hv
  have HCALM := Lib.hid hcalm
  have HAN := Lib.hid ha
  have c1 := H0.out.cReady
  have a1 : decide (what < 1) = false := by rcases hw with rfl | rfl <;> rfl
  have a2 : decide (20 < what) = false := by rcases hw with rfl | rfl <;> rfl
  have a3 : (what == 20) = false := by rcases hw with rfl | rfl <;> rfl
  have hi1 : 0 ≤ (i : Int) ∧ (i : Int) < 16 := by omega
  clear h hc ht hl hn hon hwt0 hs hw htr hv hcalm ha hb0 hW0
  have hnf : ∀ W : World, (binOp .eql 211 .nilFunc .nilFunc).run Tryz.prog W = .ok (.bool true) W := fun _ => by kernel_rfl
  unfold askV
  go_enter_defers Tryz.func34, Tryz.ntmps34
  go_wp2_with fail
  rw [← HW0.out]
  refine (kThere_any H0.out).mono ?_; rintro e w1 ⟨rfl, rfl⟩
  go_wp2_with fail
  refine (rqFirst_any _ B r m.ls m.rk i l' H0.out.ready hr HL.out HN.out).mono ?_; rintro e w1 ⟨rfl, hch1⟩
  have hk1 := H0.out.no hch1
  have hb1 := HB0.out.keeps hch1 (fun x => x)
  have HC1 : Hid (Ch (Sk B T U w) w w1) := Lib.hid (Ch.ofNo B T U (hC0.trans hch1))
  obtain ⟨bb, hbb⟩ : ∃ bb, bb = w.heap.size := ⟨_, rfl⟩
  rw [← hbb] at hb1 HB0 ⊢
  have d0 : w1.cell? ⟨bb, 0, none⟩ = some (.int .u8 what) := hb1.cell (j := 0) rfl
  have d1 : w1.cell? ⟨bb, 1, none⟩ = some (.int .u32 256) := hb1.cell (j := 1) rfl
  have d2 : w1.cell? ⟨bb, 2, none⟩ = some (.int .u32 v) := hb1.cell (j := 2) rfl
  have d3 : w1.cell? ⟨bb, 3, none⟩ = some (.int .u32 mm) := hb1.cell (j := 3) rfl
  have d4 : w1.cell? ⟨bb, 4, none⟩ = some (.int .i64 0) := hb1.cell (j := 4) rfl
  have d5 := hk1.cTask hi HT.out
  have HK1 := Lib.hid hk1
  have HB1 := Lib.hid hb1
  have hx : U + 3 ≤ w1.heap.size := hk1.wait.2.2.1
  have hbx : U + 3 ≤ bb := by rw [hbb]; exact hbx0
  have HBB := Lib.hid hbb
  clear hk1 hb1 hch1 c1 hC0 hbb
  go_wp2_with fail
  go_region_held3 (fun wx => wx.cell? ⟨bb, 0, none⟩ = some (.int .u8 what) ∧ wx.cell? ⟨bb, 1, none⟩ = some (.int .u32 256) ∧ wx.cell? ⟨bb, 2, none⟩ = some (.int .u32 v) ∧ wx.cell? ⟨bb, 3, none⟩ = some (.int .u32 mm) ∧ wx.cell? ⟨bb, 4, none⟩ = some (.int .i64 0) ∧ wx.cell? ⟨B + 69, 4 + i, none⟩ = some (.pointer (some ⟨tb i, 0, none⟩))) (go_keep) (fail)
  all_goals
    have hA := Row.new w1 208 #[.pointer (some ⟨B + 69, 0, none⟩), .int .i64 i, .pointer (some ⟨tb i, 0, none⟩), .int .u8 what, .int .u32 256, .int .u32 v, .int .u32 mm, .int .i64 0, .int .i64 0]
    have hcA : Ch No w1 (w1.alloc (.cells #[.pointer (some ⟨B + 69, 0, none⟩), .int .i64 i, .pointer (some ⟨tb i, 0, none⟩), .int .u8 what, .int .u32 256, .int .u32 v, .int .u32 mm, .int .i64 0, .int .i64 0] 208)).drew := (Ch.alloc w1 _).trans (Ch.drewN _ 1)
    have hne : bb ≠ w1.heap.size := by have := HB1.out.lt; omega
    have HA2 : Hid (AK w1.heap.size B i tb what 256 v mm 0 0 (w1.alloc (.cells #[.pointer (some ⟨B + 69, 0, none⟩), .int .i64 i, .pointer (some ⟨tb i, 0, none⟩), .int .u8 what, .int .u32 256, .int .u32 v, .int .u32 mm, .int .i64 0, .int .i64 0] 208)).drew) := Lib.hid (hA.drewN 1)
    obtain ⟨xb, hxb⟩ : ∃ xb, xb = w1.heap.size := ⟨_, rfl⟩
    have HXB := Lib.hid hxb
    obtain ⟨W2, hW2⟩ : ∃ W2, W2 = (w1.alloc (.cells #[.pointer (some ⟨B + 69, 0, none⟩), .int .i64 i, .pointer (some ⟨tb i, 0, none⟩), .int .u8 what, .int .u32 256, .int .u32 v, .int .u32 mm, .int .i64 0, .int .i64 0] 208)).drew := ⟨_, rfl⟩
    rw [← hW2, ← hxb] at HA2 ⊢
    rw [← hxb] at hne hx
    rw [← hW2] at hcA
    have HK2 := Lib.hid (HK1.out.no hcA)
    have HB2 := Lib.hid (HB1.out.keeps hcA (fun x => x))
    have HC2 : Hid (Ch (Sk B T U w) w W2) := Lib.hid (HC1.out.tr (Ch.ofNo B T U hcA))
    have hwx : w.heap.size ≤ xb := by rw [hxb]; exact HC1.out.size
    clear hA hcA hxb hW2 d0 d1 d2 d3 d4 d5
    go_wp2_with fail
    refine (of_pg HW.out HK2.out HA2.out hx).mono ?_; rintro e w3 ⟨rfl, ha3, hk3, hch3⟩
    have hb3 := HB2.out.keeps hch3 hne
    have HA3 := Lib.hid ha3
    have HK3 := Lib.hid hk3
    have HB3 := Lib.hid hb3
    have HC3 : Hid (Ch (Sk B T U w) w w3) := Lib.hid (HC2.out.trans' hch3 (fun k hk e => by omega))
    have d0 : w3.cell? ⟨bb, 0, none⟩ = some (.int .u8 what) := hb3.cell (j := 0) rfl
    clear ha3 hk3 hb3 hch3
    go_wp2_with fail
    go_region_held3 (fun wx => wx.cell? ⟨bb, 0, none⟩ = some (.int .u8 what)) (first | assumption | go_keep) (first
      | (go_at_call 71; refine (deeds_any _).mono ?_; rintro e w4 ⟨rfl, rfl⟩
         have hdl := deed_any HW.out (w3.alloc (.map deedsArr 6)).drew w3.heap.size (MapKept.heap_alloc w3 _).1))
    all_goals
      have hc4 : Ch No w3 (w3.alloc (.map deedsArr 6)).drew := (Ch.alloc w3 _).trans (Ch.drewN _ 1)
      obtain ⟨W4, hW4⟩ : ∃ W4, W4 = (w3.alloc (.map deedsArr 6)).drew := ⟨_, rfl⟩
      rw [← hW4] at hc4 hdl ⊢
      have HA4 := Lib.hid (HA3.out.keeps hc4 (fun x => x))
      have HK4 := Lib.hid (HK3.out.no hc4)
      have HB4 := Lib.hid (HB3.out.keeps hc4 (fun x => x))
      have HC4 := Lib.hid (HC3.out.tr (Ch.ofNo B T U hc4))
      clear hdl hW4 hc4 d0
      go_wp2_with fail
      refine (shared_zero HK4.out hi HT.out HW.out HA4.out hx HTR.out).mono ?_; rintro e w5 ⟨rfl, hk5, hch5⟩
      have hR6 := Row.new w5 216 #[.bool false, .int .i64 0, .int .u32 x]
      have hA5 := HA4.out.keeps hch5 (AK.sk HA4.out hx)
      have hrb : U + 3 ≤ w5.heap.size := hk5.wait.2.2.1
      have hc6 : Ch No w5 (w5.alloc (.cells #[.bool false, .int .i64 0, .int .u32 x] 216)) := Ch.alloc w5 _
      have HR6 := Lib.hid hR6
      have HK6 := Lib.hid (hk5.no hc6)
      have HA6 := Lib.hid (hA5.keeps hc6 (fun x => x))
      have HC6 := Lib.hid ((HC4.out.tr hch5).tr (Ch.ofNo B T U hc6))
      obtain ⟨W6, hW6⟩ : ∃ W6, W6 = w5.alloc (.cells #[.bool false, .int .i64 0, .int .u32 x] 216) := ⟨_, rfl⟩
      obtain ⟨rb, hrbe⟩ : ∃ rb, rb = w5.heap.size := ⟨_, rfl⟩
      have HW6 := Lib.hid hW6
      have HRBE := Lib.hid hrbe
      rw [← hW6] at HR6 HK6 HA6 HC6
      rw [← hrbe] at HR6 hrb
      clear hR6 hA5 hc6 hW6 hrbe hk5 hch5
      have g0 : W6.cell? ⟨rb, 0, none⟩ = some (.bool false) := HR6.out.cell (j := 0) rfl
      have g1 : W6.cell? ⟨rb, 1, none⟩ = some (.int .i64 0) := HR6.out.cell (j := 1) rfl
      have g2 : W6.cell? ⟨rb, 2, none⟩ = some (.int .u32 x) := HR6.out.cell (j := 2) rfl
      go_wp2_with fail
      rw [← HW6.out, ← HRBE.out]
      refine (answers_any (m := { m with row := l }) 0 x HK6.out HCO.out hi HT.out hrk (fun e => absurd (HON.out.symm.trans e) (by decide)) HS.out.1 HAN.out).mono ?_; rintro e w7 ⟨rfl, hk7, hch7⟩
      have hk7' : KS B T U tb (({ m with row := l } : KM).setT i (KM.told t 0 x)) w7 := by
        have he : ({ m with row := l } : KM).answers i t 0 x = ({ m with row := l } : KM).setT i (KM.told t 0 x) := by unfold KM.answers; rw [HWT0.out]; rfl
        rw [he] at hk7; exact hk7
      have HR7 := Lib.hid (HR6.out.keeps hch7 (skNot hrb (by decide) HR6.out))
      have HA7 := Lib.hid (HA6.out.keeps hch7 (AK.sk HA6.out hx))
      have HK7 := Lib.hid hk7'
      have HC7 := Lib.hid (HC6.out.tr hch7)
      clear hk7 hk7' hch7 g0 g1 g2
      have g1 : w7.cell? ⟨rb, 1, none⟩ = some (.int .i64 0) := HR7.out.cell (j := 1) rfl
      have g8 : w7.cell? ⟨xb, 8, none⟩ = some (.int .i64 0) := Row.cell HA7.out (j := 8) rfl
      have g20 := HK7.out.cThing
      go_wp2_with fail
      go_region_held3 (fun wx => wx.cell? ⟨xb, 8, none⟩ = some (.int .i64 0) ∧ wx.cell? ⟨B + 69, 20, none⟩ = some (.pointer (some ⟨U + 2, 0, none⟩))) (first | exact ⟨by assumption, by assumption⟩) (first
        | (go_at_call 73; refine (serves_any (HK7.out.drewN 1) HCO.out HS.out.2 HV.out).mono ?_; rintro e w8 ⟨rfl, hk8, hch8⟩
           have HR8 := Lib.hid ((HR7.out.drewN 1).keeps hch8 (skNot hrb (by decide) (HR7.out.drewN 1)))
           have hA8 := (HA7.out.keeps (S := No) (Ch.drewN w7 1) (fun x => x)).keeps hch8 (AK.sk (HA7.out.keeps (S := No) (Ch.drewN w7 1) (fun x => x)) hx)
           have p8 : w8.cell? ⟨xb, 8, none⟩ = some (.int .i64 0) := Row.cell hA8 (j := 8) rfl
           have p20 := hk8.cThing
           have HK8 := Lib.hid hk8
           have HC8 := Lib.hid ((HC7.out.tr (Ch.ofNo B T U (Ch.drewN w7 1))).tr hch8)
           clear hk8 hch8 hA8))
      all_goals
        have q1 : w8.cell? ⟨rb, 1, none⟩ = some (.int .i64 0) := HR8.out.cell (j := 1) rfl
        clear g1 g8 g20 p8 p20
        go_wp2_with fail
        go_quiet (fail)
        go_wp2_with fail
        refine leaves_cons (f := 57) (args := #[.pointer (some ⟨B + 69, 0, none⟩)]) (by simp) (by simp [go_sem]) ?_
        refine (anew_deferred .returning (HK8.out.drewN nq) HCALM.out).mono ?_
        rintro e u' w9 ⟨rfl, rfl, hch9⟩
        exact ⟨.tuple #[.bool true, .int .i64 0], by simp [results, Tryz.f34, go_sem], rfl, (HK8.out.drewN nq).no hch9, (HC8.out.tr (Ch.ofNo B T U (Ch.drewN w8 nq))).tr (Ch.ofNo B T U hch9)⟩
end
end Go.Proofs.YtcngfaggignmpaaGreatDoor
