/-
  The top, part 35: NapAsk.
-/
import Derived.Test.YtcngfaggignmpaaGreatDoorS14
import Derived.Test.YtcngfaggignmpaaGreatDoorS34

/-
  The kernel: Ask, to sleep.
-/
namespace Go.Proofs.YtcngfaggignmpaaGreatDoor
open Go.RowKit

section
variable {B T U : Nat} {tb : Nat → Nat} {m : KM} {w : World} {i xb : Nat} {t : TM} {hh v mm d : Int}
set_option maxRecDepth 100000 in
set_option maxHeartbeats 1000000 in
theorem of_two (ha : AK xb B i tb 2 hh v mm d 0 w) : Calls Tryz.prog 69 #[.pointer (some ⟨xb, 0, none⟩)] w fun e w' => e = .returned (.tuple #[.bool false, .int .i64 0]) ∧ w = w' := by
  have c3 : w.cell? ⟨xb, 3, none⟩ = some (.int .u8 2) := Row.cell ha (j := 3) rfl
  clear ha
  go_enter Tryz.func69, Tryz.ntmps69
  go_wp2_with fail
  go_ret2
  exact ⟨rfl, rfl⟩
set_option maxRecDepth 100000 in
set_option maxHeartbeats 4000000 in
theorem sleep_some (h : KS B T U tb m w) (hc : Cons m) (hi : i < 16) (ht : m.tk i = some t) (hd : 1 ≤ d ∧ d ≤ 255) (haw : Awake m i) (hlen : m.sl.length ≤ 16) (hs : ∀ k, k ≤ m.sl.length → 0 ≤ ahead m.sl k ∧ ahead m.sl k ≤ 1099511627776) (ha : AK xb B i tb 2 hh v mm d 0 w) (hx : U + 3 ≤ xb) :
    Calls Tryz.prog 130 #[.pointer (some ⟨xb, 0, none⟩)] w fun e w' => e = .returned (.agg #[.bool true, .int .i64 0, .int .u32 0]) ∧ KS B T U tb (m.naps i t hh v mm d) w' ∧ Ch (Sk B T U w) w w' := by
  have hrb : U + 3 ≤ w.heap.size := h.wait.2.2.1
  obtain ⟨W0, hW0⟩ : ∃ W0, W0 = w.alloc (.cells #[.bool false, .int .i64 0, .int .u32 0] 216) := ⟨_, rfl⟩
  have c0 : Ch No w W0 := by rw [hW0]; exact Ch.alloc w _
  have r0 : Row w.heap.size 216 #[.bool false, .int .i64 0, .int .u32 0] W0 := by rw [hW0]; exact Row.new w 216 _
  have ha0 : AK xb B i tb 2 hh v mm d 0 W0 := ha.keeps c0 (fun x => x)
  have HN := Lib.hid (nap_any (h.no c0) hc hi ht hd haw hlen hs ha0 hx)
  have c7 : w.cell? ⟨xb, 7, none⟩ = some (.int .i64 d) := Row.cell ha (j := 7) rfl
  have hxl : xb < w.heap.size := Row.lt ha
  have d1 : decide (d < 0) = false := by rw [decide_eq_false_iff_not]; omega
  have d2 : decide (1073741824 < d) = false := by rw [decide_eq_false_iff_not]; omega
  have d3 : (d == 0) = false := by rw [beq_eq_false_iff_ne]; omega
  have R0 := Lib.hid r0
  have C0 := Lib.hid c0
  have HW := Lib.hid hW0
  clear h hc ht hd haw hs ha hW0 c0 r0 ha0
  go_enter Tryz.func130, Tryz.ntmps130
  go_wp2_with fail
  rw [← HW.out]
  refine HN.out.mono ?_; rintro e w1 ⟨rfl, hk1, hch1⟩
  have r1 := R0.out.keeps hch1 (skNot hrb (by decide) R0.out)
  have z1 := r1.cell (j := 0) rfl
  have z2 := r1.cell (j := 1) rfl
  have z3 := r1.cell (j := 2) rfl
  have y1 := r1.free 0
  have y2 := r1.free 1
  have y3 := r1.free 2
  have HK1 := Lib.hid hk1
  have R1 := Lib.hid r1
  have HC1 : Hid (Ch (Sk B T U w) w w1) := Lib.hid ((Ch.ofNo B T U C0.out).tr hch1)
  clear hk1 hch1 r1
  go_wp2_with fail
  refine bodyPost_ret (v := .agg #[.bool true, .int .i64 0, .int .u32 0]) (by simp [results, Tryz.results130, go_sem, z1, z2, z3]) rfl ?_
  have hc3 := ((Ch.set1 w1 w.heap.size 0 (.bool true)).trans (Ch.set1 _ w.heap.size 1 (.int .i64 0))).trans (Ch.set1 _ w.heap.size 2 (.int .u32 0))
  exact ⟨rfl, HK1.out.other R1.out hrb (by decide) hc3, HC1.out.trans' hc3 (fun k hk e => by omega)⟩

set_option maxRecDepth 100000 in
set_option maxHeartbeats 4000000 in
theorem sleep_now (ha : AK xb B i tb 2 hh v mm 0 0 w) (hx : xb < w.heap.size) :
    Calls Tryz.prog 130 #[.pointer (some ⟨xb, 0, none⟩)] w fun e w' => e = .returned (.agg #[.bool false, .int .i64 0, .int .u32 0]) ∧ Ch No w w' := by
  have c7 : w.cell? ⟨xb, 7, none⟩ = some (.int .i64 0) := Row.cell ha (j := 7) rfl
  clear ha
  go_enter Tryz.func130, Tryz.ntmps130
  go_wp2_with fail
  have r1 := Row.new w 216 #[.bool false, .int .i64 0, .int .u32 0]
  have z1 := r1.cell (j := 0) rfl
  have z2 := r1.cell (j := 1) rfl
  have z3 := r1.cell (j := 2) rfl
  refine bodyPost_ret (v := .agg #[.bool false, .int .i64 0, .int .u32 0]) (by simp [results, Tryz.results130, go_sem, z1, z2, z3]) rfl ?_
  exact ⟨rfl, Ch.alloc _ _⟩

set_option maxRecDepth 100000 in
set_option maxHeartbeats 4000000 in
theorem ask_nap {r : Nat} {l' : List Int} (h : KS B T U tb m w) (hc : Cons m) (hi : i < 16) (ht : m.tk i = some t) (hr : r < 32) (hl : m.ls r = (i : Int) :: l') (hn : ∀ j, r < j → j < 32 → m.ls j = [])
    (hd : 1 ≤ d ∧ d ≤ 255) (haw : Awake m i) (hlen : m.sl.length ≤ 16) (hs : ∀ k, k ≤ m.sl.length → 0 ≤ ahead m.sl k ∧ ahead m.sl k ≤ 1099511627776) (hcalm : Calm (m.naps i t hh v mm d)) :
    Calls Tryz.prog 34 #[.pointer (some ⟨B + 69, 0, none⟩), askV 2 hh v mm d] w fun e w' => e = .returned (.tuple #[.bool false, .int .i64 0]) ∧ KS B T U tb (m.naps i t hh v mm d) w' ∧ Ch (Sk B T U w) w w' := by
  have hbx0 : U + 3 ≤ w.heap.size := h.wait.2.2.1
  have hC0 : Ch No w (w.alloc (.cells #[.int .u8 2, .int .u32 hh, .int .u32 v, .int .u32 mm, .int .i64 d] 112)) := Ch.alloc w _
  have hb0 := Row.new w 112 #[.int .u8 2, .int .u32 hh, .int .u32 v, .int .u32 mm, .int .i64 d]
  have H0 := Lib.hid (h.no hC0)
  obtain ⟨W0, hW0⟩ : ∃ W0, W0 = w.alloc (.cells #[.int .u8 2, .int .u32 hh, .int .u32 v, .int .u32 mm, .int .i64 d] 112) := ⟨_, rfl⟩
  have HW0 := Lib.hid hW0
  rw [← hW0] at hC0 hb0 H0
  have HB0 := Lib.hid hb0
  have HCO := Lib.hid hc
  have HT := Lib.hid ht
  have HL := Lib.hid hl
  have HN := Lib.hid hn
  have HD := Lib.hid hd
  have HAW := Lib.hid haw
  have HS := Lib.hid hs
  have HCALM := Lib.hid hcalm
  have c1 := H0.out.cReady
  have hi1 : 0 ≤ (i : Int) ∧ (i : Int) < 16 := by omega
  clear h hc ht hl hn hd haw hs hcalm hb0 hW0
  have hnf : ∀ W : World, (binOp .eql 211 (.func (.func 130) #[] #[]) .nilFunc).run Tryz.prog W = .ok (.bool false) W := fun _ => by kernel_rfl
  have hcf : ∀ (args : Array Value) (W : World), (callFunc 130 args).run Tryz.prog W = .ok (.enter 130 args) W := fun _ _ => by kernel_rfl
  unfold askV
  go_enter_defers Tryz.func34, Tryz.ntmps34
  go_wp2_with fail
  rw [← HW0.out]
  refine (kThere_any H0.out).mono ?_; rintro e w1 ⟨rfl, rfl⟩
  go_wp2_with fail
  refine (rqFirst_any _ B r m.ls m.rk i l' H0.out.ready hr HL.out HN.out).mono ?_; rintro e w1 ⟨rfl, hch1⟩
  have hk1 := H0.out.no hch1
  have hb1 := HB0.out.keeps hch1 (fun x => x)
  have HC1 : Hid (Ch (Sk B T U w) w w1) := Lib.hid (Ch.ofNo B T U (hC0.trans hch1))
  obtain ⟨bb, hbb⟩ : ∃ bb, bb = w.heap.size := ⟨_, rfl⟩
  rw [← hbb] at hb1 HB0 ⊢
  have d0 : w1.cell? ⟨bb, 0, none⟩ = some (.int .u8 2) := hb1.cell (j := 0) rfl
  have d1 : w1.cell? ⟨bb, 1, none⟩ = some (.int .u32 hh) := hb1.cell (j := 1) rfl
  have d2 : w1.cell? ⟨bb, 2, none⟩ = some (.int .u32 v) := hb1.cell (j := 2) rfl
  have d3 : w1.cell? ⟨bb, 3, none⟩ = some (.int .u32 mm) := hb1.cell (j := 3) rfl
  have d4 : w1.cell? ⟨bb, 4, none⟩ = some (.int .i64 d) := hb1.cell (j := 4) rfl
  have d5 := hk1.cTask hi HT.out
  have HK1 := Lib.hid hk1
  have HB1 := Lib.hid hb1
  have hx : U + 3 ≤ w1.heap.size := hk1.wait.2.2.1
  have hbx : U + 3 ≤ bb := by rw [hbb]; exact hbx0
  have HBB := Lib.hid hbb
  clear hk1 hb1 hch1 c1 hC0 hbb
  go_wp2_with fail
  go_region_held3 (fun wx => wx.cell? ⟨bb, 0, none⟩ = some (.int .u8 2) ∧ wx.cell? ⟨bb, 1, none⟩ = some (.int .u32 hh) ∧ wx.cell? ⟨bb, 2, none⟩ = some (.int .u32 v) ∧ wx.cell? ⟨bb, 3, none⟩ = some (.int .u32 mm) ∧ wx.cell? ⟨bb, 4, none⟩ = some (.int .i64 d) ∧ wx.cell? ⟨B + 69, 4 + i, none⟩ = some (.pointer (some ⟨tb i, 0, none⟩))) (go_keep) (fail)
  all_goals
    have hA := Row.new w1 208 #[.pointer (some ⟨B + 69, 0, none⟩), .int .i64 i, .pointer (some ⟨tb i, 0, none⟩), .int .u8 2, .int .u32 hh, .int .u32 v, .int .u32 mm, .int .i64 d, .int .i64 0]
    have hcA : Ch No w1 (w1.alloc (.cells #[.pointer (some ⟨B + 69, 0, none⟩), .int .i64 i, .pointer (some ⟨tb i, 0, none⟩), .int .u8 2, .int .u32 hh, .int .u32 v, .int .u32 mm, .int .i64 d, .int .i64 0] 208)).drew := (Ch.alloc w1 _).trans (Ch.drewN _ 1)
    have hne : bb ≠ w1.heap.size := by have := HB1.out.lt; omega
    have HA2 : Hid (AK w1.heap.size B i tb 2 hh v mm d 0 (w1.alloc (.cells #[.pointer (some ⟨B + 69, 0, none⟩), .int .i64 i, .pointer (some ⟨tb i, 0, none⟩), .int .u8 2, .int .u32 hh, .int .u32 v, .int .u32 mm, .int .i64 d, .int .i64 0] 208)).drew) := Lib.hid (hA.drewN 1)
    obtain ⟨xb, hxb⟩ : ∃ xb, xb = w1.heap.size := ⟨_, rfl⟩
    have HXB := Lib.hid hxb
    obtain ⟨W2, hW2⟩ : ∃ W2, W2 = (w1.alloc (.cells #[.pointer (some ⟨B + 69, 0, none⟩), .int .i64 i, .pointer (some ⟨tb i, 0, none⟩), .int .u8 2, .int .u32 hh, .int .u32 v, .int .u32 mm, .int .i64 d, .int .i64 0] 208)).drew := ⟨_, rfl⟩
    rw [← hW2, ← hxb] at HA2 ⊢
    rw [← hxb] at hne hx
    rw [← hW2] at hcA
    have HK2 := Lib.hid (HK1.out.no hcA)
    have HB2 := Lib.hid (HB1.out.keeps hcA (fun x => x))
    have HC2 : Hid (Ch (Sk B T U w) w W2) := Lib.hid (HC1.out.tr (Ch.ofNo B T U hcA))
    have hwx : w.heap.size ≤ xb := by rw [hxb]; exact HC1.out.size
    clear hA hcA hxb hW2 d0 d1 d2 d3 d4 d5
    go_wp2_with fail
    refine (of_two HA2.out).mono ?_; rintro e w3 ⟨rfl, rfl⟩
    have d0 : W2.cell? ⟨bb, 0, none⟩ = some (.int .u8 2) := HB2.out.cell (j := 0) rfl
    go_wp2_with fail
    go_region_held3 (fun wx => wx.cell? ⟨bb, 0, none⟩ = some (.int .u8 2)) (first | assumption | go_keep) (first
      | (go_at_call 71; refine (deeds_any _).mono ?_; rintro e w4 ⟨rfl, rfl⟩
         have hdl := deed_sleep (W2.alloc (.map deedsArr 6)).drew W2.heap.size (MapKept.heap_alloc W2 _).1))
    all_goals
      have hc4 : Ch No W2 (W2.alloc (.map deedsArr 6)).drew := (Ch.alloc W2 _).trans (Ch.drewN _ 1)
      obtain ⟨W4, hW4⟩ : ∃ W4, W4 = (W2.alloc (.map deedsArr 6)).drew := ⟨_, rfl⟩
      rw [← hW4] at hc4 hdl ⊢
      have HA4 := Lib.hid (HA2.out.keeps hc4 (fun x => x))
      have HK4 := Lib.hid (HK2.out.no hc4)
      have HB4 := Lib.hid (HB2.out.keeps hc4 (fun x => x))
      have HC4 := Lib.hid (HC2.out.tr (Ch.ofNo B T U hc4))
      clear hdl hW4 hc4 d0
      go_wp2_with fail
      refine (sleep_some HK4.out HCO.out hi HT.out HD.out HAW.out hlen HS.out HA4.out hx).mono ?_; rintro e w5 ⟨rfl, hk5, hch5⟩
      have HK5 := Lib.hid hk5
      have HC5 := Lib.hid (HC4.out.tr hch5)
      clear hk5 hch5
      go_wp2_with fail
      refine leaves_cons (f := 57) (args := #[.pointer (some ⟨B + 69, 0, none⟩)]) (by simp) (by simp [go_sem]) ?_
      have hcz : Ch No w5 (w5.alloc (.cells #[.bool true, .int .i64 0, .int .u32 0] 216)) := Ch.alloc w5 _
      refine (anew_deferred .returning (HK5.out.no hcz) HCALM.out).mono ?_
      rintro e u' w9 ⟨rfl, rfl, hch9⟩
      exact ⟨.tuple #[.bool false, .int .i64 0], by simp [results, Tryz.f34, go_sem], rfl, (HK5.out.no hcz).no hch9, (HC5.out.tr (Ch.ofNo B T U hcz)).tr (Ch.ofNo B T U hch9)⟩
set_option maxRecDepth 100000 in
set_option maxHeartbeats 4000000 in
theorem ask_now {r : Nat} {l' : List Int} (h : KS B T U tb m w) (hc : Cons m) (hi : i < 16) (ht : m.tk i = some t) (hr : r < 32) (hl : m.ls r = (i : Int) :: l') (hn : ∀ j, r < j → j < 32 → m.ls j = [])
    (hrk : t.rank < 32) (hon : t.on = false) (hwt0 : t.wait = false) (ha : 0 ≤ t.ans ∧ t.ans < 1000000000) (haw : Awake m i) (hcalm : Calm (m.setT i (KM.told t 0 0))) :
    Calls Tryz.prog 34 #[.pointer (some ⟨B + 69, 0, none⟩), askV 2 hh v mm 0] w fun e w' => e = .returned (.tuple #[.bool true, .int .i64 0]) ∧ KS B T U tb (m.setT i (KM.told t 0 0)) w' ∧ Ch (Sk B T U w) w w' := by
  have hbx0 : U + 3 ≤ w.heap.size := h.wait.2.2.1
  have hC0 : Ch No w (w.alloc (.cells #[.int .u8 2, .int .u32 hh, .int .u32 v, .int .u32 mm, .int .i64 0] 112)) := Ch.alloc w _
  have hb0 := Row.new w 112 #[.int .u8 2, .int .u32 hh, .int .u32 v, .int .u32 mm, .int .i64 0]
  have H0 := Lib.hid (h.no hC0)
  obtain ⟨W0, hW0⟩ : ∃ W0, W0 = w.alloc (.cells #[.int .u8 2, .int .u32 hh, .int .u32 v, .int .u32 mm, .int .i64 0] 112) := ⟨_, rfl⟩
  have HW0 := Lib.hid hW0
  rw [← hW0] at hC0 hb0 H0
  have HB0 := Lib.hid hb0
  have HCO := Lib.hid hc
  have HT := Lib.hid ht
  have HL := Lib.hid hl
  have HN := Lib.hid hn
  have HON := Lib.hid hon
  have HWT0 := Lib.hid hwt0
  have HAN := Lib.hid ha
  have HAW := Lib.hid haw
  have HCALM := Lib.hid hcalm
  have c1 := H0.out.cReady
  have hi1 : 0 ≤ (i : Int) ∧ (i : Int) < 16 := by omega
  clear h hc ht hl hn hon hwt0 ha haw hcalm hb0 hW0
  have hnf : ∀ W : World, (binOp .eql 211 (.func (.func 130) #[] #[]) .nilFunc).run Tryz.prog W = .ok (.bool false) W := fun _ => by kernel_rfl
  have hcf : ∀ (args : Array Value) (W : World), (callFunc 130 args).run Tryz.prog W = .ok (.enter 130 args) W := fun _ _ => by kernel_rfl
  unfold askV
  go_enter_defers Tryz.func34, Tryz.ntmps34
  go_wp2_with fail
  rw [← HW0.out]
  refine (kThere_any H0.out).mono ?_; rintro e w1 ⟨rfl, rfl⟩
  go_wp2_with fail
  refine (rqFirst_any _ B r m.ls m.rk i l' H0.out.ready hr HL.out HN.out).mono ?_; rintro e w1 ⟨rfl, hch1⟩
  have hk1 := H0.out.no hch1
  have hb1 := HB0.out.keeps hch1 (fun x => x)
  have HC1 : Hid (Ch (Sk B T U w) w w1) := Lib.hid (Ch.ofNo B T U (hC0.trans hch1))
  obtain ⟨bb, hbb⟩ : ∃ bb, bb = w.heap.size := ⟨_, rfl⟩
  rw [← hbb] at hb1 HB0 ⊢
  have d0 : w1.cell? ⟨bb, 0, none⟩ = some (.int .u8 2) := hb1.cell (j := 0) rfl
  have d1 : w1.cell? ⟨bb, 1, none⟩ = some (.int .u32 hh) := hb1.cell (j := 1) rfl
  have d2 : w1.cell? ⟨bb, 2, none⟩ = some (.int .u32 v) := hb1.cell (j := 2) rfl
  have d3 : w1.cell? ⟨bb, 3, none⟩ = some (.int .u32 mm) := hb1.cell (j := 3) rfl
  have d4 : w1.cell? ⟨bb, 4, none⟩ = some (.int .i64 0) := hb1.cell (j := 4) rfl
  have d5 := hk1.cTask hi HT.out
  have HK1 := Lib.hid hk1
  have HB1 := Lib.hid hb1
  have hx : U + 3 ≤ w1.heap.size := hk1.wait.2.2.1
  have hbx : U + 3 ≤ bb := by rw [hbb]; exact hbx0
  have HBB := Lib.hid hbb
  clear hk1 hb1 hch1 c1 hC0 hbb
  go_wp2_with fail
  go_region_held3 (fun wx => wx.cell? ⟨bb, 0, none⟩ = some (.int .u8 2) ∧ wx.cell? ⟨bb, 1, none⟩ = some (.int .u32 hh) ∧ wx.cell? ⟨bb, 2, none⟩ = some (.int .u32 v) ∧ wx.cell? ⟨bb, 3, none⟩ = some (.int .u32 mm) ∧ wx.cell? ⟨bb, 4, none⟩ = some (.int .i64 0) ∧ wx.cell? ⟨B + 69, 4 + i, none⟩ = some (.pointer (some ⟨tb i, 0, none⟩))) (go_keep) (fail)
  all_goals
    have hA := Row.new w1 208 #[.pointer (some ⟨B + 69, 0, none⟩), .int .i64 i, .pointer (some ⟨tb i, 0, none⟩), .int .u8 2, .int .u32 hh, .int .u32 v, .int .u32 mm, .int .i64 0, .int .i64 0]
    have hcA : Ch No w1 (w1.alloc (.cells #[.pointer (some ⟨B + 69, 0, none⟩), .int .i64 i, .pointer (some ⟨tb i, 0, none⟩), .int .u8 2, .int .u32 hh, .int .u32 v, .int .u32 mm, .int .i64 0, .int .i64 0] 208)).drew := (Ch.alloc w1 _).trans (Ch.drewN _ 1)
    have hne : bb ≠ w1.heap.size := by have := HB1.out.lt; omega
    have HA2 : Hid (AK w1.heap.size B i tb 2 hh v mm 0 0 (w1.alloc (.cells #[.pointer (some ⟨B + 69, 0, none⟩), .int .i64 i, .pointer (some ⟨tb i, 0, none⟩), .int .u8 2, .int .u32 hh, .int .u32 v, .int .u32 mm, .int .i64 0, .int .i64 0] 208)).drew) := Lib.hid (hA.drewN 1)
    obtain ⟨xb, hxb⟩ : ∃ xb, xb = w1.heap.size := ⟨_, rfl⟩
    have HXB := Lib.hid hxb
    obtain ⟨W2, hW2⟩ : ∃ W2, W2 = (w1.alloc (.cells #[.pointer (some ⟨B + 69, 0, none⟩), .int .i64 i, .pointer (some ⟨tb i, 0, none⟩), .int .u8 2, .int .u32 hh, .int .u32 v, .int .u32 mm, .int .i64 0, .int .i64 0] 208)).drew := ⟨_, rfl⟩
    rw [← hW2, ← hxb] at HA2 ⊢
    rw [← hxb] at hne hx
    rw [← hW2] at hcA
    have HK2 := Lib.hid (HK1.out.no hcA)
    have HB2 := Lib.hid (HB1.out.keeps hcA (fun x => x))
    have HC2 : Hid (Ch (Sk B T U w) w W2) := Lib.hid (HC1.out.tr (Ch.ofNo B T U hcA))
    have hwx : w.heap.size ≤ xb := by rw [hxb]; exact HC1.out.size
    clear hA hcA hxb hW2 d0 d1 d2 d3 d4 d5
    go_wp2_with fail
    refine (of_two HA2.out).mono ?_; rintro e w3 ⟨rfl, rfl⟩
    have d0 : W2.cell? ⟨bb, 0, none⟩ = some (.int .u8 2) := HB2.out.cell (j := 0) rfl
    go_wp2_with fail
    go_region_held3 (fun wx => wx.cell? ⟨bb, 0, none⟩ = some (.int .u8 2)) (first | assumption | go_keep) (first
      | (go_at_call 71; refine (deeds_any _).mono ?_; rintro e w4 ⟨rfl, rfl⟩
         have hdl := deed_sleep (W2.alloc (.map deedsArr 6)).drew W2.heap.size (MapKept.heap_alloc W2 _).1))
    all_goals
      have hc4 : Ch No W2 (W2.alloc (.map deedsArr 6)).drew := (Ch.alloc W2 _).trans (Ch.drewN _ 1)
      obtain ⟨W4, hW4⟩ : ∃ W4, W4 = (W2.alloc (.map deedsArr 6)).drew := ⟨_, rfl⟩
      rw [← hW4] at hc4 hdl ⊢
      have HA4 := Lib.hid (HA2.out.keeps hc4 (fun x => x))
      have HK4 := Lib.hid (HK2.out.no hc4)
      have HB4 := Lib.hid (HB2.out.keeps hc4 (fun x => x))
      have HC4 := Lib.hid (HC2.out.tr (Ch.ofNo B T U hc4))
      clear hdl hW4 hc4 d0
      go_wp2_with fail
      refine (sleep_now HA4.out (Row.lt HA4.out)).mono ?_; rintro e w5 ⟨rfl, hch5⟩
      have hk5 := HK4.out.no hch5
      have hR6 := Row.new w5 216 #[.bool false, .int .i64 0, .int .u32 0]
      have hA5 := HA4.out.keeps hch5 (fun x => x)
      have hrb : U + 3 ≤ w5.heap.size := hk5.wait.2.2.1
      have hc6 : Ch No w5 (w5.alloc (.cells #[.bool false, .int .i64 0, .int .u32 0] 216)) := Ch.alloc w5 _
      have HR6 := Lib.hid hR6
      have HK6 := Lib.hid (hk5.no hc6)
      have HC6 := Lib.hid ((HC4.out.tr (Ch.ofNo B T U hch5)).tr (Ch.ofNo B T U hc6))
      obtain ⟨W6, hW6⟩ : ∃ W6, W6 = w5.alloc (.cells #[.bool false, .int .i64 0, .int .u32 0] 216) := ⟨_, rfl⟩
      obtain ⟨rb, hrbe⟩ : ∃ rb, rb = w5.heap.size := ⟨_, rfl⟩
      have HW6 := Lib.hid hW6
      have HRBE := Lib.hid hrbe
      rw [← hW6] at HR6 HK6 HC6
      rw [← hrbe] at HR6 hrb
      clear hR6 hA5 hc6 hW6 hrbe hk5 hch5
      have g0 : W6.cell? ⟨rb, 0, none⟩ = some (.bool false) := HR6.out.cell (j := 0) rfl
      have g1 : W6.cell? ⟨rb, 1, none⟩ = some (.int .i64 0) := HR6.out.cell (j := 1) rfl
      have g2 : W6.cell? ⟨rb, 2, none⟩ = some (.int .u32 0) := HR6.out.cell (j := 2) rfl
      go_wp2_with fail
      rw [← HW6.out, ← HRBE.out]
      refine (answers_any 0 0 HK6.out HCO.out hi HT.out hrk (fun e => absurd (HON.out.symm.trans e) (by decide)) HAW.out HAN.out).mono ?_; rintro e w7 ⟨rfl, hk7, hch7⟩
      have hk7' : KS B T U tb (m.setT i (KM.told t 0 0)) w7 := by
        have he : m.answers i t 0 0 = m.setT i (KM.told t 0 0) := by unfold KM.answers; rw [HWT0.out]; rfl
        rw [he] at hk7; exact hk7
      have HR7 := Lib.hid (HR6.out.keeps hch7 (skNot hrb (by decide) HR6.out))
      have HK7 := Lib.hid hk7'
      have HC7 := Lib.hid (HC6.out.tr hch7)
      clear hk7 hk7' hch7 g0 g1 g2
      have g1 : w7.cell? ⟨rb, 1, none⟩ = some (.int .i64 0) := HR7.out.cell (j := 1) rfl
      go_wp2_with fail
      go_quiet (fail)
      go_wp2_with fail
      refine leaves_cons (f := 57) (args := #[.pointer (some ⟨B + 69, 0, none⟩)]) (by simp) (by simp [go_sem]) ?_
      refine (anew_deferred .returning (HK7.out.drewN nq) HCALM.out).mono ?_
      rintro e u' w9 ⟨rfl, rfl, hch9⟩
      exact ⟨.tuple #[.bool true, .int .i64 0], by simp [results, Tryz.f34, go_sem], rfl, (HK7.out.drewN nq).no hch9, (HC7.out.tr (Ch.ofNo B T U (Ch.drewN w7 nq))).tr (Ch.ofNo B T U hch9)⟩
end
end Go.Proofs.YtcngfaggignmpaaGreatDoor
