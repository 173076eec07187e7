/-
  The top, part 14: AnewD, Ask, AskWait.
-/
import Derived.Test.YtcngfaggignmpaaGreatDoorS10
import Derived.Test.YtcngfaggignmpaaGreatDoorS13
import Derived.Defers

/-
  The kernel: all ranks are told anew, as a deferred call.
-/
namespace Go.Proofs.YtcngfaggignmpaaGreatDoor
open Go.RowKit

section
variable {B T U : Nat} {tb : Nat → Nat} {m : KM} {w : World}
set_option maxRecDepth 100000 in
set_option maxHeartbeats 4000000 in
theorem anew_deferred (u : FrameMode) (h : KS B T U tb m w) (hm : Calm m) :
    CallsD Tryz.prog 57 #[.pointer (some ⟨B + 69, 0, none⟩)] u w fun e u' w' => u' = u ∧ e = .returned (.tuple #[]) ∧ Ch No w w' := by
  obtain ⟨Z, hs, hz, hmk⟩ := mk16
  have H := Lib.hid h
  have HM := Lib.hid hm
  have h6 : Six w.heap.size (fun _ => 0) (w.alloc (.cells Z 3)) := ⟨Z, Row.new w 3 Z, hs, hz⟩
  have H6 := Lib.hid h6
  have H1 := Lib.hid (h.no (Ch.alloc w (.cells Z 3)))
  clear h hm hs hz h6
  go_enter_d Tryz.func57, Tryz.ntmps57
  go_wp2_with (first | (refine wpList_load_mid rfl 90 _ rfl (B + 69) 4 rfl (tarr tb m) _ H1.out.tRange Tryz.underlying90 rfl (by rw [info90]; simp [tarr]) ?_))
  obtain ⟨g, hg⟩ : ∃ g, g = w.heap.size := ⟨_, rfl⟩
  have HG := Lib.hid hg
  rw [← hg] at H6 ⊢
  clear hg hmk
  go_loopw [3, 4, 16] (fun _ _ i wr => ∃ k : Nat, k ≤ 16 ∧ i = .int .i64 (k : Int) ∧ (∃ f, Six g f wr ∧ ∀ j, j < 16 → f j = if j < k then rks m j else 0) ∧ Ch No w wr) (fun _ _ i _ => 16 - (intOf i).toNat)
  case atStart => exact ⟨0, by omega, rfl, ⟨_, H6.out, fun j hj => by simp⟩, Ch.alloc w _⟩
  case round =>
    obtain ⟨k, hk, rfl, ⟨f, h6, hf⟩, hch⟩ := hrel
    by_cases hlt : k < 16
    · have hidx := tarr_index tb m k hlt
      obtain ⟨cs, r1, r2, r3⟩ := h6
      have c1 := r1.cell (r3 k hlt)
      have f1 := r1.free k
      have H6k : Hid (Six g f wr) := Lib.hid ⟨cs, r1, r2, r3⟩
      have HF := Lib.hid hf
      have hk1 : 0 ≤ (k : Int) ∧ (k : Int) < 16 := by omega
      have HCH := Lib.hid hch
      have HKS := Lib.hid (H.out.no hch)
      clear r1 r2 r3 hf hch
      cases htk : m.tk k with
      | none =>
        have hp : tptr tb m k = none := by unfold tptr; rw [htk]; rfl
        have HFIN : Hid (∃ f', Six g f' wr ∧ ∀ j, j < 16 → f' j = if j < k + 1 then rks m j else 0) := Lib.hid ⟨f, H6k.out, fun j hj => by
          rw [HF.out j hj]
          by_cases e : j = k
          · subst e
            rw [if_neg (by omega), if_pos (by omega)]
            unfold rks
            rw [htk]
          · by_cases e2 : j < k
            · rw [if_pos e2, if_pos (by omega)]
            · rw [if_neg e2, if_neg (by omega)]⟩
        rw [hp] at hidx
        clear hp c1 f1
        go_wp2_with fail
        go_roundw
        case rel => exact ⟨k + 1, by omega, by go_num, HFIN.out, HCH.out⟩
        case measure => simp [intOf]; omega
      | some t =>
        have hp : tptr tb m k = some ⟨tb k, 0, none⟩ := by unfold tptr; rw [htk]; rfl
        rw [hp] at hidx
        have hne : tb k ≠ g := by have := (H.out.task k t hlt htk).lt; have := HG.out; omega
        have hne2 : g ≠ tb k := fun e => hne e.symm
        have d1 := HKS.out.tCell hlt htk (tcells_state k U t)
        have d2 : wr.cell? ⟨tb k, 3, none⟩ = some (.int .i64 t.rank) := HKS.out.tCell hlt htk (j := 3) rfl
        have e1 : ((if t.wait then (2 : Int) else 1) != 3) = true := by cases t.wait <;> rfl
        have hfin := H6k.out.set hlt (t.rank : Int)
        have HFIN : Hid (∃ f', Six g f' (wr.setCell ⟨g, k, none⟩ (.int .i64 t.rank)) ∧ ∀ j, j < 16 → f' j = if j < k + 1 then rks m j else 0) := Lib.hid ⟨_, hfin, fun j hj => by
          by_cases e : j = k
          · subst e
            rw [upd_at, if_pos (by omega)]
            unfold rks
            rw [htk]
          · rw [upd_ne _ _ e, HF.out j hj]
            by_cases e2 : j < k
            · rw [if_pos e2, if_pos (by omega)]
            · rw [if_neg e2, if_neg (by omega)]⟩
        have HCF : Hid (Ch No w (wr.setCell ⟨g, k, none⟩ (.int .i64 t.rank))) := Lib.hid (HCH.out.trans' (Ch.set1 wr g k _) (fun x hx e => by rw [HG.out] at e; omega))
        clear hp htk hfin
        generalize (if t.wait then (2 : Int) else 1) = st at d1 e1
        go_wp2_with fail
        go_roundw
        case rel => exact ⟨k + 1, by omega, by go_num, HFIN.out, HCF.out⟩
        case measure => simp [intOf]; omega
    · obtain rfl : k = 16 := by omega
      have hf6 : Six g (rks m) wr := by
        obtain ⟨cs, r1, r2, r3⟩ := h6
        exact ⟨cs, r1, r2, fun j hj => by rw [r3 j hj, hf j hj, if_pos hj]⟩
      have HF6 := Lib.hid hf6
      have HCH := Lib.hid hch
      have HKS := Lib.hid (H.out.no hch)
      clear hf6 h6 hf hch
      go_wp2_with fail
      refine (whom_any HKS.out (fun i t hi ht ho => (HM.out i t hi ht).2 ho)).mono ?_; rintro e w2 ⟨rfl, h7, hch2⟩
      have hg2 := HF6.out.keeps hch2 (fun x => x)
      have hgc : ∀ j, j < 16 → w2.cell? ⟨g, j, none⟩ = some (.int .i64 (rks m j)) := fun j hj => by obtain ⟨cs, r1, r2, r3⟩ := hg2; exact r1.cell (r3 j hj)
      have huc : ∀ j, j < 16 → w2.cell? ⟨wr.heap.size, j, none⟩ = some (.int .i64 (-1)) := fun j hj => by obtain ⟨cs, r1, r2, r3⟩ := h7; exact r1.cell (r3 j hj)
      have HGC := Lib.hid hgc
      have HUC := Lib.hid huc
      have HC2 := Lib.hid (HCH.out.trans hch2)
      clear hg2 hgc huc h7 hch2
      go_wp2_with fail
      refine (ranks_any w2 g wr.heap.size 16 16 (rks m) (fun j hj => by
        unfold rks
        cases e : m.tk j with
        | none => simp
        | some t => have := (HM.out j t hj e).1; simp; omega) HGC.out HUC.out).mono ?_; rintro e w3 ⟨⟨g2, rfl, hge, cs, hrow, hcs⟩, hch3⟩
      have HK3 := Lib.hid (H.out.no (HC2.out.trans hch3))
      have HC3 := Lib.hid (HC2.out.trans hch3)
      have HROW := Lib.hid hrow
      have HCS := Lib.hid hcs
      clear hrow hcs hch3
      go_wp2_with (first | (refine wpList_load_mid rfl 90 _ rfl (B + 69) 4 rfl (tarr tb m) _ HK3.out.tRange Tryz.underlying90 rfl (by rw [info90]; simp [tarr]) ?_))
      go_loopw [7, 8, 50] (fun _ _ i wx => ∃ k : Nat, k ≤ 16 ∧ i = .int .i64 (k : Int) ∧ ∃ q, wx = w3.drewN q) (fun _ _ i _ => 16 - (intOf i).toNat)
      case atStart => exact ⟨0, by omega, rfl, 0, rfl⟩
      case round =>
        obtain ⟨k, hk, rfl, q, rfl⟩ := hrel
        by_cases hlt : k < 16
        · have hidx := tarr_index tb m k hlt
          have hk1 : 0 ≤ (k : Int) ∧ (k : Int) < 16 := by omega
          have c1 := HROW.out.cell (HCS.out k hlt)
          unfold rks at c1
          cases htk : m.tk k with
          | none =>
            have hp : tptr tb m k = none := by unfold tptr; rw [htk]; rfl
            rw [hp] at hidx
            clear hp c1
            go_wp2_with fail
            go_quiet (fail)
            go_wp2_with fail
            go_roundw
            case rel => exact ⟨k + 1, by omega, by go_num, _, rfl⟩
            case measure => simp [intOf]; omega
          | some t =>
            have hp : tptr tb m k = some ⟨tb k, 0, none⟩ := by unfold tptr; rw [htk]; rfl
            rw [hp] at hidx
            rw [htk] at c1
            dsimp only at c1
            have d1 := HK3.out.tCell hlt htk (tcells_state k U t)
            have d2 := HK3.out.tCell hlt htk (tcells_rank k U t)
            have e1 : ((if t.wait then (2 : Int) else 1) == 3) = false := by cases t.wait <;> rfl
            clear hp htk
            generalize (if t.wait then (2 : Int) else 1) = st at d1 e1
            go_wp2_with fail
            go_quiet (fail)
            go_wp2_with fail
            go_roundw
            case rel => exact ⟨k + 1, by omega, by go_num, _, rfl⟩
            case measure => simp [intOf]; omega
        · obtain rfl : k = 16 := by omega
          go_wp2_with fail
          go_end0
          exact ⟨rfl, HC3.out.trans (Ch.drewN _ _)⟩
end
end Go.Proofs.YtcngfaggignmpaaGreatDoor

/-
  The kernel: Ask, of the row, answered at once.
-/
namespace Go.Proofs.YtcngfaggignmpaaGreatDoor
open Go.RowKit

/-- Who waits may be served: nobody, or one that asks of the row. -/
def Svd (m : KM) : Prop := m.wl = none ∨ ∃ (j r : Nat) (t : TM), j < 16 ∧ m.wl = some (j, r) ∧ m.tk j = some t ∧ t.rank < 32 ∧ t.on = true ∧ t.wait = true ∧ (t.what = 7 ∨ t.what = 9) ∧ 0 ≤ t.ans ∧ t.ans < 1000000000

section
variable {B T U : Nat} {tb : Nat → Nat} {m : KM} {w : World} {i r : Nat} {t : TM} {what v mm wt : Int}
theorem skNot {ty : TypeId} {cs : Array Value} {p : Nat} (hp : U + 3 ≤ p) (hty : ty ≠ 127 ∧ ty ≠ 289) (r : Row p ty cs w) : ¬ Sk B T U w p := fun s => by
  rcases s with ⟨_, e⟩ | ⟨_, ty', cs', r', ht⟩
  · omega
  · rcases ht with rfl | rfl
    · exact hty.1 (r.ty r')
    · exact hty.2 (r.ty r')
theorem serves_any (h : KS B T U tb m w) (hc : Cons m) (hs : ∀ j r, m.wl = some (j, r) → Awake m j) (hv : Svd m) :
    Calls Tryz.prog 73 #[.pointer (some ⟨B + 69, 0, none⟩), .pointer (some ⟨U + 2, 0, none⟩)] w fun e w' => e = .returned (.tuple #[]) ∧ KS B T U tb m.serves w' ∧ Ch (Sk B T U w) w w' := by
  rcases hv with h0 | ⟨j, q, u, hj, hw, ht, hr, hon, hwt, hwh, ha1, ha2⟩
  · refine (serves_nobody h h0).mono ?_
    rintro e w' ⟨rfl, hch⟩
    rw [KM.serves_none h0]
    exact ⟨rfl, h.no hch, Ch.ofNo B T U hch⟩
  · exact serves_one h hc hj hw ht hr hon hwt hwh ⟨ha1, ha2⟩ (hs _ _ hw)
theorem of_pg {xb : Nat} (hw : what = 7 ∨ what = 9) (h : KS B T U tb m w) (ha : AK xb B i tb what 256 v mm wt 0 w) (hx : U + 3 ≤ xb) :
    Calls Tryz.prog 69 #[.pointer (some ⟨xb, 0, none⟩)] w fun e w' => e = .returned (.tuple #[.bool true, .int .i64 0]) ∧ AK xb B i tb what 256 v mm wt 0 w' ∧ KS B T U tb m w' ∧ Ch (fun x => x = xb) w w' := by
  rcases hw with rfl | rfl
  · exact of_row 0 (by omega) rfl (fun j hj => by omega) rfl rfl rfl rfl rfl h ha hx
  · refine of_row 2 (by omega) rfl (fun j hj => ?_) rfl rfl rfl rfl rfl h ha hx
    match j, hj with
    | 0, _ => rfl
    | 1, _ => rfl
theorem deed_any (hw : what = 7 ∨ what = 9) (W : World) (b : Nat) (hb : W.heap[b]? = some (.map deedsArr 6)) : (Instr.lookup 212 (.map (some b)) (.int .u8 what) false).run Tryz.prog W = .ok .nilFunc W := by
  rcases hw with rfl | rfl
  · exact deed_put W b hb
  · exact deed_get W b hb

set_option maxRecDepth 100000 in
set_option maxHeartbeats 4000000 in
theorem ask_ok {x : Int} {l l' : List Int} (h : KS B T U tb m w) (hc : Cons m) (hi : i < 16) (ht : m.tk i = some t) (hr : r < 32) (hl : m.ls r = (i : Int) :: l') (hn : ∀ j, r < j → j < 32 → m.ls j = [])
    (hrk : t.rank < 32) (hon : t.on = false) (hwt0 : t.wait = false) (ha : 0 ≤ t.ans ∧ t.ans < 1000000000) (hs : Awake m i ∧ ∀ j r, m.wl = some (j, r) → Awake m j)
    (hw : what = 7 ∨ what = 9) (hwt : (wt == 0) = false) (hwm : decide (1073741824 < wt) = false) (htr : tryR m.most m.row what v = some (x, l))
    (hv : Svd (({ m with row := l } : KM).setT i (KM.told t 0 x))) (hcalm : Calm (({ m with row := l } : KM).setT i (KM.told t 0 x)).serves) :
    Calls Tryz.prog 34 #[.pointer (some ⟨B + 69, 0, none⟩), askV what 256 v mm wt] w fun e w' => e = .returned (.tuple #[.bool true, .int .i64 0]) ∧ KS B T U tb (({ m with row := l } : KM).setT i (KM.told t 0 x)).serves w' ∧ Ch (Sk B T U w) w w' := by
  have hbx0 : U + 3 ≤ w.heap.size := h.wait.2.2.1
  have hC0 : Ch No w (w.alloc (.cells #[.int .u8 what, .int .u32 256, .int .u32 v, .int .u32 mm, .int .i64 wt] 112)) := Ch.alloc w _
  have hb0 := Row.new w 112 #[.int .u8 what, .int .u32 256, .int .u32 v, .int .u32 mm, .int .i64 wt]
  have H0 := Lib.hid (h.no hC0)
  obtain ⟨W0, hW0⟩ : ∃ W0, W0 = w.alloc (.cells #[.int .u8 what, .int .u32 256, .int .u32 v, .int .u32 mm, .int .i64 wt] 112) := ⟨_, rfl⟩
  have HW0 := Lib.hid hW0
  rw [← hW0] at hC0 hb0 H0
  have HB0 := Lib.hid hb0
  have HCO := Lib.hid hc
  have HT := Lib.hid ht
  have HL := Lib.hid hl
  have HN := Lib.hid hn
  have HON := Lib.hid hon
  have HWT0 := Lib.hid hwt0
  have HS := Lib.hid hs
  have HW := Lib.hid hw
  have HTR := Lib.hid htr
  have HV := Lib.hid hv
  have HCALM := Lib.hid hcalm
  have HAN := Lib.hid ha
  have c1 := H0.out.cReady
  have a1 : decide (what < 1) = false := by rcases hw with rfl | rfl <;> rfl
  have a2 : decide (20 < what) = false := by rcases hw with rfl | rfl <;> rfl
  have a3 : (what == 20) = false := by rcases hw with rfl | rfl <;> rfl
  have hi1 : 0 ≤ (i : Int) ∧ (i : Int) < 16 := by omega
  clear h hc ht hl hn hon hwt0 hs hw htr hv hcalm ha hb0 hW0
  have hnf : ∀ W : World, (binOp .eql 211 .nilFunc .nilFunc).run Tryz.prog W = .ok (.bool true) W := fun _ => by kernel_rfl
  unfold askV
  go_enter_defers Tryz.func34, Tryz.ntmps34
  go_wp2_with fail
  rw [← HW0.out]
  refine (kThere_any H0.out).mono ?_; rintro e w1 ⟨rfl, rfl⟩
  go_wp2_with fail
  refine (rqFirst_any _ B r m.ls m.rk i l' H0.out.ready hr HL.out HN.out).mono ?_; rintro e w1 ⟨rfl, hch1⟩
  have hk1 := H0.out.no hch1
  have hb1 := HB0.out.keeps hch1 (fun x => x)
  have HC1 : Hid (Ch (Sk B T U w) w w1) := Lib.hid (Ch.ofNo B T U (hC0.trans hch1))
  obtain ⟨bb, hbb⟩ : ∃ bb, bb = w.heap.size := ⟨_, rfl⟩
  rw [← hbb] at hb1 HB0 ⊢
  have d0 : w1.cell? ⟨bb, 0, none⟩ = some (.int .u8 what) := hb1.cell (j := 0) rfl
  have d1 : w1.cell? ⟨bb, 1, none⟩ = some (.int .u32 256) := hb1.cell (j := 1) rfl
  have d2 : w1.cell? ⟨bb, 2, none⟩ = some (.int .u32 v) := hb1.cell (j := 2) rfl
  have d3 : w1.cell? ⟨bb, 3, none⟩ = some (.int .u32 mm) := hb1.cell (j := 3) rfl
  have d4 : w1.cell? ⟨bb, 4, none⟩ = some (.int .i64 wt) := hb1.cell (j := 4) rfl
  have d5 := hk1.cTask hi HT.out
  have HK1 := Lib.hid hk1
  have HB1 := Lib.hid hb1
  have hx : U + 3 ≤ w1.heap.size := hk1.wait.2.2.1
  have hbx : U + 3 ≤ bb := by rw [hbb]; exact hbx0
  have HBB := Lib.hid hbb
  clear hk1 hb1 hch1 c1 hC0 hbb
  go_wp2_with fail
  go_region_held3 (fun wx => wx.cell? ⟨bb, 0, none⟩ = some (.int .u8 what) ∧ wx.cell? ⟨bb, 1, none⟩ = some (.int .u32 256) ∧ wx.cell? ⟨bb, 2, none⟩ = some (.int .u32 v) ∧ wx.cell? ⟨bb, 3, none⟩ = some (.int .u32 mm) ∧ wx.cell? ⟨bb, 4, none⟩ = some (.int .i64 wt) ∧ wx.cell? ⟨B + 69, 4 + i, none⟩ = some (.pointer (some ⟨tb i, 0, none⟩))) (go_keep) (fail)
  all_goals
    have hA := Row.new w1 208 #[.pointer (some ⟨B + 69, 0, none⟩), .int .i64 i, .pointer (some ⟨tb i, 0, none⟩), .int .u8 what, .int .u32 256, .int .u32 v, .int .u32 mm, .int .i64 wt, .int .i64 0]
    have hcA : Ch No w1 (w1.alloc (.cells #[.pointer (some ⟨B + 69, 0, none⟩), .int .i64 i, .pointer (some ⟨tb i, 0, none⟩), .int .u8 what, .int .u32 256, .int .u32 v, .int .u32 mm, .int .i64 wt, .int .i64 0] 208)).drew := (Ch.alloc w1 _).trans (Ch.drewN _ 1)
    have hne : bb ≠ w1.heap.size := by have := HB1.out.lt; omega
    have HA2 : Hid (AK w1.heap.size B i tb what 256 v mm wt 0 (w1.alloc (.cells #[.pointer (some ⟨B + 69, 0, none⟩), .int .i64 i, .pointer (some ⟨tb i, 0, none⟩), .int .u8 what, .int .u32 256, .int .u32 v, .int .u32 mm, .int .i64 wt, .int .i64 0] 208)).drew) := Lib.hid (hA.drewN 1)
    obtain ⟨xb, hxb⟩ : ∃ xb, xb = w1.heap.size := ⟨_, rfl⟩
    have HXB := Lib.hid hxb
    obtain ⟨W2, hW2⟩ : ∃ W2, W2 = (w1.alloc (.cells #[.pointer (some ⟨B + 69, 0, none⟩), .int .i64 i, .pointer (some ⟨tb i, 0, none⟩), .int .u8 what, .int .u32 256, .int .u32 v, .int .u32 mm, .int .i64 wt, .int .i64 0] 208)).drew := ⟨_, rfl⟩
    rw [← hW2, ← hxb] at HA2 ⊢
    rw [← hxb] at hne hx
    rw [← hW2] at hcA
    have HK2 := Lib.hid (HK1.out.no hcA)
    have HB2 := Lib.hid (HB1.out.keeps hcA (fun x => x))
    have HC2 : Hid (Ch (Sk B T U w) w W2) := Lib.hid (HC1.out.tr (Ch.ofNo B T U hcA))
    have hwx : w.heap.size ≤ xb := by rw [hxb]; exact HC1.out.size
    clear hA hcA hxb hW2 d0 d1 d2 d3 d4 d5
    go_wp2_with fail
    refine (of_pg HW.out HK2.out HA2.out hx).mono ?_; rintro e w3 ⟨rfl, ha3, hk3, hch3⟩
    have hb3 := HB2.out.keeps hch3 hne
    have HA3 := Lib.hid ha3
    have HK3 := Lib.hid hk3
    have HB3 := Lib.hid hb3
    have HC3 : Hid (Ch (Sk B T U w) w w3) := Lib.hid (HC2.out.trans' hch3 (fun k hk e => by omega))
    have d0 : w3.cell? ⟨bb, 0, none⟩ = some (.int .u8 what) := hb3.cell (j := 0) rfl
    clear ha3 hk3 hb3 hch3
    go_wp2_with fail
    go_region_held3 (fun wx => wx.cell? ⟨bb, 0, none⟩ = some (.int .u8 what)) (first | assumption | go_keep) (first
      | (go_at_call 71; refine (deeds_any _).mono ?_; rintro e w4 ⟨rfl, rfl⟩
         have hdl := deed_any HW.out (w3.alloc (.map deedsArr 6)).drew w3.heap.size (MapKept.heap_alloc w3 _).1))
    all_goals
      have hc4 : Ch No w3 (w3.alloc (.map deedsArr 6)).drew := (Ch.alloc w3 _).trans (Ch.drewN _ 1)
      obtain ⟨W4, hW4⟩ : ∃ W4, W4 = (w3.alloc (.map deedsArr 6)).drew := ⟨_, rfl⟩
      rw [← hW4] at hc4 hdl ⊢
      have HA4 := Lib.hid (HA3.out.keeps hc4 (fun x => x))
      have HK4 := Lib.hid (HK3.out.no hc4)
      have HB4 := Lib.hid (HB3.out.keeps hc4 (fun x => x))
      have HC4 := Lib.hid (HC3.out.tr (Ch.ofNo B T U hc4))
      clear hdl hW4 hc4 d0
      go_wp2_with fail
      refine (shared_ok HK4.out hi HT.out HW.out hwt hwm HA4.out hx HTR.out).mono ?_; rintro e w5 ⟨rfl, hk5, hch5⟩
      have hR6 := Row.new w5 216 #[.bool false, .int .i64 0, .int .u32 x]
      have hA5 := HA4.out.keeps hch5 (AK.sk HA4.out hx)
      have hrb : U + 3 ≤ w5.heap.size := hk5.wait.2.2.1
      have hc6 : Ch No w5 (w5.alloc (.cells #[.bool false, .int .i64 0, .int .u32 x] 216)) := Ch.alloc w5 _
      have HR6 := Lib.hid hR6
      have HK6 := Lib.hid (hk5.no hc6)
      have HA6 := Lib.hid (hA5.keeps hc6 (fun x => x))
      have HC6 := Lib.hid ((HC4.out.tr hch5).tr (Ch.ofNo B T U hc6))
      obtain ⟨W6, hW6⟩ : ∃ W6, W6 = w5.alloc (.cells #[.bool false, .int .i64 0, .int .u32 x] 216) := ⟨_, rfl⟩
      obtain ⟨rb, hrbe⟩ : ∃ rb, rb = w5.heap.size := ⟨_, rfl⟩
      have HW6 := Lib.hid hW6
      have HRBE := Lib.hid hrbe
      rw [← hW6] at HR6 HK6 HA6 HC6
      rw [← hrbe] at HR6 hrb
      clear hR6 hA5 hc6 hW6 hrbe hk5 hch5
      have g0 : W6.cell? ⟨rb, 0, none⟩ = some (.bool false) := HR6.out.cell (j := 0) rfl
      have g1 : W6.cell? ⟨rb, 1, none⟩ = some (.int .i64 0) := HR6.out.cell (j := 1) rfl
      have g2 : W6.cell? ⟨rb, 2, none⟩ = some (.int .u32 x) := HR6.out.cell (j := 2) rfl
      go_wp2_with fail
      rw [← HW6.out, ← HRBE.out]
      refine (answers_any (m := { m with row := l }) 0 x HK6.out HCO.out hi HT.out hrk (fun e => absurd (HON.out.symm.trans e) (by decide)) HS.out.1 HAN.out).mono ?_; rintro e w7 ⟨rfl, hk7, hch7⟩
      have hk7' : KS B T U tb (({ m with row := l } : KM).setT i (KM.told t 0 x)) w7 := by
        have he : ({ m with row := l } : KM).answers i t 0 x = ({ m with row := l } : KM).setT i (KM.told t 0 x) := by unfold KM.answers; rw [HWT0.out]; rfl
        rw [he] at hk7; exact hk7
      have HR7 := Lib.hid (HR6.out.keeps hch7 (skNot hrb (by decide) HR6.out))
      have HA7 := Lib.hid (HA6.out.keeps hch7 (AK.sk HA6.out hx))
      have HK7 := Lib.hid hk7'
      have HC7 := Lib.hid (HC6.out.tr hch7)
      clear hk7 hk7' hch7 g0 g1 g2
      have g1 : w7.cell? ⟨rb, 1, none⟩ = some (.int .i64 0) := HR7.out.cell (j := 1) rfl
      have g8 : w7.cell? ⟨xb, 8, none⟩ = some (.int .i64 0) := Row.cell HA7.out (j := 8) rfl
      have g20 := HK7.out.cThing
      go_wp2_with fail
      go_region_held3 (fun wx => wx.cell? ⟨xb, 8, none⟩ = some (.int .i64 0) ∧ wx.cell? ⟨B + 69, 20, none⟩ = some (.pointer (some ⟨U + 2, 0, none⟩))) (first | exact ⟨by assumption, by assumption⟩) (first
        | (go_at_call 73; refine (serves_any (HK7.out.drewN 1) HCO.out HS.out.2 HV.out).mono ?_; rintro e w8 ⟨rfl, hk8, hch8⟩
           have HR8 := Lib.hid ((HR7.out.drewN 1).keeps hch8 (skNot hrb (by decide) (HR7.out.drewN 1)))
           have hA8 := (HA7.out.keeps (S := No) (Ch.drewN w7 1) (fun x => x)).keeps hch8 (AK.sk (HA7.out.keeps (S := No) (Ch.drewN w7 1) (fun x => x)) hx)
           have p8 : w8.cell? ⟨xb, 8, none⟩ = some (.int .i64 0) := Row.cell hA8 (j := 8) rfl
           have p20 := hk8.cThing
           have HK8 := Lib.hid hk8
           have HC8 := Lib.hid ((HC7.out.tr (Ch.ofNo B T U (Ch.drewN w7 1))).tr hch8)
           clear hk8 hch8 hA8))
      all_goals
        have q1 : w8.cell? ⟨rb, 1, none⟩ = some (.int .i64 0) := HR8.out.cell (j := 1) rfl
        clear g1 g8 g20 p8 p20
        go_wp2_with fail
        go_quiet (fail)
        go_wp2_with fail
        refine leaves_cons (f := 57) (args := #[.pointer (some ⟨B + 69, 0, none⟩)]) (by simp) (by simp [go_sem]) ?_
        refine (anew_deferred .returning (HK8.out.drewN nq) HCALM.out).mono ?_
        rintro e u' w9 ⟨rfl, rfl, hch9⟩
        exact ⟨.tuple #[.bool true, .int .i64 0], by simp [results, Tryz.f34, go_sem], rfl, (HK8.out.drewN nq).no hch9, (HC8.out.tr (Ch.ofNo B T U (Ch.drewN w8 nq))).tr (Ch.ofNo B T U hch9)⟩
end
end Go.Proofs.YtcngfaggignmpaaGreatDoor

/-
  The kernel: Ask, of the row, that is waited for.
-/
namespace Go.Proofs.YtcngfaggignmpaaGreatDoor
open Go.RowKit

section
variable {B T U : Nat} {tb : Nat → Nat} {m : KM} {w : World} {i r : Nat} {t : TM} {what v mm : Int}
set_option maxRecDepth 100000 in
set_option maxHeartbeats 4000000 in
theorem ask_wait {l' : List Int} (h : KS B T U tb m w) (hc : Cons m) (hi : i < 16) (ht : m.tk i = some t) (hr : r < 32) (hl : m.ls r = (i : Int) :: l') (hn : ∀ j, r < j → j < 32 → m.ls j = [])
    (hrk : t.rank < 32)
    (hw : what = 7 ∨ what = 9) (htr : tryR m.most m.row what v = none) (hwl : m.wl = none) (hcalm : Calm (m.waits i t what 256 v mm)) :
    Calls Tryz.prog 34 #[.pointer (some ⟨B + 69, 0, none⟩), askV what 256 v mm (-1)] w fun e w' => e = .returned (.tuple #[.bool false, .int .i64 0]) ∧ KS B T U tb (m.waits i t what 256 v mm) w' ∧ Ch (Sk B T U w) w w' := by
  have hbx0 : U + 3 ≤ w.heap.size := h.wait.2.2.1
  have hC0 : Ch No w (w.alloc (.cells #[.int .u8 what, .int .u32 256, .int .u32 v, .int .u32 mm, .int .i64 (-1)] 112)) := Ch.alloc w _
  have hb0 := Row.new w 112 #[.int .u8 what, .int .u32 256, .int .u32 v, .int .u32 mm, .int .i64 (-1)]
  have H0 := Lib.hid (h.no hC0)
  obtain ⟨W0, hW0⟩ : ∃ W0, W0 = w.alloc (.cells #[.int .u8 what, .int .u32 256, .int .u32 v, .int .u32 mm, .int .i64 (-1)] 112) := ⟨_, rfl⟩
  have HW0 := Lib.hid hW0
  rw [← hW0] at hC0 hb0 H0
  have HB0 := Lib.hid hb0
  have HCO := Lib.hid hc
  have HT := Lib.hid ht
  have HL := Lib.hid hl
  have HN := Lib.hid hn
  have HW := Lib.hid hw
  have HTR := Lib.hid htr
  have HWL := Lib.hid hwl
  have HCALM := Lib.hid hcalm
  have c1 := H0.out.cReady
  have a1 : decide (what < 1) = false := by rcases hw with rfl | rfl <;> rfl
  have a2 : decide (20 < what) = false := by rcases hw with rfl | rfl <;> rfl
  have a3 : (what == 20) = false := by rcases hw with rfl | rfl <;> rfl
  have hi1 : 0 ≤ (i : Int) ∧ (i : Int) < 16 := by omega
  clear h hc ht hl hn hw htr hwl hcalm hb0 hW0
  have hnf : ∀ W : World, (binOp .eql 211 .nilFunc .nilFunc).run Tryz.prog W = .ok (.bool true) W := fun _ => by kernel_rfl
  unfold askV
  go_enter_defers Tryz.func34, Tryz.ntmps34
  go_wp2_with fail
  rw [← HW0.out]
  refine (kThere_any H0.out).mono ?_; rintro e w1 ⟨rfl, rfl⟩
  go_wp2_with fail
  refine (rqFirst_any _ B r m.ls m.rk i l' H0.out.ready hr HL.out HN.out).mono ?_; rintro e w1 ⟨rfl, hch1⟩
  have hk1 := H0.out.no hch1
  have hb1 := HB0.out.keeps hch1 (fun x => x)
  have HC1 : Hid (Ch (Sk B T U w) w w1) := Lib.hid (Ch.ofNo B T U (hC0.trans hch1))
  obtain ⟨bb, hbb⟩ : ∃ bb, bb = w.heap.size := ⟨_, rfl⟩
  rw [← hbb] at hb1 HB0 ⊢
  have d0 : w1.cell? ⟨bb, 0, none⟩ = some (.int .u8 what) := hb1.cell (j := 0) rfl
  have d1 : w1.cell? ⟨bb, 1, none⟩ = some (.int .u32 256) := hb1.cell (j := 1) rfl
  have d2 : w1.cell? ⟨bb, 2, none⟩ = some (.int .u32 v) := hb1.cell (j := 2) rfl
  have d3 : w1.cell? ⟨bb, 3, none⟩ = some (.int .u32 mm) := hb1.cell (j := 3) rfl
  have d4 : w1.cell? ⟨bb, 4, none⟩ = some (.int .i64 (-1)) := hb1.cell (j := 4) rfl
  have d5 := hk1.cTask hi HT.out
  have HK1 := Lib.hid hk1
  have HB1 := Lib.hid hb1
  have hx : U + 3 ≤ w1.heap.size := hk1.wait.2.2.1
  have hbx : U + 3 ≤ bb := by rw [hbb]; exact hbx0
  have HBB := Lib.hid hbb
  clear hk1 hb1 hch1 c1 hC0 hbb
  go_wp2_with fail
  go_region_held3 (fun wx => wx.cell? ⟨bb, 0, none⟩ = some (.int .u8 what) ∧ wx.cell? ⟨bb, 1, none⟩ = some (.int .u32 256) ∧ wx.cell? ⟨bb, 2, none⟩ = some (.int .u32 v) ∧ wx.cell? ⟨bb, 3, none⟩ = some (.int .u32 mm) ∧ wx.cell? ⟨bb, 4, none⟩ = some (.int .i64 (-1)) ∧ wx.cell? ⟨B + 69, 4 + i, none⟩ = some (.pointer (some ⟨tb i, 0, none⟩))) (go_keep) (fail)
  all_goals
    have hA := Row.new w1 208 #[.pointer (some ⟨B + 69, 0, none⟩), .int .i64 i, .pointer (some ⟨tb i, 0, none⟩), .int .u8 what, .int .u32 256, .int .u32 v, .int .u32 mm, .int .i64 (-1), .int .i64 0]
    have hcA : Ch No w1 (w1.alloc (.cells #[.pointer (some ⟨B + 69, 0, none⟩), .int .i64 i, .pointer (some ⟨tb i, 0, none⟩), .int .u8 what, .int .u32 256, .int .u32 v, .int .u32 mm, .int .i64 (-1), .int .i64 0] 208)).drew := (Ch.alloc w1 _).trans (Ch.drewN _ 1)
    have hne : bb ≠ w1.heap.size := by have := HB1.out.lt; omega
    have HA2 : Hid (AK w1.heap.size B i tb what 256 v mm (-1) 0 (w1.alloc (.cells #[.pointer (some ⟨B + 69, 0, none⟩), .int .i64 i, .pointer (some ⟨tb i, 0, none⟩), .int .u8 what, .int .u32 256, .int .u32 v, .int .u32 mm, .int .i64 (-1), .int .i64 0] 208)).drew) := Lib.hid (hA.drewN 1)
    obtain ⟨xb, hxb⟩ : ∃ xb, xb = w1.heap.size := ⟨_, rfl⟩
    have HXB := Lib.hid hxb
    obtain ⟨W2, hW2⟩ : ∃ W2, W2 = (w1.alloc (.cells #[.pointer (some ⟨B + 69, 0, none⟩), .int .i64 i, .pointer (some ⟨tb i, 0, none⟩), .int .u8 what, .int .u32 256, .int .u32 v, .int .u32 mm, .int .i64 (-1), .int .i64 0] 208)).drew := ⟨_, rfl⟩
    rw [← hW2, ← hxb] at HA2 ⊢
    rw [← hxb] at hne hx
    rw [← hW2] at hcA
    have HK2 := Lib.hid (HK1.out.no hcA)
    have HB2 := Lib.hid (HB1.out.keeps hcA (fun x => x))
    have HC2 : Hid (Ch (Sk B T U w) w W2) := Lib.hid (HC1.out.tr (Ch.ofNo B T U hcA))
    have hwx : w.heap.size ≤ xb := by rw [hxb]; exact HC1.out.size
    clear hA hcA hxb hW2 d0 d1 d2 d3 d4 d5
    go_wp2_with fail
    refine (of_pg HW.out HK2.out HA2.out hx).mono ?_; rintro e w3 ⟨rfl, ha3, hk3, hch3⟩
    have hb3 := HB2.out.keeps hch3 hne
    have HA3 := Lib.hid ha3
    have HK3 := Lib.hid hk3
    have HB3 := Lib.hid hb3
    have HC3 : Hid (Ch (Sk B T U w) w w3) := Lib.hid (HC2.out.trans' hch3 (fun k hk e => by omega))
    have d0 : w3.cell? ⟨bb, 0, none⟩ = some (.int .u8 what) := hb3.cell (j := 0) rfl
    clear ha3 hk3 hb3 hch3
    go_wp2_with fail
    go_region_held3 (fun wx => wx.cell? ⟨bb, 0, none⟩ = some (.int .u8 what)) (first | assumption | go_keep) (first
      | (go_at_call 71; refine (deeds_any _).mono ?_; rintro e w4 ⟨rfl, rfl⟩
         have hdl := deed_any HW.out (w3.alloc (.map deedsArr 6)).drew w3.heap.size (MapKept.heap_alloc w3 _).1))
    all_goals
      have hc4 : Ch No w3 (w3.alloc (.map deedsArr 6)).drew := (Ch.alloc w3 _).trans (Ch.drewN _ 1)
      obtain ⟨W4, hW4⟩ : ∃ W4, W4 = (w3.alloc (.map deedsArr 6)).drew := ⟨_, rfl⟩
      rw [← hW4] at hc4 hdl ⊢
      have HA4 := Lib.hid (HA3.out.keeps hc4 (fun x => x))
      have HK4 := Lib.hid (HK3.out.no hc4)
      have HB4 := Lib.hid (HB3.out.keeps hc4 (fun x => x))
      have HC4 := Lib.hid (HC3.out.tr (Ch.ofNo B T U hc4))
      clear hdl hW4 hc4 d0
      go_wp2_with fail
      refine (shared_wait HK4.out HCO.out hrk HWL.out hi HT.out HW.out HA4.out hx HTR.out).mono ?_; rintro e w5 ⟨rfl, hk5, hch5⟩
      have HK5 := Lib.hid hk5
      have HC5 := Lib.hid (HC4.out.tr hch5)
      clear hk5 hch5
      go_wp2_with fail
      refine leaves_cons (f := 57) (args := #[.pointer (some ⟨B + 69, 0, none⟩)]) (by simp) (by simp [go_sem]) ?_
      have hcz : Ch No w5 (w5.alloc (.cells #[.bool true, .int .i64 0, .int .u32 0] 216)) := Ch.alloc w5 _
      refine (anew_deferred .returning (HK5.out.no hcz) HCALM.out).mono ?_
      rintro e u' w9 ⟨rfl, rfl, hch9⟩
      exact ⟨.tuple #[.bool false, .int .i64 0], by simp [results, Tryz.f34, go_sem], rfl, (HK5.out.no hcz).no hch9, (HC5.out.tr (Ch.ofNo B T U hcz)).tr (Ch.ofNo B T U hch9)⟩
end
end Go.Proofs.YtcngfaggignmpaaGreatDoor
