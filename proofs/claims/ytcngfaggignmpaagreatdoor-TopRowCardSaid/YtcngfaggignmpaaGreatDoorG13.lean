/-
  The top, part 13: Answers, Whom, Anew.
-/
import Derived.Test.YtcngfaggignmpaaGreatDoorG11
import Derived.Deep.MidRow

/-
  The kernel: answers.
-/
namespace Go.Proofs.YtcngfaggignmpaaGreatDoor
open Go.RowKit

section
variable {B T U : Nat} {tb : Nat → Nat} {m : KM} {w : World} {i : Nat} {t : TM}
theorem told_cells (U i : Nat) (t : TM) (e v : Int) : ((((tcells i t U).setIfInBounds 11 (.int .i64 (t.ans + 1))).setIfInBounds 12 (.int .i64 e)).setIfInBounds 13 (.int .u32 v)) = tcells i (KM.told t e v) U := by
  cases h : t.wait <;> simp [tcells, KM.told, h]
theorem freed_cells (U i : Nat) (t : TM) : (tcells i (KM.cut t) U).setIfInBounds 1 (.int .u8 1) = tcells i (KM.freed t) U := by
  simp [tcells, KM.cut, KM.freed]
theorem told_row {p : Nat} {e v : Int} (h : Row p 127 (tcells i t U) w) : Row p 127 (tcells i (KM.told t e v) U) (((w.setCell ⟨p, 11, none⟩ (.int .i64 (t.ans + 1))).setCell ⟨p, 12, none⟩ (.int .i64 e)).setCell ⟨p, 13, none⟩ (.int .u32 v)) := by
  have := ((h.set 11 (.int .i64 (t.ans + 1))).set 12 (.int .i64 e)).set 13 (.int .u32 v)
  rw [told_cells] at this
  exact this
theorem told_ch (w : World) (p : Nat) (a e v : Value) : Ch (fun k => k = p) w (((w.setCell ⟨p, 11, none⟩ a).setCell ⟨p, 12, none⟩ e).setCell ⟨p, 13, none⟩ v) := ((Ch.set1 w p _ _).trans (Ch.set1 _ p _ _)).trans (Ch.set1 _ p _ _)
theorem KM.setT_tk (m : KM) (i : Nat) (t : TM) : (m.setT i t).tk i = some t := upd_at _ _ _

set_option maxRecDepth 100000 in
set_option maxHeartbeats 4000000 in
theorem answers_any (e v : Int) (h : KS B T U tb m w) (hc : Cons m) (hi : i < 16) (ht : m.tk i = some t) (hr : t.rank < 32) (hw : t.on = true → ∃ r, m.wl = some (i, r)) (hs : m.sl = []) (ha : 0 ≤ t.ans ∧ t.ans < 1000000000) :
    Calls Tryz.prog 70 #[.pointer (some ⟨B + 69, 0, none⟩), .int .i64 i, .int .i64 e, .int .u32 v] w fun x w' => x = .returned (.tuple #[]) ∧ KS B T U tb (m.answers i t e v) w' ∧ Ch (Sk B T U w) w w' := by
  have H := Lib.hid h
  have HC := Lib.hid hc
  have HT := Lib.hid ht
  have HW := Lib.hid hw
  have HS := Lib.hid hs
  have c1 := h.cTask hi ht
  have hrow := h.task i t hi ht
  have c2 : w.cell? ⟨tb i, 11, none⟩ = some (.int .i64 t.ans) := hrow.cell (j := 11) rfl
  have c3 := hrow.cell (j := 12) rfl
  have c4 := hrow.cell (j := 13) rfl
  have f2 := hrow.free 11
  have f3 := hrow.free 12
  have f4 := hrow.free 13
  have HR := Lib.hid hrow
  have hi1 : 0 ≤ (i : Int) ∧ (i : Int) < 16 := by omega
  have hw64 : wrap64 (t.ans + 1) = t.ans + 1 := by unfold wrap64; omega
  have c5 := h.tCell hi ht (tcells_state i U t)
  have HA := Lib.hid ha
  clear h hc ht hw hs hrow ha
  cases hwait : t.wait
  · rw [hwait] at c5
    have HWT := Lib.hid hwait
    clear hwait
    go_enter Tryz.func70, Tryz.ntmps70
    go_wp2_with fail
    (try simp only [Exit.inBlock, Exit.then]); refine bodyPost_ret (results_none rfl _ _ _) rfl ?_
    have hfin := H.out.task' (told_ch w (tb i) (.int .i64 (t.ans + 1)) (.int .i64 e) (.int .u32 v)) hi HT.out (t' := KM.told t e v) (told_row HR.out)
    have he : m.answers i t e v = m.setT i (KM.told t e v) := by unfold KM.answers; rw [HWT.out]; rfl
    rw [he]
    exact ⟨rfl, hfin.1, hfin.2⟩
  · rw [hwait] at c5
    have HWT := Lib.hid hwait
    clear hwait
    go_enter Tryz.func70, Tryz.ntmps70
    go_wp2_with fail
    have hfin := H.out.task' (told_ch w (tb i) (.int .i64 (t.ans + 1)) (.int .i64 e) (.int .u32 v)) hi HT.out (t' := KM.told t e v) (told_row HR.out)
    have HF := Lib.hid hfin
    refine (stops_any (m := m.setT i (KM.told t e v)) HF.out.1 HC.out hi (KM.setT_tk _ _ _) HW.out HS.out).mono ?_; rintro x w2 ⟨rfl, hk2, hch2⟩
    have ht2 : (((m.setT i (KM.told t e v)).stops i (KM.told t e v))).tk i = some (KM.cut (KM.told t e v)) := KM.setT_tk _ _ _
    have hrow2 := hk2.task i _ hi ht2
    have d1 := hrow2.cell (j := 1) rfl
    have g1 := hrow2.free 1
    have d2 : w2.cell? ⟨tb i, 2, none⟩ = some (.bool false) := hrow2.cell (j := 2) rfl
    have HR2 := Lib.hid hrow2
    have HT2 := Lib.hid ht2
    have HK2 := Lib.hid hk2
    have HCH2 := Lib.hid hch2
    have HC2 : Hid (Cons ((m.setT i (KM.told t e v)).stops i (KM.told t e v))) := Lib.hid (Cons.rm (m := (m.setT i (KM.told t e v)).noWait t.on) (i := i) HC.out (by omega))
    clear hfin hk2 hch2 hrow2 ht2 c1 c2 c3 c4 c5 f2 f3 f4
    go_wp2_with fail
    have hrow3 : Row (tb i) 127 (tcells i (KM.freed (KM.told t e v)) U) (w2.setCell ⟨tb i, 1, none⟩ (.int .u8 1)) := by
      have := HR2.out.set 1 (.int .u8 1)
      rw [freed_cells] at this
      exact this
    have hk3 := HK2.out.task' (Ch.set1 w2 (tb i) 1 (.int .u8 1)) hi HT2.out (t' := KM.freed (KM.told t e v)) hrow3
    have HK3 := Lib.hid hk3
    refine (joins_any (t := KM.freed (KM.told t e v)) HK3.out.1 HC2.out hi (KM.setT_tk _ _ _) hr).mono ?_; rintro x w4 ⟨rfl, hk4, hch4⟩
    have HK4 := Lib.hid hk4
    have HCH4 := Lib.hid hch4
    clear hrow3 hk3 hk4 hch4
    go_wp2_with fail
    go_end0
    have he : m.answers i t e v = (((m.setT i (KM.told t e v)).stops i (KM.told t e v)).setT i (KM.freed (KM.told t e v))).joins i (KM.freed (KM.told t e v)) := by unfold KM.answers; rw [HWT.out]; rfl
    rw [he]
    exact ⟨rfl, HK4.out, ((HF.out.2.tr HCH2.out).tr HK3.out.2).tr HCH4.out⟩
end
end Go.Proofs.YtcngfaggignmpaaGreatDoor

/-
  The kernel: whom each one waits for by a mutex: nobody.
-/
namespace Go.Proofs.YtcngfaggignmpaaGreatDoor
open Go.RowKit

/-- 'make([]int, 16)'. -/
theorem mk16 : ∃ Z : Array Value, Z.size = 16 ∧ (∀ j, j < 16 → Z[j]? = some (.int .i64 0)) ∧
    ∀ w : World, (Instr.makeSlice 120 (.int .i64 16) (.int .i64 16)).run Tryz.prog w = .ok (.slice (some ⟨w.heap.size, 0, none⟩) 16 16) (w.alloc (.cells Z 3)) := by
  obtain ⟨i0, hi, hz0, hz1, hz2⟩ := info_parts info3
  refine ⟨madeCells (Value.int .i64 0).cells (16 * 1), by simp [madeCells], fun j hj => ?_, fun w => ?_⟩
  · have hj' : j < 16 * 1 := by omega
    simp [madeCells, hj, Value.cells, Nat.mod_one]
  · have := run_make (P := Tryz.prog) w 120 3 i0 (.int .i64 0) Tryz.underlying120 hi hz0 .i64 .i64 16 16 (by omega) (by omega) (by rw [hz2]; omega) (by omega)
    rw [hz1] at this
    exact this

/-- The tasks' places, as an array. -/
def tarr (tb : Nat → Nat) (m : KM) : List Value := (List.range 16).map (fun i => Value.pointer (tptr tb m i))
theorem index16 (f : Nat → Option Addr) (w : World) : ∀ k, k < 16 → (Instr.index 90 (.agg ((List.range 16).map (fun i => Value.pointer (f i))).toArray) (.int .i64 (k : Nat))).run Tryz.prog w = .ok (.pointer (f k)) w
  | 0, _ => by kernel_rfl
  | 1, _ => by kernel_rfl
  | 2, _ => by kernel_rfl
  | 3, _ => by kernel_rfl
  | 4, _ => by kernel_rfl
  | 5, _ => by kernel_rfl
  | 6, _ => by kernel_rfl
  | 7, _ => by kernel_rfl
  | 8, _ => by kernel_rfl
  | 9, _ => by kernel_rfl
  | 10, _ => by kernel_rfl
  | 11, _ => by kernel_rfl
  | 12, _ => by kernel_rfl
  | 13, _ => by kernel_rfl
  | 14, _ => by kernel_rfl
  | 15, _ => by kernel_rfl
  | n + 16, h => by omega
theorem info90 : (Tryz.prog.info? 90).map (·.size) = some 16 := by kernel_rfl

section
variable {B T U : Nat} {tb : Nat → Nat} {m : KM} {w : World}
theorem tarr_index (tb : Nat → Nat) (m : KM) (k : Nat) (hk : k < 16) (w : World) : (Instr.index 90 (.agg (tarr tb m).toArray) (.int .i64 (k : Nat))).run Tryz.prog w = .ok (.pointer (tptr tb m k)) w := index16 (tptr tb m) w k hk
theorem KS.tRange (h : KS B T U tb m w) : w.rangeAt (B + 69) 4 (tarr tb m) := by
  obtain ⟨cs, r, k⟩ := h.kern
  intro j v hv
  unfold tarr at hv
  have hj : j < 16 := by have := (List.getElem?_eq_some_iff.1 hv).1; simpa using this
  simp [hj] at hv
  subst hv
  exact r.cell (k.task j hj)

/-- Sixteen whole numbers in a block. -/
def Six (g : Nat) (f : Nat → Int) (w : World) : Prop := ∃ cs, Row g 3 cs w ∧ cs.size = 16 ∧ ∀ j, j < 16 → cs[j]? = some (.int .i64 (f j))
theorem Six.keeps {g : Nat} {f : Nat → Int} {w w' : World} {S : Nat → Prop} (h : Six g f w) (c : Ch S w w') (hn : ¬ S g) : Six g f w' := by obtain ⟨cs, a, b, d⟩ := h; exact ⟨cs, a.keeps c hn, b, d⟩
theorem Six.set {g : Nat} {f : Nat → Int} {w : World} (h : Six g f w) {k : Nat} (hk : k < 16) (x : Int) : Six g (upd f k x) (w.setCell ⟨g, k, none⟩ (.int .i64 x)) := by
  obtain ⟨cs, a, b, d⟩ := h
  refine ⟨_, a.set k _, by simp [b], fun j hj => ?_⟩
  rw [set_get (by omega)]
  by_cases e : j = k
  · subst e; rw [if_pos rfl, upd_at]
  · rw [if_neg (by omega), upd_ne _ _ e]; exact d j hj

set_option maxRecDepth 100000 in
set_option maxHeartbeats 4000000 in
theorem whom_any (h : KS B T U tb m w) (hw : ∀ i t, i < 16 → m.tk i = some t → t.on = true → (t.what == 5) = false) :
    Calls Tryz.prog 92 #[.pointer (some ⟨B + 69, 0, none⟩)] w fun e w' => e = .returned (.slice (some ⟨w.heap.size, 0, none⟩) 16 16) ∧ Six w.heap.size (fun _ => -1) w' ∧ Ch No w w' := by
  obtain ⟨Z, hs, hz, hmk⟩ := mk16
  have H := Lib.hid h
  have HW := Lib.hid hw
  have h6 : Six w.heap.size (fun _ => 0) (w.alloc (.cells Z 3)) := ⟨Z, Row.new w 3 Z, hs, hz⟩
  have H6 := Lib.hid h6
  have H1 := Lib.hid (h.no (Ch.alloc w (.cells Z 3)))
  clear h hw hs hz h6
  go_enter Tryz.func92, Tryz.ntmps92
  go_wp2_with (first | (refine wpList_load_mid rfl 90 _ rfl (B + 69) 4 rfl (tarr tb m) _ H1.out.tRange Tryz.underlying90 rfl (by rw [info90]; simp [tarr]) ?_))
  obtain ⟨g, hg⟩ : ∃ g, g = w.heap.size := ⟨_, rfl⟩
  have HG := Lib.hid hg
  rw [← hg] at H6 ⊢
  clear hg hmk
  go_loopw [4, 5, 11] (fun _ _ i wr => ∃ k : Nat, k ≤ 16 ∧ i = .int .i64 (k : Int) ∧ (∃ f, Six g f wr ∧ ∀ j, j < k → f j = -1) ∧ Ch No w wr) (fun _ _ i _ => 16 - (intOf i).toNat)
  case atStart => exact ⟨0, by omega, rfl, ⟨_, H6.out, fun j hj => by omega⟩, Ch.alloc w _⟩
  case round =>
    obtain ⟨k, hk, rfl, ⟨f, h6, hf⟩, hch⟩ := hrel
    by_cases hlt : k < 16
    · have hidx := tarr_index tb m k hlt
      obtain ⟨cs, r1, r2, r3⟩ := h6
      have c1 := r1.cell (r3 k hlt)
      have f1 := r1.free k
      have H6k : Hid (Six g f wr) := Lib.hid ⟨cs, r1, r2, r3⟩
      have HF := Lib.hid hf
      have hk1 : 0 ≤ (k : Int) ∧ (k : Int) < 16 := by omega
      have hfin := H6k.out.set hlt (-1)
      have HFIN : Hid ((∃ f', Six g f' (wr.setCell ⟨g, k, none⟩ (.int .i64 (-1))) ∧ ∀ j, j < k + 1 → f' j = -1)) := Lib.hid ⟨_, hfin, fun j hj => by
        by_cases e : j = k
        · subst e; exact upd_at _ _ _
        · rw [upd_ne _ _ e]; exact HF.out j (by omega)⟩
      have HCF : Hid (Ch No w (wr.setCell ⟨g, k, none⟩ (.int .i64 (-1)))) := Lib.hid (hch.trans' (Ch.set1 wr g k _) (fun x hx e => by rw [HG.out] at e; omega))
      have HKS := Lib.hid (H.out.no hch)
      clear r1 r2 r3 hf hfin hch
      cases htk : m.tk k with
      | none =>
        have hp : tptr tb m k = none := by unfold tptr; rw [htk]; rfl
        rw [hp] at hidx
        clear hp
        go_wp2_with fail
        go_roundw
        case rel => exact ⟨k + 1, by omega, by go_num, HFIN.out, HCF.out⟩
        case measure => simp [intOf]; omega
      | some t =>
        have hp : tptr tb m k = some ⟨tb k, 0, none⟩ := by unfold tptr; rw [htk]; rfl
        rw [hp] at hidx
        have hne : tb k ≠ g := by have := (H.out.task k t hlt htk).lt; have := HG.out; omega
        have hne2 : g ≠ tb k := fun e => hne e.symm
        have d1 := HKS.out.tCell hlt htk (tcells_on k U t)
        have d2 : wr.cell? ⟨tb k, 5, none⟩ = some (.int .u8 t.what) := HKS.out.tCell hlt htk (j := 5) rfl
        have hwt := HW.out k t hlt htk
        clear hp htk
        cases hon : t.on
        · rw [hon] at d1
          clear hwt
          go_wp2_with fail
          go_roundw
          case rel => exact ⟨k + 1, by omega, by go_num, HFIN.out, HCF.out⟩
          case measure => simp [intOf]; omega
        · rw [hon] at d1
          have hwt2 := hwt hon
          clear hwt
          go_wp2_with fail
          go_roundw
          case rel => exact ⟨k + 1, by omega, by go_num, HFIN.out, HCF.out⟩
          case measure => simp [intOf]; omega
    · obtain rfl : k = 16 := by omega
      have HCF := Lib.hid hch
      have H6k := Lib.hid h6
      have HF := Lib.hid hf
      clear hch h6 hf
      go_wp2_with fail
      go_ret
      obtain ⟨cs, r1, r2, r3⟩ := H6k.out
      rw [← HG.out]
      exact ⟨rfl, ⟨cs, r1, r2, fun j hj => by rw [← HF.out j hj]; exact r3 j hj⟩, HCF.out⟩
end
end Go.Proofs.YtcngfaggignmpaaGreatDoor

/-
  The kernel: all ranks are told anew, and are as they were.
-/
namespace Go.Proofs.YtcngfaggignmpaaGreatDoor
open Go.RowKit

/-- Each task has a rank; who waits for a thing asks for no mutex. -/
def Calm (m : KM) : Prop := ∀ i t, i < 16 → m.tk i = some t → t.rank < 32 ∧ (t.on = true → (t.what == 5) = false)
/-- The ranks of tasks; 0 where there is none. -/
def rks (m : KM) (i : Nat) : Int := match m.tk i with
  | some t => t.rank
  | none => 0

section
variable {B T U : Nat} {tb : Nat → Nat} {m : KM} {w : World}
set_option maxRecDepth 100000 in
set_option maxHeartbeats 4000000 in
theorem anew_any (h : KS B T U tb m w) (hm : Calm m) :
    Calls Tryz.prog 57 #[.pointer (some ⟨B + 69, 0, none⟩)] w fun e w' => e = .returned (.tuple #[]) ∧ Ch No w w' := by
  obtain ⟨Z, hs, hz, hmk⟩ := mk16
  have H := Lib.hid h
  have HM := Lib.hid hm
  have h6 : Six w.heap.size (fun _ => 0) (w.alloc (.cells Z 3)) := ⟨Z, Row.new w 3 Z, hs, hz⟩
  have H6 := Lib.hid h6
  have H1 := Lib.hid (h.no (Ch.alloc w (.cells Z 3)))
  clear h hm hs hz h6
  go_enter Tryz.func57, Tryz.ntmps57
  go_wp2_with (first | (refine wpList_load_mid rfl 90 _ rfl (B + 69) 4 rfl (tarr tb m) _ H1.out.tRange Tryz.underlying90 rfl (by rw [info90]; simp [tarr]) ?_))
  obtain ⟨g, hg⟩ : ∃ g, g = w.heap.size := ⟨_, rfl⟩
  have HG := Lib.hid hg
  rw [← hg] at H6 ⊢
  clear hg hmk
  go_loopw [3, 4, 16] (fun _ _ i wr => ∃ k : Nat, k ≤ 16 ∧ i = .int .i64 (k : Int) ∧ (∃ f, Six g f wr ∧ ∀ j, j < 16 → f j = if j < k then rks m j else 0) ∧ Ch No w wr) (fun _ _ i _ => 16 - (intOf i).toNat)
  case atStart => exact ⟨0, by omega, rfl, ⟨_, H6.out, fun j hj => by simp⟩, Ch.alloc w _⟩
  case round =>
    obtain ⟨k, hk, rfl, ⟨f, h6, hf⟩, hch⟩ := hrel
    by_cases hlt : k < 16
    · have hidx := tarr_index tb m k hlt
      obtain ⟨cs, r1, r2, r3⟩ := h6
      have c1 := r1.cell (r3 k hlt)
      have f1 := r1.free k
      have H6k : Hid (Six g f wr) := Lib.hid ⟨cs, r1, r2, r3⟩
      have HF := Lib.hid hf
      have hk1 : 0 ≤ (k : Int) ∧ (k : Int) < 16 := by omega
      have HCH := Lib.hid hch
      have HKS := Lib.hid (H.out.no hch)
      clear r1 r2 r3 hf hch
      cases htk : m.tk k with
      | none =>
        have hp : tptr tb m k = none := by unfold tptr; rw [htk]; rfl
        have HFIN : Hid (∃ f', Six g f' wr ∧ ∀ j, j < 16 → f' j = if j < k + 1 then rks m j else 0) := Lib.hid ⟨f, H6k.out, fun j hj => by
          rw [HF.out j hj]
          by_cases e : j = k
          · subst e
            rw [if_neg (by omega), if_pos (by omega)]
            unfold rks
            rw [htk]
          · by_cases e2 : j < k
            · rw [if_pos e2, if_pos (by omega)]
            · rw [if_neg e2, if_neg (by omega)]⟩
        rw [hp] at hidx
        clear hp c1 f1
        go_wp2_with fail
        go_roundw
        case rel => exact ⟨k + 1, by omega, by go_num, HFIN.out, HCH.out⟩
        case measure => simp [intOf]; omega
      | some t =>
        have hp : tptr tb m k = some ⟨tb k, 0, none⟩ := by unfold tptr; rw [htk]; rfl
        rw [hp] at hidx
        have hne : tb k ≠ g := by have := (H.out.task k t hlt htk).lt; have := HG.out; omega
        have hne2 : g ≠ tb k := fun e => hne e.symm
        have d1 := HKS.out.tCell hlt htk (tcells_state k U t)
        have d2 : wr.cell? ⟨tb k, 3, none⟩ = some (.int .i64 t.rank) := HKS.out.tCell hlt htk (j := 3) rfl
        have e1 : ((if t.wait then (2 : Int) else 1) != 3) = true := by cases t.wait <;> rfl
        have hfin := H6k.out.set hlt (t.rank : Int)
        have HFIN : Hid (∃ f', Six g f' (wr.setCell ⟨g, k, none⟩ (.int .i64 t.rank)) ∧ ∀ j, j < 16 → f' j = if j < k + 1 then rks m j else 0) := Lib.hid ⟨_, hfin, fun j hj => by
          by_cases e : j = k
          · subst e
            rw [upd_at, if_pos (by omega)]
            unfold rks
            rw [htk]
          · rw [upd_ne _ _ e, HF.out j hj]
            by_cases e2 : j < k
            · rw [if_pos e2, if_pos (by omega)]
            · rw [if_neg e2, if_neg (by omega)]⟩
        have HCF : Hid (Ch No w (wr.setCell ⟨g, k, none⟩ (.int .i64 t.rank))) := Lib.hid (HCH.out.trans' (Ch.set1 wr g k _) (fun x hx e => by rw [HG.out] at e; omega))
        clear hp htk hfin
        generalize (if t.wait then (2 : Int) else 1) = st at d1 e1
        go_wp2_with fail
        go_roundw
        case rel => exact ⟨k + 1, by omega, by go_num, HFIN.out, HCF.out⟩
        case measure => simp [intOf]; omega
    · obtain rfl : k = 16 := by omega
      have hf6 : Six g (rks m) wr := by
        obtain ⟨cs, r1, r2, r3⟩ := h6
        exact ⟨cs, r1, r2, fun j hj => by rw [r3 j hj, hf j hj, if_pos hj]⟩
      have HF6 := Lib.hid hf6
      have HCH := Lib.hid hch
      have HKS := Lib.hid (H.out.no hch)
      clear hf6 h6 hf hch
      go_wp2_with fail
      refine (whom_any HKS.out (fun i t hi ht ho => (HM.out i t hi ht).2 ho)).mono ?_; rintro e w2 ⟨rfl, h7, hch2⟩
      have hg2 := HF6.out.keeps hch2 (fun x => x)
      have hgc : ∀ j, j < 16 → w2.cell? ⟨g, j, none⟩ = some (.int .i64 (rks m j)) := fun j hj => by obtain ⟨cs, r1, r2, r3⟩ := hg2; exact r1.cell (r3 j hj)
      have huc : ∀ j, j < 16 → w2.cell? ⟨wr.heap.size, j, none⟩ = some (.int .i64 (-1)) := fun j hj => by obtain ⟨cs, r1, r2, r3⟩ := h7; exact r1.cell (r3 j hj)
      have HGC := Lib.hid hgc
      have HUC := Lib.hid huc
      have HC2 := Lib.hid (HCH.out.trans hch2)
      clear hg2 hgc huc h7 hch2
      go_wp2_with fail
      refine (ranks_any w2 g wr.heap.size 16 16 (rks m) (fun j hj => by
        unfold rks
        cases e : m.tk j with
        | none => simp
        | some t => have := (HM.out j t hj e).1; simp; omega) HGC.out HUC.out).mono ?_; rintro e w3 ⟨⟨g2, rfl, hge, cs, hrow, hcs⟩, hch3⟩
      have HK3 := Lib.hid (H.out.no (HC2.out.trans hch3))
      have HC3 := Lib.hid (HC2.out.trans hch3)
      have HROW := Lib.hid hrow
      have HCS := Lib.hid hcs
      clear hrow hcs hch3
      go_wp2_with (first | (refine wpList_load_mid rfl 90 _ rfl (B + 69) 4 rfl (tarr tb m) _ HK3.out.tRange Tryz.underlying90 rfl (by rw [info90]; simp [tarr]) ?_))
      go_loopw [7, 8, 50] (fun _ _ i wx => ∃ k : Nat, k ≤ 16 ∧ i = .int .i64 (k : Int) ∧ ∃ q, wx = w3.drewN q) (fun _ _ i _ => 16 - (intOf i).toNat)
      case atStart => exact ⟨0, by omega, rfl, 0, rfl⟩
      case round =>
        obtain ⟨k, hk, rfl, q, rfl⟩ := hrel
        by_cases hlt : k < 16
        · have hidx := tarr_index tb m k hlt
          have hk1 : 0 ≤ (k : Int) ∧ (k : Int) < 16 := by omega
          have c1 := HROW.out.cell (HCS.out k hlt)
          unfold rks at c1
          cases htk : m.tk k with
          | none =>
            have hp : tptr tb m k = none := by unfold tptr; rw [htk]; rfl
            rw [hp] at hidx
            clear hp c1
            go_wp2_with fail
            go_quiet (fail)
            go_wp2_with fail
            go_roundw
            case rel => exact ⟨k + 1, by omega, by go_num, _, rfl⟩
            case measure => simp [intOf]; omega
          | some t =>
            have hp : tptr tb m k = some ⟨tb k, 0, none⟩ := by unfold tptr; rw [htk]; rfl
            rw [hp] at hidx
            rw [htk] at c1
            dsimp only at c1
            have d1 := HK3.out.tCell hlt htk (tcells_state k U t)
            have d2 := HK3.out.tCell hlt htk (tcells_rank k U t)
            have e1 : ((if t.wait then (2 : Int) else 1) == 3) = false := by cases t.wait <;> rfl
            clear hp htk
            generalize (if t.wait then (2 : Int) else 1) = st at d1 e1
            go_wp2_with fail
            go_quiet (fail)
            go_wp2_with fail
            go_roundw
            case rel => exact ⟨k + 1, by omega, by go_num, _, rfl⟩
            case measure => simp [intOf]; omega
        · obtain rfl : k = 16 := by omega
          go_wp2_with fail
          go_end0
          exact ⟨rfl, HC3.out.trans (Ch.drewN _ _)⟩
end
end Go.Proofs.YtcngfaggignmpaaGreatDoor
