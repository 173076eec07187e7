/-
  The top, part 10: Whom, Anew, Serves.
-/
import Derived.Test.YtcngfaggignmpaaGreatDoorS09
import Derived.Deep.MidRow

/-
  The kernel: whom each one waits for by a mutex: nobody.
-/
namespace Go.Proofs.YtcngfaggignmpaaGreatDoor
open Go.RowKit

/-- 'make([]int, 16)'. -/
theorem mk16 : ∃ Z : Array Value, Z.size = 16 ∧ (∀ j, j < 16 → Z[j]? = some (.int .i64 0)) ∧
    ∀ w : World, (Instr.makeSlice 120 (.int .i64 16) (.int .i64 16)).run Tryz.prog w = .ok (.slice (some ⟨w.heap.size, 0, none⟩) 16 16) (w.alloc (.cells Z 3)) := by
  obtain ⟨i0, hi, hz0, hz1, hz2⟩ := info_parts info3
  refine ⟨madeCells (Value.int .i64 0).cells (16 * 1), by simp [madeCells], fun j hj => ?_, fun w => ?_⟩
  · have hj' : j < 16 * 1 := by omega
    simp [madeCells, hj, Value.cells, Nat.mod_one]
  · have := run_make (P := Tryz.prog) w 120 3 i0 (.int .i64 0) Tryz.underlying120 hi hz0 .i64 .i64 16 16 (by omega) (by omega) (by rw [hz2]; omega) (by omega)
    rw [hz1] at this
    exact this

/-- The tasks' places, as an array. -/
def tarr (tb : Nat → Nat) (m : KM) : List Value := (List.range 16).map (fun i => Value.pointer (tptr tb m i))
theorem index16 (f : Nat → Option Addr) (w : World) : ∀ k, k < 16 → (Instr.index 90 (.agg ((List.range 16).map (fun i => Value.pointer (f i))).toArray) (.int .i64 (k : Nat))).run Tryz.prog w = .ok (.pointer (f k)) w
  | 0, _ => by kernel_rfl
  | 1, _ => by kernel_rfl
  | 2, _ => by kernel_rfl
  | 3, _ => by kernel_rfl
  | 4, _ => by kernel_rfl
  | 5, _ => by kernel_rfl
  | 6, _ => by kernel_rfl
  | 7, _ => by kernel_rfl
  | 8, _ => by kernel_rfl
  | 9, _ => by kernel_rfl
  | 10, _ => by kernel_rfl
  | 11, _ => by kernel_rfl
  | 12, _ => by kernel_rfl
  | 13, _ => by kernel_rfl
  | 14, _ => by kernel_rfl
  | 15, _ => by kernel_rfl
  | n + 16, h => by omega
theorem info90 : (Tryz.prog.info? 90).map (·.size) = some 16 := by kernel_rfl

section
variable {B T U : Nat} {tb : Nat → Nat} {m : KM} {w : World}
theorem tarr_index (tb : Nat → Nat) (m : KM) (k : Nat) (hk : k < 16) (w : World) : (Instr.index 90 (.agg (tarr tb m).toArray) (.int .i64 (k : Nat))).run Tryz.prog w = .ok (.pointer (tptr tb m k)) w := index16 (tptr tb m) w k hk
theorem KS.tRange (h : KS B T U tb m w) : w.rangeAt (B + 69) 4 (tarr tb m) := by
  obtain ⟨cs, r, k⟩ := h.kern
  intro j v hv
  unfold tarr at hv
  have hj : j < 16 := by have := (List.getElem?_eq_some_iff.1 hv).1; simpa using this
  simp [hj] at hv
  subst hv
  exact r.cell (k.task j hj)

/-- Sixteen whole numbers in a block. -/
def Six (g : Nat) (f : Nat → Int) (w : World) : Prop := ∃ cs, Row g 3 cs w ∧ cs.size = 16 ∧ ∀ j, j < 16 → cs[j]? = some (.int .i64 (f j))
theorem Six.keeps {g : Nat} {f : Nat → Int} {w w' : World} {S : Nat → Prop} (h : Six g f w) (c : Ch S w w') (hn : ¬ S g) : Six g f w' := by obtain ⟨cs, a, b, d⟩ := h; exact ⟨cs, a.keeps c hn, b, d⟩
theorem Six.set {g : Nat} {f : Nat → Int} {w : World} (h : Six g f w) {k : Nat} (hk : k < 16) (x : Int) : Six g (upd f k x) (w.setCell ⟨g, k, none⟩ (.int .i64 x)) := by
  obtain ⟨cs, a, b, d⟩ := h
  refine ⟨_, a.set k _, by simp [b], fun j hj => ?_⟩
  rw [set_get (by omega)]
  by_cases e : j = k
  · subst e; rw [if_pos rfl, upd_at]
  · rw [if_neg (by omega), upd_ne _ _ e]; exact d j hj

set_option maxRecDepth 100000 in
set_option maxHeartbeats 4000000 in
theorem whom_any (h : KS B T U tb m w) (hw : ∀ i t, i < 16 → m.tk i = some t → t.on = true → (t.what == 5) = false) :
    Calls Tryz.prog 92 #[.pointer (some ⟨B + 69, 0, none⟩)] w fun e w' => e = .returned (.slice (some ⟨w.heap.size, 0, none⟩) 16 16) ∧ Six w.heap.size (fun _ => -1) w' ∧ Ch No w w' := by
  obtain ⟨Z, hs, hz, hmk⟩ := mk16
  have H := Lib.hid h
  have HW := Lib.hid hw
  have h6 : Six w.heap.size (fun _ => 0) (w.alloc (.cells Z 3)) := ⟨Z, Row.new w 3 Z, hs, hz⟩
  have H6 := Lib.hid h6
  have H1 := Lib.hid (h.no (Ch.alloc w (.cells Z 3)))
  clear h hw hs hz h6
  go_enter Tryz.func92, Tryz.ntmps92
  go_wp2_with (first | (refine wpList_load_mid rfl 90 _ rfl (B + 69) 4 rfl (tarr tb m) _ H1.out.tRange Tryz.underlying90 rfl (by rw [info90]; simp [tarr]) ?_))
  obtain ⟨g, hg⟩ : ∃ g, g = w.heap.size := ⟨_, rfl⟩
  have HG := Lib.hid hg
  rw [← hg] at H6 ⊢
  clear hg hmk
  go_loopw [4, 5, 11] (fun _ _ i wr => ∃ k : Nat, k ≤ 16 ∧ i = .int .i64 (k : Int) ∧ (∃ f, Six g f wr ∧ ∀ j, j < k → f j = -1) ∧ Ch No w wr) (fun _ _ i _ => 16 - (intOf i).toNat)
  case atStart => exact ⟨0, by omega, rfl, ⟨_, H6.out, fun j hj => by omega⟩, Ch.alloc w _⟩
  case round =>
    obtain ⟨k, hk, rfl, ⟨f, h6, hf⟩, hch⟩ := hrel
    by_cases hlt : k < 16
    · have hidx := tarr_index tb m k hlt
      obtain ⟨cs, r1, r2, r3⟩ := h6
      have c1 := r1.cell (r3 k hlt)
      have f1 := r1.free k
      have H6k : Hid (Six g f wr) := Lib.hid ⟨cs, r1, r2, r3⟩
      have HF := Lib.hid hf
      have hk1 : 0 ≤ (k : Int) ∧ (k : Int) < 16 := by omega
      have hfin := H6k.out.set hlt (-1)
      have HFIN : Hid ((∃ f', Six g f' (wr.setCell ⟨g, k, none⟩ (.int .i64 (-1))) ∧ ∀ j, j < k + 1 → f' j = -1)) := Lib.hid ⟨_, hfin, fun j hj => by
        by_cases e : j = k
        · subst e; exact upd_at _ _ _
        · rw [upd_ne _ _ e]; exact HF.out j (by omega)⟩
      have HCF : Hid (Ch No w (wr.setCell ⟨g, k, none⟩ (.int .i64 (-1)))) := Lib.hid (hch.trans' (Ch.set1 wr g k _) (fun x hx e => by rw [HG.out] at e; omega))
      have HKS := Lib.hid (H.out.no hch)
      clear r1 r2 r3 hf hfin hch
      cases htk : m.tk k with
      | none =>
        have hp : tptr tb m k = none := by unfold tptr; rw [htk]; rfl
        rw [hp] at hidx
        clear hp
        go_wp2_with fail
        go_roundw
        case rel => exact ⟨k + 1, by omega, by go_num, HFIN.out, HCF.out⟩
        case measure => simp [intOf]; omega
      | some t =>
        have hp : tptr tb m k = some ⟨tb k, 0, none⟩ := by unfold tptr; rw [htk]; rfl
        rw [hp] at hidx
        have hne : tb k ≠ g := by have := (H.out.task k t hlt htk).lt; have := HG.out; omega
        have hne2 : g ≠ tb k := fun e => hne e.symm
        have d1 := HKS.out.tCell hlt htk (tcells_on k U t)
        have d2 : wr.cell? ⟨tb k, 5, none⟩ = some (.int .u8 t.what) := HKS.out.tCell hlt htk (j := 5) rfl
        have hwt := HW.out k t hlt htk
        clear hp htk
        cases hon : t.on
        · rw [hon] at d1
          clear hwt
          go_wp2_with fail
          go_roundw
          case rel => exact ⟨k + 1, by omega, by go_num, HFIN.out, HCF.out⟩
          case measure => simp [intOf]; omega
        · rw [hon] at d1
          have hwt2 := hwt hon
          clear hwt
          go_wp2_with fail
          go_roundw
          case rel => exact ⟨k + 1, by omega, by go_num, HFIN.out, HCF.out⟩
          case measure => simp [intOf]; omega
    · obtain rfl : k = 16 := by omega
      have HCF := Lib.hid hch
      have H6k := Lib.hid h6
      have HF := Lib.hid hf
      clear hch h6 hf
      go_wp2_with fail
      go_ret
      obtain ⟨cs, r1, r2, r3⟩ := H6k.out
      rw [← HG.out]
      exact ⟨rfl, ⟨cs, r1, r2, fun j hj => by rw [← HF.out j hj]; exact r3 j hj⟩, HCF.out⟩
end
end Go.Proofs.YtcngfaggignmpaaGreatDoor

/-
  The kernel: all ranks are told anew, and are as they were.
-/
namespace Go.Proofs.YtcngfaggignmpaaGreatDoor
open Go.RowKit

/-- Each task has a rank; who waits for a thing asks for no mutex. -/
def Calm (m : KM) : Prop := ∀ i t, i < 16 → m.tk i = some t → t.rank < 32 ∧ (t.on = true → (t.what == 5) = false)
/-- The ranks of tasks; 0 where there is none. -/
def rks (m : KM) (i : Nat) : Int := match m.tk i with
  | some t => t.rank
  | none => 0

section
variable {B T U : Nat} {tb : Nat → Nat} {m : KM} {w : World}
set_option maxRecDepth 100000 in
set_option maxHeartbeats 4000000 in
theorem anew_any (h : KS B T U tb m w) (hm : Calm m) :
    Calls Tryz.prog 57 #[.pointer (some ⟨B + 69, 0, none⟩)] w fun e w' => e = .returned (.tuple #[]) ∧ Ch No w w' := by
  obtain ⟨Z, hs, hz, hmk⟩ := mk16
  have H := Lib.hid h
  have HM := Lib.hid hm
  have h6 : Six w.heap.size (fun _ => 0) (w.alloc (.cells Z 3)) := ⟨Z, Row.new w 3 Z, hs, hz⟩
  have H6 := Lib.hid h6
  have H1 := Lib.hid (h.no (Ch.alloc w (.cells Z 3)))
  clear h hm hs hz h6
  go_enter Tryz.func57, Tryz.ntmps57
  go_wp2_with (first | (refine wpList_load_mid rfl 90 _ rfl (B + 69) 4 rfl (tarr tb m) _ H1.out.tRange Tryz.underlying90 rfl (by rw [info90]; simp [tarr]) ?_))
  obtain ⟨g, hg⟩ : ∃ g, g = w.heap.size := ⟨_, rfl⟩
  have HG := Lib.hid hg
  rw [← hg] at H6 ⊢
  clear hg hmk
  go_loopw [3, 4, 16] (fun _ _ i wr => ∃ k : Nat, k ≤ 16 ∧ i = .int .i64 (k : Int) ∧ (∃ f, Six g f wr ∧ ∀ j, j < 16 → f j = if j < k then rks m j else 0) ∧ Ch No w wr) (fun _ _ i _ => 16 - (intOf i).toNat)
  case atStart => exact ⟨0, by omega, rfl, ⟨_, H6.out, fun j hj => by simp⟩, Ch.alloc w _⟩
  case round =>
    obtain ⟨k, hk, rfl, ⟨f, h6, hf⟩, hch⟩ := hrel
    by_cases hlt : k < 16
    · have hidx := tarr_index tb m k hlt
      obtain ⟨cs, r1, r2, r3⟩ := h6
      have c1 := r1.cell (r3 k hlt)
      have f1 := r1.free k
      have H6k : Hid (Six g f wr) := Lib.hid ⟨cs, r1, r2, r3⟩
      have HF := Lib.hid hf
      have hk1 : 0 ≤ (k : Int) ∧ (k : Int) < 16 := by omega
      have HCH := Lib.hid hch
      have HKS := Lib.hid (H.out.no hch)
      clear r1 r2 r3 hf hch
      cases htk : m.tk k with
      | none =>
        have hp : tptr tb m k = none := by unfold tptr; rw [htk]; rfl
        have HFIN : Hid (∃ f', Six g f' wr ∧ ∀ j, j < 16 → f' j = if j < k + 1 then rks m j else 0) := Lib.hid ⟨f, H6k.out, fun j hj => by
          rw [HF.out j hj]
          by_cases e : j = k
          · subst e
            rw [if_neg (by omega), if_pos (by omega)]
            unfold rks
            rw [htk]
          · by_cases e2 : j < k
            · rw [if_pos e2, if_pos (by omega)]
            · rw [if_neg e2, if_neg (by omega)]⟩
        rw [hp] at hidx
        clear hp c1 f1
        go_wp2_with fail
        go_roundw
        case rel => exact ⟨k + 1, by omega, by go_num, HFIN.out, HCH.out⟩
        case measure => simp [intOf]; omega
      | some t =>
        have hp : tptr tb m k = some ⟨tb k, 0, none⟩ := by unfold tptr; rw [htk]; rfl
        rw [hp] at hidx
        have hne : tb k ≠ g := by have := (H.out.task k t hlt htk).lt; have := HG.out; omega
        have hne2 : g ≠ tb k := fun e => hne e.symm
        have d1 := HKS.out.tCell hlt htk (tcells_state k U t)
        have d2 : wr.cell? ⟨tb k, 3, none⟩ = some (.int .i64 t.rank) := HKS.out.tCell hlt htk (j := 3) rfl
        have e1 : ((if t.wait then (2 : Int) else 1) != 3) = true := by cases t.wait <;> rfl
        have hfin := H6k.out.set hlt (t.rank : Int)
        have HFIN : Hid (∃ f', Six g f' (wr.setCell ⟨g, k, none⟩ (.int .i64 t.rank)) ∧ ∀ j, j < 16 → f' j = if j < k + 1 then rks m j else 0) := Lib.hid ⟨_, hfin, fun j hj => by
          by_cases e : j = k
          · subst e
            rw [upd_at, if_pos (by omega)]
            unfold rks
            rw [htk]
          · rw [upd_ne _ _ e, HF.out j hj]
            by_cases e2 : j < k
            · rw [if_pos e2, if_pos (by omega)]
            · rw [if_neg e2, if_neg (by omega)]⟩
        have HCF : Hid (Ch No w (wr.setCell ⟨g, k, none⟩ (.int .i64 t.rank))) := Lib.hid (HCH.out.trans' (Ch.set1 wr g k _) (fun x hx e => by rw [HG.out] at e; omega))
        clear hp htk hfin
        generalize (if t.wait then (2 : Int) else 1) = st at d1 e1
        go_wp2_with fail
        go_roundw
        case rel => exact ⟨k + 1, by omega, by go_num, HFIN.out, HCF.out⟩
        case measure => simp [intOf]; omega
    · obtain rfl : k = 16 := by omega
      have hf6 : Six g (rks m) wr := by
        obtain ⟨cs, r1, r2, r3⟩ := h6
        exact ⟨cs, r1, r2, fun j hj => by rw [r3 j hj, hf j hj, if_pos hj]⟩
      have HF6 := Lib.hid hf6
      have HCH := Lib.hid hch
      have HKS := Lib.hid (H.out.no hch)
      clear hf6 h6 hf hch
      go_wp2_with fail
      refine (whom_any HKS.out (fun i t hi ht ho => (HM.out i t hi ht).2 ho)).mono ?_; rintro e w2 ⟨rfl, h7, hch2⟩
      have hg2 := HF6.out.keeps hch2 (fun x => x)
      have hgc : ∀ j, j < 16 → w2.cell? ⟨g, j, none⟩ = some (.int .i64 (rks m j)) := fun j hj => by obtain ⟨cs, r1, r2, r3⟩ := hg2; exact r1.cell (r3 j hj)
      have huc : ∀ j, j < 16 → w2.cell? ⟨wr.heap.size, j, none⟩ = some (.int .i64 (-1)) := fun j hj => by obtain ⟨cs, r1, r2, r3⟩ := h7; exact r1.cell (r3 j hj)
      have HGC := Lib.hid hgc
      have HUC := Lib.hid huc
      have HC2 := Lib.hid (HCH.out.trans hch2)
      clear hg2 hgc huc h7 hch2
      go_wp2_with fail
      refine (ranks_any w2 g wr.heap.size 16 16 (rks m) (fun j hj => by
        unfold rks
        cases e : m.tk j with
        | none => simp
        | some t => have := (HM.out j t hj e).1; simp; omega) HGC.out HUC.out).mono ?_; rintro e w3 ⟨⟨g2, rfl, hge, cs, hrow, hcs⟩, hch3⟩
      have HK3 := Lib.hid (H.out.no (HC2.out.trans hch3))
      have HC3 := Lib.hid (HC2.out.trans hch3)
      have HROW := Lib.hid hrow
      have HCS := Lib.hid hcs
      clear hrow hcs hch3
      go_wp2_with (first | (refine wpList_load_mid rfl 90 _ rfl (B + 69) 4 rfl (tarr tb m) _ HK3.out.tRange Tryz.underlying90 rfl (by rw [info90]; simp [tarr]) ?_))
      go_loopw [7, 8, 50] (fun _ _ i wx => ∃ k : Nat, k ≤ 16 ∧ i = .int .i64 (k : Int) ∧ ∃ q, wx = w3.drewN q) (fun _ _ i _ => 16 - (intOf i).toNat)
      case atStart => exact ⟨0, by omega, rfl, 0, rfl⟩
      case round =>
        obtain ⟨k, hk, rfl, q, rfl⟩ := hrel
        by_cases hlt : k < 16
        · have hidx := tarr_index tb m k hlt
          have hk1 : 0 ≤ (k : Int) ∧ (k : Int) < 16 := by omega
          have c1 := HROW.out.cell (HCS.out k hlt)
          unfold rks at c1
          cases htk : m.tk k with
          | none =>
            have hp : tptr tb m k = none := by unfold tptr; rw [htk]; rfl
            rw [hp] at hidx
            clear hp c1
            go_wp2_with fail
            go_quiet (fail)
            go_wp2_with fail
            go_roundw
            case rel => exact ⟨k + 1, by omega, by go_num, _, rfl⟩
            case measure => simp [intOf]; omega
          | some t =>
            have hp : tptr tb m k = some ⟨tb k, 0, none⟩ := by unfold tptr; rw [htk]; rfl
            rw [hp] at hidx
            rw [htk] at c1
            dsimp only at c1
            have d1 := HK3.out.tCell hlt htk (tcells_state k U t)
            have d2 := HK3.out.tCell hlt htk (tcells_rank k U t)
            have e1 : ((if t.wait then (2 : Int) else 1) == 3) = false := by cases t.wait <;> rfl
            clear hp htk
            generalize (if t.wait then (2 : Int) else 1) = st at d1 e1
            go_wp2_with fail
            go_quiet (fail)
            go_wp2_with fail
            go_roundw
            case rel => exact ⟨k + 1, by omega, by go_num, _, rfl⟩
            case measure => simp [intOf]; omega
        · obtain rfl : k = 16 := by omega
          go_wp2_with fail
          go_end0
          exact ⟨rfl, HC3.out.trans (Ch.drewN _ _)⟩
end
end Go.Proofs.YtcngfaggignmpaaGreatDoor

/-
  The kernel: those that wait for a thing are served; who runs; the place of a thing.
-/
namespace Go.Proofs.YtcngfaggignmpaaGreatDoor
open Go.RowKit

section
variable {B T U : Nat} {tb : Nat → Nat} {m : KM} {w : World} {i : Nat} {t : TM}
theorem try_ok {who what hh v mm wt x : Int} {l' : List Int} (h : KS B T U tb m w) (hwho : (who == 0) = false) (hw : what = 7 ∨ what = 9) (hr : tryR m.most m.row what v = some (x, l')) :
    Calls Tryz.prog 136 #[.pointer (some ⟨T, 0, none⟩), .int .u32 who, askV what hh v mm wt] w fun e w' => e = .returned (.tuple #[.int .u32 x, .int .i64 0]) ∧ KS B T U tb { m with row := l' } w' ∧ Ch (Sk B T U w) w w' := by
  have hfin : ∀ (e : Ending) (w' : World), (e = .returned (.tuple #[.int .u32 x, .int .i64 0]) ∧ TH T m.most l' w' ∧ Ch (fun k => k = T + 1) w w') → e = .returned (.tuple #[.int .u32 x, .int .i64 0]) ∧ KS B T U tb { m with row := l' } w' ∧ Ch (Sk B T U w) w w' := fun e w' ⟨a, b, c⟩ => by
    have := h.obj' c b
    exact ⟨a, this.1, this.2⟩
  rcases hw with rfl | rfl
  · unfold tryR at hr
    rw [if_pos rfl] at hr
    split at hr
    · rename_i hlt
      cases hr
      exact (try_by w T m.most 0 m.row _ who 7 hh v mm wt 0 0 (by omega) rfl (fun j hj => by omega) rfl hwho h.obj (fun W hc => rowTry_put W T m.most m.row who hh v mm wt hlt (h.obj.no hc))).mono hfin
    · cases hr
  · unfold tryR at hr
    rw [if_neg (by omega)] at hr
    have ho := h.obj
    cases hrow : m.row with
    | nil => rw [hrow] at hr; cases hr
    | cons y l =>
      rw [hrow] at hr ho
      cases hr
      refine (try_by w T m.most 2 (x :: l') l' who 9 hh v mm wt x 0 (by omega) rfl (fun j hj => ?_) rfl hwho ho (fun W hc => rowTry_get W T m.most x l' who hh v mm wt (ho.no hc))).mono hfin
      match j, hj with
      | 0, _ => rfl
      | 1, _ => rfl
theorem try_no {who what hh v mm wt : Int} (h : KS B T U tb m w) (hwho : (who == 0) = false) (hw : what = 7 ∨ what = 9) (hr : tryR m.most m.row what v = none) :
    Calls Tryz.prog 136 #[.pointer (some ⟨T, 0, none⟩), .int .u32 who, askV what hh v mm wt] w fun e w' => e = .returned (.tuple #[.int .u32 0, .int .i64 7]) ∧ KS B T U tb m w' ∧ Ch (Sk B T U w) w w' := by
  have hfin : ∀ (e : Ending) (w' : World), (e = .returned (.tuple #[.int .u32 0, .int .i64 7]) ∧ TH T m.most m.row w' ∧ Ch (fun k => k = T + 1) w w') → e = .returned (.tuple #[.int .u32 0, .int .i64 7]) ∧ KS B T U tb m w' ∧ Ch (Sk B T U w) w w' := fun e w' ⟨a, b, c⟩ => by
    have := h.obj' c b
    exact ⟨a, this.1, this.2⟩
  rcases hw with rfl | rfl
  · unfold tryR at hr
    rw [if_pos rfl] at hr
    split at hr
    · cases hr
    · rename_i hlt
      have hroom : m.row.length = m.most := by
        obtain ⟨f, ty, cs, hq⟩ := h.obj.queue
        have := hq.room
        omega
      exact (try_by w T m.most 0 m.row _ who 7 hh v mm wt 0 7 (by omega) rfl (fun j hj => by omega) rfl hwho h.obj (fun W hc => rowTry_full W T m.most m.row who hh v mm wt hroom (h.obj.no hc))).mono hfin
  · unfold tryR at hr
    rw [if_neg (by omega)] at hr
    have ho := h.obj
    cases hrow : m.row with
    | cons y l => rw [hrow] at hr; cases hr
    | nil =>
      rw [hrow] at ho
      refine (try_by w T m.most 2 [] [] who 9 hh v mm wt 0 7 (by omega) rfl (fun j hj => ?_) rfl hwho ho (fun W hc => rowTry_none W T m.most who hh v mm wt (ho.no hc))).mono (fun e w' hx => hfin e w' (by rw [hrow]; exact hx))
      match j, hj with
      | 0, _ => rfl
      | 1, _ => rfl

set_option maxHeartbeats 1000000 in
theorem spot_any (h : KS B T U tb m w) : Calls Tryz.prog 49 #[.pointer (some ⟨B + 69, 0, none⟩), .int .u32 256] w fun e w' => e = .returned (.tuple #[.int .i64 0, .int .i64 0]) ∧ Ch No w w' := by
  have H := Lib.hid h
  have c1 := h.cOh
  clear h
  go_enter Tryz.func49, Tryz.ntmps49
  go_wp2_with fail
  refine (kThere_any H.out).mono ?_; rintro e w1 ⟨rfl, rfl⟩
  go_wp2_with fail
  refine (handPlace_any _ (B + 71) 32 oage oused 0 1 (by omega) (by omega) (by omega) rfl rfl H.out.oh).mono ?_; rintro e w1 ⟨rfl, hch⟩
  go_wp2_with fail
  go_ret2
  exact ⟨rfl, hch⟩

set_option maxHeartbeats 1000000 in
theorem place_any (h : KS B T U tb m w) (hi : i < 16) (ha : m.age i = 1) (hu : m.used i = true) : Calls Tryz.prog 65 #[.pointer (some ⟨B + 69, 0, none⟩), .int .u32 (256 + i)] w fun e w' => e = .returned (.tuple #[.int .i64 i, .int .i64 0]) ∧ Ch No w w' := by
  have H := Lib.hid h
  have c1 := h.cTh
  have HA := Lib.hid ha
  have HU := Lib.hid hu
  clear h ha hu
  go_enter Tryz.func65, Tryz.ntmps65
  go_wp2_with fail
  refine (kThere_any H.out).mono ?_; rintro e w1 ⟨rfl, rfl⟩
  go_wp2_with fail
  refine (handPlace_any _ (B + 70) 16 m.age m.used i 1 (by omega) (by omega) (by omega) HA.out HU.out H.out.th).mono ?_; rintro e w1 ⟨rfl, hch⟩
  go_wp2_with fail
  go_ret2
  exact ⟨rfl, hch⟩

set_option maxRecDepth 100000 in
set_option maxHeartbeats 1000000 in
theorem runs_any {r : Nat} {l : List Int} (h : KS B T U tb m w) (hi : i < 16) (ht : m.tk i = some t) (hr : r < 32) (hl : m.ls r = (i : Int) :: l) (hn : ∀ j, r < j → j < 32 → m.ls j = []) :
    Calls Tryz.prog 31 #[.pointer (some ⟨B + 69, 0, none⟩)] w fun e w' => e = .returned (.int .u32 (256 + i)) ∧ Ch No w w' := by
  have H := Lib.hid h
  have c1 := h.cReady
  have HL := Lib.hid hl
  have HN := Lib.hid hn
  have HT := Lib.hid ht
  have hi1 : 0 ≤ (i : Int) ∧ (i : Int) < 16 := by omega
  clear h hl hn ht
  go_enter Tryz.func31, Tryz.ntmps31
  go_wp2_with fail
  refine (kThere_any H.out).mono ?_; rintro e w1 ⟨rfl, rfl⟩
  go_wp2_with fail
  refine (rqFirst_any _ B r m.ls m.rk i l H.out.ready hr HL.out HN.out).mono ?_; rintro e w1 ⟨rfl, hch⟩
  have hk := H.out.no hch
  have d1 := hk.cTask hi HT.out
  have d2 : w1.cell? ⟨tb i, 0, none⟩ = some (.int .u32 (256 + i)) := hk.tCell hi HT.out (j := 0) rfl
  clear hk c1
  go_wp2_with fail
  go_ret
  exact ⟨rfl, hch⟩
end
end Go.Proofs.YtcngfaggignmpaaGreatDoor
