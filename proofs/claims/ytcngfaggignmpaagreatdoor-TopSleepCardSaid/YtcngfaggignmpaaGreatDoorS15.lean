/-
  The top, part 15: Tick, Leave, End, AskEnd.
-/
import Derived.Test.YtcngfaggignmpaaGreatDoorS14
import Derived.ChangeKeysEq

/-
  The kernel: a tick goes by, where nobody sleeps.
-/
namespace Go.Proofs.YtcngfaggignmpaaGreatDoor
open Go.RowKit

namespace KM
/-- A tick goes by: i runs. -/
def tick (m : KM) (i : Nat) (t : TM) : KM :=
  let m1 := ({ m with now := (m.now + 1) % 4294967296 } : KM).setT i { t with ran := t.ran + 1 }
  if m.slice ≤ t.ran + 1 then m1.joins i { t with ran := t.ran + 1 } else m1
end KM

section
variable {B T U : Nat} {tb : Nat → Nat} {m : KM} {w : World} {i r : Nat} {t : TM}
theorem ran_cells (U i : Nat) (t : TM) (n : Int) : (tcells i t U).setIfInBounds 15 (.int .i64 n) = tcells i { t with ran := n } U := by
  simp [tcells]
theorem KS.onTick (h : KS B T U tb m w) (n : Int) : KS B T U tb { m with now := n } (w.setCell ⟨B + 69, 1, none⟩ (.int .u32 n)) ∧ Ch (Sk B T U w) w (w.setCell ⟨B + 69, 1, none⟩ (.int .u32 n)) := by
  obtain ⟨cs, r, k⟩ := h.kern
  have hs := k.size
  have e : ∀ (j : Nat), j ≠ 1 → (cs.setIfInBounds 1 (.int .u32 n))[j]? = cs[j]? := fun j hj => by rw [set_get (by omega), if_neg (fun e => hj e.symm)]
  refine h.kern' (Ch.set1 w (B + 69) 1 _) (tk := m.tk) (fun _ _ e => e) (r.set 1 (.int .u32 n)) ⟨by simp [hs], ?_, ?_, ?_, ?_, fun i hi => ?_, fun i hi => ?_, ?_, ?_, ?_⟩
  · rw [e 0 (by omega)]; exact k.slice
  · rw [set_get (by omega), if_pos rfl]
  · rw [e 2 (by omega)]; exact k.th
  · rw [e 3 (by omega)]; exact k.oh
  · rw [e _ (by omega)]; exact k.task i hi
  · rw [e _ (by omega)]; exact k.thing i hi
  · rw [e _ (by omega)]; exact k.ready
  · rw [e _ (by omega)]; exact k.sleeps
  · rw [e _ (by omega)]; exact k.alarms

set_option maxRecDepth 100000 in
set_option maxHeartbeats 4000000 in
theorem tick_any {l' : List Int} (h : KS B T U tb m w) (hc : Cons m) (hi : i < 16) (ht : m.tk i = some t) (hr : r < 32) (hl : m.ls r = (i : Int) :: l') (hn : ∀ j, r < j → j < 32 → m.ls j = []) (hrk : t.rank < 32)
    (hran : 0 ≤ t.ran ∧ t.ran < 1000000) (hs : m.sl = []) (hleft : ∀ j u, j < 16 → (m.tick i t).tk j = some u → u.left ≤ 0) (hcalm : Calm (m.tick i t)) :
    Calls Tryz.prog 39 #[.pointer (some ⟨B + 69, 0, none⟩)] w fun e w' => e = .returned (.int .i64 0) ∧ KS B T U tb (m.tick i t) w' ∧ Ch (Sk B T U w) w w' := by
  have H := Lib.hid h
  have HCO := Lib.hid hc
  have HT := Lib.hid ht
  have HL := Lib.hid hl
  have HN := Lib.hid hn
  have HS := Lib.hid hs
  have HLEFT := Lib.hid hleft
  have HCALM := Lib.hid hcalm
  have c1 := h.cNow
  have f1 := h.kFree 1
  have hi1 : 0 ≤ (i : Int) ∧ (i : Int) < 16 := by omega
  have hw64 : wrap64 (t.ran + 1) = t.ran + 1 := by unfold wrap64; omega
  have hk1 := h.onTick ((m.now + 1) % 4294967296)
  have d1 := hk1.1.cReady
  have HK1 := Lib.hid hk1
  clear h hc ht hl hn hs hleft hcalm hran hk1
  go_enter Tryz.func39, Tryz.ntmps39
  go_wp2_with fail
  refine (kThere_any H.out).mono ?_; rintro e w1 ⟨rfl, rfl⟩
  go_wp2_with fail
  refine (rqFirst_any _ B r m.ls m.rk i l' HK1.out.1.ready hr HL.out HN.out).mono ?_; rintro e w2 ⟨rfl, hch2⟩
  have HK2 := Lib.hid (HK1.out.1.no hch2)
  have HC2 := Lib.hid (HK1.out.2.tr (Ch.ofNo B T U hch2))
  have k1 := HK2.out.cTask hi HT.out
  have k2 : w2.cell? ⟨tb i, 15, none⟩ = some (.int .i64 t.ran) := HK2.out.tCell hi HT.out (j := 15) rfl
  have k3 := HK2.out.tFree hi HT.out 15
  have hrow := (HK2.out.task i t hi HT.out).set 15 (.int .i64 (t.ran + 1))
  rw [ran_cells] at hrow
  have hk3 := HK2.out.task' (Ch.set1 w2 (tb i) 15 (.int .i64 (t.ran + 1))) hi HT.out (t' := { t with ran := t.ran + 1 }) hrow
  have e1 := hk3.1.cTask hi (KM.setT_tk _ _ _)
  have e2 : (w2.setCell ⟨tb i, 15, none⟩ (.int .i64 (t.ran + 1))).cell? ⟨tb i, 15, none⟩ = some (.int .i64 (t.ran + 1)) := hk3.1.tCell hi (KM.setT_tk _ _ _) (j := 15) rfl
  have e3 : (w2.setCell ⟨tb i, 15, none⟩ (.int .i64 (t.ran + 1))).cell? ⟨B + 69, 0, none⟩ = some (.int .i64 m.slice) := hk3.1.cSlice
  have HK3 := Lib.hid hk3
  clear hch2 hrow hk3 c1 f1 d1
  go_wp2_with fail
  have HC3 : Hid (Ch (Sk B T U w) w (w2.setCell ⟨tb i, 15, none⟩ (.int .i64 (t.ran + 1)))) := Lib.hid (HC2.out.tr HK3.out.2)
  clear k1 k2 k3
  by_cases hsl : m.slice ≤ t.ran + 1
  · have hd : decide (m.slice ≤ t.ran + 1) = true := by rw [decide_eq_true_iff]; exact hsl
    have HTICK : Hid (m.tick i t = ((({ m with now := (m.now + 1) % 4294967296 } : KM).setT i { t with ran := t.ran + 1 }).joins i { t with ran := t.ran + 1 })) := Lib.hid (by unfold KM.tick; simp only []; rw [if_pos hsl])
    clear hsl
    go_quiet (fail)
    clear e1 e2 e3
    go_wp2_with fail
    refine (joins_any (t := { t with ran := t.ran + 1 }) (HK3.out.1.drewN nq) HCO.out hi (KM.setT_tk _ _ _) hrk).mono ?_; rintro e w4 ⟨rfl, hk4, hch4⟩
    have HK4 : Hid (KS B T U tb (m.tick i t) w4) := Lib.hid (by rw [HTICK.out]; exact hk4)
    have HC4 := Lib.hid ((HC3.out.tr (Ch.ofNo B T U (Ch.drewN _ nq))).tr hch4)
    clear hk4 hch4
    go_wp2_with fail
    refine (anew_any HK4.out HCALM.out).mono ?_; rintro e w5 ⟨rfl, hch5⟩
    have HK5 := Lib.hid (HK4.out.no hch5)
    have HC5 := Lib.hid (HC4.out.tr (Ch.ofNo B T U hch5))
    have s1 := HK5.out.cSleeps
    have HSL : Hid (DL (B + 65) (U + 3) [] w5) := Lib.hid (by have := HK5.out.sleeps; rw [show (m.tick i t).sl = [] from by unfold KM.tick; simp only []; split <;> (first | exact HS.out | (show ((KM.rm _ i)).sl = []; rw [KM.rm_sl]; exact HS.out))] at this; exact this)
    have s2 := HK5.out.cAlarms
    clear hch5
    go_wp2_with fail
    refine (dlTick_none _ (B + 65) (U + 3) HSL.out).mono ?_; rintro e w6 ⟨rfl, rfl⟩
    go_wp2_with (first | (refine wpList_load_mid rfl 90 _ rfl (B + 69) 4 rfl (tarr tb (m.tick i t)) _ HK5.out.tRange Tryz.underlying90 rfl (by rw [info90]; simp [tarr]) ?_))
    go_loopw [7, 73] (fun _ iv wx => ∃ k : Nat, k ≤ 16 ∧ iv = .int .i64 (k : Int) ∧ wx = w5) (fun _ iv _ => 16 - (intOf iv).toNat)
    case atStart => exact ⟨0, by omega, rfl, rfl⟩
    case round =>
      obtain ⟨k, hk, rfl, hwx⟩ := hrel
      subst hwx
      by_cases hlt : k < 16
      · have hidx := tarr_index tb (m.tick i t) k hlt
        have hk1 : 0 ≤ (k : Int) ∧ (k : Int) < 16 := by omega
        cases htk : (m.tick i t).tk k with
        | none =>
          have hp : tptr tb (m.tick i t) k = none := by unfold tptr; rw [htk]; rfl
          rw [hp] at hidx
          clear hp htk
          go_wp2_with fail
          go_roundw
          case rel => exact ⟨k + 1, by omega, by go_num, by first | rfl | trivial⟩
          case measure => simp [intOf]; omega
        | some u =>
          have hp : tptr tb (m.tick i t) k = some ⟨tb k, 0, none⟩ := by unfold tptr; rw [htk]; rfl
          rw [hp] at hidx
          have q1 : wr.cell? ⟨tb k, 10, none⟩ = some (.int .i64 u.left) := HK5.out.tCell hlt htk (j := 10) rfl
          have q2 : decide (0 < u.left) = false := by rw [decide_eq_false_iff_not]; have := HLEFT.out k u hlt htk; omega
          clear hp htk
          go_wp2_with fail
          go_roundw
          case rel => exact ⟨k + 1, by omega, by go_num, by first | rfl | trivial⟩
          case measure => simp [intOf]; omega
      · obtain rfl : k = 16 := by omega
        go_wp2_with fail
        go_loopw [9, 10, 98] (fun _ _ iv wx => iv = .int .i64 0 ∧ wx = wr) (fun _ _ _ _ => 0)
        case atStart => exact ⟨rfl, rfl⟩
        case round =>
          obtain ⟨rfl, hwx⟩ := hrel
          subst hwx
          go_wp2_with fail
          refine (alTick_none _ (B + 66) HK5.out.alarms).mono ?_; rintro e w7 ⟨rfl, rfl⟩
          go_wp2_with fail
          go_loopw [12, 13, 127] (fun _ _ iv wx => iv = .int .i64 0 ∧ wx = wr) (fun _ _ _ _ => 0)
          case atStart => exact ⟨rfl, rfl⟩
          case round =>
            obtain ⟨rfl, hwx⟩ := hrel
            subst hwx
            go_wp2_with fail
            go_ret
            exact ⟨rfl, HK5.out, HC5.out⟩
  · have hd : decide (m.slice ≤ t.ran + 1) = false := by rw [decide_eq_false_iff_not]; exact hsl
    have HTICK : Hid (m.tick i t = ({ m with now := (m.now + 1) % 4294967296 } : KM).setT i { t with ran := t.ran + 1 }) := Lib.hid (by unfold KM.tick; simp only []; rw [if_neg hsl])
    clear hsl
    go_quiet (fail)
    clear e1 e2 e3
    go_wp2_with fail
    have HK4 : Hid (KS B T U tb (m.tick i t) ((w2.setCell ⟨tb i, 15, none⟩ (.int .i64 (t.ran + 1))).drewN nq)) := Lib.hid (by rw [HTICK.out]; exact HK3.out.1.drewN nq)
    have HC4 := Lib.hid (HC3.out.tr (Ch.ofNo B T U (Ch.drewN _ nq)))
    refine (anew_any HK4.out HCALM.out).mono ?_; rintro e w5 ⟨rfl, hch5⟩
    have HK5 := Lib.hid (HK4.out.no hch5)
    have HC5 := Lib.hid (HC4.out.tr (Ch.ofNo B T U hch5))
    have s1 := HK5.out.cSleeps
    have HSL : Hid (DL (B + 65) (U + 3) [] w5) := Lib.hid (by have := HK5.out.sleeps; rw [show (m.tick i t).sl = [] from by unfold KM.tick; simp only []; split <;> (first | exact HS.out | (show ((KM.rm _ i)).sl = []; rw [KM.rm_sl]; exact HS.out))] at this; exact this)
    have s2 := HK5.out.cAlarms
    clear hch5
    go_wp2_with fail
    refine (dlTick_none _ (B + 65) (U + 3) HSL.out).mono ?_; rintro e w6 ⟨rfl, rfl⟩
    go_wp2_with (first | (refine wpList_load_mid rfl 90 _ rfl (B + 69) 4 rfl (tarr tb (m.tick i t)) _ HK5.out.tRange Tryz.underlying90 rfl (by rw [info90]; simp [tarr]) ?_))
    go_loopw [7, 73] (fun _ iv wx => ∃ k : Nat, k ≤ 16 ∧ iv = .int .i64 (k : Int) ∧ wx = w5) (fun _ iv _ => 16 - (intOf iv).toNat)
    case atStart => exact ⟨0, by omega, rfl, rfl⟩
    case round =>
      obtain ⟨k, hk, rfl, hwx⟩ := hrel
      subst hwx
      by_cases hlt : k < 16
      · have hidx := tarr_index tb (m.tick i t) k hlt
        have hk1 : 0 ≤ (k : Int) ∧ (k : Int) < 16 := by omega
        cases htk : (m.tick i t).tk k with
        | none =>
          have hp : tptr tb (m.tick i t) k = none := by unfold tptr; rw [htk]; rfl
          rw [hp] at hidx
          clear hp htk
          go_wp2_with fail
          go_roundw
          case rel => exact ⟨k + 1, by omega, by go_num, by first | rfl | trivial⟩
          case measure => simp [intOf]; omega
        | some u =>
          have hp : tptr tb (m.tick i t) k = some ⟨tb k, 0, none⟩ := by unfold tptr; rw [htk]; rfl
          rw [hp] at hidx
          have q1 : wr.cell? ⟨tb k, 10, none⟩ = some (.int .i64 u.left) := HK5.out.tCell hlt htk (j := 10) rfl
          have q2 : decide (0 < u.left) = false := by rw [decide_eq_false_iff_not]; have := HLEFT.out k u hlt htk; omega
          clear hp htk
          go_wp2_with fail
          go_roundw
          case rel => exact ⟨k + 1, by omega, by go_num, by first | rfl | trivial⟩
          case measure => simp [intOf]; omega
      · obtain rfl : k = 16 := by omega
        go_wp2_with fail
        go_loopw [9, 10, 98] (fun _ _ iv wx => iv = .int .i64 0 ∧ wx = wr) (fun _ _ _ _ => 0)
        case atStart => exact ⟨rfl, rfl⟩
        case round =>
          obtain ⟨rfl, hwx⟩ := hrel
          subst hwx
          go_wp2_with fail
          refine (alTick_none _ (B + 66) HK5.out.alarms).mono ?_; rintro e w7 ⟨rfl, rfl⟩
          go_wp2_with fail
          go_loopw [12, 13, 127] (fun _ _ iv wx => iv = .int .i64 0 ∧ wx = wr) (fun _ _ _ _ => 0)
          case atStart => exact ⟨rfl, rfl⟩
          case round =>
            obtain ⟨rfl, hwx⟩ := hrel
            subst hwx
            go_wp2_with fail
            go_ret
            exact ⟨rfl, HK5.out, HC5.out⟩
end
end Go.Proofs.YtcngfaggignmpaaGreatDoor

/-
  The kernel: a task lets go of all things.
-/
namespace Go.Proofs.YtcngfaggignmpaaGreatDoor
open Go.RowKit

theorem meth155 : (Tryz.prog.info? 155).map (fun i => (i.methods.find? (·.name == "timekeeper/objects.leave")).map (fun m => (m.path, m.func))) = some (some (#[⟨157, 0, true⟩], some (272, false))) := by kernel_rfl
theorem und157 : (match Tryz.prog.underlying 157 with | some (.struct fs) => (fs[0]?).map (fun f => (f.type, f.offset, f.byteOffset)) | _ => none) = some (146, 0, 0) := by kernel_rfl
theorem size146 : Tryz.prog.cellsOf 146 = 0 := by kernel_rfl
theorem depth1 : byteOfCell Tryz.prog Tryz.prog.depth 157 0 = some 0 := by kernel_rfl
theorem cells157 : Tryz.prog.cellsOf 157 = 1 := by kernel_rfl
theorem und146 : (match Tryz.prog.underlying 146 with | some (.struct _) => true | _ => false) = true := by kernel_rfl

theorem row_shape {n : Nat} {w : World} {cs : Array Value} (h : Row n 157 cs w) : w.shape? n = some (157, cs.size) := by
  unfold World.shape?
  rw [show w.heap[n]? = some (.cells cs 157) from h]
theorem row_byteOf {n : Nat} {w : World} {cs : Array Value} (h : Row n 157 cs w) : (byteOf ⟨n, 0, none⟩).run Tryz.prog w = .ok 0 w := by
  simp [byteOf, noView, viewAt, row_shape h, cells157, depth1]
theorem row_follow {n : Nat} {w : World} {cs : Array Value} (h : Row n 157 cs w) : (follow [⟨157, 0, true⟩] 155 (.val (.pointer (some ⟨n, 0, none⟩)))).run Tryz.prog w = .ok (146, .var ⟨n, 0, none⟩) w := by
  have m := und157
  cases hu : Tryz.prog.underlying 157 with
  | none => rw [hu] at m; cases m
  | some d =>
    rw [hu] at m
    cases d <;> simp only [reduceCtorEq] at m
    rename_i fs
    cases hf : fs[0]? with
    | none => rw [hf] at m; cases m
    | some f =>
      rw [hf] at m
      simp only [Option.map_some, Option.some.injEq, Prod.mk.injEq] at m
      obtain ⟨m1, m2, m3⟩ := m
      simp [follow, run_underlying hu, hf, Place.get, asAddr, fieldPlace, partAt, m2, m3, row_byteOf h, m1]
theorem row_recv {n : Nat} {w : World} : (receiverAt 146 (.var ⟨n, 0, none⟩) false none).run Tryz.prog w = .ok (.agg #[]) w := by
  have m := und146
  cases hu : Tryz.prog.underlying 146 with
  | none => rw [hu] at m; cases m
  | some d =>
    rw [hu] at m
    cases d <;> simp only [reduceCtorEq] at m
    simp [receiverAt, run_underlying hu, Place.get, loadVar, isAgg, loadCells, loadCellsFrom]
theorem rowLeave {n : Nat} {w : World} {cs : Array Value} (h : Row n 157 cs w) : (method 512 155 (.pointer (some ⟨n, 0, none⟩)) "timekeeper/objects.leave").run Tryz.prog w = .ok (272, .agg #[]) w := by
  have m := meth155
  cases hi : Tryz.prog.info? 155 with
  | none => rw [hi] at m; cases m
  | some i =>
    rw [hi] at m
    simp only [Option.map_some, Option.some.injEq] at m
    cases hf : i.methods.find? (·.name == "timekeeper/objects.leave") with
    | none => rw [hf] at m; cases m
    | some q =>
      rw [hf] at m
      simp only [Option.map_some, Option.some.injEq, Prod.mk.injEq] at m
      unfold method
      simp only [Sem.run_bind, run_typeInfo w hi, Result.andThen_ok, hf, m.1, m.2]
      simp [row_follow h, row_recv]
set_option maxHeartbeats 1000000 in
theorem noLeave (w : World) (who : Int) : Calls Tryz.prog 272 #[.agg #[], .int .u32 who] w fun e w' => e = .returned (.bool false) ∧ Ch No w w' := by
  go_enter Tryz.func272, Tryz.ntmps272
  go_wp2_with fail
  go_ret
  exact ⟨rfl, Ch.alloc w _⟩

set_option maxRecDepth 100000 in
set_option maxHeartbeats 1000000 in
theorem leave_any (w : World) (b most : Nat) (l : List Int) (who : Int) (hwho : (who != 0) = true) (h : TH b most l w) :
    Calls Tryz.prog 126 #[.pointer (some ⟨b, 0, none⟩), .int .u32 who] w fun e w' => e = .returned (.bool false) ∧ Ch No w w' := by
  have H := Lib.hid h
  have hm := rowLeave h.kind
  have c1 : w.cell? ⟨b, 3, none⟩ = some (.iface 155 (.pointer (some ⟨b + 2, 0, none⟩))) := h.head.cell (j := 3) rfl
  clear h
  go_enter Tryz.func126, Tryz.ntmps126
  go_wp2_with fail
  refine (thThere_any _ b most l H.out).mono ?_; rintro e w1 ⟨rfl, rfl⟩
  go_wp2_with fail
  refine (noLeave _ who).mono ?_; rintro e w1 ⟨rfl, hch⟩
  go_wp2_with fail
  go_ret
  exact ⟨rfl, hch⟩

theorem info91 : (Tryz.prog.info? 91).map (·.size) = some 32 := by kernel_rfl
theorem index32 (f : Nat → Option Addr) (w : World) : ∀ k, k < 32 → (Instr.index 91 (.agg ((List.range 32).map (fun i => Value.pointer (f i))).toArray) (.int .i64 (k : Nat))).run Tryz.prog w = .ok (.pointer (f k)) w
  | 0, _ => by kernel_rfl
  | 1, _ => by kernel_rfl
  | 2, _ => by kernel_rfl
  | 3, _ => by kernel_rfl
  | 4, _ => by kernel_rfl
  | 5, _ => by kernel_rfl
  | 6, _ => by kernel_rfl
  | 7, _ => by kernel_rfl
  | 8, _ => by kernel_rfl
  | 9, _ => by kernel_rfl
  | 10, _ => by kernel_rfl
  | 11, _ => by kernel_rfl
  | 12, _ => by kernel_rfl
  | 13, _ => by kernel_rfl
  | 14, _ => by kernel_rfl
  | 15, _ => by kernel_rfl
  | 16, _ => by kernel_rfl
  | 17, _ => by kernel_rfl
  | 18, _ => by kernel_rfl
  | 19, _ => by kernel_rfl
  | 20, _ => by kernel_rfl
  | 21, _ => by kernel_rfl
  | 22, _ => by kernel_rfl
  | 23, _ => by kernel_rfl
  | 24, _ => by kernel_rfl
  | 25, _ => by kernel_rfl
  | 26, _ => by kernel_rfl
  | 27, _ => by kernel_rfl
  | 28, _ => by kernel_rfl
  | 29, _ => by kernel_rfl
  | 30, _ => by kernel_rfl
  | 31, _ => by kernel_rfl
  | n + 32, h => by omega
/-- The things' places, as an array. -/
def oarr (U : Nat) : List Value := (List.range 32).map (fun i => Value.pointer (if i = 0 then some ⟨U + 2, 0, none⟩ else none))

section
variable {B T U : Nat} {tb : Nat → Nat} {m : KM} {w : World}
theorem oarr_index (U k : Nat) (hk : k < 32) (w : World) : (Instr.index 91 (.agg (oarr U).toArray) (.int .i64 (k : Nat))).run Tryz.prog w = .ok (.pointer (if k = 0 then some ⟨U + 2, 0, none⟩ else none)) w := index32 (fun i => if i = 0 then some ⟨U + 2, 0, none⟩ else none) w k hk
theorem KS.oRange (h : KS B T U tb m w) : w.rangeAt (B + 69) 20 (oarr U) := by
  obtain ⟨cs, r, k⟩ := h.kern
  intro j v hv
  unfold oarr at hv
  have hj : j < 32 := by have := (List.getElem?_eq_some_iff.1 hv).1; simpa using this
  simp [hj] at hv
  subst hv
  exact r.cell (k.thing j hj)

set_option maxRecDepth 100000 in
set_option maxHeartbeats 4000000 in
theorem lets_any (h : KS B T U tb m w) (who : Int) (hwho : (who != 0) = true) :
    Calls Tryz.prog 67 #[.pointer (some ⟨B + 69, 0, none⟩), .int .u32 who] w fun e w' => e = .returned (.tuple #[]) ∧ Ch No w w' := by
  have H := Lib.hid h
  clear h
  go_enter Tryz.func67, Tryz.ntmps67
  go_wp2_with (first | (refine wpList_load_mid rfl 91 _ rfl (B + 69) 20 rfl (oarr U) _ H.out.oRange Tryz.underlying91 rfl (by rw [info91]; simp [oarr]) ?_))
  go_loopw [5, 10] (fun _ iv wx => ∃ k : Nat, k ≤ 32 ∧ iv = .int .i64 (k : Int) ∧ Ch No w wx) (fun _ iv _ => 32 - (intOf iv).toNat)
  case atStart => exact ⟨0, by omega, rfl, Ch.refl _ _⟩
  case round =>
    obtain ⟨k, hk, rfl, hch⟩ := hrel
    by_cases hlt : k < 32
    · have hidx := oarr_index U k hlt
      have hk1 : 0 ≤ (k : Int) ∧ (k : Int) < 32 := by omega
      have HCH := Lib.hid hch
      have HK := Lib.hid (H.out.no hch)
      clear hch
      by_cases h0 : k = 0
      · rw [if_pos h0] at hidx
        have c1 : wr.cell? ⟨U + 2, 4, none⟩ = some (.pointer (some ⟨T, 0, none⟩)) := HK.out.thing.cell (j := 4) rfl
        clear h0
        go_wp2_with fail
        refine (leave_any _ T m.most m.row who hwho HK.out.obj).mono ?_; rintro e w1 ⟨rfl, hch1⟩
        have HC1 := Lib.hid (HCH.out.trans hch1)
        clear hch1
        go_wp2_with fail
        go_roundw
        case rel => exact ⟨k + 1, by omega, by go_num, HC1.out⟩
        case measure => simp [intOf]; omega
      · rw [if_neg h0] at hidx
        clear h0
        go_wp2_with fail
        go_roundw
        case rel => exact ⟨k + 1, by omega, by go_num, HCH.out⟩
        case measure => simp [intOf]; omega
    · obtain rfl : k = 32 := by omega
      go_wp2_with fail
      go_end0
      exact ⟨rfl, hch⟩
end
end Go.Proofs.YtcngfaggignmpaaGreatDoor

/-
  The kernel: a task ends.
-/
namespace Go.Proofs.YtcngfaggignmpaaGreatDoor
open Go.RowKit

namespace KM
/-- A task is no more. -/
def ends (m : KM) (i : Nat) (t : TM) : KM := { (m.stops i t) with tk := upd (m.stops i t).tk i none, used := upd (m.stops i t).used i false }
theorem stops_age (m : KM) (i : Nat) (t : TM) : (m.stops i t).age = m.age := by unfold stops setT noWait; exact rm_age _ _
theorem stops_used (m : KM) (i : Nat) (t : TM) : (m.stops i t).used = m.used := by unfold stops setT noWait; exact rm_used _ _
end KM

section
variable {B T U : Nat} {tb : Nat → Nat} {m : KM} {w : World} {i r : Nat} {t : TM}
theorem KS.gone (h : KS B T U tb m w) (hi : i < 16) : KS B T U tb { m with tk := upd m.tk i none } (w.setCell ⟨B + 69, 4 + i, none⟩ (.pointer none)) ∧ Ch (Sk B T U w) w (w.setCell ⟨B + 69, 4 + i, none⟩ (.pointer none)) := by
  obtain ⟨cs, r, k⟩ := h.kern
  have hs := k.size
  have e : ∀ (j : Nat), j ≠ 4 + i → (cs.setIfInBounds (4 + i) (.pointer none))[j]? = cs[j]? := fun j hj => by rw [set_get (by omega), if_neg (fun e => hj e.symm)]
  refine h.kern' (Ch.set1 w (B + 69) (4 + i) _) (now := m.now) (fun j u hu => ?_) (r.set (4 + i) (.pointer none)) ⟨by simp [hs], ?_, ?_, ?_, ?_, fun j hj => ?_, fun j hj => ?_, ?_, ?_, ?_⟩
  · by_cases ej : j = i
    · subst ej; rw [upd_at] at hu; cases hu
    · rw [upd_ne _ _ ej] at hu; exact hu
  · rw [e 0 (by omega)]; exact k.slice
  · rw [e 1 (by omega)]; exact k.now
  · rw [e 2 (by omega)]; exact k.th
  · rw [e 3 (by omega)]; exact k.oh
  · by_cases ej : j = i
    · subst ej
      rw [set_get (by omega), if_pos rfl]
      unfold tptr
      simp [upd_at]
    · rw [e _ (by omega), k.task j hj]
      unfold tptr
      simp [upd_ne _ _ ej]
  · rw [e _ (by omega)]; exact k.thing j hj
  · rw [e _ (by omega)]; exact k.ready
  · rw [e _ (by omega)]; exact k.sleeps
  · rw [e _ (by omega)]; exact k.alarms

set_option maxRecDepth 100000 in
set_option maxHeartbeats 4000000 in
theorem end_any (h : KS B T U tb m w) (hc : Cons m) (hi : i < 16) (ht : m.tk i = some t) (hag : m.age i = 1) (hus : m.used i = true) (hon : t.on = false) (hs : Awake m i) (hcalm : Calm (m.ends i t)) :
    Calls Tryz.prog 68 #[.pointer (some ⟨B + 69, 0, none⟩), .int .u32 (256 + i)] w fun e w' => e = .returned (.int .i64 0) ∧ KS B T U tb (m.ends i t) w' ∧ Ch (Sk B T U w) w w' := by
  have H := Lib.hid h
  have HCO := Lib.hid hc
  have HT := Lib.hid ht
  have HAG := Lib.hid hag
  have HUS := Lib.hid hus
  have HON := Lib.hid hon
  have HS := Lib.hid hs
  have HCALM := Lib.hid hcalm
  have hi1 : 0 ≤ (i : Int) ∧ (i : Int) < 16 := by omega
  have hwho : (((256 : Int) + i) != 0) = true := by rw [bne_iff_ne]; omega
  have HWHO := Lib.hid hwho
  clear h hc ht hag hus hon hs hcalm hwho
  go_enter_defers Tryz.func68, Tryz.ntmps68
  go_wp2_with fail
  refine (place_any H.out hi HAG.out HUS.out).mono ?_; rintro e w1 ⟨rfl, hch1⟩
  have HK1 := Lib.hid (H.out.no hch1)
  have HC1 : Hid (Ch (Sk B T U w) w w1) := Lib.hid (Ch.ofNo B T U hch1)
  clear hch1
  go_wp2_with fail
  refine (stops_any HK1.out HCO.out hi HT.out (fun e => absurd (HON.out.symm.trans e) (by decide)) HS.out).mono ?_; rintro e w2 ⟨rfl, hk2, hch2⟩
  have hk3 := hk2.gone hi
  have HK3 := Lib.hid hk3
  have HC3 := Lib.hid ((HC1.out.tr hch2).tr hk3.2)
  obtain ⟨cs, r0, k0⟩ := hk2.kern
  have f1 := r0.free (4 + i)
  have c1 := r0.cell (k0.task i hi)
  have d1 := hk3.1.cTh
  have HTH := Lib.hid hk3.1.th
  clear hk2 hch2 hk3 r0 k0
  go_wp2_with fail
  refine (handDrop_any _ (B + 70) 16 (m.stops i t).age (m.stops i t).used i 1 (by omega) (by omega) (by omega) (by rw [KM.stops_age]; exact HAG.out) (by rw [KM.stops_used]; exact HUS.out) HTH.out).mono ?_; rintro e w4 ⟨rfl, hth4, hch4⟩
  have hk4 := HK3.out.1.th' hch4 hth4
  have HK4 : Hid (KS B T U tb (m.ends i t) w4) := Lib.hid hk4.1
  have HC4 := Lib.hid (HC3.out.tr hk4.2)
  clear hth4 hch4 hk4 f1 c1 d1
  go_wp2_with fail
  refine (lets_any HK4.out _ HWHO.out).mono ?_; rintro e w5 ⟨rfl, hch5⟩
  have HK5 := Lib.hid (HK4.out.no hch5)
  have HC5 := Lib.hid (HC4.out.tr (Ch.ofNo B T U hch5))
  clear hch5
  go_wp2_with fail
  refine leaves_cons (f := 57) (args := #[.pointer (some ⟨B + 69, 0, none⟩)]) (by simp) (by simp [go_sem]) ?_
  refine (anew_deferred .returning HK5.out HCALM.out).mono ?_
  rintro e u' w9 ⟨rfl, rfl, hch9⟩
  exact ⟨.int .i64 0, by simp [results, Tryz.f68, go_sem], rfl, HK5.out.no hch9, HC5.out.tr (Ch.ofNo B T U hch9)⟩
end
end Go.Proofs.YtcngfaggignmpaaGreatDoor

/-
  The kernel: Ask, to end.
-/
namespace Go.Proofs.YtcngfaggignmpaaGreatDoor
open Go.RowKit

section
variable {B T U : Nat} {tb : Nat → Nat} {m : KM} {w : World} {i r : Nat} {t : TM}
set_option maxRecDepth 100000 in
set_option maxHeartbeats 4000000 in
theorem ask_end {l' : List Int} (h : KS B T U tb m w) (hc : Cons m) (hi : i < 16) (ht : m.tk i = some t) (hr : r < 32) (hl : m.ls r = (i : Int) :: l') (hn : ∀ j, r < j → j < 32 → m.ls j = [])
    (hag : m.age i = 1) (hus : m.used i = true) (hon : t.on = false) (hs : Awake m i) (hcalm : Calm (m.ends i t)) :
    Calls Tryz.prog 34 #[.pointer (some ⟨B + 69, 0, none⟩), askV 20 0 0 0 0] w fun e w' => e = .returned (.tuple #[.bool true, .int .i64 0]) ∧ KS B T U tb (m.ends i t) w' ∧ Ch (Sk B T U w) w w' := by
  have hC0 : Ch No w (w.alloc (.cells #[.int .u8 20, .int .u32 0, .int .u32 0, .int .u32 0, .int .i64 0] 112)) := Ch.alloc w _
  have hb0 := Row.new w 112 #[.int .u8 20, .int .u32 0, .int .u32 0, .int .u32 0, .int .i64 0]
  have H0 := Lib.hid (h.no hC0)
  obtain ⟨W0, hW0⟩ : ∃ W0, W0 = w.alloc (.cells #[.int .u8 20, .int .u32 0, .int .u32 0, .int .u32 0, .int .i64 0] 112) := ⟨_, rfl⟩
  have HW0 := Lib.hid hW0
  rw [← hW0] at hC0 hb0 H0
  have HB0 := Lib.hid hb0
  have HCO := Lib.hid hc
  have HT := Lib.hid ht
  have HL := Lib.hid hl
  have HN := Lib.hid hn
  have HAG := Lib.hid hag
  have HUS := Lib.hid hus
  have HON := Lib.hid hon
  have HS := Lib.hid hs
  have HCALM := Lib.hid hcalm
  have c1 := H0.out.cReady
  have hi1 : 0 ≤ (i : Int) ∧ (i : Int) < 16 := by omega
  clear h hc ht hl hn hag hus hon hs hcalm hb0 hW0
  unfold askV
  go_enter_defers Tryz.func34, Tryz.ntmps34
  go_wp2_with fail
  rw [← HW0.out]
  refine (kThere_any H0.out).mono ?_; rintro e w1 ⟨rfl, rfl⟩
  go_wp2_with fail
  refine (rqFirst_any _ B r m.ls m.rk i l' H0.out.ready hr HL.out HN.out).mono ?_; rintro e w1 ⟨rfl, hch1⟩
  have hk1 := H0.out.no hch1
  have hb1 := HB0.out.keeps hch1 (fun x => x)
  have HC1 : Hid (Ch (Sk B T U w) w w1) := Lib.hid (Ch.ofNo B T U (hC0.trans hch1))
  have d0 : w1.cell? ⟨w.heap.size, 0, none⟩ = some (.int .u8 20) := hb1.cell (j := 0) rfl
  have d5 := hk1.cTask hi HT.out
  have d6 : w1.cell? ⟨tb i, 0, none⟩ = some (.int .u32 (256 + i)) := hk1.tCell hi HT.out (j := 0) rfl
  have HK1 := Lib.hid hk1
  clear hk1 hb1 hch1 c1 hC0
  go_wp2_with fail
  refine (end_any HK1.out HCO.out hi HT.out HAG.out HUS.out HON.out HS.out HCALM.out).mono ?_; rintro e w2 ⟨rfl, hk2, hch2⟩
  have HK2 := Lib.hid hk2
  have HC2 := Lib.hid (HC1.out.tr hch2)
  clear hk2 hch2
  go_wp2_with fail
  exact ⟨.tuple #[.bool true, .int .i64 0], by simp [results, Tryz.f34, go_sem], rfl, HK2.out, HC2.out⟩
end
end Go.Proofs.YtcngfaggignmpaaGreatDoor
