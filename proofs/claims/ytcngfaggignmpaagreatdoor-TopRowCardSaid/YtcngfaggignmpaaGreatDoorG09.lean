/-
  The top, part 9: Heirs, First, Runs, Km.
-/
import Derived.Test.YtcngfaggignmpaaGreatDoorG03
import Derived.Test.YtcngfaggignmpaaGreatDoorG04
import Derived.Test.YtcngfaggignmpaaGreatDoorG08
import Derived.RangeFuncNested
import Derived.RangeFuncBound
import Derived.RangeFuncCalls
import Derived.RangeFuncLeaves
import Derived.Stop.RegionWithIn
import Derived.Shelf.Abstract
import Derived.OwnWalkIn
import Derived.TacticsInMore
import Derived.LoopNIn
import Derived.LoopIn
import Derived.RangeFuncFrom

/-
  Ranks where nobody waits for a mutex: each one's own.
-/
namespace Go.Proofs.YtcngfaggignmpaaGreatDoor
open Go.RowKit

set_option maxRecDepth 100000 in
set_option maxHeartbeats 4000000 in
theorem ranks_any (w : World) (g u c1 c2 : Nat) (f : Nat → Int) (hf : ∀ j, j < 16 → 0 ≤ f j ∧ f j ≤ 31) (h : ∀ j, j < 16 → w.cell? ⟨g, j, none⟩ = some (.int .i64 (f j))) (hu : ∀ j, j < 16 → w.cell? ⟨u, j, none⟩ = some (.int .i64 (-1))) :
    Calls Tryz.prog 91 #[.slice (some ⟨g, 0, none⟩) 16 c1, .slice (some ⟨u, 0, none⟩) 16 c2] w fun e w' => (∃ g', e = .returned (.tuple #[.slice (some ⟨g', 0, none⟩) 16 16, .int .i64 0]) ∧ w.heap.size ≤ g' ∧ ∃ cs, Row g' 3 cs w' ∧ ∀ j, j < 16 → cs[j]? = some (.int .i64 (f j))) ∧ Ch No w w' := by
  have H := Lib.hid h
  have HU := Lib.hid hu
  have HF := Lib.hid hf
  clear h hu hf
  go_enter Tryz.func91, Tryz.ntmps91
  go_wp2_with fail
  go_step3
  go_wp2_with fail
  go_loopw [6, 7, 8, 24] (fun _ _ _ i wr => ∃ k : Nat, k ≤ 16 ∧ i = .int .i64 (k : Int) ∧ wr = w) (fun _ _ _ i _ => 16 - (intOf i).toNat)
  case atStart => exact ⟨0, by omega, rfl, rfl⟩
  case round =>
    obtain ⟨k, hk, rfl, rfl⟩ := hrel
    by_cases hlt : k < 16
    · have d1 := H.out k hlt
      have d2 := HU.out k hlt
      obtain ⟨r1, r2⟩ := HF.out k hlt
      have t1 : decide (f k < 0) = false := by rw [decide_eq_false_iff_not]; omega
      have t2 : decide (31 < f k) = false := by rw [decide_eq_false_iff_not]; omega
      have t3 : ((-1 : Int) == (k : Int)) = false := by rw [beq_eq_false_iff_ne]; omega
      go_wp2_with fail
      go_roundw
      case rel => exact ⟨k + 1, by omega, by go_num, by first | rfl | trivial⟩
      case measure => simp [intOf]; omega
    · obtain rfl : k = 16 := by omega
      go_wp2_with fail
      refine (clone_any _ g 16 c1 f (by omega) (by omega) H.out).mono ?_; rintro e w1 ⟨⟨g', cap', rfl, hc, hge, cs, hrow, hcs⟩, hch⟩
      have HROW := Lib.hid hrow
      have HCS := Lib.hid hcs
      have HCH := Lib.hid hch
      have hu2 : ∀ j, j < 16 → w1.cell? ⟨u, j, none⟩ = some (.int .i64 (-1)) := fun j hj => by
        have e1 := HU.out j hj
        rw [World.cell?_of_block (hch.block u (World.block_lt_of_cell? _ _ e1) (fun x => x))]; exact e1
      have HU2 := Lib.hid hu2
      clear hrow hcs hch hu2
      go_wp2_with fail
      refine (clip_any _ ⟨g', 0, none⟩ 16 cap' hc).mono ?_; rintro e w2 ⟨rfl, rfl⟩
      go_wp2_with fail
      go_step3
      go_wp2_with fail
      go_loopw [60] (fun _ wx => wx = w1) (fun _ _ => 0)
      case atStart => rfl
      case round =>
        subst hrel
        go_wp2_with fail
        go_loopw [10, 11, 60] (fun _ _ i wx => ∃ k : Nat, k ≤ 16 ∧ i = .int .i64 (k : Int) ∧ ∃ q, wx = wr.drewN q) (fun _ _ i _ => 16 - (intOf i).toNat)
        case atStart => exact ⟨0, by omega, rfl, 0, rfl⟩
        case round =>
          obtain ⟨k, hk, rfl, q, rfl⟩ := hrel
          by_cases hlt : k < 16
          · have d2 := HU2.out k hlt
            go_wp2_with fail
            go_quiet (fail)
            go_wp2_with fail
            go_roundw
            case rel => exact ⟨k + 1, by omega, by go_num, _, rfl⟩
            case measure => simp [intOf]; omega
          · obtain rfl : k = 16 := by omega
            go_wp2_with fail
            rw [Exit.noGoto_ret]
            go_ret2
            exact ⟨⟨g', rfl, hge, cs, HROW.out.drewN _, HCS.out⟩, HCH.out.trans (Ch.drewN _ _)⟩
end Go.Proofs.YtcngfaggignmpaaGreatDoor

/-
  The queue of those who may run: who runs next.
-/
namespace Go.Proofs.YtcngfaggignmpaaGreatDoor
open Go.RowKit Go.Shelf
attribute [local go_sem] Oper.semAt_some

/-- Each block of values is as it was. -/
def KC (w w' : World) : Prop := ∀ (k : Nat) (cs : Array Value) (t : TypeId), w.heap[k]? = some (Obj.cells cs t) → w'.heap[k]? = some (Obj.cells cs t)
theorem KC.trans {a b c : World} (h : KC a b) (g : KC b c) : KC a c := fun k cs t e => g k cs t (h k cs t e)
theorem KC.row {w w' : World} {p : Nat} {t : TypeId} {cs : Array Value} (h : KC w w') (r : Row p t cs w) : Row p t cs w' := h p cs t r
theorem KC.putObj (W : World) (l : Nat) (o o' : Obj) (h : W.heap[l]? = some o) (hc : o.isCells = false) : KC W (W.putObj l o') := by
  intro k cs t e
  have hne : l ≠ k := by
    intro e2; subst e2; rw [h] at e; cases e; cases hc
  simp [World.putObj, hne, e]
theorem Ch.grown {w w' : World} (h : Ch No w w') : w.grownBy w' none := ⟨h.os, h.tape, h.output, h.size, fun k hk _ => h.block k hk (fun x => x)⟩

set_option maxRecDepth 100000 in
set_option maxHeartbeats 2000000 in
theorem from1_in (n : Nat) (hn : 1 ≤ n) (l0 q r B1 B2 : Nat) (ls : Nat → List Int) (rk : Nat → Int) (J Jx : List Int → World → Prop)
    (hJA : ∀ W W', J [] W → W.grownBy W' none → J [] W')
    (hY : ∀ pre x W, J pre W → pre.length < (ls r).length → YieldAt Fence.wide (n - 1) Tryz.prog l0 #[.int .i64 x] W fun e W' =>
      (e = .returned (.bool true) ∧ J (pre ++ [x]) W' ∧ KC W W') ∨ (e = .returned (.bool false) ∧ Jx (pre ++ [x]) W'))
    (W : World) (hr : r < 32) (h : RQ q ls rk W) (b1 : Row B1 92 #[.pointer (some ⟨q, 0, none⟩)] W) (b2 : Row B2 3 #[.int .i64 r] W) (h0 : J [] W) :
    CallsIn Fence.wide n Tryz.prog 164 #[.func (.yield l0) #[] #[], .pointer (some ⟨B1, 0, none⟩), .pointer (some ⟨B2, 0, none⟩)] W fun e W' => (∃ v, e = .returned v) ∧
      ((∃ ys, ys = ls r ∧ J ys W') ∨ (∃ pre, pre <+: ls r ∧ Jx pre W')) := by
  obtain ⟨t, has, cs, h1⟩ := h.row
  have HRg := Lib.hid (h.rings r hr)
  have hm : (ls r).length ≤ 256 := by obtain ⟨_, _, _, _, hh⟩ := h.rings r hr; exact hh.most
  have c1 := h1.row.cell (h1.ptr r hr)
  have c2 := b1.cell (j := 0) rfl
  have c3 := b2.cell (j := 0) rfl
  have hY' := Lib.hid hY
  have hJA' := Lib.hid hJA
  have hr' : 0 ≤ (r : Int) ∧ (r : Int) < 32 := by omega
  clear h h1 b1 b2 hY hJA
  refine callsIn_of_wp Tryz.func164 rfl trivial ?_ rfl
  simp only [Tryz.ntmps164, List.size_toArray, List.length_cons, List.length_nil, Nat.reduceAdd, Nat.reduceSub, Array.replicate_succ, Array.replicate_zero, List.push_toArray, List.append_toArray, List.nil_append, List.cons_append]
  gi_wp2_with fail
  gi_region_with (first | (refine ⟨trivial, ?_⟩; gi_at_call 157; refine (callsIn_wide.2 (ringList_any _ _ _ (ls r) (HRg.out.drewN 1))).mono ?_; rintro e w1 ⟨v, rfl, hints, hch⟩; obtain ⟨a, cap, rfl⟩ := hints.slice))
  all_goals
    clear c1 c2 c3 hr'
    gi_wp2_with fail
    gi_loopw [5, 14] (fun _ i wr => ∃ k : Nat, k ≤ (ls r).length ∧ i = .int .i64 k ∧ J ((ls r).take k) wr ∧ KC w1 wr) (fun _ i _ => (ls r).length - (intOf i).toNat)
    case atStart => exact ⟨0, Nat.zero_le _, rfl, hJA'.out _ _ h0 ((Ch.drewN (S := No) W 1).trans hch).grown, fun _ _ _ e => e⟩
    case round =>
      obtain ⟨k, hk, rfl, hJs, hnx⟩ := hrel
      by_cases hlt : k < (ls r).length
      · obtain ⟨x, hx⟩ : ∃ x, (ls r)[k]? = some x := ⟨_, List.getElem?_eq_getElem hlt⟩
        have HPX : Hid ((ls r).take k ++ [x] <+: ls r) := Lib.hid (by rw [show (ls r).take k ++ [x] = (ls r).take (k + 1) from by rw [List.take_add_one, hx]; rfl]; exact List.take_prefix _ _)
        obtain ⟨g, cap2, e, hb, cs2, hrow, hget⟩ := hints.cells (fun e => by rw [e] at hlt; simp at hlt)
        cases e
        have d1 := (hnx.row hrow).cell (hget k x hx)
        obtain ⟨fn, tmps, assign, body, hy, hR⟩ := hY'.out _ x wr hJs (by rw [List.length_take]; omega)
        gi_wp2
        refine hR.mono ?_
        rintro e W3 (⟨rfl, hJ3, hk3⟩ | ⟨rfl, hJx3⟩)
        · gi_wp2
          go_roundw
          case rel => exact ⟨k + 1, by omega, by go_num, by rw [List.take_add_one, hx]; exact hJ3, hnx.trans hk3⟩
          case measure => simp [intOf]; omega
        · gi_wp2
          refine bodyPost_ret (results_none rfl _ _ _) rfl ?_
          exact ⟨⟨_, rfl⟩, .inr ⟨_, HPX.out, hJx3⟩⟩
      · obtain rfl : k = (ls r).length := by omega
        gi_wp2
        go_end0
        exact ⟨⟨_, rfl⟩, .inl ⟨_, by rw [List.take_length], hJs⟩⟩

theorem from_stops (n : Nat) (hn : 1 ≤ n) (q r B1 B2 : Nat) (ls : Nat → List Int) (rk : Nat → Int) (w : World) (hr : r < 32) (h : RQ q ls rk w)
    (b1 : Row B1 92 #[.pointer (some ⟨q, 0, none⟩)] w) (b2 : Row B2 3 #[.int .i64 r] w) :
    SeqStopsK Fence.wide n Tryz.prog 164 #[.pointer (some ⟨B1, 0, none⟩), .pointer (some ⟨B2, 0, none⟩)] (fun x : Int => #[Value.int .i64 x]) KC (fun ys => ys = ls r) (fun pre => pre <+: ls r) (ls r).length w := fun l J Jx W hW hJ _ hY h0 => by
  have hc : Ch No w W := Ch.below hW
  exact from1_in n hn l q r B1 B2 ls rk J Jx (fun A B ha hg => hJ [] A B none ha hg (fun _ e => by cases e)) hY W hr (h.keeps hc (fun _ s => s.elim)) (b1.keeps hc (fun x => x)) (b2.keeps hc (fun x => x)) h0

set_option maxHeartbeats 1000000 in
theorem rqFrom_any (w : World) (q r : Nat) :
    Calls Tryz.prog 100 #[.pointer (some ⟨q, 0, none⟩), .int .i64 r] w fun e w' => e = .returned (.func (.func 164) #[] #[.pointer (some ⟨w.heap.size, 0, none⟩), .pointer (some ⟨w.heap.size + 1, 0, none⟩)]) ∧ w' = (w.alloc (.cells #[.pointer (some ⟨q, 0, none⟩)] 92)).alloc (.cells #[.int .i64 r] 3) := by
  have hmf : ∀ (fn : Fn) (first cap : Array Value) (w : World), (Instr.makeFunc fn first cap).run Tryz.prog w = .ok (.func fn first cap) w := fun _ _ _ _ => rfl
  go_enter Tryz.func100, Tryz.ntmps100
  go_wp2_with fail
  go_ret
  exact ⟨by first | rfl | simp, rfl⟩
end Go.Proofs.YtcngfaggignmpaaGreatDoor

/-
  The queue of those who may run: the first one.
-/
namespace Go.Proofs.YtcngfaggignmpaaGreatDoor
open Go.RowKit Go.Shelf
attribute [local go_sem] Oper.semAt_some

section
variable {w : World} {q : Nat} {ls : Nat → List Int} {rk : Nat → Int}
theorem RQ.low (h : RQ q ls rk w) (S : Nat → Prop) {w' : World} (g : Ch S w w') (hn : ∀ k, S k → k ≥ w.heap.size) : RQ q ls rk w' :=
  h.keeps g (fun k s hb => by
    have h0 := hn k s
    rcases hb with ⟨hb1, hb2⟩
    have := (h.rings 31 (by omega)).ltp
    omega)
end

set_option maxRecDepth 100000 in
set_option maxHeartbeats 4000000 in
theorem rqFirst_any (w : World) (q r : Nat) (ls : Nat → List Int) (rk : Nat → Int) (x : Int) (l : List Int) (h : RQ q ls rk w) (hr : r < 32) (hl : ls r = x :: l) (hn : ∀ j, r < j → j < 32 → ls j = []) :
    Calls Tryz.prog 60 #[.pointer (some ⟨q, 0, none⟩)] w fun e w' => e = .returned (.tuple #[.int .i64 x, .bool true]) ∧ Ch No w w' := by
  have HR := Lib.hid h
  have HL := Lib.hid hl
  obtain ⟨t, has, cs, h1⟩ := h.row
  have c1 := ((h1.row.alloc (.cells #[.int .i64 0] 3)).alloc (.cells #[.bool false] 4)).cell h1.word
  have hb1 : wb has r = true := by rw [h1.bits r hr, hl]; rfl
  have hb2 : ∀ j, r < j → j < 32 → wb has j = false := fun j h1' h2' => by rw [h1.bits j h2', hn j h1' h2']; rfl
  have HB1 := Lib.hid hb1
  have HB2 := Lib.hid hb2
  have HW := Lib.hid h1.w32
  clear h h1 hl hn hb1 hb2
  refine (callsIn_wide (n := 3)).1 ?_
  refine callsIn_of_wp_marks Tryz.func60 rfl trivial ?_ rfl
  simp only [Tryz.ntmps60, List.size_toArray, List.length_cons, List.length_nil, Nat.reduceAdd, Nat.reduceSub, Array.replicate_succ, Array.replicate_zero, List.push_toArray, List.append_toArray, List.nil_append, List.cons_append]
  gi_wp2_with fail
  refine ⟨trivial, (callsIn_wide.2 (rqThere_any _ q ls rk (HR.out.keeps (S := No) ((Ch.alloc w _).trans (Ch.alloc _ _)) (fun _ s => s.elim)))).mono ?_⟩; rintro e w1 ⟨rfl, rfl⟩
  gi_wp2_with fail
  refine ⟨trivial, (callsIn_wide.2 (ladFirst_any _ has r HW.out hr HB1.out HB2.out)).mono ?_⟩; rintro e w1 ⟨rfl, rfl⟩
  gi_wp2_with fail
  refine ⟨trivial, (callsIn_wide.2 (rqFrom_any _ q r)).mono ?_⟩; rintro e w1 ⟨rfl, rfl⟩
  gi_wp2_with fail
  have hsz : ((((w.alloc (.cells #[.int .i64 0] 3)).alloc (.cells #[.bool false] 4)).alloc (.cells #[.pointer (some ⟨q, 0, none⟩)] 92)).alloc (.cells #[.int .i64 r] 3)).heap.size = w.heap.size + 4 := by simp
  have hB0 : Below w.heap.size w ((((w.alloc (.cells #[.int .i64 0] 3)).alloc (.cells #[.bool false] 4)).alloc (.cells #[.pointer (some ⟨q, 0, none⟩)] 92)).alloc (.cells #[.int .i64 r] 3)) :=
    ((((Below.refl _ w).alloc (Nat.le_refl _) _).alloc (by simp) _).alloc (by simp; omega) _).alloc (by simp; omega) _
  have a1 := (((Row.new w 3 #[.int .i64 0]).alloc (.cells #[.bool false] 4)).alloc (.cells #[.pointer (some ⟨q, 0, none⟩)] 92)).alloc (.cells #[.int .i64 r] 3)
  have a2 := ((Row.new (w.alloc (.cells #[.int .i64 0] 3)) 4 #[.bool false]).alloc (.cells #[.pointer (some ⟨q, 0, none⟩)] 92)).alloc (.cells #[.int .i64 r] 3)
  have a3 := (Row.new ((w.alloc (.cells #[.int .i64 0] 3)).alloc (.cells #[.bool false] 4)) 92 #[.pointer (some ⟨q, 0, none⟩)]).alloc (.cells #[.int .i64 r] 3)
  have a4 := Row.new (((w.alloc (.cells #[.int .i64 0] 3)).alloc (.cells #[.bool false] 4)).alloc (.cells #[.pointer (some ⟨q, 0, none⟩)] 92)) 3 #[.int .i64 r]
  simp only [World.size_alloc] at a2 a3 a4
  obtain ⟨W0, hW0⟩ : ∃ W0, W0 = ((((w.alloc (.cells #[.int .i64 0] 3)).alloc (.cells #[.bool false] 4)).alloc (.cells #[.pointer (some ⟨q, 0, none⟩)] 92)).alloc (.cells #[.int .i64 r] 3)) := ⟨_, rfl⟩
  rw [← hW0] at hsz hB0 a1 a2 a3 a4 ⊢
  clear hW0 c1
  refine wpIn_rangeFunc_ownF rfl (by omega) (gf := 164) (lb := #[.pointer (some ⟨w.heap.size + 1 + 1, 0, none⟩), .pointer (some ⟨w.heap.size + 1 + 1 + 1, 0, none⟩)]) rfl trivial (enters_of Tryz.func164 (by kernel_rfl) rfl)
    (from_stops 2 (by omega) q r _ _ ls rk W0 hr (HR.out.keeps (S := No) (Ch.below hB0) (fun _ s => s.elim)) a3 a4) KC.trans (fun W l o o' _ ho hc _ => KC.putObj W l o o' ho hc) (Below.refl _ _) (fun _ => rfl)
    (fun pre W => (pre = [] ∧ W.cell? ⟨w.heap.size, 0, none⟩ = some (.int .i64 0) ∧ W.frozen? ⟨w.heap.size, 0, none⟩ = false ∧ W.cell? ⟨w.heap.size + 1, 0, none⟩ = some (.bool false) ∧ W.frozen? ⟨w.heap.size + 1, 0, none⟩ = false) ∧ Below w.heap.size w W)
    (fun c pre W => (c = .ret ∧ ∃ y, pre = [y] ∧ W.cell? ⟨w.heap.size, 0, none⟩ = some (.int .i64 y) ∧ W.cell? ⟨w.heap.size + 1, 0, none⟩ = some (.bool true)) ∧ Below w.heap.size w W)
    (OwnFrom.and (Own.from (fun s A B row hs hg hr => ⟨hs.1, cell_kept hs.2.1 hg hr, (frozen_kept hs.2.1 hg hr).trans hs.2.2.1, cell_kept hs.2.2.2.1 hg hr, (frozen_kept hs.2.2.2.1 hg hr).trans hs.2.2.2.2⟩) _) (ownFrom_below (Nat.le_refl _) (by omega)))
    (fun c => OwnFrom.and (Own.from (fun s A B row hs hg hr => ⟨hs.1, by obtain ⟨_, y, h1, h2, h3⟩ := hs; exact ⟨y, h1, cell_kept h2 hg hr, cell_kept h3 hg hr⟩⟩) _) (ownFrom_below (Nat.le_refl _) (by omega)))
    ⟨⟨rfl, a1.cell rfl, a1.free 0, a2.cell rfl, a2.free 0⟩, hB0⟩
    (fun y => { tmps := #[.pointer (some ⟨q, 0, none⟩), undef, .pointer (some ⟨w.heap.size, 0, none⟩), .pointer (some ⟨w.heap.size + 1, 0, none⟩), .int .i64 r, .bool true, .int .i64 y,
      .pointer (some ⟨q, 0, none⟩), .bool true, .bool false, .tuple #[.int .i64 r, .bool true], .pointer (some ⟨q, 0, none⟩), .pointer (some ⟨q, 0, none⟩), .pointer (some ⟨q, 0, none⟩), .int .u32 has,
      .tuple #[.int .i64 r, .bool true], .int .i64 r, .bool true, .bool true, .pointer (some ⟨q, 0, none⟩), .int .i64 r,
      .func (.func 164) #[] #[.pointer (some ⟨w.heap.size + 1 + 1, 0, none⟩), .pointer (some ⟨w.heap.size + 1 + 1 + 1, 0, none⟩)], .int .i64 y, undef], defers := [] }) ?assign ?body ?done ?stop
  case assign =>
    intro l x W K hK
    gi_wp2
    exact hK
  case body =>
    rintro l0 pre y W ⟨⟨rfl, h1, h2, h3, h4⟩, hB⟩ _
    gi_wp2
    have e1 : (W.setCell ⟨w.heap.size, 0, none⟩ (.int .i64 y)).cell? ⟨w.heap.size, 0, none⟩ = some (.int .i64 y) := World.cell?_setCell_same' _ _ _ (by rw [h1]; rfl)
    have e2 : (W.setCell ⟨w.heap.size, 0, none⟩ (.int .i64 y)).cell? ⟨w.heap.size + 1, 0, none⟩ = some (.bool false) := by
      rw [World.cell?_setCell_other _ _ _ _ (by simp)]; exact h3
    refine ⟨(KeepsOthers.setCell _ _ _).trans (KeepsOthers.setCell _ _ _), ⟨rfl, y, rfl, ?_, ?_⟩, (hB.setCell (p := ⟨w.heap.size, 0, none⟩) (by simp) _).setCell (p := ⟨w.heap.size + 1, 0, none⟩) (by simp) _⟩
    · rw [World.cell?_setCell_other _ _ _ _ (by simp)]; exact e1
    · exact World.cell?_setCell_same' _ _ _ (by rw [e2]; rfl)
  case done =>
    rintro D ys W hD rfl ⟨⟨hne, _⟩, hB⟩ hK
    rw [HL.out] at hne
    cases hne
  case stop =>
    rintro D c pre W hD hpre ⟨⟨rfl, y, rfl, hc1, hc2⟩, hB⟩ hK
    obtain ⟨l2, hl2⟩ := hpre
    rw [HL.out] at hl2
    cases hl2
    gi_wp2
    refine ⟨by simp, .inl ⟨_, _, rfl, run_takeDeferred hK, ?_⟩⟩
    have k1 := cell_kept hc1 (grownBy_putObj' _ D (.deferred none)) (fun r e => by cases e; exact ⟨_, hK, rfl⟩)
    have k2 := cell_kept hc2 (grownBy_putObj' _ D (.deferred none)) (fun r e => by cases e; exact ⟨_, hK, rfl⟩)
    refine ⟨.tuple #[.int .i64 x, .bool true], ?_, rfl, Ch.below (hB.trans (belowK_b (w := w) (Nat.le_refl _) W D _ _ (by omega) hK rfl rfl))⟩
    simp [results, Tryz.f60, go_sem, k1, k2]
end Go.Proofs.YtcngfaggignmpaaGreatDoor

/-
  The kernel as plain numbers and lists: what its functions make of it. No program in sight.
-/
namespace Go.Proofs.YtcngfaggignmpaaGreatDoor
open Go.RowKit

/-- A task, as it is. -/
structure TM where
  rank : Nat
  wait : Bool
  what : Int
  hh : Int
  v : Int
  mm : Int
  wt : Int
  left : Int
  ans : Int
  last : Int
  val : Int
  on : Bool
  ran : Int

/-- The kernel, as it is: one thing, a row; at most one waits for it. -/
structure KM where
  slice : Int
  now : Int
  age : Nat → Int
  used : Nat → Bool
  tk : Nat → Option TM
  ls : Nat → List Int
  rk : Nat → Int
  most : Nat
  row : List Int
  wl : Option (Nat × Nat)
  sl : List (Nat × Int)

namespace KM
/-- One goes out of those who may run. -/
def rm (m : KM) (i : Nat) : KM :=
  if m.rk i = 0 then m else { m with ls := upd m.ls (m.rk i - 1).toNat ((m.ls (m.rk i - 1).toNat).erase (i : Int)), rk := upd m.rk i 0 }
/-- One comes to those who may run, as the last one of a rank. -/
def put (m : KM) (i r : Nat) : KM := { m with ls := upd m.ls r (m.ls r ++ [(i : Int)]), rk := upd m.rk i (r + 1) }
/-- A task turns. -/
def setT (m : KM) (i : Nat) (t : TM) : KM := { m with tk := upd m.tk i (some t) }
/-- A task is the last one of its rank. -/
def joins (m : KM) (i : Nat) (t : TM) : KM := ((m.rm i).put i t.rank).setT i { t with ran := 0 }
/-- A task that waits for nothing. -/
def cut (t : TM) : TM := { t with on := false, what := 0, hh := 0, v := 0, mm := 0, wt := 0, left := 0 }
/-- Nobody waits any more, if somebody did. -/
def noWait (m : KM) (b : Bool) : KM := { m with wl := if b then none else m.wl }
/-- A task runs no more, and waits no more. -/
def stops (m : KM) (i : Nat) (t : TM) : KM := ((m.noWait t.on).rm i).setT i (cut t)
/-- A task is answered. -/
def told (t : TM) (e v : Int) : TM := { t with ans := t.ans + 1, last := e, val := v }
def freed (t : TM) : TM := { cut t with wait := false }
def answers (m : KM) (i : Nat) (t : TM) (e v : Int) : KM :=
  if t.wait then (((m.setT i (told t e v)).stops i (told t e v)).setT i (freed (told t e v))).joins i (freed (told t e v)) else m.setT i (told t e v)
end KM
end Go.Proofs.YtcngfaggignmpaaGreatDoor
