/-
  The top, part 6: Thing, Try, Clone, Heirs, First.
-/
import Derived.Test.YtcngfaggignmpaaGreatDoorS03
import Derived.Test.YtcngfaggignmpaaGreatDoorS04
import Derived.Test.YtcngfaggignmpaaGreatDoorS05
import Derived.Lib.SliceRun
import Derived.RangeFuncNested
import Derived.RangeFuncBound
import Derived.RangeFuncCalls
import Derived.RangeFuncLeaves
import Derived.Stop.RegionWithIn
import Derived.Shelf.Abstract
import Derived.OwnWalkIn
import Derived.TacticsInMore
import Derived.LoopNIn
import Derived.LoopIn

/-
  A row as a thing: a new one; what is tried with it.
-/
namespace Go.Proofs.YtcngfaggignmpaaGreatDoor
open Go.RowKit

/-- A row as a thing: itself in block b, its queue in the next one, the kind in the one behind. -/
structure TH (b most : Nat) (l : List Int) (w : World) : Prop where
  head : Row b 143 #[.int .u8 3, .int .u32 most, .int .u32 0, .iface 155 (.pointer (some ⟨b + 2, 0, none⟩))] w
  kind : Row (b + 2) 157 #[.pointer (some ⟨b + 1, 0, none⟩)] w
  queue : QU (b + 1) most l w
theorem TH.keeps {w w' : World} {b most : Nat} {l : List Int} {S : Nat → Prop} (h : TH b most l w) (g : Ch S w w') (h0 : ¬ S b) (h1 : ¬ S (b + 1)) (h2 : ¬ S (b + 2)) : TH b most l w' :=
  ⟨h.head.keeps g h0, h.kind.keeps g h2, h.queue.keeps g h1⟩
theorem TH.no {w w' : World} {b most : Nat} {l : List Int} (h : TH b most l w) (g : Ch No w w') : TH b most l w' := h.keeps g (fun x => x) (fun x => x) (fun x => x)

set_option maxRecDepth 100000 in
set_option maxHeartbeats 4000000 in
theorem thNew_any (w : World) (most : Nat) (h0 : 1 ≤ most) (h1 : most ≤ 64) :
    Calls Tryz.prog 23 #[.agg #[.int .u8 3, .int .u32 most, .int .u32 0]] w fun e w' => e = .returned (.tuple #[.pointer (some ⟨w.heap.size + 1, 0, none⟩), .int .i64 0]) ∧ TH (w.heap.size + 1) most [] w' ∧ Ch No w w' ∧ w'.heap.size = w.heap.size + 4 := by
  have d1 : decide ((1 : Int) ≤ (most : Int)) = true := by rw [decide_eq_true_iff]; omega
  have d2 : decide ((most : Int) ≤ (64 : Int)) = true := by rw [decide_eq_true_iff]; omega
  have d3 : decide (1 ≤ most) = true := by rw [decide_eq_true_iff]; omega
  have d4 : decide (most ≤ 64) = true := by rw [decide_eq_true_iff]; omega
  go_enter Tryz.func23, Tryz.ntmps23
  go_wp2_with fail
  refine (quNew_any _ most h0 h1).mono ?_; rintro e w1 ⟨rfl, hq, hch, hs⟩
  have a1 := Row.new (w.alloc (.cells #[.int .u8 3, .int .u32 most, .int .u32 0] 43)) 143 #[.int .u8 3, .int .u32 most, .int .u32 0, Value.nilIface]
  rw [World.size_alloc] at a1
  have a2 := a1.keeps hch (fun x => x)
  have c1 := a2.cell (j := 3) rfl
  have f1 := a2.free 3
  have hs2 : w1.heap.size = w.heap.size + 3 := by rw [hs]; simp
  have HQ : Hid (QU (w.heap.size + 2) most [] w1) := Lib.hid (by simpa using hq)
  have A2 := Lib.hid a2
  have HC : Hid (Ch No w w1) := Lib.hid (((Ch.alloc w _).trans (Ch.alloc _ _)).trans hch)
  clear hq a1 a2 hch hs
  go_wp2_with fail
  go_ret2
  have q1 := Ch.setCell (S := fun k => k = w.heap.size + 1) w1 (w.heap.size + 1) 3 (.iface 155 (.pointer (some ⟨w.heap.size + 3, 0, none⟩))) rfl
  have q2 := Ch.alloc (S := No) (w1.setCell ⟨w.heap.size + 1, 3, none⟩ (.iface 155 (.pointer (some ⟨w.heap.size + 3, 0, none⟩)))) (.cells #[.pointer (some ⟨w.heap.size + 1 + 1, 0, none⟩)] 157)
  have n1 := Row.new (w1.setCell ⟨w.heap.size + 1, 3, none⟩ (.iface 155 (.pointer (some ⟨w.heap.size + 3, 0, none⟩)))) 157 #[.pointer (some ⟨w.heap.size + 1 + 1, 0, none⟩)]
  have hs3 : (w1.setCell ⟨w.heap.size + 1, 3, none⟩ (.iface 155 (.pointer (some ⟨w.heap.size + 3, 0, none⟩)))).heap.size = w.heap.size + 3 := by simp [World.setCell, hs2]
  rw [hs3] at n1
  refine ⟨rfl, ⟨(A2.out.set 3 _).keeps q2 (fun x => x), n1, (HQ.out.keeps q1 (by omega)).keeps q2 (fun x => x)⟩, (HC.out.trans' q1 (fun k hk e => by omega)).trans q2, by rw [World.size_alloc, hs3]⟩

set_option maxHeartbeats 1000000 in
theorem thThere_any (w : World) (b most : Nat) (l : List Int) (h : TH b most l w) : Calls Tryz.prog 74 #[.pointer (some ⟨b, 0, none⟩)] w fun e w' => e = .returned (.bool true) ∧ w = w' := by
  have c1 := h.head.cell (j := 3) rfl
  clear h
  go_enter Tryz.func74, Tryz.ntmps74
  go_wp2_with fail
  go_ret
  exact ⟨rfl, rfl⟩

set_option maxHeartbeats 1000000 in
theorem quPut_full (w : World) (b most : Nat) (l : List Int) (x : Int) (hl : l.length = most) (h : QU b most l w) :
    Calls Tryz.prog 279 #[.pointer (some ⟨b, 0, none⟩), .int .u32 x] w fun e w' => e = .returned (.int .i64 10) ∧ QU b most l w' ∧ Ch (fun k => k = b) w w' := by
  have HR := Lib.hid h
  clear h
  go_enter Tryz.func279, Tryz.ntmps279
  go_wp2_with fail
  refine (quRoom_no _ b most l hl HR.out).mono ?_; rintro e w1 ⟨rfl, q1, rfl⟩
  go_wp2_with fail
  go_ret
  exact ⟨rfl, HR.out.keeps (S := No) (Ch.drewN w _) (fun x => x), Ch.drewN w _⟩

/-- What is tried with a row: what comes out, and what lies in it then; none: not yet. -/
def tryR (most : Nat) (l : List Int) (what v : Int) : Option (Int × List Int) :=
  if what = 7 then (if l.length < most then some (0, l ++ [v]) else none) else match l with
    | [] => none
    | x :: l' => some (x, l')

set_option maxHeartbeats 4000000 in
theorem rowTry_put (w : World) (b most : Nat) (l : List Int) (who hh v mm wt : Int) (hl : l.length < most) (h : TH b most l w) :
    Calls Tryz.prog 277 #[.pointer (some ⟨b + 2, 0, none⟩), .int .u32 who, askV 7 hh v mm wt] w fun e w' => e = .returned (.tuple #[.int .u32 0, .int .i64 0]) ∧ TH b most (l ++ [v]) w' ∧ Ch (fun k => k = b + 1) w w' := by
  have h0 := Row.new w 112 #[.int .u8 7, .int .u32 hh, .int .u32 v, .int .u32 mm, .int .i64 wt]
  have hC : Ch (fun k => k = b + 1) w (w.alloc (.cells #[.int .u8 7, .int .u32 hh, .int .u32 v, .int .u32 mm, .int .i64 wt] 112)) := Ch.alloc w _
  have hT := h.no (Ch.alloc w (.cells #[.int .u8 7, .int .u32 hh, .int .u32 v, .int .u32 mm, .int .i64 wt] 112))
  have hlt := h.queue.lt
  obtain ⟨W0, hW0⟩ : ∃ W0, W0 = w.alloc (.cells #[.int .u8 7, .int .u32 hh, .int .u32 v, .int .u32 mm, .int .i64 wt] 112) := ⟨_, rfl⟩
  have HW0 := Lib.hid hW0
  rw [← hW0] at h0 hC hT
  have c0 := h0.cell (j := 0) rfl
  have HT := Lib.hid hT
  have hc : ∀ wx, Ch (fun k => k = b + 1) W0 wx → wx.cell? ⟨b + 2, 0, none⟩ = some (.pointer (some ⟨b + 1, 0, none⟩)) ∧ wx.cell? ⟨w.heap.size, 2, none⟩ = some (.int .u32 v) := fun wx g =>
    ⟨(hT.kind.keeps g (by omega)).cell (j := 0) rfl, (h0.keeps g (by omega)).cell (j := 2) rfl⟩
  have hd : Ch (fun k => k = b + 1) W0 W0.drew := Ch.drewN W0 1
  have HD := Lib.hid hd
  clear h h0 hW0 hT
  unfold askV
  go_enter Tryz.func277, Tryz.ntmps277
  go_wp2_with fail
  rw [← HW0.out]
  go_region_held3 (fun wx => Ch (fun k => k = b + 1) W0 wx ∧ wx.cell? ⟨b + 2, 0, none⟩ = some (.pointer (some ⟨b + 1, 0, none⟩)) ∧ wx.cell? ⟨w.heap.size, 2, none⟩ = some (.int .u32 v)) (first | exact ⟨by assumption, hc _ (by assumption)⟩) (first
    | (go_at_call 279; refine (quPut_any _ (b + 1) most l v hl (HT.out.queue.keeps (S := No) (Ch.drewN W0 1) (fun x => x))).mono ?_; rintro e w1 ⟨rfl, hq, hch⟩; have hch2 : Ch (fun k => k = b + 1) W0 w1 := HD.out.trans hch; have HQ := Lib.hid hq; clear hq hch)
    | (go_at_call 278; refine (yet_ok _ _).mono ?_; rintro e w2 ⟨rfl, rfl⟩))
  all_goals
    go_wp2_with fail
    go_ret2
    exact ⟨rfl, ⟨HT.out.head.keeps hch2 (by omega), HT.out.kind.keeps hch2 (by omega), HQ.out⟩, hC.trans hch2⟩

set_option maxHeartbeats 4000000 in
theorem rowTry_full (w : World) (b most : Nat) (l : List Int) (who hh v mm wt : Int) (hl : l.length = most) (h : TH b most l w) :
    Calls Tryz.prog 277 #[.pointer (some ⟨b + 2, 0, none⟩), .int .u32 who, askV 7 hh v mm wt] w fun e w' => e = .returned (.tuple #[.int .u32 0, .int .i64 7]) ∧ TH b most l w' ∧ Ch (fun k => k = b + 1) w w' := by
  have h0 := Row.new w 112 #[.int .u8 7, .int .u32 hh, .int .u32 v, .int .u32 mm, .int .i64 wt]
  have hC : Ch (fun k => k = b + 1) w (w.alloc (.cells #[.int .u8 7, .int .u32 hh, .int .u32 v, .int .u32 mm, .int .i64 wt] 112)) := Ch.alloc w _
  have hT := h.no (Ch.alloc w (.cells #[.int .u8 7, .int .u32 hh, .int .u32 v, .int .u32 mm, .int .i64 wt] 112))
  have hlt := h.queue.lt
  obtain ⟨W0, hW0⟩ : ∃ W0, W0 = w.alloc (.cells #[.int .u8 7, .int .u32 hh, .int .u32 v, .int .u32 mm, .int .i64 wt] 112) := ⟨_, rfl⟩
  have HW0 := Lib.hid hW0
  rw [← hW0] at h0 hC hT
  have c0 := h0.cell (j := 0) rfl
  have HT := Lib.hid hT
  have hc : ∀ wx, Ch (fun k => k = b + 1) W0 wx → wx.cell? ⟨b + 2, 0, none⟩ = some (.pointer (some ⟨b + 1, 0, none⟩)) ∧ wx.cell? ⟨w.heap.size, 2, none⟩ = some (.int .u32 v) := fun wx g =>
    ⟨(hT.kind.keeps g (by omega)).cell (j := 0) rfl, (h0.keeps g (by omega)).cell (j := 2) rfl⟩
  have hd : Ch (fun k => k = b + 1) W0 W0.drew := Ch.drewN W0 1
  have HD := Lib.hid hd
  clear h h0 hW0 hT
  unfold askV
  go_enter Tryz.func277, Tryz.ntmps277
  go_wp2_with fail
  rw [← HW0.out]
  go_region_held3 (fun wx => Ch (fun k => k = b + 1) W0 wx ∧ wx.cell? ⟨b + 2, 0, none⟩ = some (.pointer (some ⟨b + 1, 0, none⟩)) ∧ wx.cell? ⟨w.heap.size, 2, none⟩ = some (.int .u32 v)) (first | exact ⟨by assumption, hc _ (by assumption)⟩) (first
    | (go_at_call 279; refine (quPut_full _ (b + 1) most l v hl (HT.out.queue.keeps (S := No) (Ch.drewN W0 1) (fun x => x))).mono ?_; rintro e w1 ⟨rfl, hq, hch⟩; have hch2 : Ch (fun k => k = b + 1) W0 w1 := HD.out.trans hch; have HQ := Lib.hid hq; clear hq hch)
    | (go_at_call 278; refine (yet_not _ _ 10 rfl).mono ?_; rintro e w2 ⟨rfl, rfl⟩))
  all_goals
    go_wp2_with fail
    go_ret2
    exact ⟨rfl, ⟨HT.out.head.keeps hch2 (by omega), HT.out.kind.keeps hch2 (by omega), HQ.out⟩, hC.trans hch2⟩

set_option maxHeartbeats 4000000 in
theorem rowTry_get (w : World) (b most : Nat) (x : Int) (l : List Int) (who hh v mm wt : Int) (h : TH b most (x :: l) w) :
    Calls Tryz.prog 277 #[.pointer (some ⟨b + 2, 0, none⟩), .int .u32 who, askV 9 hh v mm wt] w fun e w' => e = .returned (.tuple #[.int .u32 x, .int .i64 0]) ∧ TH b most l w' ∧ Ch (fun k => k = b + 1) w w' := by
  have h0 := Row.new w 112 #[.int .u8 9, .int .u32 hh, .int .u32 v, .int .u32 mm, .int .i64 wt]
  have hT := h.no (Ch.alloc w (.cells #[.int .u8 9, .int .u32 hh, .int .u32 v, .int .u32 mm, .int .i64 wt] 112))
  have c0 := h0.cell (j := 0) rfl
  have c1 := hT.kind.cell (j := 0) rfl
  have HT := Lib.hid hT
  clear h h0 hT
  unfold askV
  go_enter Tryz.func277, Tryz.ntmps277
  go_wp2_with fail
  refine (quTake_any _ (b + 1) most x l HT.out.queue).mono ?_; rintro e w1 ⟨rfl, hq, hch⟩
  have HQ := Lib.hid hq
  have HCH := Lib.hid hch
  clear hq hch
  go_wp2_with fail
  refine (yet_ok _ _).mono ?_; rintro e w2 ⟨rfl, rfl⟩
  go_wp2_with fail
  go_ret2
  exact ⟨rfl, ⟨HT.out.head.keeps HCH.out (by omega), HT.out.kind.keeps HCH.out (by omega), HQ.out⟩, (Ch.alloc w _).trans HCH.out⟩

set_option maxHeartbeats 1000000 in
theorem quTake_none (w : World) (b most : Nat) (h : QU b most [] w) :
    Calls Tryz.prog 281 #[.pointer (some ⟨b, 0, none⟩)] w fun e w' => e = .returned (.tuple #[.int .u32 0, .int .i64 11]) ∧ w = w' := by
  have HR := Lib.hid h
  clear h
  go_enter Tryz.func281, Tryz.ntmps281
  go_wp2_with fail
  refine (quPeek_none _ b most HR.out).mono ?_; rintro e w1 ⟨rfl, rfl⟩
  go_wp2_with fail
  go_ret2
  exact ⟨rfl, rfl⟩

set_option maxHeartbeats 4000000 in
theorem rowTry_none (w : World) (b most : Nat) (who hh v mm wt : Int) (h : TH b most [] w) :
    Calls Tryz.prog 277 #[.pointer (some ⟨b + 2, 0, none⟩), .int .u32 who, askV 9 hh v mm wt] w fun e w' => e = .returned (.tuple #[.int .u32 0, .int .i64 7]) ∧ TH b most [] w' ∧ Ch (fun k => k = b + 1) w w' := by
  have h0 := Row.new w 112 #[.int .u8 9, .int .u32 hh, .int .u32 v, .int .u32 mm, .int .i64 wt]
  have hT := h.no (Ch.alloc w (.cells #[.int .u8 9, .int .u32 hh, .int .u32 v, .int .u32 mm, .int .i64 wt] 112))
  have c0 := h0.cell (j := 0) rfl
  have c1 := hT.kind.cell (j := 0) rfl
  have HT := Lib.hid hT
  clear h h0 hT
  unfold askV
  go_enter Tryz.func277, Tryz.ntmps277
  go_wp2_with fail
  refine (quTake_none _ (b + 1) most HT.out.queue).mono ?_; rintro e w1 ⟨rfl, rfl⟩
  go_wp2_with fail
  refine (yet_not _ _ 11 rfl).mono ?_; rintro e w2 ⟨rfl, rfl⟩
  go_wp2_with fail
  go_ret2
  exact ⟨rfl, HT.out, Ch.alloc w _⟩

end Go.Proofs.YtcngfaggignmpaaGreatDoor

/-
  A row as a thing: Try.
-/
namespace Go.Proofs.YtcngfaggignmpaaGreatDoor
open Go.RowKit

theorem rowMethod (n : Nat) (w : World) : (method 512 155 (.pointer (some ⟨n, 0, none⟩)) "timekeeper/objects.try").run Tryz.prog w = .ok (277, .pointer (some ⟨n, 0, none⟩)) w := by kernel_rfl

set_option maxRecDepth 100000 in
set_option maxHeartbeats 4000000 in
/-- Try, over whatever the row's own try answers. -/
theorem try_by (w : World) (b most k : Nat) (l l' : List Int) (who what hh v mm wt x e0 : Int) (hk : k < 4) (hw : (what == allX (4 + k)) = true) (hn : ∀ j, j < k → (what == allX (4 + j)) = false) (h11 : (what == 11) = false)
    (hwho : (who == 0) = false) (h : TH b most l w)
    (ht : ∀ W, Ch No w W → Calls Tryz.prog 277 #[.pointer (some ⟨b + 2, 0, none⟩), .int .u32 who, askV what hh v mm wt] W fun e w' => e = .returned (.tuple #[.int .u32 x, .int .i64 e0]) ∧ TH b most l' w' ∧ Ch (fun k => k = b + 1) W w') :
    Calls Tryz.prog 136 #[.pointer (some ⟨b, 0, none⟩), .int .u32 who, askV what hh v mm wt] w fun e w' => e = .returned (.tuple #[.int .u32 x, .int .i64 e0]) ∧ TH b most l' w' ∧ Ch (fun k => k = b + 1) w w' := by
  have HW := Lib.hid hw
  have HN := Lib.hid hn
  have HTRY := Lib.hid ht
  have hm := rowMethod
  have h0 := Row.new w 112 #[.int .u8 what, .int .u32 hh, .int .u32 v, .int .u32 mm, .int .i64 wt]
  have hC : Ch No w (w.alloc (.cells #[.int .u8 what, .int .u32 hh, .int .u32 v, .int .u32 mm, .int .i64 wt] 112)) := Ch.alloc w _
  have hT := h.no hC
  obtain ⟨W0, hW0⟩ : ∃ W0, W0 = w.alloc (.cells #[.int .u8 what, .int .u32 hh, .int .u32 v, .int .u32 mm, .int .i64 wt] 112) := ⟨_, rfl⟩
  have HW0 := Lib.hid hW0
  rw [← hW0] at h0 hC hT
  have HT := Lib.hid hT
  have H0 := Lib.hid h0
  have hc : ∀ wx, Ch No W0 wx → wx.cell? ⟨b, 0, none⟩ = some (.int .u8 3) ∧ wx.cell? ⟨w.heap.size, 0, none⟩ = some (.int .u8 what) := fun wx g =>
    ⟨(HT.out.head.keeps g (fun x => x)).cell (j := 0) rfl, (H0.out.keeps g (fun x => x)).cell (j := 0) rfl⟩
  have hc2 : ∀ wx, Ch No W0 wx → wx.cell? ⟨b, 0, none⟩ = some (.int .u8 3) ∧ wx.cell? ⟨w.heap.size, 0, none⟩ = some (.int .u8 what) ∧ wx.cell? ⟨w.heap.size, 1, none⟩ = some (.int .u32 hh) ∧ wx.cell? ⟨w.heap.size, 2, none⟩ = some (.int .u32 v) ∧ wx.cell? ⟨w.heap.size, 3, none⟩ = some (.int .u32 mm) ∧ wx.cell? ⟨w.heap.size, 4, none⟩ = some (.int .i64 wt) := fun wx g =>
    ⟨(HT.out.head.keeps g (fun x => x)).cell (j := 0) rfl, (H0.out.keeps g (fun x => x)).cell (j := 0) rfl, (H0.out.keeps g (fun x => x)).cell (j := 1) rfl, (H0.out.keeps g (fun x => x)).cell (j := 2) rfl, (H0.out.keeps g (fun x => x)).cell (j := 3) rfl, (H0.out.keeps g (fun x => x)).cell (j := 4) rfl⟩
  have hd : Ch No W0 W0.drew := Ch.drewN W0 1
  clear hw hn ht h h0 hW0 hT
  unfold askV
  go_enter Tryz.func136, Tryz.ntmps136
  go_wp2_with fail
  rw [← HW0.out]
  refine (thThere_any _ b most l HT.out).mono ?_; rintro e w1 ⟨rfl, rfl⟩
  go_wp2_with fail
  obtain ⟨k0, k1, k2, k3, k4, k5⟩ := hc2 W0 (Ch.refl _ _)
  first
    | (go_region_with (first | (go_at_call 128; refine (fits_row _ what hh v mm wt k hk HW.out HN.out).mono ?_; rintro e w1 ⟨rfl, hch⟩; have hch2 : Ch No W0 w1 := hd.trans hch; have j0 := hc w1 hch2; clear hch)))
    | fail
  all_goals
    clear k0 k1 k2 k3 k4 k5
    go_wp2_with fail
    have hT1 := HT.out.no hch2
    have hB1 := H0.out.keeps hch2 (fun x => x)
    have g0 := hT1.head.cell (j := 3) rfl
    have g1 := hB1.cell (j := 0) rfl
    have g2 := hB1.cell (j := 1) rfl
    have g3 := hB1.cell (j := 2) rfl
    have g4 := hB1.cell (j := 3) rfl
    have g5 := hB1.cell (j := 4) rfl
    have HC2 : Hid (Ch No w w1) := Lib.hid (hC.trans hch2)
    clear hc hc2 hT1 hB1 hd hC hch2 j0
    simp only [Act.put, List.setIfInBounds_toArray]
    go_region_with (first | (go_at_call 277; refine (HTRY.out _ (HC2.out.trans (Ch.drewN _ 1))).mono ?_; rintro e w2 ⟨rfl, ht2, hch2⟩))
    all_goals
      go_wp2_with fail
      go_ret2
      exact ⟨rfl, ht2, ((HC2.out.trans (Ch.drewN _ 1)).mono (fun _ _ s => s.elim)).trans hch2⟩
end Go.Proofs.YtcngfaggignmpaaGreatDoor

/-
  Slices of whole numbers: a clone, a clip.
-/
namespace Go.Proofs.YtcngfaggignmpaaGreatDoor
open Go.RowKit

theorem eqNil120 (w : World) (a : Option Addr) (n c n' c' : Nat) : (binOp .eql 120 (.slice a n c) (.slice none n' c')).run Tryz.prog w = .ok (.bool a.isNone) w := Lib.run_eql_slice_nil w _ _ a n c n' c' Tryz.underlying120

set_option maxHeartbeats 1000000 in
theorem clip_any (w : World) (a : Addr) (n cap : Nat) (h : n ≤ cap) : Calls Tryz.prog 79 #[.slice (some a) n cap] w fun e w' => e = .returned (.slice (some a) n n) ∧ w = w' := by
  have h1 : ¬ ((cap : Int) < (n : Int)) := by omega
  have h2 : ¬ ((n : Int) < 0) := by omega
  go_enter Tryz.func79, Tryz.ntmps79
  go_wp2_with fail
  go_ret
  exact ⟨by first | rfl | simp, rfl⟩

set_option maxHeartbeats 2000000 in
theorem clone_any (w : World) (g n cap : Nat) (f : Nat → Int) (hn : n ≤ 1000) (h1 : 1 ≤ n) (h : ∀ j, j < n → w.cell? ⟨g, j, none⟩ = some (.int .i64 (f j))) :
    Calls Tryz.prog 152 #[.slice (some ⟨g, 0, none⟩) n cap] w fun e w' => (∃ g' cap', e = .returned (.slice (some ⟨g', 0, none⟩) n cap') ∧ n ≤ cap' ∧ w.heap.size ≤ g' ∧ ∃ cs, Row g' 3 cs w' ∧ ∀ j, j < n → cs[j]? = some (.int .i64 (f j))) ∧ Ch No w w' := by
  obtain ⟨i0, hi, hz0, hz1, hz2⟩ := info_parts info3
  have qT := eqNil120
  have H := Lib.hid h
  have h0 : (w.alloc (.cells #[] 3)).ownsRow w.heap.size 3 1 (.slice (some ⟨w.heap.size, 0, none⟩) 0 0) 0 [] := World.ownsRow_made w #[] 0 (Nat.le_refl _) (by unfold maxLen; omega) rfl
  clear h
  go_enter Tryz.func152, Tryz.ntmps152
  go_wp2_with (first
    | (at_builtin; go_loud (refine wpList_append_own _ rfl _ _ 120 rfl w.heap.size 3 i0 (.int .i64 0) 1 8 Tryz.underlying120 hi hz0 hz1 hz2 rfl (by decide) _ _ _ rfl h0 ⟨g, 0, none⟩ n cap ((List.range n).map (fun j => Value.int .i64 (f j))) rfl (by simp) ?c1 ?c2 ?c3 ?c4 ?c5 ?_)))
  case c1 =>
    intro j u hj
    have hjn : j < n := by have := (List.getElem?_eq_some_iff.1 hj).1; simpa using this
    simp [hjn] at hj
    subst hj
    have e1 := H.out j hjn
    rw [← e1]
    have := World.cell?_alloc_lt w (Obj.cells #[] 3) ⟨g, j, none⟩ (World.block_lt_of_cell? w _ e1)
    cases j with
    | zero => simpa [Addr.add] using this
    | succ j => simpa [Addr.add] using this
  case c2 => intro u hu; simp at hu; obtain ⟨j, _, rfl⟩ := hu; rfl
  case c3 => unfold maxLen; omega
  case c4 => simp; omega
  case c5 => simp
  · intro v' w2 hown' hgrow _
    have hg2 : Ch No w w2 := (Ch.alloc w (.cells #[] 3)).grownOwn hgrow (own_ge h0)
    have hfin : ∃ g' cap', v' = .slice (some ⟨g', 0, none⟩) n cap' ∧ n ≤ cap' ∧ w.heap.size ≤ g' ∧ ∃ cs, Row g' 3 cs w2 ∧ ∀ j, j < n → cs[j]? = some (.int .i64 (f j)) := by
      rcases hown'.2 with ⟨_, e0⟩ | ⟨g', cap', cur, e, hb, hg, hn', hm, hs, ht⟩
      · omega
      · refine ⟨g', cap', e, hn', hb, cur, hg, fun j hj => ?_⟩
        have h3 : (cur.toList.take (n * 1))[j]? = some (.int .i64 (f j)) := by rw [ht]; simp [hj]
        rw [List.getElem?_take_of_lt (by omega)] at h3
        simpa using h3
    obtain ⟨g', cap', rfl, hnc', hge, cs, hrow, hcs⟩ := hfin
    clear hown' hgrow
    go_wp2
    go_ret
    exact ⟨⟨g', cap', rfl, hnc', hge, cs, hrow, hcs⟩, hg2⟩
end Go.Proofs.YtcngfaggignmpaaGreatDoor

/-
  Ranks where nobody waits for a mutex: each one's own.
-/
namespace Go.Proofs.YtcngfaggignmpaaGreatDoor
open Go.RowKit

set_option maxRecDepth 100000 in
set_option maxHeartbeats 4000000 in
theorem ranks_any (w : World) (g u c1 c2 : Nat) (f : Nat → Int) (hf : ∀ j, j < 16 → 0 ≤ f j ∧ f j ≤ 31) (h : ∀ j, j < 16 → w.cell? ⟨g, j, none⟩ = some (.int .i64 (f j))) (hu : ∀ j, j < 16 → w.cell? ⟨u, j, none⟩ = some (.int .i64 (-1))) :
    Calls Tryz.prog 91 #[.slice (some ⟨g, 0, none⟩) 16 c1, .slice (some ⟨u, 0, none⟩) 16 c2] w fun e w' => (∃ g', e = .returned (.tuple #[.slice (some ⟨g', 0, none⟩) 16 16, .int .i64 0]) ∧ w.heap.size ≤ g' ∧ ∃ cs, Row g' 3 cs w' ∧ ∀ j, j < 16 → cs[j]? = some (.int .i64 (f j))) ∧ Ch No w w' := by
  have H := Lib.hid h
  have HU := Lib.hid hu
  have HF := Lib.hid hf
  clear h hu hf
  go_enter Tryz.func91, Tryz.ntmps91
  go_wp2_with fail
  go_step3
  go_wp2_with fail
  go_loopw [6, 7, 8, 24] (fun _ _ _ i wr => ∃ k : Nat, k ≤ 16 ∧ i = .int .i64 (k : Int) ∧ wr = w) (fun _ _ _ i _ => 16 - (intOf i).toNat)
  case atStart => exact ⟨0, by omega, rfl, rfl⟩
  case round =>
    obtain ⟨k, hk, rfl, rfl⟩ := hrel
    by_cases hlt : k < 16
    · have d1 := H.out k hlt
      have d2 := HU.out k hlt
      obtain ⟨r1, r2⟩ := HF.out k hlt
      have t1 : decide (f k < 0) = false := by rw [decide_eq_false_iff_not]; omega
      have t2 : decide (31 < f k) = false := by rw [decide_eq_false_iff_not]; omega
      have t3 : ((-1 : Int) == (k : Int)) = false := by rw [beq_eq_false_iff_ne]; omega
      go_wp2_with fail
      go_roundw
      case rel => exact ⟨k + 1, by omega, by go_num, by first | rfl | trivial⟩
      case measure => simp [intOf]; omega
    · obtain rfl : k = 16 := by omega
      go_wp2_with fail
      refine (clone_any _ g 16 c1 f (by omega) (by omega) H.out).mono ?_; rintro e w1 ⟨⟨g', cap', rfl, hc, hge, cs, hrow, hcs⟩, hch⟩
      have HROW := Lib.hid hrow
      have HCS := Lib.hid hcs
      have HCH := Lib.hid hch
      have hu2 : ∀ j, j < 16 → w1.cell? ⟨u, j, none⟩ = some (.int .i64 (-1)) := fun j hj => by
        have e1 := HU.out j hj
        rw [World.cell?_of_block (hch.block u (World.block_lt_of_cell? _ _ e1) (fun x => x))]; exact e1
      have HU2 := Lib.hid hu2
      clear hrow hcs hch hu2
      go_wp2_with fail
      refine (clip_any _ ⟨g', 0, none⟩ 16 cap' hc).mono ?_; rintro e w2 ⟨rfl, rfl⟩
      go_wp2_with fail
      go_step3
      go_wp2_with fail
      go_loopw [60] (fun _ wx => wx = w1) (fun _ _ => 0)
      case atStart => rfl
      case round =>
        subst hrel
        go_wp2_with fail
        go_loopw [10, 11, 60] (fun _ _ i wx => ∃ k : Nat, k ≤ 16 ∧ i = .int .i64 (k : Int) ∧ ∃ q, wx = wr.drewN q) (fun _ _ i _ => 16 - (intOf i).toNat)
        case atStart => exact ⟨0, by omega, rfl, 0, rfl⟩
        case round =>
          obtain ⟨k, hk, rfl, q, rfl⟩ := hrel
          by_cases hlt : k < 16
          · have d2 := HU2.out k hlt
            go_wp2_with fail
            go_quiet (fail)
            go_wp2_with fail
            go_roundw
            case rel => exact ⟨k + 1, by omega, by go_num, _, rfl⟩
            case measure => simp [intOf]; omega
          · obtain rfl : k = 16 := by omega
            go_wp2_with fail
            rw [Exit.noGoto_ret]
            go_ret2
            exact ⟨⟨g', rfl, hge, cs, HROW.out.drewN _, HCS.out⟩, HCH.out.trans (Ch.drewN _ _)⟩
end Go.Proofs.YtcngfaggignmpaaGreatDoor

/-
  The queue of those who may run: who runs next.
-/
namespace Go.Proofs.YtcngfaggignmpaaGreatDoor
open Go.RowKit Go.Shelf
attribute [local go_sem] Oper.semAt_some

/-- Each block of values is as it was. -/
def KC (w w' : World) : Prop := ∀ (k : Nat) (cs : Array Value) (t : TypeId), w.heap[k]? = some (Obj.cells cs t) → w'.heap[k]? = some (Obj.cells cs t)
theorem KC.trans {a b c : World} (h : KC a b) (g : KC b c) : KC a c := fun k cs t e => g k cs t (h k cs t e)
theorem KC.row {w w' : World} {p : Nat} {t : TypeId} {cs : Array Value} (h : KC w w') (r : Row p t cs w) : Row p t cs w' := h p cs t r
theorem KC.putObj (W : World) (l : Nat) (o o' : Obj) (h : W.heap[l]? = some o) (hc : o.isCells = false) : KC W (W.putObj l o') := by
  intro k cs t e
  have hne : l ≠ k := by
    intro e2; subst e2; rw [h] at e; cases e; cases hc
  simp [World.putObj, hne, e]
theorem Ch.grown {w w' : World} (h : Ch No w w') : w.grownBy w' none := ⟨h.os, h.tape, h.output, h.size, fun k hk _ => h.block k hk (fun x => x)⟩

set_option maxRecDepth 100000 in
set_option maxHeartbeats 2000000 in
theorem from1_in (n : Nat) (hn : 1 ≤ n) (l0 q r B1 B2 : Nat) (ls : Nat → List Int) (rk : Nat → Int) (J Jx : List Int → World → Prop)
    (hJA : ∀ W W', J [] W → W.grownBy W' none → J [] W')
    (hY : ∀ pre x W, J pre W → pre.length < (ls r).length → YieldAt Fence.wide (n - 1) Tryz.prog l0 #[.int .i64 x] W fun e W' =>
      (e = .returned (.bool true) ∧ J (pre ++ [x]) W' ∧ KC W W') ∨ (e = .returned (.bool false) ∧ Jx (pre ++ [x]) W'))
    (W : World) (hr : r < 32) (h : RQ q ls rk W) (b1 : Row B1 92 #[.pointer (some ⟨q, 0, none⟩)] W) (b2 : Row B2 3 #[.int .i64 r] W) (h0 : J [] W) :
    CallsIn Fence.wide n Tryz.prog 164 #[.func (.yield l0) #[] #[], .pointer (some ⟨B1, 0, none⟩), .pointer (some ⟨B2, 0, none⟩)] W fun e W' => (∃ v, e = .returned v) ∧
      ((∃ ys, ys = ls r ∧ J ys W') ∨ (∃ pre, pre <+: ls r ∧ Jx pre W')) := by
  obtain ⟨t, has, cs, h1⟩ := h.row
  have HRg := Lib.hid (h.rings r hr)
  have hm : (ls r).length ≤ 256 := by obtain ⟨_, _, _, _, hh⟩ := h.rings r hr; exact hh.most
  have c1 := h1.row.cell (h1.ptr r hr)
  have c2 := b1.cell (j := 0) rfl
  have c3 := b2.cell (j := 0) rfl
  have hY' := Lib.hid hY
  have hJA' := Lib.hid hJA
  have hr' : 0 ≤ (r : Int) ∧ (r : Int) < 32 := by omega
  clear h h1 b1 b2 hY hJA
  refine callsIn_of_wp Tryz.func164 rfl trivial ?_ rfl
  simp only [Tryz.ntmps164, List.size_toArray, List.length_cons, List.length_nil, Nat.reduceAdd, Nat.reduceSub, Array.replicate_succ, Array.replicate_zero, List.push_toArray, List.append_toArray, List.nil_append, List.cons_append]
  gi_wp2_with fail
  gi_region_with (first | (refine ⟨trivial, ?_⟩; gi_at_call 157; refine (callsIn_wide.2 (ringList_any _ _ _ (ls r) (HRg.out.drewN 1))).mono ?_; rintro e w1 ⟨v, rfl, hints, hch⟩; obtain ⟨a, cap, rfl⟩ := hints.slice))
  all_goals
    clear c1 c2 c3 hr'
    gi_wp2_with fail
    gi_loopw [5, 14] (fun _ i wr => ∃ k : Nat, k ≤ (ls r).length ∧ i = .int .i64 k ∧ J ((ls r).take k) wr ∧ KC w1 wr) (fun _ i _ => (ls r).length - (intOf i).toNat)
    case atStart => exact ⟨0, Nat.zero_le _, rfl, hJA'.out _ _ h0 ((Ch.drewN (S := No) W 1).trans hch).grown, fun _ _ _ e => e⟩
    case round =>
      obtain ⟨k, hk, rfl, hJs, hnx⟩ := hrel
      by_cases hlt : k < (ls r).length
      · obtain ⟨x, hx⟩ : ∃ x, (ls r)[k]? = some x := ⟨_, List.getElem?_eq_getElem hlt⟩
        have HPX : Hid ((ls r).take k ++ [x] <+: ls r) := Lib.hid (by rw [show (ls r).take k ++ [x] = (ls r).take (k + 1) from by rw [List.take_add_one, hx]; rfl]; exact List.take_prefix _ _)
        obtain ⟨g, cap2, e, hb, cs2, hrow, hget⟩ := hints.cells (fun e => by rw [e] at hlt; simp at hlt)
        cases e
        have d1 := (hnx.row hrow).cell (hget k x hx)
        obtain ⟨fn, tmps, assign, body, hy, hR⟩ := hY'.out _ x wr hJs (by rw [List.length_take]; omega)
        gi_wp2
        refine hR.mono ?_
        rintro e W3 (⟨rfl, hJ3, hk3⟩ | ⟨rfl, hJx3⟩)
        · gi_wp2
          go_roundw
          case rel => exact ⟨k + 1, by omega, by go_num, by rw [List.take_add_one, hx]; exact hJ3, hnx.trans hk3⟩
          case measure => simp [intOf]; omega
        · gi_wp2
          refine bodyPost_ret (results_none rfl _ _ _) rfl ?_
          exact ⟨⟨_, rfl⟩, .inr ⟨_, HPX.out, hJx3⟩⟩
      · obtain rfl : k = (ls r).length := by omega
        gi_wp2
        go_end0
        exact ⟨⟨_, rfl⟩, .inl ⟨_, by rw [List.take_length], hJs⟩⟩

theorem from_stops (n : Nat) (hn : 1 ≤ n) (q r B1 B2 : Nat) (ls : Nat → List Int) (rk : Nat → Int) (w : World) (hr : r < 32) (h : RQ q ls rk w)
    (b1 : Row B1 92 #[.pointer (some ⟨q, 0, none⟩)] w) (b2 : Row B2 3 #[.int .i64 r] w) :
    SeqStopsK Fence.wide n Tryz.prog 164 #[.pointer (some ⟨B1, 0, none⟩), .pointer (some ⟨B2, 0, none⟩)] (fun x : Int => #[Value.int .i64 x]) KC (fun ys => ys = ls r) (fun pre => pre <+: ls r) (ls r).length w := fun l J Jx W hW hJ _ hY h0 => by
  have hc : Ch No w W := Ch.below hW
  exact from1_in n hn l q r B1 B2 ls rk J Jx (fun A B ha hg => hJ [] A B none ha hg (fun _ e => by cases e)) hY W hr (h.keeps hc (fun _ s => s.elim)) (b1.keeps hc (fun x => x)) (b2.keeps hc (fun x => x)) h0

set_option maxHeartbeats 1000000 in
theorem rqFrom_any (w : World) (q r : Nat) :
    Calls Tryz.prog 100 #[.pointer (some ⟨q, 0, none⟩), .int .i64 r] w fun e w' => e = .returned (.func (.func 164) #[] #[.pointer (some ⟨w.heap.size, 0, none⟩), .pointer (some ⟨w.heap.size + 1, 0, none⟩)]) ∧ w' = (w.alloc (.cells #[.pointer (some ⟨q, 0, none⟩)] 92)).alloc (.cells #[.int .i64 r] 3) := by
  have hmf : ∀ (fn : Fn) (first cap : Array Value) (w : World), (Instr.makeFunc fn first cap).run Tryz.prog w = .ok (.func fn first cap) w := fun _ _ _ _ => rfl
  go_enter Tryz.func100, Tryz.ntmps100
  go_wp2_with fail
  go_ret
  exact ⟨by first | rfl | simp, rfl⟩
end Go.Proofs.YtcngfaggignmpaaGreatDoor
