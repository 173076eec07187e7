/-
  The top, part 5: HandNew, Que, Queue, QuePut, QueTake, QueOut, QueNew, Obj.
-/
import Derived.Test.YtcngfaggignmpaaGreatDoorG04

/-
  Tables of handles: a new handle, whole.
-/
namespace Go.Proofs.YtcngfaggignmpaaGreatDoor
open Go.RowKit

set_option maxRecDepth 100000 in
set_option maxHeartbeats 2000000 in
theorem handMake_any (w : World) (b m : Nat) (age : Nat → Int) (tk : Nat → Bool) (i : Nat) (g : Int) (hi : i < 256) (him : i < m) (hg : 0 ≤ g) (hg2 : g < 16777215) (ha : age i = g) (ht : tk i = false) (hl : ∀ j, j < i → tk j = true) (h : HT b m age tk w) :
    Calls Tryz.prog 25 #[.pointer (some ⟨b, 0, none⟩)] w fun e w' => e = .returned (.tuple #[.int .u32 (256 * (g + 1) + i), .int .i64 0]) ∧ HT b m (upd age i (g + 1)) (upd tk i true) w' ∧ Ch (fun k => k = b) w w' := by
  have hmf : ∀ (fn : Fn) (first cap : Array Value) (w : World), (Instr.makeFunc fn first cap).run Tryz.prog w = .ok (.func fn first cap) w := fun _ _ _ _ => rfl
  have hz : ((m : Int) == 0) = false := by rw [beq_eq_false_iff_ne]; have := h.lo; omega
  have H := Lib.hid h
  have HL := Lib.hid hl
  have HA := Lib.hid ha
  have HT' := Lib.hid ht
  have hlt := h.lt
  obtain ⟨cs, r1, r2, r3, r4, r5⟩ := h.ex
  have w1 := r1.keeps (S := No) (((Ch.alloc w (.cells #[.pointer (some ⟨b, 0, none⟩)] 88)).trans (Ch.alloc _ (.cells #[.int .u32 0] 34))).trans (Ch.alloc _ (.cells #[.int .i64 0] 31))) (fun x => x)
  have c1 := w1.cell r3
  have a1 : Row w.heap.size 88 #[.pointer (some ⟨b, 0, none⟩)] (((w.alloc (.cells #[.pointer (some ⟨b, 0, none⟩)] 88)).alloc (.cells #[.int .u32 0] 34)).alloc (.cells #[.int .i64 3] 31)) := ((Row.new w 88 _).alloc _).alloc _
  have a2 : Row (w.heap.size + 1) 34 #[.int .u32 0] (((w.alloc (.cells #[.pointer (some ⟨b, 0, none⟩)] 88)).alloc (.cells #[.int .u32 0] 34)).alloc (.cells #[.int .i64 3] 31)) := by
    have := (Row.new (w.alloc (.cells #[.pointer (some ⟨b, 0, none⟩)] 88)) 34 #[.int .u32 0]).alloc (.cells #[.int .i64 3] 31)
    rw [World.size_alloc] at this; exact this
  have a3 : Row (w.heap.size + 1 + 1) 31 #[.int .i64 3] (((w.alloc (.cells #[.pointer (some ⟨b, 0, none⟩)] 88)).alloc (.cells #[.int .u32 0] 34)).alloc (.cells #[.int .i64 3] 31)) := by
    have := Row.new ((w.alloc (.cells #[.pointer (some ⟨b, 0, none⟩)] 88)).alloc (.cells #[.int .u32 0] 34)) 31 #[.int .i64 3]
    rw [World.size_alloc, World.size_alloc] at this; exact this
  have hch : Ch No w (((w.alloc (.cells #[.pointer (some ⟨b, 0, none⟩)] 88)).alloc (.cells #[.int .u32 0] 34)).alloc (.cells #[.int .i64 3] 31)) := ((Ch.alloc w _).trans (Ch.alloc _ _)).trans (Ch.alloc _ _)
  obtain ⟨W, hW⟩ : ∃ W, W = (((w.alloc (.cells #[.pointer (some ⟨b, 0, none⟩)] 88)).alloc (.cells #[.int .u32 0] 34)).alloc (.cells #[.int .i64 3] 31)) := ⟨_, rfl⟩
  have HW := Lib.hid hW
  rw [← hW] at a1 a2 a3 hch
  have A1 := Lib.hid a1
  have A2 := Lib.hid a2
  have A3 := Lib.hid a3
  have HC := Lib.hid hch
  clear h r1 r2 r3 r4 r5 hl ha ht w1 a1 a2 a3 hch hW
  go_enter Tryz.func25, Tryz.ntmps25
  go_wp2_with fail
  rw [← HW.out]
  refine (handFind_any W b m w.heap.size (w.heap.size + 1) (w.heap.size + 1 + 1) (.int .u32 0) (.int .i64 3) age tk i g hi him hg hg2 HA.out HT'.out HL.out (H.out.keeps HC.out (fun x => x)) A1.out A2.out A3.out (by omega) (by omega) (by omega) (by omega)).mono ?_; rintro e w4 ⟨rfl, g1, g2, g3, g4⟩
  have d2 := g2.cell (j := 0) rfl
  have d3 := g3.cell (j := 0) rfl
  have e2 := g2.free 0
  have e3 := g3.free 0
  have G1 := Lib.hid g1
  have G2 := Lib.hid g2
  have G3 := Lib.hid g3
  have G4 := Lib.hid g4
  clear g1 g2 g3 g4 c1
  go_wp2_with fail
  go_region
  all_goals
    go_wp2_with fail
    have q2 := Ch.setCell (S := fun k => k = w.heap.size + 1) w4 (w.heap.size + 1) 0 (.int .u32 (256 * (g + 1) + i)) rfl
    have q3 := Ch.setCell (S := fun k => k = w.heap.size + 1 + 1) (w4.setCell ⟨w.heap.size + 1, 0, none⟩ (.int .u32 (256 * (g + 1) + i))) (w.heap.size + 1 + 1) 0 (.int .i64 0) rfl
    have k2 := (((G2.out.set 0 (.int .u32 (256 * (g + 1) + i))).keeps q3 (by omega)).drewN 1).cell (j := 0) (v := .int .u32 (256 * (g + 1) + i)) rfl
    have k3 := (((G3.out.keeps q2 (by omega)).set 0 (.int .i64 0)).drewN 1).cell (j := 0) (v := .int .i64 0) rfl
    have hT := ((G1.out.keeps q2 (by omega)).keeps q3 (by omega)).keeps (S := No) (Ch.drewN _ 1) (fun x => x)
    refine bodyPost_ret (v := .tuple #[.int .u32 (256 * (g + 1) + i), .int .i64 0]) ?_ rfl ⟨rfl, hT, ?_⟩
    · change World.cell? (World.drew _) _ = _ at k2
      change World.cell? (World.drew _) _ = _ at k3
      simp [results, Tryz.results25, go_sem, k2, k3]
    · have z1 : Ch (fun k => k = b) w w4 := (HC.out.mono (fun _ _ s => s.elim)).trans' G4.out (fun k hk e => by omega)
      exact ((z1.trans' q2 (fun k hk e => by omega)).trans' q3 (fun k hk e => by omega)).trans (Ch.drewN _ 1)
end Go.Proofs.YtcngfaggignmpaaGreatDoor

/-
  Queues of messages: 64 places that go round.
-/
namespace Go.Proofs.YtcngfaggignmpaaGreatDoor
open Go.RowKit

/-- A queue in block b: room for most, the first place f; it holds l. -/
structure QUat (b most f : Nat) (t : TypeId) (cs : Array Value) (l : List Int) (w : World) : Prop where
  row : Row b t cs w
  size : cs.size = 67
  first : f < 64
  room : l.length ≤ most
  most0 : 1 ≤ most
  most1 : most ≤ 64
  cf : cs[64]? = some (.int .i64 f)
  cn : cs[65]? = some (.int .i64 l.length)
  cm : cs[66]? = some (.int .i64 most)
  ints : ∀ j, j < 64 → ∃ x : Int, cs[j]? = some (.int .u32 x)
  has : ∀ i x, l[i]? = some x → cs[(f + i) % 64]? = some (.int .u32 x)
def QU (b most : Nat) (l : List Int) (w : World) : Prop := ∃ f t cs, QUat b most f t cs l w

section
variable {w w' : World} {b most f : Nat} {t : TypeId} {cs : Array Value} {l : List Int} {S : Nat → Prop}
theorem QUat.keeps (h : QUat b most f t cs l w) (g : Ch S w w') (hn : ¬ S b) : QUat b most f t cs l w' :=
  ⟨h.row.keeps g hn, h.size, h.first, h.room, h.most0, h.most1, h.cf, h.cn, h.cm, h.ints, h.has⟩
theorem QU.keeps (h : QU b most l w) (g : Ch S w w') (hn : ¬ S b) : QU b most l w' := by obtain ⟨f, t, cs, h⟩ := h; exact ⟨f, t, cs, h.keeps g hn⟩
theorem QUat.drewN (h : QUat b most f t cs l w) (q : Nat) : QUat b most f t cs l (w.drewN q) := h.keeps (S := No) (Ch.drewN w q) (fun x => x)
theorem QU.lt (h : QU b most l w) : b < w.heap.size := by obtain ⟨f, t, cs, h⟩ := h; exact h.row.lt
end

set_option maxHeartbeats 1000000 in
theorem quThere_any (w : World) (b most : Nat) (l : List Int) (h : QU b most l w) : Calls Tryz.prog 276 #[.pointer (some ⟨b, 0, none⟩)] w fun e w' => e = .returned (.bool true) ∧ w = w' := by
  obtain ⟨f, t, cs, h⟩ := h
  have c := h.row.cell h.cm
  have m0 := h.most0
  have hd : decide (0 < most) = true := by rw [decide_eq_true_iff]; omega
  clear h
  go_enter Tryz.func276, Tryz.ntmps276
  go_wp2_with fail
  go_ret
  exact ⟨rfl, rfl⟩

set_option maxHeartbeats 1000000 in
theorem quAt_any (w : World) (b most f : Nat) (t : TypeId) (cs : Array Value) (l : List Int) (i : Nat) (hi : i ≤ 64) (h : QUat b most f t cs l w) :
    Calls Tryz.prog 140 #[.pointer (some ⟨b, 0, none⟩), .int .i64 i] w fun e w' => e = .returned (.pointer (some ⟨b, (f + i) % 64, none⟩)) ∧ ∃ q, w' = w.drewN q := by
  have c := h.row.cell h.cf
  have hf := h.first
  clear h
  go_enter Tryz.func140, Tryz.ntmps140
  go_wp2_with fail
  go_quiet (fail)
  go_wp2_with fail
  go_ret
  exact ⟨rfl, _, rfl⟩
end Go.Proofs.YtcngfaggignmpaaGreatDoor

/-
  Queues of messages: Put and Take.
-/
namespace Go.Proofs.YtcngfaggignmpaaGreatDoor
open Go.RowKit

set_option maxHeartbeats 1000000 in
theorem quRoom_yes (w : World) (b most : Nat) (l : List Int) (hl : l.length < most) (h : QU b most l w) : Calls Tryz.prog 283 #[.pointer (some ⟨b, 0, none⟩)] w fun e w' => e = .returned (.int .i64 0) ∧ ∃ q, w' = w.drewN q := by
  have HR := Lib.hid h
  obtain ⟨f, t, cs, h⟩ := h
  have c := h.row.cell h.cm
  have c2 := h.row.cell h.cn
  have hb : ((l.length : Int) == (most : Int)) = false := by rw [beq_eq_false_iff_ne]; omega
  clear h
  go_enter Tryz.func283, Tryz.ntmps283
  go_wp2_with fail
  refine (quThere_any _ b most l HR.out).mono ?_; rintro e w1 ⟨rfl, rfl⟩
  go_wp2_with fail
  go_quiet (fail)
  go_wp2_with fail
  go_ret
  exact ⟨rfl, _, rfl⟩
set_option maxHeartbeats 1000000 in
theorem quRoom_no (w : World) (b most : Nat) (l : List Int) (hl : l.length = most) (h : QU b most l w) : Calls Tryz.prog 283 #[.pointer (some ⟨b, 0, none⟩)] w fun e w' => e = .returned (.int .i64 10) ∧ ∃ q, w' = w.drewN q := by
  have HR := Lib.hid h
  obtain ⟨f, t, cs, h⟩ := h
  have c := h.row.cell h.cm
  have c2 := h.row.cell h.cn
  have hb : ((l.length : Int) == (most : Int)) = true := by rw [beq_iff_eq]; omega
  clear h hl
  go_enter Tryz.func283, Tryz.ntmps283
  go_wp2_with fail
  refine (quThere_any _ b most l HR.out).mono ?_; rintro e w1 ⟨rfl, rfl⟩
  go_wp2_with fail
  go_quiet (fail)
  go_wp2_with fail
  go_ret
  exact ⟨rfl, _, rfl⟩
end Go.Proofs.YtcngfaggignmpaaGreatDoor

/-
  Queues of messages: Put.
-/
namespace Go.Proofs.YtcngfaggignmpaaGreatDoor
open Go.RowKit

section
variable {w : World} {b most f : Nat} {t : TypeId} {cs : Array Value} {l : List Int}
theorem QUat.added (h : QUat b most f t cs l w) (hl : l.length < most) (x : Int) :
    QUat b most f t ((cs.setIfInBounds ((f + l.length) % 64) (.int .u32 x)).setIfInBounds 65 (.int .i64 ((l.length : Int) + 1))) (l ++ [x])
      ((w.setCell ⟨b, (f + l.length) % 64, none⟩ (.int .u32 x)).setCell ⟨b, 65, none⟩ (.int .i64 ((l.length : Int) + 1))) := by
  have hs := h.size
  have hm := h.most1
  have hlt : (f + l.length) % 64 < 64 := Nat.mod_lt _ (by decide)
  refine ⟨(h.row.set _ _).set _ _, by simp [hs], h.first, by simp; omega, h.most0, h.most1, ?_, ?_, ?_, ?_, ?_⟩
  · rw [set_get (by simp [hs]), if_neg (by omega), set_get (by omega), if_neg (by omega)]; exact h.cf
  · rw [set_get (by simp [hs]), if_pos rfl]; simp
  · rw [set_get (by simp [hs]), if_neg (by omega), set_get (by omega), if_neg (by omega)]; exact h.cm
  · intro j hj
    rw [set_get (by simp [hs]), if_neg (by omega), set_get (by omega)]
    by_cases e : (f + l.length) % 64 = j
    · rw [if_pos e]; exact ⟨x, rfl⟩
    · rw [if_neg e]; exact h.ints j hj
  · intro i y hi
    have hi2 : (f + i) % 64 < 64 := Nat.mod_lt _ (by decide)
    rw [set_get (by simp [hs]), if_neg (by omega), set_get (by omega)]
    rcases Nat.lt_trichotomy i l.length with hlt' | heq | hgt
    · rw [if_neg (by omega)]
      rw [List.getElem?_append_left hlt'] at hi
      exact h.has i y hi
    · subst heq
      rw [List.getElem?_append_right (Nat.le_refl _), Nat.sub_self] at hi
      simp at hi
      rw [if_pos rfl, hi]
    · rw [List.getElem?_eq_none (by simp; omega)] at hi
      cases hi
end

set_option maxHeartbeats 2000000 in
theorem quPut_any (w : World) (b most : Nat) (l : List Int) (x : Int) (hl : l.length < most) (h : QU b most l w) :
    Calls Tryz.prog 279 #[.pointer (some ⟨b, 0, none⟩), .int .u32 x] w fun e w' => e = .returned (.int .i64 0) ∧ QU b most (l ++ [x]) w' ∧ Ch (fun k => k = b) w w' := by
  have HR := Lib.hid h
  obtain ⟨f, t, cs, h⟩ := h
  have H := Lib.hid h
  have hm := h.most1
  have c2 := h.row.cell h.cn
  have f2 := h.row.free 65
  have hlt : (f + l.length) % 64 < 64 := Nat.mod_lt _ (by decide)
  obtain ⟨y, hy⟩ := h.ints _ hlt
  have cb := h.row.cell hy
  have fb := h.row.free ((f + l.length) % 64)
  have ne1 : ¬ (f + l.length) % 64 = 65 := by omega
  have ne2 : ¬ 65 = (f + l.length) % 64 := by omega
  clear h hy
  go_enter Tryz.func279, Tryz.ntmps279
  go_wp2_with fail
  refine (quRoom_yes _ b most l hl HR.out).mono ?_; rintro e w1 ⟨rfl, q1, rfl⟩
  go_wp2_with fail
  go_region_held3 (fun wx => wx.cell? ⟨b, 65, none⟩ = some (.int .i64 l.length)) (first | go_keep | exact (((H.out.drewN _).row.set _ _).cell (by rw [set_get (by have := H.out.size; omega), if_neg ne1]; exact H.out.cn))) (first | (go_at_call 140; refine (quAt_any _ b most f t cs l l.length (by omega) (by first | exact H.out.drewN _ | exact (H.out.drewN _).drewN _)).mono ?_; rintro e w4 ⟨rfl, q4, rfl⟩))
  all_goals
    go_wp2_with fail
    go_ret
    exact ⟨rfl, ⟨f, t, _, (H.out.drewN (q1 + 1 + q4)).added hl x⟩, ((Ch.drewN w _).trans (Ch.setCell (S := fun k => k = b) _ b _ _ rfl)).trans (Ch.setCell _ b _ _ rfl)⟩
end Go.Proofs.YtcngfaggignmpaaGreatDoor

/-
  Queues of messages: Peek and Take.
-/
namespace Go.Proofs.YtcngfaggignmpaaGreatDoor
open Go.RowKit

set_option maxHeartbeats 1000000 in
theorem quPeek_none (w : World) (b most : Nat) (h : QU b most [] w) : Calls Tryz.prog 282 #[.pointer (some ⟨b, 0, none⟩)] w fun e w' => e = .returned (.tuple #[.int .u32 0, .int .i64 11]) ∧ w = w' := by
  have HR := Lib.hid h
  obtain ⟨f, t, cs, h⟩ := h
  have c2 : w.cell? ⟨b, 65, none⟩ = some (.int .i64 0) := h.row.cell h.cn
  clear h
  go_enter Tryz.func282, Tryz.ntmps282
  go_wp2_with fail
  refine (quThere_any _ b most [] HR.out).mono ?_; rintro e w1 ⟨rfl, rfl⟩
  go_wp2_with fail
  go_ret2
  exact ⟨rfl, rfl⟩
set_option maxHeartbeats 1000000 in
theorem quPeek_any (w : World) (b most : Nat) (x : Int) (l : List Int) (h : QU b most (x :: l) w) : Calls Tryz.prog 282 #[.pointer (some ⟨b, 0, none⟩)] w fun e w' => e = .returned (.tuple #[.int .u32 x, .int .i64 0]) ∧ ∃ q, w' = w.drewN q := by
  have HR := Lib.hid h
  obtain ⟨f, t, cs, h⟩ := h
  have H := Lib.hid h
  have c2 := h.row.cell h.cn
  have hb : (((x :: l).length : Int) == 0) = false := by rw [beq_eq_false_iff_ne]; simp; omega
  have cb : w.cell? ⟨b, f % 64, none⟩ = some (.int .u32 x) := h.row.cell (h.has 0 x rfl)
  clear h
  generalize (x :: l).length = n at *
  go_enter Tryz.func282, Tryz.ntmps282
  go_wp2_with fail
  refine (quThere_any _ b most (x :: l) HR.out).mono ?_; rintro e w1 ⟨rfl, rfl⟩
  go_wp2_with fail
  refine (quAt_any _ b most f t cs (x :: l) 0 (by omega) H.out).mono ?_; rintro e w1 ⟨rfl, q1, rfl⟩
  go_wp2_with fail
  go_ret2
  exact ⟨rfl, _, rfl⟩
end Go.Proofs.YtcngfaggignmpaaGreatDoor

/-
  Queues of messages: Take.
-/
namespace Go.Proofs.YtcngfaggignmpaaGreatDoor
open Go.RowKit

section
variable {w : World} {b most f : Nat} {t : TypeId} {cs : Array Value} {l : List Int} {x : Int}
theorem QUat.took (h : QUat b most f t cs (x :: l) w) :
    QUat b most ((f + 1) % 64) t ((cs.setIfInBounds 64 (.int .i64 (((f : Int) + 1) % 64))).setIfInBounds 65 (.int .i64 l.length)) l
      ((w.setCell ⟨b, 64, none⟩ (.int .i64 (((f : Int) + 1) % 64))).setCell ⟨b, 65, none⟩ (.int .i64 l.length)) := by
  have hs := h.size
  have hr := h.room
  simp at hr
  refine ⟨(h.row.set _ _).set _ _, by simp [hs], Nat.mod_lt _ (by decide), by omega, h.most0, h.most1, ?_, ?_, ?_, ?_, ?_⟩
  · rw [set_get (by simp [hs]), if_neg (by omega), set_get (by omega), if_pos rfl]; simp
  · rw [set_get (by simp [hs]), if_pos rfl]
  · rw [set_get (by simp [hs]), if_neg (by omega), set_get (by omega), if_neg (by omega)]; exact h.cm
  · intro j hj
    rw [set_get (by simp [hs]), if_neg (by omega), set_get (by omega), if_neg (by omega)]; exact h.ints j hj
  · intro i y hi
    have h1 := h.has (i + 1) y (by simpa using hi)
    have h2 : (f + (i + 1)) % 64 < 64 := Nat.mod_lt _ (by decide)
    rw [show ((f + 1) % 64 + i) % 64 = (f + (i + 1)) % 64 by omega, set_get (by simp [hs]), if_neg (by omega), set_get (by omega), if_neg (by omega)]
    exact h1
end

set_option maxHeartbeats 2000000 in
theorem quTake_any (w : World) (b most : Nat) (x : Int) (l : List Int) (h : QU b most (x :: l) w) :
    Calls Tryz.prog 281 #[.pointer (some ⟨b, 0, none⟩)] w fun e w' => e = .returned (.tuple #[.int .u32 x, .int .i64 0]) ∧ QU b most l w' ∧ Ch (fun k => k = b) w w' := by
  have HR := Lib.hid h
  obtain ⟨f, t, cs, h⟩ := h
  have H := Lib.hid h
  have hf := h.first
  have c1 := h.row.cell h.cf
  have c2 : w.cell? ⟨b, 65, none⟩ = some (.int .i64 ((l.length : Int) + 1)) := by have := h.row.cell h.cn; simpa using this
  have f1 := h.row.free 64
  have f2 := h.row.free 65
  have hr : l.length + 1 ≤ 64 := by have := h.room; have := h.most1; simp at *; omega
  clear h
  go_enter Tryz.func281, Tryz.ntmps281
  go_wp2_with fail
  refine (quPeek_any _ b most x l HR.out).mono ?_; rintro e w1 ⟨rfl, q1, rfl⟩
  go_wp2_with fail
  go_ret2
  exact ⟨rfl, ⟨_, t, _, (H.out.drewN q1).took⟩, ((Ch.drewN w _).trans (Ch.setCell (S := fun k => k = b) _ b _ _ rfl)).trans (Ch.setCell _ b _ _ rfl)⟩
end Go.Proofs.YtcngfaggignmpaaGreatDoor

/-
  Queues of messages: a new one.
-/
namespace Go.Proofs.YtcngfaggignmpaaGreatDoor
open Go.RowKit

theorem z243_size : Tryz.zeroCells243.size = 67 := by decide +kernel
theorem z243_l : ∀ k : Fin 64, zeroU Tryz.zeroCells243 k.val = true := by decide +kernel
theorem z243_f : Tryz.zeroCells243[64]? = some (.int .i64 0) := zeroInt_eq (by decide +kernel)
theorem z243_n : Tryz.zeroCells243[65]? = some (.int .i64 0) := zeroInt_eq (by decide +kernel)

set_option maxRecDepth 100000 in
set_option maxHeartbeats 1000000 in
theorem quNew_any (w : World) (most : Nat) (h0 : 1 ≤ most) (h1 : most ≤ 64) :
    Calls Tryz.prog 47 #[.int .i64 most] w fun e w' => e = .returned (.tuple #[.pointer (some ⟨w.heap.size, 0, none⟩), .int .i64 0]) ∧ QU w.heap.size most [] w' ∧ Ch No w w' ∧ w'.heap.size = w.heap.size + 1 := by
  have d1 : decide (most < 1) = false := by rw [decide_eq_false_iff_not]; omega
  have d2 : decide (64 < most) = false := by rw [decide_eq_false_iff_not]; omega
  have d3 : decide ((most : Int) < 1) = false := by rw [decide_eq_false_iff_not]; omega
  have d4 : decide ((64 : Int) < (most : Int)) = false := by rw [decide_eq_false_iff_not]; omega
  go_enter Tryz.func47, Tryz.ntmps47
  go_wp2_with fail
  go_ret2
  have hs := z243_size
  refine ⟨rfl, ⟨0, 243, _, Row.new w 243 _, by simp [hs], by decide, by simp, h0, h1, ?_, ?_, ?_, ?_, fun i x e => by simp at e⟩, Ch.alloc w _, by simp⟩
  · rw [set_get (by omega), if_neg (by omega)]; exact z243_f
  · rw [set_get (by omega), if_neg (by omega)]; exact z243_n
  · rw [set_get (by omega), if_pos rfl]
  · intro j hj
    rw [set_get (by omega), if_neg (by omega)]; exact ⟨0, zeroU_eq (z243_l ⟨j, hj⟩)⟩
end Go.Proofs.YtcngfaggignmpaaGreatDoor

/-
  Things: small functions.
-/
namespace Go.Proofs.YtcngfaggignmpaaGreatDoor
open Go.RowKit

set_option maxHeartbeats 400000 in
theorem yet_ok (w : World) (v : Int) : Calls Tryz.prog 278 #[.int .u32 v, .int .i64 0] w fun e w' => e = .returned (.tuple #[.int .u32 v, .int .i64 0]) ∧ w = w' := by
  go_enter Tryz.func278, Tryz.ntmps278
  go_wp2_with fail
  go_ret2
  exact ⟨rfl, rfl⟩
set_option maxHeartbeats 400000 in
theorem yet_not (w : World) (v n : Int) (hn : (n != 0) = true) : Calls Tryz.prog 278 #[.int .u32 v, .int .i64 n] w fun e w' => e = .returned (.tuple #[.int .u32 v, .int .i64 7]) ∧ w = w' := by
  go_enter Tryz.func278, Tryz.ntmps278
  go_wp2_with fail
  go_ret2
  exact ⟨rfl, rfl⟩
end Go.Proofs.YtcngfaggignmpaaGreatDoor
