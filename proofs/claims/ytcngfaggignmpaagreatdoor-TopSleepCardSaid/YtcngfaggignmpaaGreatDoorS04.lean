/-
  The top, part 4: QuePut, QueTake, QueOut, QueNew, Obj, Waits, WaitsDo.
-/
import Derived.Test.YtcngfaggignmpaaGreatDoorS03

/-
  Queues of messages: Put.
-/
namespace Go.Proofs.YtcngfaggignmpaaGreatDoor
open Go.RowKit

section
variable {w : World} {b most f : Nat} {t : TypeId} {cs : Array Value} {l : List Int}
theorem QUat.added (h : QUat b most f t cs l w) (hl : l.length < most) (x : Int) :
    QUat b most f t ((cs.setIfInBounds ((f + l.length) % 64) (.int .u32 x)).setIfInBounds 65 (.int .i64 ((l.length : Int) + 1))) (l ++ [x])
      ((w.setCell ⟨b, (f + l.length) % 64, none⟩ (.int .u32 x)).setCell ⟨b, 65, none⟩ (.int .i64 ((l.length : Int) + 1))) := by
  have hs := h.size
  have hm := h.most1
  have hlt : (f + l.length) % 64 < 64 := Nat.mod_lt _ (by decide)
  refine ⟨(h.row.set _ _).set _ _, by simp [hs], h.first, by simp; omega, h.most0, h.most1, ?_, ?_, ?_, ?_, ?_⟩
  · rw [set_get (by simp [hs]), if_neg (by omega), set_get (by omega), if_neg (by omega)]; exact h.cf
  · rw [set_get (by simp [hs]), if_pos rfl]; simp
  · rw [set_get (by simp [hs]), if_neg (by omega), set_get (by omega), if_neg (by omega)]; exact h.cm
  · intro j hj
    rw [set_get (by simp [hs]), if_neg (by omega), set_get (by omega)]
    by_cases e : (f + l.length) % 64 = j
    · rw [if_pos e]; exact ⟨x, rfl⟩
    · rw [if_neg e]; exact h.ints j hj
  · intro i y hi
    have hi2 : (f + i) % 64 < 64 := Nat.mod_lt _ (by decide)
    rw [set_get (by simp [hs]), if_neg (by omega), set_get (by omega)]
    rcases Nat.lt_trichotomy i l.length with hlt' | heq | hgt
    · rw [if_neg (by omega)]
      rw [List.getElem?_append_left hlt'] at hi
      exact h.has i y hi
    · subst heq
      rw [List.getElem?_append_right (Nat.le_refl _), Nat.sub_self] at hi
      simp at hi
      rw [if_pos rfl, hi]
    · rw [List.getElem?_eq_none (by simp; omega)] at hi
      cases hi
end

set_option maxHeartbeats 2000000 in
theorem quPut_any (w : World) (b most : Nat) (l : List Int) (x : Int) (hl : l.length < most) (h : QU b most l w) :
    Calls Tryz.prog 279 #[.pointer (some ⟨b, 0, none⟩), .int .u32 x] w fun e w' => e = .returned (.int .i64 0) ∧ QU b most (l ++ [x]) w' ∧ Ch (fun k => k = b) w w' := by
  have HR := Lib.hid h
  obtain ⟨f, t, cs, h⟩ := h
  have H := Lib.hid h
  have hm := h.most1
  have c2 := h.row.cell h.cn
  have f2 := h.row.free 65
  have hlt : (f + l.length) % 64 < 64 := Nat.mod_lt _ (by decide)
  obtain ⟨y, hy⟩ := h.ints _ hlt
  have cb := h.row.cell hy
  have fb := h.row.free ((f + l.length) % 64)
  have ne1 : ¬ (f + l.length) % 64 = 65 := by omega
  have ne2 : ¬ 65 = (f + l.length) % 64 := by omega
  clear h hy
  go_enter Tryz.func279, Tryz.ntmps279
  go_wp2_with fail
  refine (quRoom_yes _ b most l hl HR.out).mono ?_; rintro e w1 ⟨rfl, q1, rfl⟩
  go_wp2_with fail
  go_region_held3 (fun wx => wx.cell? ⟨b, 65, none⟩ = some (.int .i64 l.length)) (first | go_keep | exact (((H.out.drewN _).row.set _ _).cell (by rw [set_get (by have := H.out.size; omega), if_neg ne1]; exact H.out.cn))) (first | (go_at_call 140; refine (quAt_any _ b most f t cs l l.length (by omega) (by first | exact H.out.drewN _ | exact (H.out.drewN _).drewN _)).mono ?_; rintro e w4 ⟨rfl, q4, rfl⟩))
  all_goals
    go_wp2_with fail
    go_ret
    exact ⟨rfl, ⟨f, t, _, (H.out.drewN (q1 + 1 + q4)).added hl x⟩, ((Ch.drewN w _).trans (Ch.setCell (S := fun k => k = b) _ b _ _ rfl)).trans (Ch.setCell _ b _ _ rfl)⟩
end Go.Proofs.YtcngfaggignmpaaGreatDoor

/-
  Queues of messages: Peek and Take.
-/
namespace Go.Proofs.YtcngfaggignmpaaGreatDoor
open Go.RowKit

set_option maxHeartbeats 1000000 in
theorem quPeek_none (w : World) (b most : Nat) (h : QU b most [] w) : Calls Tryz.prog 282 #[.pointer (some ⟨b, 0, none⟩)] w fun e w' => e = .returned (.tuple #[.int .u32 0, .int .i64 11]) ∧ w = w' := by
  have HR := Lib.hid h
  obtain ⟨f, t, cs, h⟩ := h
  have c2 : w.cell? ⟨b, 65, none⟩ = some (.int .i64 0) := h.row.cell h.cn
  clear h
  go_enter Tryz.func282, Tryz.ntmps282
  go_wp2_with fail
  refine (quThere_any _ b most [] HR.out).mono ?_; rintro e w1 ⟨rfl, rfl⟩
  go_wp2_with fail
  go_ret2
  exact ⟨rfl, rfl⟩
set_option maxHeartbeats 1000000 in
theorem quPeek_any (w : World) (b most : Nat) (x : Int) (l : List Int) (h : QU b most (x :: l) w) : Calls Tryz.prog 282 #[.pointer (some ⟨b, 0, none⟩)] w fun e w' => e = .returned (.tuple #[.int .u32 x, .int .i64 0]) ∧ ∃ q, w' = w.drewN q := by
  have HR := Lib.hid h
  obtain ⟨f, t, cs, h⟩ := h
  have H := Lib.hid h
  have c2 := h.row.cell h.cn
  have hb : (((x :: l).length : Int) == 0) = false := by rw [beq_eq_false_iff_ne]; simp; omega
  have cb : w.cell? ⟨b, f % 64, none⟩ = some (.int .u32 x) := h.row.cell (h.has 0 x rfl)
  clear h
  generalize (x :: l).length = n at *
  go_enter Tryz.func282, Tryz.ntmps282
  go_wp2_with fail
  refine (quThere_any _ b most (x :: l) HR.out).mono ?_; rintro e w1 ⟨rfl, rfl⟩
  go_wp2_with fail
  refine (quAt_any _ b most f t cs (x :: l) 0 (by omega) H.out).mono ?_; rintro e w1 ⟨rfl, q1, rfl⟩
  go_wp2_with fail
  go_ret2
  exact ⟨rfl, _, rfl⟩
end Go.Proofs.YtcngfaggignmpaaGreatDoor

/-
  Queues of messages: Take.
-/
namespace Go.Proofs.YtcngfaggignmpaaGreatDoor
open Go.RowKit

section
variable {w : World} {b most f : Nat} {t : TypeId} {cs : Array Value} {l : List Int} {x : Int}
theorem QUat.took (h : QUat b most f t cs (x :: l) w) :
    QUat b most ((f + 1) % 64) t ((cs.setIfInBounds 64 (.int .i64 (((f : Int) + 1) % 64))).setIfInBounds 65 (.int .i64 l.length)) l
      ((w.setCell ⟨b, 64, none⟩ (.int .i64 (((f : Int) + 1) % 64))).setCell ⟨b, 65, none⟩ (.int .i64 l.length)) := by
  have hs := h.size
  have hr := h.room
  simp at hr
  refine ⟨(h.row.set _ _).set _ _, by simp [hs], Nat.mod_lt _ (by decide), by omega, h.most0, h.most1, ?_, ?_, ?_, ?_, ?_⟩
  · rw [set_get (by simp [hs]), if_neg (by omega), set_get (by omega), if_pos rfl]; simp
  · rw [set_get (by simp [hs]), if_pos rfl]
  · rw [set_get (by simp [hs]), if_neg (by omega), set_get (by omega), if_neg (by omega)]; exact h.cm
  · intro j hj
    rw [set_get (by simp [hs]), if_neg (by omega), set_get (by omega), if_neg (by omega)]; exact h.ints j hj
  · intro i y hi
    have h1 := h.has (i + 1) y (by simpa using hi)
    have h2 : (f + (i + 1)) % 64 < 64 := Nat.mod_lt _ (by decide)
    rw [show ((f + 1) % 64 + i) % 64 = (f + (i + 1)) % 64 by omega, set_get (by simp [hs]), if_neg (by omega), set_get (by omega), if_neg (by omega)]
    exact h1
end

set_option maxHeartbeats 2000000 in
theorem quTake_any (w : World) (b most : Nat) (x : Int) (l : List Int) (h : QU b most (x :: l) w) :
    Calls Tryz.prog 281 #[.pointer (some ⟨b, 0, none⟩)] w fun e w' => e = .returned (.tuple #[.int .u32 x, .int .i64 0]) ∧ QU b most l w' ∧ Ch (fun k => k = b) w w' := by
  have HR := Lib.hid h
  obtain ⟨f, t, cs, h⟩ := h
  have H := Lib.hid h
  have hf := h.first
  have c1 := h.row.cell h.cf
  have c2 : w.cell? ⟨b, 65, none⟩ = some (.int .i64 ((l.length : Int) + 1)) := by have := h.row.cell h.cn; simpa using this
  have f1 := h.row.free 64
  have f2 := h.row.free 65
  have hr : l.length + 1 ≤ 64 := by have := h.room; have := h.most1; simp at *; omega
  clear h
  go_enter Tryz.func281, Tryz.ntmps281
  go_wp2_with fail
  refine (quPeek_any _ b most x l HR.out).mono ?_; rintro e w1 ⟨rfl, q1, rfl⟩
  go_wp2_with fail
  go_ret2
  exact ⟨rfl, ⟨_, t, _, (H.out.drewN q1).took⟩, ((Ch.drewN w _).trans (Ch.setCell (S := fun k => k = b) _ b _ _ rfl)).trans (Ch.setCell _ b _ _ rfl)⟩
end Go.Proofs.YtcngfaggignmpaaGreatDoor

/-
  Queues of messages: a new one.
-/
namespace Go.Proofs.YtcngfaggignmpaaGreatDoor
open Go.RowKit

theorem z243_size : Tryz.zeroCells243.size = 67 := by decide +kernel
theorem z243_l : ∀ k : Fin 64, zeroU Tryz.zeroCells243 k.val = true := by decide +kernel
theorem z243_f : Tryz.zeroCells243[64]? = some (.int .i64 0) := zeroInt_eq (by decide +kernel)
theorem z243_n : Tryz.zeroCells243[65]? = some (.int .i64 0) := zeroInt_eq (by decide +kernel)

set_option maxRecDepth 100000 in
set_option maxHeartbeats 1000000 in
theorem quNew_any (w : World) (most : Nat) (h0 : 1 ≤ most) (h1 : most ≤ 64) :
    Calls Tryz.prog 47 #[.int .i64 most] w fun e w' => e = .returned (.tuple #[.pointer (some ⟨w.heap.size, 0, none⟩), .int .i64 0]) ∧ QU w.heap.size most [] w' ∧ Ch No w w' ∧ w'.heap.size = w.heap.size + 1 := by
  have d1 : decide (most < 1) = false := by rw [decide_eq_false_iff_not]; omega
  have d2 : decide (64 < most) = false := by rw [decide_eq_false_iff_not]; omega
  have d3 : decide ((most : Int) < 1) = false := by rw [decide_eq_false_iff_not]; omega
  have d4 : decide ((64 : Int) < (most : Int)) = false := by rw [decide_eq_false_iff_not]; omega
  go_enter Tryz.func47, Tryz.ntmps47
  go_wp2_with fail
  go_ret2
  have hs := z243_size
  refine ⟨rfl, ⟨0, 243, _, Row.new w 243 _, by simp [hs], by decide, by simp, h0, h1, ?_, ?_, ?_, ?_, fun i x e => by simp at e⟩, Ch.alloc w _, by simp⟩
  · rw [set_get (by omega), if_neg (by omega)]; exact z243_f
  · rw [set_get (by omega), if_neg (by omega)]; exact z243_n
  · rw [set_get (by omega), if_pos rfl]
  · intro j hj
    rw [set_get (by omega), if_neg (by omega)]; exact ⟨0, zeroU_eq (z243_l ⟨j, hj⟩)⟩
end Go.Proofs.YtcngfaggignmpaaGreatDoor

/-
  Things: small functions.
-/
namespace Go.Proofs.YtcngfaggignmpaaGreatDoor
open Go.RowKit

set_option maxHeartbeats 400000 in
theorem yet_ok (w : World) (v : Int) : Calls Tryz.prog 278 #[.int .u32 v, .int .i64 0] w fun e w' => e = .returned (.tuple #[.int .u32 v, .int .i64 0]) ∧ w = w' := by
  go_enter Tryz.func278, Tryz.ntmps278
  go_wp2_with fail
  go_ret2
  exact ⟨rfl, rfl⟩
set_option maxHeartbeats 400000 in
theorem yet_not (w : World) (v n : Int) (hn : (n != 0) = true) : Calls Tryz.prog 278 #[.int .u32 v, .int .i64 n] w fun e w' => e = .returned (.tuple #[.int .u32 v, .int .i64 7]) ∧ w = w' := by
  go_enter Tryz.func278, Tryz.ntmps278
  go_wp2_with fail
  go_ret2
  exact ⟨rfl, rfl⟩
end Go.Proofs.YtcngfaggignmpaaGreatDoor

/-
  Those who wait for something: nobody, or one.
-/
namespace Go.Proofs.YtcngfaggignmpaaGreatDoor
open Go.RowKit

theorem mkFn (fn : Fn) (first cap : Array Value) (w : World) : (Instr.makeFunc fn first cap).run Tryz.prog w = .ok (.func fn first cap) w := rfl

/-- Blocks of one type alone are not blocks of another one. -/
theorem Row.ne {w : World} {p q : Nat} {t t' : TypeId} {cs cs' : Array Value} (h : Row p t cs w) (g : Row q t' cs' w) (ht : t ≠ t') : p ≠ q := by
  intro e
  subst e
  have h' : w.heap[p]? = some (.cells cs t) := h
  rw [show w.heap[p]? = some (.cells cs' t') from g] at h'
  cases h'
  exact ht rfl

/-- Who waits: the first link in block b, the queue in the next one; the one's own link lies from c on. -/
def WQ (b c : Nat) (o : Option (Nat × Nat)) (w : World) : Prop :=
  Row (b + 1) 184 #[.pointer (some ⟨b, 0, none⟩)] w ∧ b + 1 < c ∧ c ≤ w.heap.size ∧ match o with
    | none => Row b 182 #[.int .i64 0, .int .i64 0, .pointer none] w
    | some (i, r) => ∃ lb, c ≤ lb ∧ Row b 182 #[.int .i64 0, .int .i64 0, .pointer (some ⟨lb, 0, none⟩)] w ∧ Row lb 182 #[.int .i64 i, .int .i64 r, .pointer none] w

section
variable {w w' : World} {b c : Nat} {o : Option (Nat × Nat)} {S : Nat → Prop}
theorem WQ.keeps (h : WQ b c o w) (g : Ch S w w') (h0 : ¬ S b) (h1 : ¬ S (b + 1)) (h2 : ∀ k cs, c ≤ k → Row k 182 cs w → ¬ S k) : WQ b c o w' := by
  refine ⟨h.1.keeps g h1, h.2.1, Nat.le_trans h.2.2.1 g.size, ?_⟩
  have h3 := h.2.2.2
  cases o with
  | none => exact h3.keeps g h0
  | some x =>
    obtain ⟨lb, a1, a2, a3⟩ := h3
    exact ⟨lb, a1, a2.keeps g h0, a3.keeps g (h2 lb _ a1 a3)⟩
theorem WQ.drewN (h : WQ b c o w) (n : Nat) : WQ b c o (w.drewN n) := h.keeps (S := No) (Ch.drewN w n) (fun x => x) (fun x => x) (fun _ _ _ _ x => x)
theorem WQ.no (h : WQ b c o w) (g : Ch No w w') : WQ b c o w' := h.keeps g (fun x => x) (fun x => x) (fun _ _ _ _ x => x)
end

set_option maxHeartbeats 1000000 in
theorem wqNew_any (w : World) : Calls Tryz.prog 27 #[] w fun e w' => e = .returned (.pointer (some ⟨w.heap.size + 1, 0, none⟩)) ∧ WQ w.heap.size (w.heap.size + 2) none w' ∧ Ch No w w' ∧ w'.heap.size = w.heap.size + 2 := by
  go_enter Tryz.func27, Tryz.ntmps27
  go_wp2_with fail
  go_ret
  refine ⟨by first | rfl | simp, ⟨?_, by omega, by simp, (Row.new w 182 _).alloc _⟩, (Ch.alloc w _).trans (Ch.alloc _ _), by simp⟩
  have := Row.new (w.alloc (.cells #[.int .i64 0, .int .i64 0, .pointer none] 182)) 184 #[.pointer (some ⟨w.heap.size, 0, none⟩)]
  rw [World.size_alloc] at this
  exact this

set_option maxHeartbeats 1000000 in
theorem wqThere_any (w : World) (b c : Nat) (o : Option (Nat × Nat)) (h : WQ b c o w) : Calls Tryz.prog 78 #[.pointer (some ⟨b + 1, 0, none⟩)] w fun e w' => e = .returned (.bool true) ∧ w = w' := by
  have c1 := h.1.cell (j := 0) rfl
  clear h
  go_enter Tryz.func78, Tryz.ntmps78
  go_wp2_with fail
  go_ret
  exact ⟨rfl, rfl⟩

set_option maxHeartbeats 1000000 in
theorem is_any (w : World) (i : Nat) : Calls Tryz.prog 154 #[.int .i64 i] w fun e w' => e = .returned (.func (.func 182) #[] #[.pointer (some ⟨w.heap.size, 0, none⟩)]) ∧ w' = w.alloc (.cells #[.int .i64 i] 3) := by
  have hmf := mkFn
  go_enter Tryz.func154, Tryz.ntmps154
  go_wp2_with fail
  go_ret
  exact ⟨by first | rfl | simp, rfl⟩

set_option maxHeartbeats 1000000 in
theorem is1_yes (w : World) (i r B1 : Nat) (h : Row B1 3 #[.int .i64 i] w) : Calls Tryz.prog 182 #[.agg #[.int .i64 i, .int .i64 r], .pointer (some ⟨B1, 0, none⟩)] w fun e w' => e = .returned (.bool true) ∧ Ch No w w' := by
  have c1 := (h.alloc (.cells #[.int .i64 i, .int .i64 r] 180)).cell (j := 0) rfl
  have hb : ((i : Int) == (i : Int)) = true := beq_self_eq_true _
  clear h
  go_enter Tryz.func182, Tryz.ntmps182
  go_wp2_with fail
  go_ret
  exact ⟨rfl, Ch.alloc w _⟩

set_option maxHeartbeats 1000000 in
theorem ahead_none (w : World) (b c : Nat) (f : Value) (h : WQ b c none w) : Calls Tryz.prog 153 #[.pointer (some ⟨b + 1, 0, none⟩), f] w fun e w' => e = .returned (.pointer (some ⟨b, 0, none⟩)) ∧ w = w' := by
  have c1 := h.1.cell (j := 0) rfl
  have c2 := h.2.2.2.cell (j := 2) rfl
  clear h
  go_enter Tryz.func153, Tryz.ntmps153
  go_wp2_with fail
  go_loopw [5] (fun p wr => p = .pointer (some ⟨b, 0, none⟩) ∧ wr = w) (fun _ _ => 0)
  case atStart => exact ⟨rfl, rfl⟩
  case round =>
    obtain ⟨rfl, rfl⟩ := hrel
    go_wp2_with fail
    go_ret
    exact ⟨rfl, rfl⟩

set_option maxHeartbeats 1000000 in
theorem ahead_some (w : World) (b c i r B1 : Nat) (h : WQ b c (some (i, r)) w) (hr : Row B1 3 #[.int .i64 i] w) :
    Calls Tryz.prog 153 #[.pointer (some ⟨b + 1, 0, none⟩), .func (.func 182) #[] #[.pointer (some ⟨B1, 0, none⟩)]] w fun e w' => e = .returned (.pointer (some ⟨b, 0, none⟩)) ∧ Ch No w w' := by
  obtain ⟨lb, a1, a2, a3⟩ := h.2.2.2
  have c1 := h.1.cell (j := 0) rfl
  have c2 := a2.cell (j := 2) rfl
  have c3 := a3.cell (j := 0) rfl
  have c4 := a3.cell (j := 1) rfl
  have HR := Lib.hid hr
  clear h a1 a2 a3 hr
  go_enter Tryz.func153, Tryz.ntmps153
  go_wp2_with fail
  go_loopw [5] (fun p wr => p = .pointer (some ⟨b, 0, none⟩) ∧ wr = w) (fun _ _ => 0)
  case atStart => exact ⟨rfl, rfl⟩
  case round =>
    obtain ⟨rfl, rfl⟩ := hrel
    go_wp2_with fail
    refine (is1_yes _ i r B1 HR.out).mono ?_; rintro e w1 ⟨rfl, hch⟩
    go_wp2_with fail
    go_ret
    exact ⟨rfl, hch⟩
end Go.Proofs.YtcngfaggignmpaaGreatDoor

/-
  Those who wait for something: one comes, one goes, who they are.
-/
namespace Go.Proofs.YtcngfaggignmpaaGreatDoor
open Go.RowKit

set_option maxHeartbeats 2000000 in
theorem wqRemove_any (w : World) (b c i r : Nat) (h : WQ b c (some (i, r)) w) :
    Calls Tryz.prog 124 #[.pointer (some ⟨b + 1, 0, none⟩), .int .i64 i] w fun e w' => e = .returned (.int .i64 0) ∧ WQ b c none w' ∧ Ch (fun k => k = b) w w' := by
  have H := Lib.hid h
  clear h
  go_enter Tryz.func124, Tryz.ntmps124
  go_wp2_with fail
  refine (wqThere_any _ b c _ H.out).mono ?_; rintro e w1 ⟨rfl, rfl⟩
  go_wp2_with fail
  refine (is_any _ i).mono ?_; rintro e w1 ⟨rfl, rfl⟩
  go_wp2_with fail
  refine (ahead_some _ b c i r w.heap.size (H.out.no (Ch.alloc w _)) (Row.new w 3 _)).mono ?_; rintro e w1 ⟨rfl, hch⟩
  have hc : Ch No w w1 := (Ch.alloc w _).trans hch
  have h1 := H.out.no hc
  obtain ⟨lb, a1, a2, a3⟩ := h1.2.2.2
  have c2 := a2.cell (j := 2) rfl
  have f2 := a2.free 2
  have c3 := a3.cell (j := 2) rfl
  have A2 := Lib.hid a2
  have H1 := Lib.hid h1
  have HC := Lib.hid hc
  clear h1 a1 a2 a3 hc hch
  go_wp2_with fail
  go_ret
  refine ⟨rfl, ⟨H1.out.1.other (by omega) _ _, H1.out.2.1, by simp [World.setCell]; exact H1.out.2.2.1, A2.out.set 2 _⟩, (HC.out.mono (T := fun k => k = b) (fun _ _ s => s.elim)).trans (Ch.setCell w1 b _ _ rfl)⟩

set_option maxHeartbeats 2000000 in
theorem wqPut_any (w : World) (b c i r : Nat) (hr : r < 32) (h : WQ b c none w) :
    Calls Tryz.prog 155 #[.pointer (some ⟨b + 1, 0, none⟩), .int .i64 i, .int .i64 r] w fun e w' => e = .returned (.int .i64 0) ∧ WQ b c (some (i, r)) w' ∧ Ch (fun k => k = b) w w' := by
  have hmf := mkFn
  have H := Lib.hid h
  have d1 : decide ((i : Int) < 0) = false := by rw [decide_eq_false_iff_not]; omega
  have d2 : decide ((r : Int) < 0) = false := by rw [decide_eq_false_iff_not]; omega
  have d3 : decide ((31 : Int) < (r : Int)) = false := by rw [decide_eq_false_iff_not]; omega
  clear h
  go_enter Tryz.func155, Tryz.ntmps155
  go_wp2_with fail
  refine (wqThere_any _ b c _ (H.out.no (Ch.alloc w _))).mono ?_; rintro e w1 ⟨rfl, rfl⟩
  go_wp2_with fail
  refine (is_any _ i).mono ?_; rintro e w1 ⟨rfl, rfl⟩
  go_wp2_with fail
  refine (ahead_none _ b c _ (H.out.no ((Ch.alloc w _).trans (Ch.alloc _ _)))).mono ?_; rintro e w1 ⟨rfl, rfl⟩
  have h1 := H.out.no ((Ch.alloc w (.cells #[.int .i64 r] 3)).trans (Ch.alloc _ (.cells #[.int .i64 i] 3)))
  have c2 := h1.2.2.2.cell (j := 2) rfl
  have H1 := Lib.hid h1
  clear h1
  go_wp2_with fail
  refine (ahead_none _ b c _ H1.out).mono ?_; rintro e w1 ⟨rfl, rfl⟩
  have f2 := H1.out.2.2.2.free 2
  have hc : Ch No w ((w.alloc (.cells #[.int .i64 r] 3)).alloc (.cells #[.int .i64 i] 3)) := (Ch.alloc w _).trans (Ch.alloc _ _)
  have hr0 := ((Row.new w 3 #[.int .i64 r]).alloc (.cells #[.int .i64 i] 3))
  have c0 := hr0.cell (j := 0) rfl
  obtain ⟨W1, hW1⟩ : ∃ W1, W1 = ((w.alloc (.cells #[.int .i64 r] 3)).alloc (.cells #[.int .i64 i] 3)) := ⟨_, rfl⟩
  rw [← hW1] at H1 c2 f2 hc hr0 c0 ⊢
  have hlt : b < W1.heap.size := H1.out.2.2.2.lt
  have HC := Lib.hid hc
  clear hW1 hr0 hc
  go_wp2_with fail
  go_region
  all_goals
    go_wp2_with fail
    go_ret
    have q1 : Ch (fun k => k = b) W1 (W1.setCell ⟨b, 2, none⟩ (.pointer (some ⟨W1.heap.size, 0, none⟩))) := Ch.setCell W1 b _ _ rfl
    have hs : (W1.setCell ⟨b, 2, none⟩ (.pointer (some ⟨W1.heap.size, 0, none⟩))).heap.size = W1.heap.size := by simp [World.setCell]
    have n1 := Row.new (W1.setCell ⟨b, 2, none⟩ (.pointer (some ⟨W1.heap.size, 0, none⟩))) 182 #[.int .i64 i, .int .i64 r, .pointer none]
    rw [hs] at n1
    have q2 : Ch No (W1.setCell ⟨b, 2, none⟩ (.pointer (some ⟨W1.heap.size, 0, none⟩))) ((W1.setCell ⟨b, 2, none⟩ (.pointer (some ⟨W1.heap.size, 0, none⟩))).alloc (.cells #[.int .i64 i, .int .i64 r, .pointer none] 182)).drew := (Ch.alloc _ _).trans (Ch.drewN _ 1)
    have q3 := (HC.out.mono (T := fun k => k = b) (fun _ _ s => s.elim)).trans q1
    refine ⟨rfl, ⟨(H1.out.1.keeps q1 (by omega)).keeps q2 (fun x => x), H1.out.2.1, ?_, W1.heap.size, H1.out.2.2.1, (H1.out.2.2.2.set 2 (.pointer (some ⟨W1.heap.size, 0, none⟩))).keeps q2 (fun x => x), n1.drewN 1⟩, q3.trans' q2 (fun _ _ s => s.elim)⟩
    exact Nat.le_trans H1.out.2.2.1 (Nat.le_trans q1.size q2.size)

set_option maxHeartbeats 2000000 in
theorem wqList_none (w : World) (b c : Nat) (h : WQ b c none w) :
    Calls Tryz.prog 37 #[.pointer (some ⟨b + 1, 0, none⟩)] w fun e w' => e = .returned (.slice none 0 0) ∧ Ch No w w' := by
  have H := Lib.hid h
  have c1 := h.1.cell (j := 0) rfl
  have c2 := h.2.2.2.cell (j := 2) rfl
  clear h
  go_enter Tryz.func37, Tryz.ntmps37
  go_wp2_with fail
  refine (wqThere_any _ b c _ H.out).mono ?_; rintro e w1 ⟨rfl, rfl⟩
  go_wp2_with fail
  go_loopw [2, 3] (fun v p wr => v = .slice none 0 0 ∧ p = .pointer none ∧ wr = w) (fun _ _ _ => 0)
  case atStart => exact ⟨rfl, rfl, rfl⟩
  case round =>
    obtain ⟨rfl, rfl, rfl⟩ := hrel
    go_wp2
    go_ret
    exact ⟨by first | rfl | simp, Ch.refl _ _⟩

set_option maxHeartbeats 2000000 in
theorem wqList_some (w : World) (b c i r : Nat) (h : WQ b c (some (i, r)) w) :
    Calls Tryz.prog 37 #[.pointer (some ⟨b + 1, 0, none⟩)] w fun e w' => (∃ g, e = .returned (.slice (some ⟨g, 0, none⟩) 1 1) ∧ w.heap.size ≤ g ∧ ∃ cs, Row g 3 cs w' ∧ cs[0]? = some (.int .i64 i)) ∧ Ch No w w' := by
  obtain ⟨i0, hi, hz0, hz1, hz2⟩ := info_parts info3
  have H := Lib.hid h
  obtain ⟨lb, a1, a2, a3⟩ := h.2.2.2
  have c1 := h.1.cell (j := 0) rfl
  have c2 := a2.cell (j := 2) rfl
  have c3 := a3.cell (j := 0) rfl
  have A3 := Lib.hid a3
  clear h a1 a2 a3
  go_enter Tryz.func37, Tryz.ntmps37
  go_wp2_with fail
  refine (wqThere_any _ b c _ H.out).mono ?_; rintro e w1 ⟨rfl, rfl⟩
  go_wp2_with fail
  go_loopw [2, 3] (fun v p wr => (v = .slice none 0 0 ∧ p = .pointer (some ⟨lb, 0, none⟩) ∧ wr = w) ∨ ((∃ g cap cs, v = .slice (some ⟨g, 0, none⟩) 1 cap ∧ 1 ≤ cap ∧ w.heap.size ≤ g ∧ Row g 3 cs wr ∧ cs[0]? = some (.int .i64 i)) ∧ p = .pointer none ∧ Ch No w wr)) (fun _ p _ => match p with | .pointer none => 0 | _ => 1)
  case atStart => exact .inl ⟨rfl, rfl, rfl⟩
  case round =>
    rcases hrel with ⟨rfl, rfl, rfl⟩ | ⟨⟨g, cap, cs, rfl, hcap, hg, hrow, h0⟩, rfl, hch⟩
    · have c4 := A3.out.cell (j := 2) rfl
      go_wp2_with (first
        | (at_builtin; refine wpList_append_own _ rfl _ _ 120 rfl wr.heap.size 3 i0 (.int .i64 0) 1 8 Tryz.underlying120 hi hz0 hz1 hz2 rfl (by decide) _ _ _ rfl (World.ownsRow.alloc (w := wr) (World.ownsRow_nil _ _ _ _) _) ⟨wr.heap.size, 0, none⟩ 1 1 [.int .i64 i] rfl rfl ?c1 ?c2 ?c3 ?c4 ?c5 ?_))
      case c1 =>
        intro j u hj
        match j, hj with
        | 0, hj => simp at hj; subst hj; exact (Row.new wr 3 #[.int .i64 i]).cell (j := 0) rfl
      case c2 => intro u hu; simp at hu; subst hu; rfl
      case c3 => unfold maxLen; omega
      case c4 => simp
      case c5 => simp
      · intro v' w2 hown' hgrow _
        have hg2 : Ch No wr w2 := (Ch.alloc wr (.cells #[.int .i64 i] 3)).grownOwn hgrow (fun g hg => by cases hg)
        have hrel : ∃ g cap cs, v' = .slice (some ⟨g, 0, none⟩) 1 cap ∧ 1 ≤ cap ∧ wr.heap.size ≤ g ∧ Row g 3 cs w2 ∧ cs[0]? = some (.int .i64 i) := by
          rcases hown'.2 with ⟨e, h0⟩ | ⟨g, cap, cur, e, hb, hg, hn, hm, hs, ht⟩
          · cases h0
          · refine ⟨g, cap, cur, e, hn, hb, hg, ?_⟩
            have h1 : (cur.toList.take (1 * 1))[0]? = some (.int .i64 i) := by rw [ht]; rfl
            rw [List.getElem?_take_of_lt (by omega)] at h1
            simpa using h1
        have HREL := Lib.hid hrel
        have c5 := (A3.out.keeps hg2 (fun x => x)).cell (j := 2) rfl
        clear hrel hown' hgrow c4
        go_wp2
        go_roundw
        case rel => exact .inr ⟨HREL.out, rfl, hg2⟩
        case measure => simp
    · have HROW := Lib.hid hrow
      have H0 := Lib.hid h0
      have hcap2 : ¬ ((cap : Int) < 1) := by omega
      clear hrow h0
      go_wp2
      go_ret
      exact ⟨⟨g, by first | rfl | simp, hg, cs, HROW.out, H0.out⟩, hch⟩
end Go.Proofs.YtcngfaggignmpaaGreatDoor
