/-
  The top, part 22: StepAsk2, Steps.
-/
import Derived.Test.YtcngfaggignmpaaGreatDoorS21

/-
  The core of a task: a step that asks something of the kernel.
-/
namespace Go.Proofs.YtcngfaggignmpaaGreatDoor
open Go.RowKit

section
variable {g : CG} {sv : Value} {m : CM} {w : World}
theorem okP21 (wx : World) {k : Nat} {a : Nat} (h : CO g sv m wx) (hp : m.pc = (k : Int)) (hx : g.code[k]? = some ⟨21, a, 0, 0⟩) :
    wx.cell? ⟨g.b, 8, none⟩ = some (.int .i64 k) ∧ wx.cell? ⟨g.b, 10, none⟩ = some (.slice (some ⟨g.cb, 0, none⟩) g.code.length g.cap) ∧
    wx.cell? ⟨g.cb, k * 4, none⟩ = some (.int .u8 21) ∧ wx.cell? ⟨g.cb, k * 4 + 1, none⟩ = some (.int .u8 a) ∧ wx.cell? ⟨g.cb, k * 4 + 2, none⟩ = some (.int .u8 0) ∧ wx.cell? ⟨g.cb, k * 4 + 3, none⟩ = some (.int .u8 0) := okP h hp hx
theorem okA {wx : World} {bx a : Nat} (h : CO g sv m wx) (r : Row bx 49 #[.int .u8 21, .int .u8 a, .int .u8 0, .int .u8 0] wx) :
    wx.cell? ⟨bx, 1, none⟩ = some (.int .u8 a) ∧ wx.cell? ⟨g.b, 0, none⟩ = some (.int .u32 (m.r 0)) ∧ wx.cell? ⟨g.b, 1, none⟩ = some (.int .u32 (m.r 1)) ∧ wx.cell? ⟨g.b, 2, none⟩ = some (.int .u32 (m.r 2)) ∧ wx.cell? ⟨g.b, 3, none⟩ = some (.int .u32 (m.r 3)) :=
  ⟨r.cell (j := 1) rfl, h.cReg (by decide), h.cReg (by decide), h.cReg (by decide), h.cReg (by decide)⟩
theorem okA2 {wx : World} {bx q a : Nat} {z : Array Value} {v0 v1 v2 v3 v4 : Value} (h : CO g sv m wx) (r : Row bx 49 #[.int .u8 21, .int .u8 a, .int .u8 0, .int .u8 0] wx) (t : Row q 112 z wx) :
    let W := (((((wx.setCell ⟨q, 0, none⟩ v0).setCell ⟨q, 1, none⟩ v1).setCell ⟨q, 2, none⟩ v2).setCell ⟨q, 3, none⟩ v3).setCell ⟨q, 4, none⟩ v4)
    W.cell? ⟨bx, 1, none⟩ = some (.int .u8 a) ∧ W.cell? ⟨g.b, 0, none⟩ = some (.int .u32 (m.r 0)) ∧ W.cell? ⟨g.b, 1, none⟩ = some (.int .u32 (m.r 1)) ∧ W.cell? ⟨g.b, 2, none⟩ = some (.int .u32 (m.r 2)) ∧ W.cell? ⟨g.b, 3, none⟩ = some (.int .u32 (m.r 3)) := by
  intro W
  have n2 := h.apart3 t (by decide) (by decide) (by decide)
  have nb : bx ≠ q := fun e => by rw [e] at r; exact absurd (r.ty t) (by decide)
  have c1 : Ch (fun j => j = q) wx W := ((((Ch.set1 _ _ 0 _).trans (Ch.set1 _ _ 1 _)).trans (Ch.set1 _ _ 2 _)).trans (Ch.set1 _ _ 3 _)).trans (Ch.set1 _ _ 4 _)
  exact okA (h.keeps c1 (fun e => n2.1 e.symm) (fun e => n2.2.1 e.symm) (fun k hk e => n2.2.2 (e ▸ hk))) (r.keeps c1 nb)
set_option linter.unusedSimpArgs false in
set_option maxRecDepth 100000 in
set_option maxHeartbeats 4000000 in
theorem cask_any (k a : Nat) (hp : m.pc = (k : Int)) (hk : k < 1000) (hx : g.code[k]? = some ⟨21, a, 0, 0⟩) (hask : m.asked = false) (h : CO g sv m w) :
    Calls Tryz.prog 32 #[.pointer (some ⟨g.b, 0, none⟩)] w fun e w' => e = .returned (.tuple #[.bool true, askV a (m.r 0) (m.r 1) (m.r 2) (wrap32 (m.r 3)), .int .i64 0]) ∧ CO g sv { m with pc := (k : Int) + 1, asked := true } w' ∧ Ch (fun k => k = g.b) w w' := by
  have hlt : k < g.code.length := (List.getElem?_eq_some_iff.1 hx).1
  have hlt1 : 0 ≤ (k : Int) ∧ (k : Int) < (g.code.length : Int) := by omega
  obtain ⟨W3, hW3⟩ : ∃ W3, W3 = ((w.alloc (.cells #[.bool false] 4)).alloc (.cells #[.int .u8 0, .int .u32 0, .int .u32 0, .int .u32 0, .int .i64 0] 112)).alloc (.cells #[.int .i64 0] 31) := ⟨_, rfl⟩
  have hc3 : Ch No w W3 := by rw [hW3]; exact ((Ch.alloc w _).trans (Ch.alloc _ _)).trans (Ch.alloc _ _)
  have k3 := h.no hc3
  have c12 := k3.cAsked
  rw [hask] at c12
  obtain ⟨c8, c10, c0, c1, c2, c3⟩ := okP21 W3 k3 hp hx
  have K3 := Lib.hid k3
  have HC3 := Lib.hid hc3
  have HW3 := Lib.hid hW3
  have hd0 : decide ((k : Int) < 0) = false := by rw [decide_eq_false_iff_not]; omega
  have hd1 : decide ((g.code.length : Int) ≤ (k : Int)) = false := by rw [decide_eq_false_iff_not]; omega
  clear h hc3 k3 hW3
  go_enter_defers Tryz.func32, Tryz.ntmps32
  go_wp2_with fail
  rw [← HW3.out]
  refine (cThere_any K3.out).mono ?_; rintro e w1 ⟨rfl, rfl⟩
  go_wp2_with fail
  go_quiet (fail)
  go_wp2_with fail
  obtain ⟨W4, hW4⟩ : ∃ W4, W4 = W3.drewN nq := ⟨_, rfl⟩
  have K4 : Hid (CO g sv m W4) := Lib.hid (by rw [hW4]; exact K3.out.drewN nq)
  have HC4 : Hid (Ch No W3 W4) := Lib.hid (by rw [hW4]; exact Ch.drewN _ _)
  rw [← hW4]
  clear hW4 c8 c10 c0 c1 c2 c3 c12
  obtain ⟨c8, c10, c0, c1, c2, c3⟩ := okP21 W4 K4.out hp hx
  have hS1 := okP21 W4.drew (K4.out.drewN 1) hp hx
  go_region_held3 (fun wx => wx.cell? ⟨g.b, 8, none⟩ = some (.int .i64 k) ∧ wx.cell? ⟨g.b, 10, none⟩ = some (.slice (some ⟨g.cb, 0, none⟩) g.code.length g.cap) ∧
    wx.cell? ⟨g.cb, k * 4, none⟩ = some (.int .u8 21) ∧ wx.cell? ⟨g.cb, k * 4 + 1, none⟩ = some (.int .u8 a) ∧ wx.cell? ⟨g.cb, k * 4 + 2, none⟩ = some (.int .u8 0) ∧ wx.cell? ⟨g.cb, k * 4 + 3, none⟩ = some (.int .u8 0)) (first | exact hS1 | exact okP21 _ (K4.out.no ((Ch.alloc W4 _).trans (Ch.drewN _ 1))) hp hx | go_keep) (fail)
  obtain ⟨bx, hbx⟩ : ∃ bx, bx = W4.heap.size := ⟨_, rfl⟩
  obtain ⟨W5, hW5⟩ : ∃ W5, W5 = (W4.alloc (.cells #[.int .u8 21, .int .u8 a, .int .u8 0, .int .u8 0] 49)).drew := ⟨_, rfl⟩
  have R5 : Hid (Row bx 49 #[.int .u8 21, .int .u8 a, .int .u8 0, .int .u8 0] W5) := Lib.hid (by rw [hW5, hbx]; exact (Row.new W4 49 _).drewN 1)
  have hc5 : Ch No W4 W5 := by rw [hW5]; exact (Ch.alloc W4 _).trans (Ch.drewN _ 1)
  have K5 : Hid (CO g sv m W5) := Lib.hid (K4.out.no hc5)
  have HC5 : Hid (Ch No W3 W5) := Lib.hid (HC4.out.trans hc5)
  rw [← hW5, ← hbx]
  clear hW5 hc5 hS1 c8 c10 c0 c1 c2 c3
  have b0 := R5.out.cell (j := 0) rfl
  have HBX := Lib.hid hbx
  clear hbx
  have hR := R31 HW3.out
  have r1 := Row.keeps hR.1 HC5.out (fun x => x)
  have r2 := Row.keeps hR.2.1 HC5.out (fun x => x)
  have r3 := Row.keeps hR.2.2 HC5.out (fun x => x)
  have q0 := r1.cell (j := 0) rfl
  have q1 := r2.cell (j := 0) rfl
  have q2 := r2.cell (j := 1) rfl
  have q3 := r2.cell (j := 2) rfl
  have q4 := r2.cell (j := 3) rfl
  have q5 := r2.cell (j := 4) rfl
  have q6 := r3.cell (j := 0) rfl
  have z0 := r1.free 0
  have z1 := r2.free 0
  have z2 := r2.free 1
  have z3 := r2.free 2
  have z4 := r2.free 3
  have z5 := r2.free 4
  have z6 := r3.free 0
  have y12 := K5.out.cAsked
  rw [hask] at y12
  have u12 := K5.out.free 12
  have y8 := K5.out.cPc
  rw [hp] at y8
  have u8' := K5.out.free 8
  have hk1 : 0 ≤ (k : Int) ∧ (k : Int) < 1000 := by omega
  obtain ⟨s0, hs0⟩ : ∃ s0, s0 = w.heap.size := ⟨_, rfl⟩
  rw [← hs0] at q0 q1 q2 q3 q4 q5 q6 z0 z1 z2 z3 z4 z5 z6 r1 r2 r3 ⊢
  have R1 := Lib.hid r1
  have R2 := Lib.hid r2
  have R3 := Lib.hid r3
  clear r1 r2 r3 hR
  have HS0 := Lib.hid hs0
  clear hs0
  go_wp2_with fail
  refine wp_region_noPanic ?_
  refine Lasts.begin (S := (fun wx => wx.cell? ⟨bx, 1, none⟩ = some (.int .u8 a) ∧ wx.cell? ⟨g.b, 0, none⟩ = some (.int .u32 (m.r 0)) ∧ wx.cell? ⟨g.b, 1, none⟩ = some (.int .u32 (m.r 1)) ∧ wx.cell? ⟨g.b, 2, none⟩ = some (.int .u32 (m.r 2)) ∧ wx.cell? ⟨g.b, 3, none⟩ = some (.int .u32 (m.r 3)))) [24] (by kernel_rfl) (okA (K5.out.drewN 1) (R5.out.drewN 1)) (fun hHeld => ?_)
  refine Lasts.take (i := 0) (v := ?_) rfl (by kernel_rfl) (by kernel_rfl) (by kernel_rfl) (by kernel_rfl) (fun _ _ _ h => h) (Or.inl ⟨by rfl, by intro wx hSw; (try dsimp only at hSw); go_simp; (try with_reducible rfl)⟩) (by assumption) ?_
  (try simp only [List.getElem_toArray, List.getElem_cons_succ, List.getElem_cons_zero, Act.put, List.setIfInBounds_toArray, List.set_cons_succ, List.set_cons_zero])
  refine Lasts.take (i := 1) (v := ?_) rfl (by kernel_rfl) (by kernel_rfl) (by kernel_rfl) (by kernel_rfl) (fun _ _ _ h => h) (Or.inl ⟨by rfl, by intro wx hSw; (try dsimp only at hSw); go_simp; (try with_reducible rfl)⟩) (by assumption) ?_
  (try simp only [List.getElem_toArray, List.getElem_cons_succ, List.getElem_cons_zero, Act.put, List.setIfInBounds_toArray, List.set_cons_succ, List.set_cons_zero])
  refine Lasts.take (i := 2) (v := ?_) rfl (by kernel_rfl) (by kernel_rfl) (by kernel_rfl) (by kernel_rfl) (fun _ _ _ h => h) (Or.inl ⟨by rfl, by intro wx hSw; (try dsimp only at hSw); go_simp; (try with_reducible rfl)⟩) (by assumption) ?_
  (try simp only [List.getElem_toArray, List.getElem_cons_succ, List.getElem_cons_zero, Act.put, List.setIfInBounds_toArray, List.set_cons_succ, List.set_cons_zero])
  refine Lasts.take (i := 3) (v := ?_) rfl (by kernel_rfl) (by kernel_rfl) (by kernel_rfl) (by kernel_rfl) (fun _ _ _ h => h) (Or.inl ⟨by rfl, by intro wx hSw; (try dsimp only at hSw); go_simp; (try with_reducible rfl)⟩) (by assumption) ?_
  (try simp only [List.getElem_toArray, List.getElem_cons_succ, List.getElem_cons_zero, Act.put, List.setIfInBounds_toArray, List.set_cons_succ, List.set_cons_zero])
  refine Lasts.take (i := 4) (v := ?_) rfl (by kernel_rfl) (by kernel_rfl) (by kernel_rfl) (by kernel_rfl) (fun _ _ _ h => h) (Or.inl ⟨by rfl, by intro wx hSw; (try dsimp only at hSw); go_simp; (try with_reducible rfl)⟩) (by assumption) ?_
  (try simp only [List.getElem_toArray, List.getElem_cons_succ, List.getElem_cons_zero, Act.put, List.setIfInBounds_toArray, List.set_cons_succ, List.set_cons_zero])
  refine Lasts.take (i := 5) (v := ?_) rfl (by kernel_rfl) (by kernel_rfl) (by kernel_rfl) (by kernel_rfl) (fun _ _ _ h => h) (Or.inl ⟨by rfl, by intro wx hSw; (try dsimp only at hSw); go_simp; (try with_reducible rfl)⟩) (by assumption) ?_
  (try simp only [List.getElem_toArray, List.getElem_cons_succ, List.getElem_cons_zero, Act.put, List.setIfInBounds_toArray, List.set_cons_succ, List.set_cons_zero])
  refine Lasts.take (i := 6) (v := ?_) rfl (by kernel_rfl) (by kernel_rfl) (by kernel_rfl) (by kernel_rfl) (fun _ _ _ h => h) (Or.inl ⟨by rfl, by intro wx hSw; (try dsimp only at hSw); go_simp; (try with_reducible rfl)⟩) (by assumption) ?_
  (try simp only [List.getElem_toArray, List.getElem_cons_succ, List.getElem_cons_zero, Act.put, List.setIfInBounds_toArray, List.set_cons_succ, List.set_cons_zero])
  refine Lasts.take (i := 7) (v := ?_) rfl (by kernel_rfl) (by kernel_rfl) (by kernel_rfl) (by kernel_rfl) (fun _ _ _ h => h) (Or.inl ⟨by rfl, by intro wx hSw; (try dsimp only at hSw); go_simp; (try with_reducible rfl)⟩) (by assumption) ?_
  (try simp only [List.getElem_toArray, List.getElem_cons_succ, List.getElem_cons_zero, Act.put, List.setIfInBounds_toArray, List.set_cons_succ, List.set_cons_zero])
  refine Lasts.take (i := 8) (v := ?_) rfl (by kernel_rfl) (by kernel_rfl) (by kernel_rfl) (by kernel_rfl) (fun _ _ _ h => h) (Or.inl ⟨by rfl, by intro wx hSw; (try dsimp only at hSw); go_simp; (try with_reducible rfl)⟩) (by assumption) ?_
  (try simp only [List.getElem_toArray, List.getElem_cons_succ, List.getElem_cons_zero, Act.put, List.setIfInBounds_toArray, List.set_cons_succ, List.set_cons_zero])
  refine Lasts.take (i := 9) (v := ?_) rfl (by kernel_rfl) (by kernel_rfl) (by kernel_rfl) (by kernel_rfl) (fun _ _ _ h => h) (Or.inl ⟨by rfl, by intro wx hSw; (try dsimp only at hSw); go_simp; (try with_reducible rfl)⟩) (by assumption) ?_
  (try simp only [List.getElem_toArray, List.getElem_cons_succ, List.getElem_cons_zero, Act.put, List.setIfInBounds_toArray, List.set_cons_succ, List.set_cons_zero])
  refine Lasts.take (i := 10) (v := ?_) rfl (by kernel_rfl) (by kernel_rfl) (by kernel_rfl) (by kernel_rfl) (fun _ _ _ h => h) (Or.inl ⟨by rfl, by intro wx hSw; (try dsimp only at hSw); go_simp; (try with_reducible rfl)⟩) (by assumption) ?_
  (try simp only [List.getElem_toArray, List.getElem_cons_succ, List.getElem_cons_zero, Act.put, List.setIfInBounds_toArray, List.set_cons_succ, List.set_cons_zero])
  refine Lasts.take (i := 11) (v := ?_) rfl (by kernel_rfl) (by kernel_rfl) (by kernel_rfl) (by kernel_rfl) (fun _ _ _ h => h) (Or.inl ⟨by rfl, by intro wx hSw; (try dsimp only at hSw); go_simp; (try with_reducible rfl)⟩) (by assumption) ?_
  (try simp only [List.getElem_toArray, List.getElem_cons_succ, List.getElem_cons_zero, Act.put, List.setIfInBounds_toArray, List.set_cons_succ, List.set_cons_zero])
  refine Lasts.take (i := 12) (v := ?_) rfl (by kernel_rfl) (by kernel_rfl) (by kernel_rfl) (by kernel_rfl) (fun _ _ _ h => h) (Or.inl ⟨by rfl, by intro wx hSw; (try dsimp only at hSw); go_simp; (try with_reducible rfl)⟩) (by assumption) ?_
  (try simp only [List.getElem_toArray, List.getElem_cons_succ, List.getElem_cons_zero, Act.put, List.setIfInBounds_toArray, List.set_cons_succ, List.set_cons_zero])
  refine Lasts.take (i := 13) (v := ?_) rfl (by kernel_rfl) (by kernel_rfl) (by kernel_rfl) (by kernel_rfl) (fun _ _ _ h => h) (Or.inl ⟨by rfl, by intro wx hSw; (try dsimp only at hSw); go_simp; (try with_reducible rfl)⟩) (by assumption) ?_
  (try simp only [List.getElem_toArray, List.getElem_cons_succ, List.getElem_cons_zero, Act.put, List.setIfInBounds_toArray, List.set_cons_succ, List.set_cons_zero])
  refine Lasts.take (i := 14) (v := ?_) rfl (by kernel_rfl) (by kernel_rfl) (by kernel_rfl) (by kernel_rfl) (fun _ _ _ h => h) (Or.inl ⟨by rfl, by intro wx hSw; (try dsimp only at hSw); go_simp; (try with_reducible rfl)⟩) (by assumption) ?_
  (try simp only [List.getElem_toArray, List.getElem_cons_succ, List.getElem_cons_zero, Act.put, List.setIfInBounds_toArray, List.set_cons_succ, List.set_cons_zero])
  refine Lasts.take (i := 15) (v := ?_) rfl (by kernel_rfl) (by kernel_rfl) (by kernel_rfl) (by kernel_rfl) (fun _ _ _ h => h) (Or.inl ⟨by rfl, by intro wx hSw; (try dsimp only at hSw); go_simp; (try with_reducible rfl)⟩) (by assumption) ?_
  (try simp only [List.getElem_toArray, List.getElem_cons_succ, List.getElem_cons_zero, Act.put, List.setIfInBounds_toArray, List.set_cons_succ, List.set_cons_zero])
  refine Lasts.take (i := 16) (v := ?_) rfl (by kernel_rfl) (by kernel_rfl) (by kernel_rfl) (by kernel_rfl) (fun _ _ _ h => h) (Or.inl ⟨by rfl, by intro wx hSw; (try dsimp only at hSw); go_simp; (try with_reducible rfl)⟩) (by assumption) ?_
  (try simp only [List.getElem_toArray, List.getElem_cons_succ, List.getElem_cons_zero, Act.put, List.setIfInBounds_toArray, List.set_cons_succ, List.set_cons_zero])
  refine Lasts.take (i := 17) (v := ?_) rfl (by kernel_rfl) (by kernel_rfl) (by kernel_rfl) (by kernel_rfl) (fun _ _ _ h => h) (Or.inl ⟨by rfl, by intro wx hSw; (try dsimp only at hSw); go_simp; (try with_reducible rfl)⟩) (by assumption) ?_
  (try simp only [List.getElem_toArray, List.getElem_cons_succ, List.getElem_cons_zero, Act.put, List.setIfInBounds_toArray, List.set_cons_succ, List.set_cons_zero])
  refine Lasts.take (i := 18) (v := ?_) rfl (by kernel_rfl) (by kernel_rfl) (by kernel_rfl) (by kernel_rfl) (fun _ _ _ h => h) (Or.inl ⟨by rfl, by intro wx hSw; (try dsimp only at hSw); go_simp; (try with_reducible rfl)⟩) (by assumption) ?_
  (try simp only [List.getElem_toArray, List.getElem_cons_succ, List.getElem_cons_zero, Act.put, List.setIfInBounds_toArray, List.set_cons_succ, List.set_cons_zero])
  refine Lasts.take (i := 19) (v := ?_) rfl (by kernel_rfl) (by kernel_rfl) (by kernel_rfl) (by kernel_rfl) (fun _ _ _ h => h) (Or.inl ⟨by rfl, by intro wx hSw; (try dsimp only at hSw); go_simp; (try with_reducible rfl)⟩) (by assumption) ?_
  (try simp only [List.getElem_toArray, List.getElem_cons_succ, List.getElem_cons_zero, Act.put, List.setIfInBounds_toArray, List.set_cons_succ, List.set_cons_zero])
  refine Lasts.take (i := 20) (v := ?_) rfl (by kernel_rfl) (by kernel_rfl) (by kernel_rfl) (by kernel_rfl) (fun _ _ _ h => h) (Or.inl ⟨by rfl, by intro wx hSw; (try dsimp only at hSw); go_simp; (try with_reducible rfl)⟩) (by assumption) ?_
  (try simp only [List.getElem_toArray, List.getElem_cons_succ, List.getElem_cons_zero, Act.put, List.setIfInBounds_toArray, List.set_cons_succ, List.set_cons_zero])
  refine Lasts.take (i := 21) (v := ?_) rfl (by kernel_rfl) (by kernel_rfl) (by kernel_rfl) (by kernel_rfl) (fun _ _ _ h => h) (Or.inl ⟨by rfl, by intro wx hSw; (try dsimp only at hSw); go_simp; (try with_reducible rfl)⟩) (by assumption) ?_
  (try simp only [List.getElem_toArray, List.getElem_cons_succ, List.getElem_cons_zero, Act.put, List.setIfInBounds_toArray, List.set_cons_succ, List.set_cons_zero])
  refine Lasts.one (i := 22) (by kernel_rfl) rfl (fun K hK => ?_)
  go_simp
  refine (signed_any _ _).mono ?_
  rintro e w1 ⟨rfl, rfl⟩
  refine hK.out _ _ ?_ (fun hHeld2 => ?_)
  · exact okA (K5.out.drewN 1) (R5.out.drewN 1)
  clear hK K
  (try simp only [List.getElem_toArray, List.getElem_cons_succ, List.getElem_cons_zero, Act.put, List.setIfInBounds_toArray, List.set_cons_succ, List.set_cons_zero])
  refine Lasts.take (i := 23) (v := ?_) rfl (by kernel_rfl) (by kernel_rfl) (by kernel_rfl) (by kernel_rfl) (fun _ _ _ h => h) (Or.inl ⟨by rfl, by intro wx hSw; (try dsimp only at hSw); go_simp; (try with_reducible rfl)⟩) (by assumption) ?_
  (try simp only [List.getElem_toArray, List.getElem_cons_succ, List.getElem_cons_zero, Act.put, List.setIfInBounds_toArray, List.set_cons_succ, List.set_cons_zero])
  refine Lasts.tail (i := 24) (by kernel_rfl) (by decide) rfl (fun K hK => ?_)
  go_simp
  refine hK.out _ _ ?_
  clear hK K
  (try simp only [List.getElem_toArray, List.getElem_cons_succ, List.getElem_cons_zero, Act.put, List.setIfInBounds_toArray, List.set_cons_succ, List.set_cons_zero])
  refine Lasts.done (by kernel_rfl) ?_ _
  refine NoPanic.normal ?_
  go_wp2_with fail
  have hae := asked_ends (v0 := .int .u8 a) (v1 := .int .u32 (m.r 0)) (v2 := .int .u32 (m.r 1)) (v3 := .int .u32 (m.r 2)) (v4 := .int .i64 (wrap32 (m.r 3))) (p := (k : Int) + 1) K5.out R2.out
  obtain ⟨W8, hW8⟩ : ∃ W8, W8 = (((((((W5.setCell ⟨s0 + 1, 0, none⟩ (.int .u8 a)).setCell ⟨s0 + 1, 1, none⟩ (.int .u32 (m.r 0))).setCell ⟨s0 + 1, 2, none⟩ (.int .u32 (m.r 1))).setCell ⟨s0 + 1, 3, none⟩ (.int .u32 (m.r 2))).setCell ⟨s0 + 1, 4, none⟩ (.int .i64 (wrap32 (m.r 3)))).setCell ⟨g.b, 12, none⟩ (.bool true)).setCell ⟨g.b, 8, none⟩ (.int .i64 ((k : Int) + 1))) := ⟨_, rfl⟩
  rw [← hW8] at hae ⊢
  obtain ⟨k8', c8', t2'⟩ := hae
  have k8 := k8'.drewN 1
  have c8 := c8'.trans (Ch.drewN _ 1)
  have t2 := t2'.drewN 1
  obtain ⟨W8', hW8'⟩ : ∃ W8', W8' = W8.drew := ⟨_, rfl⟩
  change CO g sv _ W8.drew at k8
  change Ch _ W5 W8.drew at c8
  change Row _ _ _ W8.drew at t2
  rw [← hW8'] at k8 c8 t2 ⊢
  clear k8' c8' t2' hW8 hW8' W8
  have n1 := K5.out.apart3 R1.out (by decide) (by decide) (by decide)
  have n3 := K5.out.apart3 R3.out (by decide) (by decide) (by decide)
  have t1 := R1.out.keeps c8 (fun e => e.elim (fun e => by omega) n1.1)
  have t3 := R3.out.keeps c8 (fun e => e.elim (fun e => by omega) n3.1)
  have K8 := Lib.hid k8
  have C8 := Lib.hid c8
  clear k8 c8 q0 q1 q2 q3 q4 q5 q6 z0 z1 z2 z3 z4 z5 z6 y12 y8 u12 u8' R1 R2 R3
  have q0 := t1.cell (j := 0) rfl
  have q1 := t2.cell (j := 0) rfl
  have q2 := t2.cell (j := 1) rfl
  have q3 := t2.cell (j := 2) rfl
  have q4 := t2.cell (j := 3) rfl
  have q5 := t2.cell (j := 4) rfl
  have q6 := t3.cell (j := 0) rfl
  have z0 := t1.free 0
  have z1 := t2.free 0
  have z2 := t2.free 1
  have z3 := t2.free 2
  have z4 := t2.free 3
  have z5 := t2.free 4
  have z6 := t3.free 0
  have R1 := Lib.hid t1
  have R2 := Lib.hid t2
  have R3 := Lib.hid t3
  clear t1 t2 t3
  go_wp2_with fail
  refine wp_region_noPanic ?_
  go_region
  refine NoPanic.normal ?_
  have t1 := R1.out.set 0 (.bool true)
  have t2 := R2.out.other (q := s0) (by omega) 0 (.bool true)
  have t3 := R3.out.other (q := s0) (by omega) 0 (.bool true)
  have n1 := K8.out.apart3 R1.out (by decide) (by decide) (by decide)
  have c9 : Ch (fun j => j = s0) W8' (W8'.setCell ⟨s0, 0, none⟩ (.bool true)) := Ch.set1 W8' s0 0 _
  have k9 := K8.out.keeps c9 (fun e => n1.1 e.symm) (fun e => n1.2.1 e.symm) (fun k hk e => n1.2.2 (e ▸ hk))
  rw [t2.same (j := 0) (v := .int .u8 a) rfl, t2.same (j := 1) (v := .int .u32 (m.r 0)) rfl, t2.same (j := 2) (v := .int .u32 (m.r 1)) rfl, t2.same (j := 3) (v := .int .u32 (m.r 2)) rfl, t2.same (j := 4) (v := .int .i64 (wrap32 (m.r 3))) rfl, t3.same (j := 0) (v := .int .i64 0) rfl]
  obtain ⟨W9, hW9⟩ : ∃ W9, W9 = W8'.setCell ⟨s0, 0, none⟩ (.bool true) := ⟨_, rfl⟩
  rw [← hW9] at t1 t2 t3 c9 k9 ⊢
  have q0 : W9.cell? ⟨s0, 0, none⟩ = some (.bool true) := t1.cell (j := 0) rfl
  have q1 : W9.cell? ⟨s0 + 1, 0, none⟩ = some (.int .u8 a) := t2.cell (j := 0) rfl
  have q2 : W9.cell? ⟨s0 + 1, 1, none⟩ = some (.int .u32 (m.r 0)) := t2.cell (j := 1) rfl
  have q3 : W9.cell? ⟨s0 + 1, 2, none⟩ = some (.int .u32 (m.r 1)) := t2.cell (j := 2) rfl
  have q4 : W9.cell? ⟨s0 + 1, 3, none⟩ = some (.int .u32 (m.r 2)) := t2.cell (j := 3) rfl
  have q5 : W9.cell? ⟨s0 + 1, 4, none⟩ = some (.int .i64 (wrap32 (m.r 3))) := t2.cell (j := 4) rfl
  have q6 : W9.cell? ⟨s0 + 1 + 1, 0, none⟩ = some (.int .i64 0) := t3.cell (j := 0) rfl
  have K9 := Lib.hid k9
  have C9 := Lib.hid c9
  clear t1 t2 t3 k9 c9 hW9 R1 R2 R3
  go_wp2_with fail
  refine leaves_cons (f := 62) (args := #[.pointer (some ⟨s0, 0, none⟩), .pointer (some ⟨s0 + 1, 0, none⟩), .pointer (some ⟨s0 + 1 + 1, 0, none⟩)]) (by simp) (by simp [go_sem]) ?_
  refine (caught_any _ _ _ _).mono ?_
  rintro e u' w9 ⟨rfl, rfl, rfl⟩
  have hch : Ch (fun j => j = g.b ∨ s0 ≤ j) w W9.drew :=
    ((((HC3.out.trans HC5.out).mono (fun _ _ s => s.elim)).trans (C8.out.mono (fun _ _ e => e.elim (fun e => .inr (by omega)) .inl))).trans (C9.out.mono (fun _ _ e => .inr (by omega)))).trans (Ch.drewN _ 1)
  have hs0 := HS0.out
  refine ⟨.tuple #[.bool true, askV a (m.r 0) (m.r 1) (m.r 2) (wrap32 (m.r 3)), .int .i64 0], ?_, rfl, K9.out.drewN 1, hch.mono (fun j hj e => e.elim id (fun e => by omega))⟩
  simp [results, Tryz.f32, Tryz.results32, go_sem, askV, q0, q1, q2, q3, q4, q5, q6]
end
end Go.Proofs.YtcngfaggignmpaaGreatDoor

/-
  The core of a task: its instructions, one by one.
-/
namespace Go.Proofs.YtcngfaggignmpaaGreatDoor
open Go.RowKit

section
variable {g : CG} {sv : Value} {m : CM} {w : World}
theorem look_set (W : World) (mp rb : Nat) (h : W.heap[mp]? = some (.map (ruleArr rb 21) 21)) : (Instr.lookup 203 (.map (some mp)) (.int .u8 1) false).run Tryz.prog W = .ok (.agg #[.func (.func 104) #[] #[]]) W :=
  run_look1 Tryz.underlying203 Tryz.underlying45 W mp _ 21 1 1 _ h rfl
theorem look_move (W : World) (mp rb : Nat) (h : W.heap[mp]? = some (.map (ruleArr rb 21) 21)) : (Instr.lookup 203 (.map (some mp)) (.int .u8 2) false).run Tryz.prog W = .ok (.agg #[.func (.func 105) #[] #[]]) W :=
  run_look1 Tryz.underlying203 Tryz.underlying45 W mp _ 21 2 2 _ h rfl
theorem look_add (W : World) (mp rb : Nat) (h : W.heap[mp]? = some (.map (ruleArr rb 21) 21)) : (Instr.lookup 203 (.map (some mp)) (.int .u8 3) false).run Tryz.prog W = .ok (.agg #[.func (.func 119) #[] #[]]) W :=
  run_look1 Tryz.underlying203 Tryz.underlying45 W mp _ 21 3 9 _ h rfl
theorem look_sub (W : World) (mp rb : Nat) (h : W.heap[mp]? = some (.map (ruleArr rb 21) 21)) : (Instr.lookup 203 (.map (some mp)) (.int .u8 4) false).run Tryz.prog W = .ok (.agg #[.func (.func 119) #[] #[]]) W :=
  run_look1 Tryz.underlying203 Tryz.underlying45 W mp _ 21 4 10 _ h rfl
theorem look_other (W : World) (mp rb : Nat) (h : W.heap[mp]? = some (.map (ruleArr rb 21) 21)) : (Instr.lookup 203 (.map (some mp)) (.int .u8 16) false).run Tryz.prog W = .ok (.agg #[.func (.func 121) #[] #[]]) W :=
  run_look1 Tryz.underlying203 Tryz.underlying45 W mp _ 21 16 18 _ h rfl
theorem look_go (W : World) (mp rb : Nat) (h : W.heap[mp]? = some (.map (ruleArr rb 21) 21)) : (Instr.lookup 203 (.map (some mp)) (.int .u8 19) false).run Tryz.prog W = .ok (.agg #[.func (.func 117) #[] #[]]) W :=
  run_look1 Tryz.underlying203 Tryz.underlying45 W mp _ 21 19 7 _ h rfl
theorem look_tell (W : World) (mp rb : Nat) (h : W.heap[mp]? = some (.map (ruleArr rb 21) 21)) : (Instr.lookup 203 (.map (some mp)) (.int .u8 20) false).run Tryz.prog W = .ok (.agg #[.func (.func 118) #[] #[]]) W :=
  run_look1 Tryz.underlying203 Tryz.underlying45 W mp _ 21 20 8 _ h rfl
theorem call_104 (args : Array Value) (W : World) : (callFunc 104 args).run Tryz.prog W = .ok (.enter 104 args) W := by kernel_rfl
theorem call_105 (args : Array Value) (W : World) : (callFunc 105 args).run Tryz.prog W = .ok (.enter 105 args) W := by kernel_rfl
theorem call_119 (args : Array Value) (W : World) : (callFunc 119 args).run Tryz.prog W = .ok (.enter 119 args) W := by kernel_rfl
theorem call_121 (args : Array Value) (W : World) : (callFunc 121 args).run Tryz.prog W = .ok (.enter 121 args) W := by kernel_rfl
theorem call_117 (args : Array Value) (W : World) : (callFunc 117 args).run Tryz.prog W = .ok (.enter 117 args) W := by kernel_rfl
theorem call_118 (args : Array Value) (W : World) : (callFunc 118 args).run Tryz.prog W = .ok (.enter 118 args) W := by kernel_rfl

/-- Ready for a step: its place, and that nothing is asked. -/
structure Goes (g : CG) (m : CM) (k : Nat) (x : IN) (w : World) : Prop where
  pc : m.pc = (k : Int)
  small : k < 900
  code : g.code[k]? = some x
  asked : m.asked = false
  lo : g.lo ≤ w.heap.size
/-- What a step that asks nothing leaves. -/
def Stepped (g : CG) (sv : Value) (Z : Value → Prop) (m : CM) (w : World) (e : Ending) (w' : World) : Prop :=
  ∃ sv', Z sv' ∧ e = .returned (.tuple #[.bool false, askV 0 0 0 0 0, .int .i64 0]) ∧ CO g sv' m w' ∧ Ch (fun k => k = g.b ∨ sv.ownBlock = some k) w w'

theorem at_b {sv : Value} {w w' : World} (c : Ch (fun k => k = g.b) w w') : Ch (fun k => k = g.b ∨ sv.ownBlock = some k) w w' := c.mono (fun _ _ e => .inl e)
theorem step_set {k a c : Nat} (h : CO g sv m w) (p : Goes g m k ⟨1, a, 0, c⟩ w) (ha : a < 8) (hc : c < 256) :
    Calls Tryz.prog 32 #[.pointer (some ⟨g.b, 0, none⟩)] w (Stepped g sv (fun s => s = sv) { m.setR a c with pc := (k : Int) + 1 } w) := by
  have := cstep_any (Z := fun s => s = sv) k ⟨1, a, 0, c⟩ 104 (m.setR a c) 0 p.pc (Nat.lt_trans p.small (by decide)) (by omega) p.pc p.code p.asked (show (1 : Nat) ≠ 21 by decide) (show (1 : Nat) ≠ 22 by decide) p.lo look_set call_104
    (fun W _ hW => (set_any a c ha hc hW).mono (fun e w' q => ⟨sv, rfl, q.1, q.2.1, at_b q.2.2⟩)) h
  rw [show (k : Int) + (1 + 0) = (k : Int) + 1 by omega] at this
  exact this
theorem step_move {k a b : Nat} (h : CO g sv m w) (p : Goes g m k ⟨2, a, b, 0⟩ w) (ha : a < 8) (hb : b < 8) :
    Calls Tryz.prog 32 #[.pointer (some ⟨g.b, 0, none⟩)] w (Stepped g sv (fun s => s = sv) { m.setR a (m.r b) with pc := (k : Int) + 1 } w) := by
  have := cstep_any (Z := fun s => s = sv) k ⟨2, a, b, 0⟩ 105 (m.setR a (m.r b)) 0 p.pc (Nat.lt_trans p.small (by decide)) (by omega) p.pc p.code p.asked (show (2 : Nat) ≠ 21 by decide) (show (2 : Nat) ≠ 22 by decide) p.lo look_move call_105
    (fun W _ hW => (move_any a b ha hb hW).mono (fun e w' q => ⟨sv, rfl, q.1, q.2.1, at_b q.2.2⟩)) h
  rw [show (k : Int) + (1 + 0) = (k : Int) + 1 by omega] at this
  exact this
theorem step_add {k a c : Nat} (h : CO g sv m w) (p : Goes g m k ⟨3, a, a, c⟩ w) (ha : a < 8) (hc : c < 8) (hac : c ≠ a) :
    Calls Tryz.prog 32 #[.pointer (some ⟨g.b, 0, none⟩)] w (Stepped g sv (fun s => s = sv) { m.setR a ((m.r a + m.r c) % 4294967296) with pc := (k : Int) + 1 } w) := by
  have := cstep_any (Z := fun s => s = sv) k ⟨3, a, a, c⟩ 119 (m.setR a ((m.r a + m.r c) % 4294967296)) 0 p.pc (Nat.lt_trans p.small (by decide)) (by omega) p.pc p.code p.asked (show (3 : Nat) ≠ 21 by decide) (show (3 : Nat) ≠ 22 by decide) p.lo look_add call_119
    (fun W _ hW => (arith_any 3 a c _ ha hc hac (fun w => doAdd_any _ _ w) hW).mono (fun e w' q => ⟨sv, rfl, q.1, q.2.1, at_b q.2.2⟩)) h
  rw [show (k : Int) + (1 + 0) = (k : Int) + 1 by omega] at this
  exact this
theorem step_sub {k a c : Nat} (h : CO g sv m w) (p : Goes g m k ⟨4, a, a, c⟩ w) (ha : a < 8) (hc : c < 8) (hac : c ≠ a) :
    Calls Tryz.prog 32 #[.pointer (some ⟨g.b, 0, none⟩)] w (Stepped g sv (fun s => s = sv) { m.setR a ((m.r a - m.r c) % 4294967296) with pc := (k : Int) + 1 } w) := by
  have := cstep_any (Z := fun s => s = sv) k ⟨4, a, a, c⟩ 119 (m.setR a ((m.r a - m.r c) % 4294967296)) 0 p.pc (Nat.lt_trans p.small (by decide)) (by omega) p.pc p.code p.asked (show (4 : Nat) ≠ 21 by decide) (show (4 : Nat) ≠ 22 by decide) p.lo look_sub call_119
    (fun W _ hW => (arith_any 4 a c _ ha hc hac (fun w => doSub_any _ _ w) hW).mono (fun e w' q => ⟨sv, rfl, q.1, q.2.1, at_b q.2.2⟩)) h
  rw [show (k : Int) + (1 + 0) = (k : Int) + 1 by omega] at this
  exact this
theorem step_other {k a b : Nat} (h : CO g sv m w) (p : Goes g m k ⟨16, a, b, 249⟩ w) (ha : a < 8) (hb : b < 8) :
    Calls Tryz.prog 32 #[.pointer (some ⟨g.b, 0, none⟩)] w (Stepped g sv (fun s => s = sv) { m with pc := if m.r a = m.r b then (k : Int) + 1 else (k : Int) - 6 } w) := by
  have := cstep_any (Z := fun s => s = sv) k ⟨16, a, b, 249⟩ 121 m (if m.r a = m.r b then 0 else -7) p.pc (Nat.lt_trans p.small (by decide)) (by split <;> omega) p.pc p.code p.asked (show (16 : Nat) ≠ 21 by decide) (show (16 : Nat) ≠ 22 by decide) p.lo look_other call_121
    (fun W _ hW => (other_any a b ha hb hW).mono (fun e w' q => ⟨sv, rfl, q.1, q.2.1, q.2.2.mono (fun _ _ s => s.elim)⟩)) h
  rw [show (k : Int) + (1 + if m.r a = m.r b then 0 else -7) = if m.r a = m.r b then (k : Int) + 1 else (k : Int) - 6 by split <;> omega] at this
  exact this
theorem step_go {k b : Nat} (h : CO g sv m w) (p : Goes g m k ⟨19, 0, b, 0⟩ w) (hb : b < 256) :
    Calls Tryz.prog 32 #[.pointer (some ⟨g.b, 0, none⟩)] w (Stepped g sv (fun s => s = sv) { m with pc := (b : Int) } w) := by
  have hs := p.small
  have hp := p.pc
  have := cstep_any (Z := fun s => s = sv) k ⟨19, 0, b, 0⟩ 117 m ((b : Int) - m.pc - 1) p.pc (Nat.lt_trans p.small (by decide)) (by omega) p.pc p.code p.asked (show (19 : Nat) ≠ 21 by decide) (show (19 : Nat) ≠ 22 by decide) p.lo look_go call_117
    (fun W _ hW => (go_any b hb hW (by omega)).mono (fun e w' q => ⟨sv, rfl, q.1, q.2.1, q.2.2.mono (fun _ _ s => s.elim)⟩)) h
  rw [show (k : Int) + (1 + ((b : Int) - m.pc - 1)) = (b : Int) by omega] at this
  exact this
theorem step_tell {k a : Nat} (h : CO g sv m w) (p : Goes g m k ⟨20, a, 0, 0⟩ w) (ha : a < 8) (hl : m.says.length < 250) :
    Calls Tryz.prog 32 #[.pointer (some ⟨g.b, 0, none⟩)] w (Stepped g sv (fun _ => True) { m.tell (m.r a % 256) with pc := (k : Int) + 1 } w) := by
  have := cstep_any (Z := fun _ => True) k ⟨20, a, 0, 0⟩ 118 (m.tell (m.r a % 256)) 0 p.pc (Nat.lt_trans p.small (by decide)) (by omega) p.pc p.code p.asked (show (20 : Nat) ≠ 21 by decide) (show (20 : Nat) ≠ 22 by decide) p.lo look_tell call_118
    (fun W hlo hW => (tell_any a ha hl hlo hW).mono (fun e w' q => by obtain ⟨s', q1, q2, q3⟩ := q; exact ⟨s', trivial, q1, q2, q3⟩)) h
  rw [show (k : Int) + (1 + 0) = (k : Int) + 1 by omega] at this
  exact this
end
end Go.Proofs.YtcngfaggignmpaaGreatDoor
