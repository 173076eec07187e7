/-
  The top, part 21: StepAsk.
-/
import Derived.Test.YtcngfaggignmpaaGreatDoorS20

/-
  The core of a task: a step that asks.
-/
namespace Go.Proofs.YtcngfaggignmpaaGreatDoor
open Go.RowKit

section
variable {g : CG} {sv : Value} {m : CM} {w : World}
theorem CO.apart3 {bx : Nat} {t : TypeId} {cs : Array Value} (h : CO g sv m w) (r : Row bx t cs w) (h1 : t ≠ 191) (h2 : t ≠ 5) (h3 : t ≠ 49) : bx ≠ g.b ∧ bx ≠ g.cb ∧ sv.ownBlock ≠ some bx := by
  have h0 := h.apart r h1 h2
  refine ⟨fun e => h0 (.inl e), fun e => ?_, fun e => h0 (.inr e)⟩
  obtain ⟨c, rc, _⟩ := h.code
  rw [e] at r
  exact h3 (r.ty rc)
/-- What lies where, behind a question. -/
theorem asked_ends {W5 : World} {s0 : Nat} {a b c d e v0 v1 v2 v3 v4 : Value} {p : Int} (K5 : CO g sv m W5) (r2 : Row (s0 + 1) 112 #[a, b, c, d, e] W5) :
    CO g sv { m with pc := p, asked := true } (((((((W5.setCell ⟨s0 + 1, 0, none⟩ v0).setCell ⟨s0 + 1, 1, none⟩ v1).setCell ⟨s0 + 1, 2, none⟩ v2).setCell ⟨s0 + 1, 3, none⟩ v3).setCell ⟨s0 + 1, 4, none⟩ v4).setCell ⟨g.b, 12, none⟩ (.bool true)).setCell ⟨g.b, 8, none⟩ (.int .i64 p)) ∧
    Ch (fun j => j = s0 + 1 ∨ j = g.b) W5 (((((((W5.setCell ⟨s0 + 1, 0, none⟩ v0).setCell ⟨s0 + 1, 1, none⟩ v1).setCell ⟨s0 + 1, 2, none⟩ v2).setCell ⟨s0 + 1, 3, none⟩ v3).setCell ⟨s0 + 1, 4, none⟩ v4).setCell ⟨g.b, 12, none⟩ (.bool true)).setCell ⟨g.b, 8, none⟩ (.int .i64 p)) ∧
    Row (s0 + 1) 112 #[v0, v1, v2, v3, v4] (((((((W5.setCell ⟨s0 + 1, 0, none⟩ v0).setCell ⟨s0 + 1, 1, none⟩ v1).setCell ⟨s0 + 1, 2, none⟩ v2).setCell ⟨s0 + 1, 3, none⟩ v3).setCell ⟨s0 + 1, 4, none⟩ v4).setCell ⟨g.b, 12, none⟩ (.bool true)).setCell ⟨g.b, 8, none⟩ (.int .i64 p)) := by
  have n2 := K5.apart3 r2 (by decide) (by decide) (by decide)
  have q : Row (s0 + 1) 112 #[v0, v1, v2, v3, v4] (((((W5.setCell ⟨s0 + 1, 0, none⟩ v0).setCell ⟨s0 + 1, 1, none⟩ v1).setCell ⟨s0 + 1, 2, none⟩ v2).setCell ⟨s0 + 1, 3, none⟩ v3).setCell ⟨s0 + 1, 4, none⟩ v4) := ((((r2.set 0 v0).set 1 v1).set 2 v2).set 3 v3).set 4 v4
  have c1 : Ch (fun j => j = s0 + 1) W5 (((((W5.setCell ⟨s0 + 1, 0, none⟩ v0).setCell ⟨s0 + 1, 1, none⟩ v1).setCell ⟨s0 + 1, 2, none⟩ v2).setCell ⟨s0 + 1, 3, none⟩ v3).setCell ⟨s0 + 1, 4, none⟩ v4) :=
    ((((Ch.set1 _ _ 0 _).trans (Ch.set1 _ _ 1 _)).trans (Ch.set1 _ _ 2 _)).trans (Ch.set1 _ _ 3 _)).trans (Ch.set1 _ _ 4 _)
  have k6 := K5.keeps c1 (fun e => n2.1 e.symm) (fun e => n2.2.1 e.symm) (fun k hk e => n2.2.2 (e ▸ hk))
  have k7 := k6.setAsked true
  have k8 := k7.1.setPc p
  have c2 := k7.2.trans k8.2
  exact ⟨k8.1, (c1.mono (fun _ _ e => .inl e)).trans (c2.mono (fun _ _ e => .inr e)), q.keeps c2 n2.1⟩
theorem okP22 (wx : World) {k : Nat} (h : CO g sv m wx) (hp : m.pc = (k : Int)) (hx : g.code[k]? = some ⟨22, 0, 0, 0⟩) :
    wx.cell? ⟨g.b, 8, none⟩ = some (.int .i64 k) ∧ wx.cell? ⟨g.b, 10, none⟩ = some (.slice (some ⟨g.cb, 0, none⟩) g.code.length g.cap) ∧
    wx.cell? ⟨g.cb, k * 4, none⟩ = some (.int .u8 22) ∧ wx.cell? ⟨g.cb, k * 4 + 1, none⟩ = some (.int .u8 0) ∧ wx.cell? ⟨g.cb, k * 4 + 2, none⟩ = some (.int .u8 0) ∧ wx.cell? ⟨g.cb, k * 4 + 3, none⟩ = some (.int .u8 0) := okP h hp hx
set_option linter.unusedSimpArgs false in
set_option maxRecDepth 100000 in
set_option maxHeartbeats 4000000 in
theorem cend_any (k : Nat) (hp : m.pc = (k : Int)) (hk : k < 1000) (hx : g.code[k]? = some ⟨22, 0, 0, 0⟩) (hask : m.asked = false) (h : CO g sv m w) :
    Calls Tryz.prog 32 #[.pointer (some ⟨g.b, 0, none⟩)] w fun e w' => e = .returned (.tuple #[.bool true, askV 20 0 0 0 0, .int .i64 0]) ∧ CO g sv { m with pc := (k : Int) + 1, asked := true } w' ∧ Ch (fun k => k = g.b) w w' := by
  have hlt : k < g.code.length := (List.getElem?_eq_some_iff.1 hx).1
  have hlt1 : 0 ≤ (k : Int) ∧ (k : Int) < (g.code.length : Int) := by omega
  obtain ⟨W3, hW3⟩ : ∃ W3, W3 = ((w.alloc (.cells #[.bool false] 4)).alloc (.cells #[.int .u8 0, .int .u32 0, .int .u32 0, .int .u32 0, .int .i64 0] 112)).alloc (.cells #[.int .i64 0] 31) := ⟨_, rfl⟩
  have hc3 : Ch No w W3 := by rw [hW3]; exact ((Ch.alloc w _).trans (Ch.alloc _ _)).trans (Ch.alloc _ _)
  have k3 := h.no hc3
  have c12 := k3.cAsked
  rw [hask] at c12
  obtain ⟨c8, c10, c0, c1, c2, c3⟩ := okP22 W3 k3 hp hx
  have K3 := Lib.hid k3
  have HC3 := Lib.hid hc3
  have HW3 := Lib.hid hW3
  have hd0 : decide ((k : Int) < 0) = false := by rw [decide_eq_false_iff_not]; omega
  have hd1 : decide ((g.code.length : Int) ≤ (k : Int)) = false := by rw [decide_eq_false_iff_not]; omega
  clear h hc3 k3 hW3
  go_enter_defers Tryz.func32, Tryz.ntmps32
  go_wp2_with fail
  rw [← HW3.out]
  refine (cThere_any K3.out).mono ?_; rintro e w1 ⟨rfl, rfl⟩
  go_wp2_with fail
  go_quiet (fail)
  go_wp2_with fail
  obtain ⟨W4, hW4⟩ : ∃ W4, W4 = W3.drewN nq := ⟨_, rfl⟩
  have K4 : Hid (CO g sv m W4) := Lib.hid (by rw [hW4]; exact K3.out.drewN nq)
  have HC4 : Hid (Ch No W3 W4) := Lib.hid (by rw [hW4]; exact Ch.drewN _ _)
  rw [← hW4]
  clear hW4 c8 c10 c0 c1 c2 c3 c12
  obtain ⟨c8, c10, c0, c1, c2, c3⟩ := okP22 W4 K4.out hp hx
  have hS1 := okP22 W4.drew (K4.out.drewN 1) hp hx
  go_region_held3 (fun wx => wx.cell? ⟨g.b, 8, none⟩ = some (.int .i64 k) ∧ wx.cell? ⟨g.b, 10, none⟩ = some (.slice (some ⟨g.cb, 0, none⟩) g.code.length g.cap) ∧
    wx.cell? ⟨g.cb, k * 4, none⟩ = some (.int .u8 22) ∧ wx.cell? ⟨g.cb, k * 4 + 1, none⟩ = some (.int .u8 0) ∧ wx.cell? ⟨g.cb, k * 4 + 2, none⟩ = some (.int .u8 0) ∧ wx.cell? ⟨g.cb, k * 4 + 3, none⟩ = some (.int .u8 0)) (first | exact hS1 | exact okP22 _ (K4.out.no ((Ch.alloc W4 _).trans (Ch.drewN _ 1))) hp hx | go_keep) (fail)
  obtain ⟨bx, hbx⟩ : ∃ bx, bx = W4.heap.size := ⟨_, rfl⟩
  obtain ⟨W5, hW5⟩ : ∃ W5, W5 = (W4.alloc (.cells #[.int .u8 22, .int .u8 0, .int .u8 0, .int .u8 0] 49)).drew := ⟨_, rfl⟩
  have R5 : Hid (Row bx 49 #[.int .u8 22, .int .u8 0, .int .u8 0, .int .u8 0] W5) := Lib.hid (by rw [hW5, hbx]; exact (Row.new W4 49 _).drewN 1)
  have hc5 : Ch No W4 W5 := by rw [hW5]; exact (Ch.alloc W4 _).trans (Ch.drewN _ 1)
  have K5 : Hid (CO g sv m W5) := Lib.hid (K4.out.no hc5)
  have HC5 : Hid (Ch No W3 W5) := Lib.hid (HC4.out.trans hc5)
  rw [← hW5, ← hbx]
  clear hW5 hc5 hS1 c8 c10 c0 c1 c2 c3
  have b0 := R5.out.cell (j := 0) rfl
  have HBX := Lib.hid hbx
  clear hbx
  have hR := R31 HW3.out
  have r1 := Row.keeps hR.1 HC5.out (fun x => x)
  have r2 := Row.keeps hR.2.1 HC5.out (fun x => x)
  have r3 := Row.keeps hR.2.2 HC5.out (fun x => x)
  have q0 := r1.cell (j := 0) rfl
  have q1 := r2.cell (j := 0) rfl
  have q2 := r2.cell (j := 1) rfl
  have q3 := r2.cell (j := 2) rfl
  have q4 := r2.cell (j := 3) rfl
  have q5 := r2.cell (j := 4) rfl
  have q6 := r3.cell (j := 0) rfl
  have z0 := r1.free 0
  have z1 := r2.free 0
  have z2 := r2.free 1
  have z3 := r2.free 2
  have z4 := r2.free 3
  have z5 := r2.free 4
  have z6 := r3.free 0
  have y12 := K5.out.cAsked
  rw [hask] at y12
  have u12 := K5.out.free 12
  have y8 := K5.out.cPc
  rw [hp] at y8
  have u8' := K5.out.free 8
  have hk1 : 0 ≤ (k : Int) ∧ (k : Int) < 1000 := by omega
  obtain ⟨s0, hs0⟩ : ∃ s0, s0 = w.heap.size := ⟨_, rfl⟩
  rw [← hs0] at q0 q1 q2 q3 q4 q5 q6 z0 z1 z2 z3 z4 z5 z6 r1 r2 r3 ⊢
  have R1 := Lib.hid r1
  have R2 := Lib.hid r2
  have R3 := Lib.hid r3
  clear r1 r2 r3 hR
  have HS0 := Lib.hid hs0
  clear hs0
  go_wp2_with fail
  have hae := asked_ends (v0 := .int .u8 20) (v1 := .int .u32 0) (v2 := .int .u32 0) (v3 := .int .u32 0) (v4 := .int .i64 0) (p := (k : Int) + 1) K5.out R2.out
  obtain ⟨W8, hW8⟩ : ∃ W8, W8 = (((((((W5.setCell ⟨s0 + 1, 0, none⟩ (.int .u8 20)).setCell ⟨s0 + 1, 1, none⟩ (.int .u32 0)).setCell ⟨s0 + 1, 2, none⟩ (.int .u32 0)).setCell ⟨s0 + 1, 3, none⟩ (.int .u32 0)).setCell ⟨s0 + 1, 4, none⟩ (.int .i64 0)).setCell ⟨g.b, 12, none⟩ (.bool true)).setCell ⟨g.b, 8, none⟩ (.int .i64 ((k : Int) + 1))) := ⟨_, rfl⟩
  rw [← hW8] at hae ⊢
  obtain ⟨k8, c8, t2⟩ := hae
  have n1 := K5.out.apart3 R1.out (by decide) (by decide) (by decide)
  have n3 := K5.out.apart3 R3.out (by decide) (by decide) (by decide)
  have t1 := R1.out.keeps c8 (fun e => e.elim (fun e => by omega) n1.1)
  have t3 := R3.out.keeps c8 (fun e => e.elim (fun e => by omega) n3.1)
  have K8 := Lib.hid k8
  have C8 := Lib.hid c8
  clear k8 c8 hW8 q0 q1 q2 q3 q4 q5 q6 z0 z1 z2 z3 z4 z5 z6 y12 y8 u12 u8' R1 R2 R3
  have q0 := t1.cell (j := 0) rfl
  have q1 := t2.cell (j := 0) rfl
  have q2 := t2.cell (j := 1) rfl
  have q3 := t2.cell (j := 2) rfl
  have q4 := t2.cell (j := 3) rfl
  have q5 := t2.cell (j := 4) rfl
  have q6 := t3.cell (j := 0) rfl
  have z0 := t1.free 0
  have z1 := t2.free 0
  have z2 := t2.free 1
  have z3 := t2.free 2
  have z4 := t2.free 3
  have z5 := t2.free 4
  have z6 := t3.free 0
  have R1 := Lib.hid t1
  have R2 := Lib.hid t2
  have R3 := Lib.hid t3
  clear t1 t2 t3
  go_wp2_with fail
  refine wp_region_noPanic ?_
  go_region
  refine NoPanic.normal ?_
  have t1 := R1.out.set 0 (.bool true)
  have t2 := R2.out.other (q := s0) (by omega) 0 (.bool true)
  have t3 := R3.out.other (q := s0) (by omega) 0 (.bool true)
  have n1 := K8.out.apart3 R1.out (by decide) (by decide) (by decide)
  have c9 : Ch (fun j => j = s0) W8 (W8.setCell ⟨s0, 0, none⟩ (.bool true)) := Ch.set1 W8 s0 0 _
  have k9 := K8.out.keeps c9 (fun e => n1.1 e.symm) (fun e => n1.2.1 e.symm) (fun k hk e => n1.2.2 (e ▸ hk))
  rw [t2.same (j := 0) (v := .int .u8 20) rfl, t2.same (j := 1) (v := .int .u32 0) rfl, t2.same (j := 2) (v := .int .u32 0) rfl, t2.same (j := 3) (v := .int .u32 0) rfl, t2.same (j := 4) (v := .int .i64 0) rfl, t3.same (j := 0) (v := .int .i64 0) rfl]
  obtain ⟨W9, hW9⟩ : ∃ W9, W9 = W8.setCell ⟨s0, 0, none⟩ (.bool true) := ⟨_, rfl⟩
  rw [← hW9] at t1 t2 t3 c9 k9 ⊢
  have q0 : W9.cell? ⟨s0, 0, none⟩ = some (.bool true) := t1.cell (j := 0) rfl
  have q1 : W9.cell? ⟨s0 + 1, 0, none⟩ = some (.int .u8 20) := t2.cell (j := 0) rfl
  have q2 : W9.cell? ⟨s0 + 1, 1, none⟩ = some (.int .u32 0) := t2.cell (j := 1) rfl
  have q3 : W9.cell? ⟨s0 + 1, 2, none⟩ = some (.int .u32 0) := t2.cell (j := 2) rfl
  have q4 : W9.cell? ⟨s0 + 1, 3, none⟩ = some (.int .u32 0) := t2.cell (j := 3) rfl
  have q5 : W9.cell? ⟨s0 + 1, 4, none⟩ = some (.int .i64 0) := t2.cell (j := 4) rfl
  have q6 : W9.cell? ⟨s0 + 1 + 1, 0, none⟩ = some (.int .i64 0) := t3.cell (j := 0) rfl
  have K9 := Lib.hid k9
  have C9 := Lib.hid c9
  clear t1 t2 t3 k9 c9 hW9 R1 R2 R3
  go_wp2_with fail
  refine leaves_cons (f := 62) (args := #[.pointer (some ⟨s0, 0, none⟩), .pointer (some ⟨s0 + 1, 0, none⟩), .pointer (some ⟨s0 + 1 + 1, 0, none⟩)]) (by simp) (by simp [go_sem]) ?_
  refine (caught_any _ _ _ _).mono ?_
  rintro e u' w9 ⟨rfl, rfl, rfl⟩
  have hch : Ch (fun j => j = g.b ∨ s0 ≤ j) w W9.drew :=
    ((((HC3.out.trans HC5.out).mono (fun _ _ s => s.elim)).trans (C8.out.mono (fun _ _ e => e.elim (fun e => .inr (by omega)) .inl))).trans (C9.out.mono (fun _ _ e => .inr (by omega)))).trans (Ch.drewN _ 1)
  have hs0 := HS0.out
  refine ⟨.tuple #[.bool true, askV 20 0 0 0 0, .int .i64 0], ?_, rfl, K9.out.drewN 1, hch.mono (fun j hj e => e.elim id (fun e => by omega))⟩
  simp [results, Tryz.f32, Tryz.results32, go_sem, askV, q0, q1, q2, q3, q4, q5, q6]
end
end Go.Proofs.YtcngfaggignmpaaGreatDoor
