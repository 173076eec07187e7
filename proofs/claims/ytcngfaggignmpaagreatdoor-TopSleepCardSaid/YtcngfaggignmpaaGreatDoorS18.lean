/-
  The top, part 18: Does, Says.
-/
import Derived.Test.YtcngfaggignmpaaGreatDoorS17

/-
  The core of a task: what its instructions do.
-/
namespace Go.Proofs.YtcngfaggignmpaaGreatDoor
open Go.RowKit

section
variable {g : CG} {sv : Value} {m : CM} {w : World}
/-- A register has another number. -/
def CM.setR (m : CM) (a : Nat) (x : Int) : CM := { m with r := upd m.r a x }

theorem or_zero (c : Nat) (h : c < 256) : bits BinOp.or .u32 0 c = c := by
  unfold bits
  simp [IntKind.wrap_u32, IntKind.bits]
  have e : (0#32 ||| BitVec.ofNat 32 c) = BitVec.ofNat 32 c := BitVec.zero_or
  show (((0#32 ||| BitVec.ofNat 32 c : BitVec 32).toNat : Nat) : Int) % 4294967296 = c
  rw [e, BitVec.toNat_ofNat]
  omega

set_option maxHeartbeats 1000000 in
theorem set_any (a c : Nat) (ha : a < 8) (hc : c < 256) (h : CO g sv m w) :
    Calls Tryz.prog 104 #[.pointer (some ⟨g.b, 0, none⟩), inV ⟨1, a, 0, c⟩] w fun e w' => e = .returned (.int .i64 0) ∧ CO g sv (m.setR a c) w' ∧ Ch (fun k => k = g.b) w w' := by
  have k1 := h.no (Ch.alloc w (.cells #[.int .u8 1, .int .u8 a, .int .u8 0, .int .u8 c] 49))
  have c1 := k1.cReg ha
  have f1 := k1.free a
  have ha1 : 0 ≤ (a : Int) ∧ (a : Int) < 8 := by omega
  have hc1 : 0 ≤ (c : Int) ∧ (c : Int) < 256 := by omega
  have hor := or_zero c hc
  have H := Lib.hid h
  have K1 := Lib.hid k1
  clear h k1
  unfold inV
  go_enter Tryz.func104, Tryz.ntmps104
  go_wp2_with fail
  go_region
  go_wp2_with fail
  go_ret
  have k2 := K1.out.setReg ha (c : Int)
  exact ⟨rfl, k2.1.drewN 1, ((Ch.alloc w _).trans k2.2).trans (Ch.drewN _ 1)⟩
set_option maxHeartbeats 1000000 in
theorem move_any (a b : Nat) (ha : a < 8) (hb : b < 8) (h : CO g sv m w) :
    Calls Tryz.prog 105 #[.pointer (some ⟨g.b, 0, none⟩), inV ⟨2, a, b, 0⟩] w fun e w' => e = .returned (.int .i64 0) ∧ CO g sv (m.setR a (m.r b)) w' ∧ Ch (fun k => k = g.b) w w' := by
  have k1 := h.no (Ch.alloc w (.cells #[.int .u8 2, .int .u8 a, .int .u8 b, .int .u8 0] 49))
  have c1 := k1.cReg ha
  have c2 := k1.cReg hb
  have f1 := k1.free a
  have ha1 : 0 ≤ (a : Int) ∧ (a : Int) < 8 := by omega
  have hb1 : 0 ≤ (b : Int) ∧ (b : Int) < 8 := by omega
  have H := Lib.hid h
  have K1 := Lib.hid k1
  clear h k1
  unfold inV
  go_enter Tryz.func105, Tryz.ntmps105
  go_wp2_with fail
  go_region
  go_wp2_with fail
  go_ret
  have k2 := K1.out.setReg ha (m.r b)
  exact ⟨rfl, k2.1.drewN 1, ((Ch.alloc w _).trans k2.2).trans (Ch.drewN _ 1)⟩
set_option maxHeartbeats 1000000 in
theorem go_any (b : Nat) (hb : b < 256) (h : CO g sv m w) (hp : 0 ≤ m.pc ∧ m.pc < 1000) :
    Calls Tryz.prog 117 #[.pointer (some ⟨g.b, 0, none⟩), inV ⟨19, 0, b, 0⟩] w fun e w' => e = .returned (.int .i64 (b - m.pc - 1)) ∧ CO g sv m w' ∧ Ch No w w' := by
  have k1 := h.no (Ch.alloc w (.cells #[.int .u8 19, .int .u8 0, .int .u8 b, .int .u8 0] 49))
  have c1 := k1.cPc
  have hb1 : 0 ≤ (b : Int) ∧ (b : Int) < 256 := by omega
  have H := Lib.hid h
  have K1 := Lib.hid k1
  clear h k1
  unfold inV
  go_enter Tryz.func117, Tryz.ntmps117
  go_wp2_with fail
  go_quiet (fail)
  go_wp2_with fail
  go_ret
  exact ⟨rfl, K1.out.drewN _, (Ch.alloc w _).trans (Ch.drewN _ _)⟩

theorem boxed (w : World) (v0 v1 v2 v3 : Value) : Row w.heap.size 49 #[v0, v1, v2, v3] (w.alloc (.cells #[v0, v1, v2, v3] 49)) := Row.new w 49 _
/-- What a region that computes reads, behind the box of the instruction. -/
theorem okS {wx : World} {bx o a c : Nat} (k : CO g sv m wx) (r : Row bx 49 #[.int .u8 o, .int .u8 a, .int .u8 a, .int .u8 c] wx) (hc : c < 8) :
    wx.cell? ⟨bx, 0, none⟩ = some (.int .u8 o) ∧ wx.cell? ⟨bx, 1, none⟩ = some (.int .u8 a) ∧ wx.cell? ⟨bx, 2, none⟩ = some (.int .u8 a) ∧ wx.cell? ⟨bx, 3, none⟩ = some (.int .u8 c) ∧ wx.cell? ⟨g.b, c, none⟩ = some (.int .u32 (m.r c)) :=
  ⟨r.cell (j := 0) rfl, r.cell (j := 1) rfl, r.cell (j := 2) rfl, r.cell (j := 3) rfl, k.cReg hc⟩
theorem okS1 {wx : World} {bx o a c : Nat} {x : Int} (k : CO g sv m wx) (r : Row bx 49 #[.int .u8 o, .int .u8 a, .int .u8 a, .int .u8 c] wx) (ha : a < 8) (hc : c < 8) (hac : c ≠ a) :
    (wx.setCell ⟨g.b, a, none⟩ (.int .u32 x)).cell? ⟨bx, 0, none⟩ = some (.int .u8 o) ∧ (wx.setCell ⟨g.b, a, none⟩ (.int .u32 x)).cell? ⟨bx, 1, none⟩ = some (.int .u8 a) ∧ (wx.setCell ⟨g.b, a, none⟩ (.int .u32 x)).cell? ⟨bx, 2, none⟩ = some (.int .u8 a) ∧ (wx.setCell ⟨g.b, a, none⟩ (.int .u32 x)).cell? ⟨bx, 3, none⟩ = some (.int .u8 c) ∧ (wx.setCell ⟨g.b, a, none⟩ (.int .u32 x)).cell? ⟨g.b, c, none⟩ = some (.int .u32 (m.r c)) := by
  have hne : bx ≠ g.b := fun e => by rw [e] at r; exact absurd (r.ty k.core) (by decide)
  have h1 := (k.setReg ha x).1.cReg hc
  rw [show ({ m with r := upd m.r a x } : CM).r c = m.r c from upd_ne _ _ hac] at h1
  have r1 := r.other hne a (.int .u32 x)
  exact ⟨r1.cell (j := 0) rfl, r1.cell (j := 1) rfl, r1.cell (j := 2) rfl, r1.cell (j := 3) rfl, h1⟩
set_option linter.unusedSimpArgs false in
set_option maxRecDepth 100000 in
set_option maxHeartbeats 4000000 in
theorem arith_any (o a c : Nat) (x : Int) (ha : a < 8) (hc : c < 8) (hac : c ≠ a)
    (hdo : ∀ w : World, Calls Tryz.prog 120 #[.int .u8 o, .int .u32 (m.r a), .int .u32 (m.r c)] w fun e w' => e = .returned (.tuple #[.int .u32 x, .int .i64 0]) ∧ Ch No w w') (h : CO g sv m w) :
    Calls Tryz.prog 119 #[.pointer (some ⟨g.b, 0, none⟩), inV ⟨o, a, a, c⟩] w fun e w' => e = .returned (.int .i64 0) ∧ CO g sv (m.setR a x) w' ∧ Ch (fun k => k = g.b) w w' := by
  have ha1 : 0 ≤ (a : Int) ∧ (a : Int) < 8 := by omega
  have hc1 : 0 ≤ (c : Int) ∧ (c : Int) < 8 := by omega
  have r0 := boxed w (.int .u8 o) (.int .u8 a) (.int .u8 a) (.int .u8 c)
  obtain ⟨W0, hW0⟩ : ∃ W0, W0 = w.alloc (.cells #[.int .u8 o, .int .u8 a, .int .u8 a, .int .u8 c] 49) := ⟨_, rfl⟩
  have k1 : CO g sv m W0 := by rw [hW0]; exact h.no (Ch.alloc w _)
  have hc0 : Ch No w W0 := by rw [hW0]; exact Ch.alloc w _
  rw [← hW0] at r0
  have d1 := k1.cReg ha
  have K1 := Lib.hid k1
  have R0 := Lib.hid r0
  have HC0 := Lib.hid hc0
  have HDO := Lib.hid hdo
  have HW0 := Lib.hid hW0
  clear h k1 r0 hc0 hW0 hdo
  unfold inV
  go_enter Tryz.func119, Tryz.ntmps119
  go_wp2_with fail
  rw [← HW0.out]
  refine wp_region_held_drew (S := (fun wx => wx.cell? ⟨w.heap.size, 0, none⟩ = some (.int .u8 o) ∧ wx.cell? ⟨w.heap.size, 1, none⟩ = some (.int .u8 a) ∧ wx.cell? ⟨w.heap.size, 2, none⟩ = some (.int .u8 a) ∧ wx.cell? ⟨w.heap.size, 3, none⟩ = some (.int .u8 c) ∧ wx.cell? ⟨g.b, c, none⟩ = some (.int .u32 (m.r c)))) (by kernel_rfl) ?_ (fun hHeld => ?_)
  · first | exact okS (K1.out.drewN 1) (R0.out.drewN 1) hc | exact okS K2.out R2.out hc | exact okS1 K2.out R2.out ha hc hac
  refine wpAnyH_take (i := 0) (v := ?_) rfl (by kernel_rfl) (by kernel_rfl) (by kernel_rfl) (fun _ _ _ h => h) (Or.inl ⟨by rfl, by intro wx hSw; (try dsimp only at hSw); go_simp; (try with_reducible rfl)⟩) (by assumption) ?_
  (try simp only [List.getElem_toArray, List.getElem_cons_succ, List.getElem_cons_zero, Act.put, List.setIfInBounds_toArray, List.set_cons_succ, List.set_cons_zero])
  refine wpAnyH_take (i := 1) (v := ?_) rfl (by kernel_rfl) (by kernel_rfl) (by kernel_rfl) (fun _ _ _ h => h) (Or.inl ⟨by rfl, by intro wx hSw; (try dsimp only at hSw); go_simp; (try with_reducible rfl)⟩) (by assumption) ?_
  (try simp only [List.getElem_toArray, List.getElem_cons_succ, List.getElem_cons_zero, Act.put, List.setIfInBounds_toArray, List.set_cons_succ, List.set_cons_zero])
  refine wpAnyH_take (i := 2) (v := ?_) rfl (by kernel_rfl) (by kernel_rfl) (by kernel_rfl) (fun _ _ _ h => h) (Or.inl ⟨by rfl, by intro wx hSw; (try dsimp only at hSw); go_simp; (try with_reducible rfl)⟩) (by assumption) ?_
  (try simp only [List.getElem_toArray, List.getElem_cons_succ, List.getElem_cons_zero, Act.put, List.setIfInBounds_toArray, List.set_cons_succ, List.set_cons_zero])
  refine wpAnyH_take (i := 3) (v := ?_) rfl (by kernel_rfl) (by kernel_rfl) (by kernel_rfl) (fun _ _ _ h => h) (Or.inl ⟨by rfl, by intro wx hSw; (try dsimp only at hSw); go_simp; (try with_reducible rfl)⟩) (by assumption) ?_
  (try simp only [List.getElem_toArray, List.getElem_cons_succ, List.getElem_cons_zero, Act.put, List.setIfInBounds_toArray, List.set_cons_succ, List.set_cons_zero])
  refine wpAnyH_take (i := 4) (v := ?_) rfl (by kernel_rfl) (by kernel_rfl) (by kernel_rfl) (fun _ _ _ h => h) (Or.inl ⟨by rfl, by intro wx hSw; (try dsimp only at hSw); go_simp; (try with_reducible rfl)⟩) (by assumption) ?_
  (try simp only [List.getElem_toArray, List.getElem_cons_succ, List.getElem_cons_zero, Act.put, List.setIfInBounds_toArray, List.set_cons_succ, List.set_cons_zero])
  refine wpAnyH_take (i := 5) (v := ?_) rfl (by kernel_rfl) (by kernel_rfl) (by kernel_rfl) (fun _ _ _ h => h) (Or.inl ⟨by rfl, by intro wx hSw; (try dsimp only at hSw); go_simp; (try with_reducible rfl)⟩) (by assumption) ?_
  (try simp only [List.getElem_toArray, List.getElem_cons_succ, List.getElem_cons_zero, Act.put, List.setIfInBounds_toArray, List.set_cons_succ, List.set_cons_zero])
  refine wpAnyH_take (i := 6) (v := ?_) rfl (by kernel_rfl) (by kernel_rfl) (by kernel_rfl) (fun _ _ _ h => h) (Or.inl ⟨by rfl, by intro wx hSw; (try dsimp only at hSw); go_simp; (try with_reducible rfl)⟩) (by assumption) ?_
  (try simp only [List.getElem_toArray, List.getElem_cons_succ, List.getElem_cons_zero, Act.put, List.setIfInBounds_toArray, List.set_cons_succ, List.set_cons_zero])
  refine wpAnyH_take (i := 7) (v := ?_) rfl (by kernel_rfl) (by kernel_rfl) (by kernel_rfl) (fun _ _ _ h => h) (Or.inl ⟨by rfl, by intro wx hSw; (try dsimp only at hSw); go_simp; (try with_reducible rfl)⟩) (by assumption) ?_
  (try simp only [List.getElem_toArray, List.getElem_cons_succ, List.getElem_cons_zero, Act.put, List.setIfInBounds_toArray, List.set_cons_succ, List.set_cons_zero])
  refine wpAnyH_take (i := 8) (v := ?_) rfl (by kernel_rfl) (by kernel_rfl) (by kernel_rfl) (fun _ _ _ h => h) (Or.inl ⟨by rfl, by intro wx hSw; (try dsimp only at hSw); go_simp; (try with_reducible rfl)⟩) (by assumption) ?_
  (try simp only [List.getElem_toArray, List.getElem_cons_succ, List.getElem_cons_zero, Act.put, List.setIfInBounds_toArray, List.set_cons_succ, List.set_cons_zero])
  refine wpAnyH_take (i := 9) (v := ?_) rfl (by kernel_rfl) (by kernel_rfl) (by kernel_rfl) (fun _ _ _ h => h) (Or.inl ⟨by rfl, by intro wx hSw; (try dsimp only at hSw); go_simp; (try with_reducible rfl)⟩) (by assumption) ?_
  (try simp only [List.getElem_toArray, List.getElem_cons_succ, List.getElem_cons_zero, Act.put, List.setIfInBounds_toArray, List.set_cons_succ, List.set_cons_zero])
  refine wpAnyH_take (i := 10) (v := ?_) rfl (by kernel_rfl) (by kernel_rfl) (by kernel_rfl) (fun _ _ _ h => h) (Or.inl ⟨by rfl, by intro wx hSw; (try dsimp only at hSw); go_simp; (try with_reducible rfl)⟩) (by assumption) ?_
  (try simp only [List.getElem_toArray, List.getElem_cons_succ, List.getElem_cons_zero, Act.put, List.setIfInBounds_toArray, List.set_cons_succ, List.set_cons_zero])
  refine wpAnyH_take (i := 12) (v := ?_) rfl (by kernel_rfl) (by kernel_rfl) (by kernel_rfl) (fun _ _ _ h => h) (Or.inl ⟨by rfl, by intro wx hSw; (try dsimp only at hSw); go_simp; (try with_reducible rfl)⟩) (by assumption) ?_
  (try simp only [List.getElem_toArray, List.getElem_cons_succ, List.getElem_cons_zero, Act.put, List.setIfInBounds_toArray, List.set_cons_succ, List.set_cons_zero])
  refine wpAnyH_take (i := 13) (v := ?_) rfl (by kernel_rfl) (by kernel_rfl) (by kernel_rfl) (fun _ _ _ h => h) (Or.inl ⟨by rfl, by intro wx hSw; (try dsimp only at hSw); go_simp; (try with_reducible rfl)⟩) (by assumption) ?_
  (try simp only [List.getElem_toArray, List.getElem_cons_succ, List.getElem_cons_zero, Act.put, List.setIfInBounds_toArray, List.set_cons_succ, List.set_cons_zero])
  refine wpAnyH_take (i := 14) (v := ?_) rfl (by kernel_rfl) (by kernel_rfl) (by kernel_rfl) (fun _ _ _ h => h) (Or.inl ⟨by rfl, by intro wx hSw; (try dsimp only at hSw); go_simp; (try with_reducible rfl)⟩) (by assumption) ?_
  (try simp only [List.getElem_toArray, List.getElem_cons_succ, List.getElem_cons_zero, Act.put, List.setIfInBounds_toArray, List.set_cons_succ, List.set_cons_zero])
  refine wpAnyH_take (i := 15) (v := ?_) rfl (by kernel_rfl) (by kernel_rfl) (by kernel_rfl) (fun _ _ _ h => h) (Or.inl ⟨by rfl, by intro wx hSw; (try dsimp only at hSw); go_simp; (try with_reducible rfl)⟩) (by assumption) ?_
  (try simp only [List.getElem_toArray, List.getElem_cons_succ, List.getElem_cons_zero, Act.put, List.setIfInBounds_toArray, List.set_cons_succ, List.set_cons_zero])
  refine wpAnyH_take (i := 16) (v := ?_) rfl (by kernel_rfl) (by kernel_rfl) (by kernel_rfl) (fun _ _ _ h => h) (Or.inl ⟨by rfl, by intro wx hSw; (try dsimp only at hSw); go_simp; (try with_reducible rfl)⟩) (by assumption) ?_
  (try simp only [List.getElem_toArray, List.getElem_cons_succ, List.getElem_cons_zero, Act.put, List.setIfInBounds_toArray, List.set_cons_succ, List.set_cons_zero])
  refine wpAnyH_take (i := 17) (v := ?_) rfl (by kernel_rfl) (by kernel_rfl) (by kernel_rfl) (fun _ _ _ h => h) (Or.inl ⟨by rfl, by intro wx hSw; (try dsimp only at hSw); go_simp; (try with_reducible rfl)⟩) (by assumption) ?_
  (try simp only [List.getElem_toArray, List.getElem_cons_succ, List.getElem_cons_zero, Act.put, List.setIfInBounds_toArray, List.set_cons_succ, List.set_cons_zero])
  refine wpAnyH_take (i := 18) (v := ?_) rfl (by kernel_rfl) (by kernel_rfl) (by kernel_rfl) (fun _ _ _ h => h) (Or.inl ⟨by rfl, by intro wx hSw; (try dsimp only at hSw); go_simp; (try with_reducible rfl)⟩) (by assumption) ?_
  (try simp only [List.getElem_toArray, List.getElem_cons_succ, List.getElem_cons_zero, Act.put, List.setIfInBounds_toArray, List.set_cons_succ, List.set_cons_zero])
  refine wpAnyH_take (i := 23) (v := ?_) rfl (by kernel_rfl) (by kernel_rfl) (by kernel_rfl) (fun _ _ _ h => h) (Or.inl ⟨by rfl, by intro wx hSw; (try dsimp only at hSw); go_simp; (try with_reducible rfl)⟩) (by assumption) ?_
  (try simp only [List.getElem_toArray, List.getElem_cons_succ, List.getElem_cons_zero, Act.put, List.setIfInBounds_toArray, List.set_cons_succ, List.set_cons_zero])
  refine wpAnyH_take (i := 24) (v := ?_) rfl (by kernel_rfl) (by kernel_rfl) (by kernel_rfl) (fun _ _ _ h => h) (Or.inl ⟨by rfl, by intro wx hSw; (try dsimp only at hSw); go_simp; (try with_reducible rfl)⟩) (by assumption) ?_
  (try simp only [List.getElem_toArray, List.getElem_cons_succ, List.getElem_cons_zero, Act.put, List.setIfInBounds_toArray, List.set_cons_succ, List.set_cons_zero])
  refine wpAnyH_ready (rs := [11]) (by kernel_rfl) (by simp) ?_
  refine AllReadyH.cons rfl (fun K hK => ?_) AllReadyH.nil
  go_simp
  skip
  refine hK.out _ _ ?_ (fun hHeld2 => ?_)
  · first | exact okS (K1.out.drewN 1) (R0.out.drewN 1) hc | exact okS K2.out R2.out hc | exact okS1 K2.out R2.out ha hc hac
  clear hK K
  (try simp only [List.getElem_toArray, List.getElem_cons_succ, List.getElem_cons_zero, Act.put, List.setIfInBounds_toArray, List.set_cons_succ, List.set_cons_zero])
  refine wpAnyH_ready (rs := [19]) (by kernel_rfl) (by simp) ?_
  refine AllReadyH.cons rfl (fun K hK => ?_) AllReadyH.nil
  go_simp
  refine (HDO.out _).mono ?_; rintro e w1 ⟨rfl, hch1⟩; have k2 := (K1.out.drewN 1).no hch1; have q3 := k2.cReg ha; have qf := k2.free a; have K2 := Lib.hid k2; have R2 := Lib.hid ((R0.out.drewN 1).keeps hch1 (fun x => x)); have C2 := Lib.hid ((HC0.out.trans (Ch.drewN W0 1)).trans hch1); clear k2 hch1
  refine hK.out _ _ ?_ (fun hHeld2 => ?_)
  · first | exact okS (K1.out.drewN 1) (R0.out.drewN 1) hc | exact okS K2.out R2.out hc | exact okS1 K2.out R2.out ha hc hac
  clear hK K
  (try simp only [List.getElem_toArray, List.getElem_cons_succ, List.getElem_cons_zero, Act.put, List.setIfInBounds_toArray, List.set_cons_succ, List.set_cons_zero])
  refine wpAnyH_take (i := 20) (v := ?_) rfl (by kernel_rfl) (by kernel_rfl) (by kernel_rfl) (fun _ _ _ h => h) (Or.inl ⟨by rfl, by intro wx hSw; (try dsimp only at hSw); go_simp; (try with_reducible rfl)⟩) (by assumption) ?_
  (try simp only [List.getElem_toArray, List.getElem_cons_succ, List.getElem_cons_zero, Act.put, List.setIfInBounds_toArray, List.set_cons_succ, List.set_cons_zero])
  refine wpAnyH_take (i := 21) (v := ?_) rfl (by kernel_rfl) (by kernel_rfl) (by kernel_rfl) (fun _ _ _ h => h) (Or.inl ⟨by rfl, by intro wx hSw; (try dsimp only at hSw); go_simp; (try with_reducible rfl)⟩) (by assumption) ?_
  (try simp only [List.getElem_toArray, List.getElem_cons_succ, List.getElem_cons_zero, Act.put, List.setIfInBounds_toArray, List.set_cons_succ, List.set_cons_zero])
  refine wpAnyH_ready (rs := [22]) (by kernel_rfl) (by simp) ?_
  refine AllReadyH.cons rfl (fun K hK => ?_) AllReadyH.nil
  go_simp
  refine (must_any _ _).mono ?_; rintro e w2 ⟨rfl, rfl⟩
  refine hK.out _ _ ?_ (fun hHeld2 => ?_)
  · first | exact okS (K1.out.drewN 1) (R0.out.drewN 1) hc | exact okS K2.out R2.out hc | exact okS1 K2.out R2.out ha hc hac
  clear hK K
  (try simp only [List.getElem_toArray, List.getElem_cons_succ, List.getElem_cons_zero, Act.put, List.setIfInBounds_toArray, List.set_cons_succ, List.set_cons_zero])
  refine wpAnyH_take (i := 25) (v := ?_) rfl (by kernel_rfl) (by kernel_rfl) (by kernel_rfl) (fun _ _ _ h => h) (Or.inl ⟨by rfl, by intro wx hSw; (try dsimp only at hSw); go_simp; (try with_reducible rfl)⟩) (by assumption) ?_
  (try simp only [List.getElem_toArray, List.getElem_cons_succ, List.getElem_cons_zero, Act.put, List.setIfInBounds_toArray, List.set_cons_succ, List.set_cons_zero])
  refine wpAnyH_ready (rs := [26]) (by kernel_rfl) (by simp) ?_
  refine AllReadyH.cons rfl (fun K hK => ?_) AllReadyH.nil
  go_simp
  skip
  refine hK.out _ _ ?_ (fun hHeld2 => ?_)
  · first | exact okS (K1.out.drewN 1) (R0.out.drewN 1) hc | exact okS K2.out R2.out hc | exact okS1 K2.out R2.out ha hc hac
  clear hK K
  (try simp only [List.getElem_toArray, List.getElem_cons_succ, List.getElem_cons_zero, Act.put, List.setIfInBounds_toArray, List.set_cons_succ, List.set_cons_zero])
  refine wpAnyH_done (by kernel_rfl) ?_ _
  go_wp2_with fail
  go_ret
  have k3 := K2.out.setReg ha x
  exact ⟨rfl, k3.1, (C2.out.mono (fun _ _ s => s.elim)).trans k3.2⟩
end
end Go.Proofs.YtcngfaggignmpaaGreatDoor

/-
  The core of a task: it compares, and it says something.
-/
namespace Go.Proofs.YtcngfaggignmpaaGreatDoor
open Go.RowKit

section
variable {g : CG} {sv : Value} {m : CM} {w : World}
theorem okS2 {wx : World} {bx o a b c : Nat} (k : CO g sv m wx) (r : Row bx 49 #[.int .u8 o, .int .u8 a, .int .u8 b, .int .u8 c] wx) (ha : a < 8) (hb : b < 8) :
    wx.cell? ⟨bx, 0, none⟩ = some (.int .u8 o) ∧ wx.cell? ⟨bx, 1, none⟩ = some (.int .u8 a) ∧ wx.cell? ⟨bx, 2, none⟩ = some (.int .u8 b) ∧ wx.cell? ⟨g.b, a, none⟩ = some (.int .u32 (m.r a)) ∧ wx.cell? ⟨g.b, b, none⟩ = some (.int .u32 (m.r b)) :=
  ⟨r.cell (j := 0) rfl, r.cell (j := 1) rfl, r.cell (j := 2) rfl, k.cReg ha, k.cReg hb⟩

set_option maxRecDepth 100000 in
set_option maxHeartbeats 4000000 in
theorem other_any (a b : Nat) (ha : a < 8) (hb : b < 8) (h : CO g sv m w) :
    Calls Tryz.prog 121 #[.pointer (some ⟨g.b, 0, none⟩), inV ⟨16, a, b, 249⟩] w fun e w' => e = .returned (.int .i64 (if m.r a = m.r b then 0 else -7)) ∧ CO g sv m w' ∧ Ch No w w' := by
  obtain ⟨y, hy⟩ : ∃ y : Int, y = if m.r a = m.r b then 0 else -7 := ⟨_, rfl⟩
  rw [← hy]
  have HY := Lib.hid hy
  clear hy
  have ha1 : 0 ≤ (a : Int) ∧ (a : Int) < 8 := by omega
  have hb1 : 0 ≤ (b : Int) ∧ (b : Int) < 8 := by omega
  have r0 := boxed w (.int .u8 16) (.int .u8 a) (.int .u8 b) (.int .u8 249)
  obtain ⟨W0, hW0⟩ : ∃ W0, W0 = w.alloc (.cells #[.int .u8 16, .int .u8 a, .int .u8 b, .int .u8 249] 49) := ⟨_, rfl⟩
  have k1 : CO g sv m W0 := by rw [hW0]; exact h.no (Ch.alloc w _)
  have hc0 : Ch No w W0 := by rw [hW0]; exact Ch.alloc w _
  rw [← hW0] at r0
  have K1 := Lib.hid k1
  have R0 := Lib.hid r0
  have HC0 := Lib.hid hc0
  have HW0 := Lib.hid hW0
  clear h k1 r0 hc0 hW0
  unfold inV
  go_enter Tryz.func121, Tryz.ntmps121
  go_wp2_with fail
  rw [← HW0.out]
  go_region_held3 (fun wx => wx.cell? ⟨w.heap.size, 0, none⟩ = some (.int .u8 (16 : Nat)) ∧ wx.cell? ⟨w.heap.size, 1, none⟩ = some (.int .u8 a) ∧ wx.cell? ⟨w.heap.size, 2, none⟩ = some (.int .u8 b) ∧ wx.cell? ⟨g.b, a, none⟩ = some (.int .u32 (m.r a)) ∧ wx.cell? ⟨g.b, b, none⟩ = some (.int .u32 (m.r b)))
    (first | exact okS2 (K1.out.drewN 1) (R0.out.drewN 1) ha hb | exact okS2 K2.out R2.out ha hb) (first
    | (go_at_call 123; refine (hoOther_any _ _ _).mono ?_; rintro e w1 ⟨rfl, hch1⟩; have K2 := Lib.hid ((K1.out.drewN 1).no hch1); have R2 := Lib.hid ((R0.out.drewN 1).keeps hch1 (fun x => x)); have C2 := Lib.hid ((HC0.out.trans (Ch.drewN W0 1)).trans hch1); clear hch1)
    | (go_at_call 122; refine (mustB_any _ _).mono ?_; rintro e w2 ⟨rfl, rfl⟩))
  all_goals
    have b3 := R2.out.cell (j := 3) rfl
    by_cases he : m.r a = m.r b
    · have hd : (m.r a != m.r b) = false := by simp [he]
      have hy0 := HY.out
      rw [if_pos he] at hy0
      subst hy0
      clear HY
      go_wp2_with fail
      go_ret
      exact ⟨rfl, K2.out, C2.out⟩
    · have hd : (m.r a != m.r b) = true := by simp [he]
      have hy0 := HY.out
      rw [if_neg he] at hy0
      subst hy0
      clear HY
      go_wp2_with fail
      go_ret
      exact ⟨by kernel_rfl, K2.out, C2.out⟩
end
end Go.Proofs.YtcngfaggignmpaaGreatDoor
