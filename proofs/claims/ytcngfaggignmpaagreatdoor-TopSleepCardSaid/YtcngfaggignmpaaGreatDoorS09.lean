/-
  The top, part 9: KerNew, ThingNew, Answers.
-/
import Derived.Test.YtcngfaggignmpaaGreatDoorS08

/-
  The kernel: a new one.
-/
namespace Go.Proofs.YtcngfaggignmpaaGreatDoor
open Go.RowKit

/-- The kernel in memory, without tasks and things. -/
structure KN (B : Nat) (s : Int) (w : World) : Prop where
  size : B + 72 ≤ w.heap.size
  kern : ∃ cs, Row (B + 69) 96 cs w ∧ cs.size = 55 ∧ cs[0]? = some (.int .i64 s) ∧ cs[1]? = some (.int .u32 0) ∧ cs[2]? = some (.pointer (some ⟨B + 70, 0, none⟩)) ∧ cs[3]? = some (.pointer (some ⟨B + 71, 0, none⟩)) ∧
    (∀ i, i < 48 → cs[4 + i]? = some (.pointer none)) ∧ cs[52]? = some (.pointer (some ⟨B, 0, none⟩)) ∧ cs[53]? = some (.pointer (some ⟨B + 65, 0, none⟩)) ∧ cs[54]? = some (.pointer (some ⟨B + 68, 0, none⟩))
  th : HT (B + 70) 16 (fun _ => 0) (fun _ => false) w
  oh : HT (B + 71) 32 (fun _ => 0) (fun _ => false) w
  ready : RQ B (fun _ => []) (fun _ => 0) w
  sleeps : DN (B + 65) w
  alarms : AL (B + 66) w

/-- The kernel's cells at first. -/
def kcells (s : Int) (a b c : Nat) : Array Value := #[.int .i64 s, .int .u32 0, .pointer none, .pointer none, .pointer none, .pointer none, .pointer none, .pointer none, .pointer none, .pointer none, .pointer none, .pointer none, .pointer none, .pointer none, .pointer none, .pointer none, .pointer none, .pointer none, .pointer none, .pointer none, .pointer none, .pointer none, .pointer none, .pointer none, .pointer none, .pointer none, .pointer none, .pointer none, .pointer none, .pointer none, .pointer none, .pointer none, .pointer none, .pointer none, .pointer none, .pointer none, .pointer none, .pointer none, .pointer none, .pointer none, .pointer none, .pointer none, .pointer none, .pointer none, .pointer none, .pointer none, .pointer none, .pointer none, .pointer none, .pointer none, .pointer none, .pointer none, .pointer (some ⟨a, 0, none⟩), .pointer (some ⟨b, 0, none⟩), .pointer (some ⟨c, 0, none⟩)]
theorem kcells_nil (s : Int) (a b c : Nat) : ∀ i, i < 50 → (kcells s a b c)[2 + i]? = some (.pointer none)
  | 0, _ => rfl
  | 1, _ => rfl
  | 2, _ => rfl
  | 3, _ => rfl
  | 4, _ => rfl
  | 5, _ => rfl
  | 6, _ => rfl
  | 7, _ => rfl
  | 8, _ => rfl
  | 9, _ => rfl
  | 10, _ => rfl
  | 11, _ => rfl
  | 12, _ => rfl
  | 13, _ => rfl
  | 14, _ => rfl
  | 15, _ => rfl
  | 16, _ => rfl
  | 17, _ => rfl
  | 18, _ => rfl
  | 19, _ => rfl
  | 20, _ => rfl
  | 21, _ => rfl
  | 22, _ => rfl
  | 23, _ => rfl
  | 24, _ => rfl
  | 25, _ => rfl
  | 26, _ => rfl
  | 27, _ => rfl
  | 28, _ => rfl
  | 29, _ => rfl
  | 30, _ => rfl
  | 31, _ => rfl
  | 32, _ => rfl
  | 33, _ => rfl
  | 34, _ => rfl
  | 35, _ => rfl
  | 36, _ => rfl
  | 37, _ => rfl
  | 38, _ => rfl
  | 39, _ => rfl
  | 40, _ => rfl
  | 41, _ => rfl
  | 42, _ => rfl
  | 43, _ => rfl
  | 44, _ => rfl
  | 45, _ => rfl
  | 46, _ => rfl
  | 47, _ => rfl
  | 48, _ => rfl
  | 49, _ => rfl
  | i + 50, h => absurd h (by omega)

set_option maxRecDepth 100000 in
set_option maxHeartbeats 4000000 in
theorem kerNew_any (w : World) (s : Int) (h1 : 1 ≤ s) (h2 : s ≤ 1000) :
    Calls Tryz.prog 19 #[.agg #[.int .i64 s, .int .u32 0]] w fun e w' => e = .returned (.tuple #[.pointer (some ⟨w.heap.size + 1 + 69, 0, none⟩), .int .i64 0]) ∧ KN (w.heap.size + 1) s w' ∧ Ch No w w' ∧ w'.heap.size = w.heap.size + 73 := by
  have d1 : decide (s < 1) = false := by rw [decide_eq_false_iff_not]; omega
  have d2 : decide (1000 < s) = false := by rw [decide_eq_false_iff_not]; omega
  obtain ⟨W0, hW0⟩ : ∃ W0, W0 = w.alloc (.cells #[.int .i64 s, .int .u32 0] 36) := ⟨_, rfl⟩
  have r0 : Row w.heap.size 36 #[.int .i64 s, .int .u32 0] W0 := by rw [hW0]; exact Row.new w 36 _
  have c0 : Ch No w W0 := by rw [hW0]; exact Ch.alloc w _
  have z0 : W0.heap.size = w.heap.size + 1 := by rw [hW0]; exact Array.size_push _
  have R0 := Lib.hid r0
  have C0 := Lib.hid c0
  have Z0 := Lib.hid z0
  have HW := Lib.hid hW0
  clear r0 c0 z0 hW0
  go_enter Tryz.func19, Tryz.ntmps19
  go_wp2_with fail
  rw [← HW.out]
  have q0 : W0.cell? ⟨w.heap.size, 0, none⟩ = some (.int .i64 s) := R0.out.cell (j := 0) rfl
  have q1 : W0.cell? ⟨w.heap.size, 1, none⟩ = some (.int .u32 0) := R0.out.cell (j := 1) rfl
  have HK : Hid (∀ W, Ch No W0 W → W.cell? ⟨w.heap.size, 0, none⟩ = some (.int .i64 s) ∧ W.cell? ⟨w.heap.size, 1, none⟩ = some (.int .u32 0)) :=
    Lib.hid (fun W c => ⟨(R0.out.keeps c (fun x => x)).cell (j := 0) rfl, (R0.out.keeps c (fun x => x)).cell (j := 1) rfl⟩)
  go_region_held3 (fun wx => wx.cell? ⟨w.heap.size, 0, none⟩ = some (.int .i64 s) ∧ wx.cell? ⟨w.heap.size, 1, none⟩ = some (.int .u32 0)) (first | exact ⟨by assumption, by assumption⟩ | exact HK.out _ (Ch.trans HC3.out (Ch.alloc _ _))) (first
    | (go_at_call 43; refine (rqNew_any _).mono ?_; rintro e w1 ⟨rfl, hr, hch, hsz⟩; have HR1 := Lib.hid hr; have HC1 := Lib.hid (Ch.trans (w1 := W0.drew) (Ch.drewN W0 1) hch); have HS1 := Lib.hid hsz; have k1 := (HK.out _ HC1.out).1; have k2 := (HK.out _ HC1.out).2; clear hr hch hsz)
    | (go_at_call 44; refine (dlNew_any _).mono ?_; rintro e w2 ⟨rfl, hr, hch, hsz⟩; have HR2 := Lib.hid hr; have HC2 := Lib.hid (HC1.out.trans hch); have HD2 := Lib.hid hch; have HS2 := Lib.hid hsz; have k3 := (HK.out _ HC2.out).1; have k4 := (HK.out _ HC2.out).2; clear hr hch hsz)
    | (go_at_call 45; refine (alNew_any _).mono ?_; rintro e w3 ⟨rfl, hr, hch, hsz⟩; have HR3 := Lib.hid hr; have HC3 := Lib.hid (HC2.out.trans hch); have HD3 := Lib.hid hch; have HS3 := Lib.hid hsz; have k5 := (HK.out _ HC3.out).1; have k6 := (HK.out _ HC3.out).2; clear hr hch hsz))
  show Exit.then _ _ Exit.normal _ (World.alloc w3 (.cells (kcells s W0.heap.size w1.heap.size (w2.heap.size + 2)) 96))
  obtain ⟨W4, hW4⟩ : ∃ W4, W4 = w3.alloc (.cells (kcells s W0.heap.size w1.heap.size (w2.heap.size + 2)) 96) := ⟨_, rfl⟩
  have r4 : Row w3.heap.size 96 (kcells s W0.heap.size w1.heap.size (w2.heap.size + 2)) W4 := by rw [hW4]; exact Row.new w3 96 _
  have c4 : Ch No w3 W4 := by rw [hW4]; exact Ch.alloc w3 _
  have z4 : W4.heap.size = w3.heap.size + 1 := by rw [hW4]; exact Array.size_push _
  rw [← hW4]
  have R4 := Lib.hid r4
  have C4 := Lib.hid c4
  have Z4 := Lib.hid z4
  clear hW4 r4 c4 z4 k1 k2 k3 k4 k5 k6 q0 q1
  go_wp2_with fail
  refine (handNew_any _ 16 (by decide) (by decide)).mono ?_; rintro e w5 ⟨rfl, ht, hch, hsz⟩
  have HT1 := Lib.hid ht
  have C5 := Lib.hid hch
  have Z5 := Lib.hid hsz
  have q2 := (R4.out.keeps hch (fun x => x)).cell (j := 2) rfl
  have f2 := (R4.out.keeps hch (fun x => x)).free 2
  clear ht hch hsz
  go_wp2_with fail
  obtain ⟨W6, hW6⟩ : ∃ W6, W6 = w5.setCell ⟨w3.heap.size, 2, none⟩ (.pointer (some ⟨W4.heap.size, 0, none⟩)) := ⟨_, rfl⟩
  have c6 : Ch (fun k => k = w3.heap.size) w5 W6 := by rw [hW6]; exact Ch.set1 _ _ _ _
  have r6 := (R4.out.keeps C5.out (fun x => x)).set 2 (.pointer (some ⟨W4.heap.size, 0, none⟩))
  have z6 : W6.heap.size = w5.heap.size := by rw [hW6]; simp [World.setCell]
  rw [← hW6] at r6 ⊢
  have R6 := Lib.hid r6
  have C6 := Lib.hid c6
  have Z6 := Lib.hid z6
  clear hW6 c6 r6 z6 q2 f2
  refine (handNew_any _ 32 (by decide) (by decide)).mono ?_; rintro e w7 ⟨rfl, ht, hch, hsz⟩
  have HT2 := Lib.hid ht
  have C7 := Lib.hid hch
  have Z7 := Lib.hid hsz
  have q3 := (R6.out.keeps hch (fun x => x)).cell (j := 3) rfl
  have f3 := (R6.out.keeps hch (fun x => x)).free 3
  clear ht hch hsz
  go_wp2_with fail
  go_ret2
  have r8 := (R6.out.keeps C7.out (fun x => x)).set 3 (.pointer (some ⟨W6.heap.size, 0, none⟩))
  have c8 := Ch.set1 w7 w3.heap.size 3 (.pointer (some ⟨W6.heap.size, 0, none⟩))
  obtain ⟨W8, hW8⟩ : ∃ W8, W8 = w7.setCell ⟨w3.heap.size, 3, none⟩ (.pointer (some ⟨W6.heap.size, 0, none⟩)) := ⟨_, rfl⟩
  have z8 : W8.heap.size = w7.heap.size := by rw [hW8]; simp [World.setCell]
  rw [← hW8] at r8 c8 ⊢
  clear hW8
  have t2 := HT2.out
  have t1 := HT1.out
  have a3 := HR3.out
  have a2 := HR2.out
  have a1 := HR1.out
  have e0 := Z0.out
  have e1 : w1.heap.size = W0.heap.size + 65 := HS1.out
  have e2 := HS2.out
  have e3 := HS3.out
  have e4 := Z4.out
  have e5 := Z5.out
  have e6 := Z6.out
  have e7 := Z7.out
  obtain ⟨B, hB⟩ : ∃ B, B = w.heap.size + 1 := ⟨_, rfl⟩
  rw [show W0.drew.heap.size = B by show W0.heap.size = B; omega] at a1
  rw [show w1.heap.size = B + 65 by omega] at a2
  rw [show w2.heap.size = B + 66 by omega] at a3
  rw [show W4.heap.size = B + 70 by omega] at t1
  rw [show W6.heap.size = B + 71 by omega] at t2 r8
  rw [show w3.heap.size = B + 69 by omega] at r8 c8
  have g8 : Ch (fun k => k = B + 69) w7 W8 := c8
  have g7 : Ch (fun k => k = B + 69) W6 W8 := (C7.out.mono (fun _ _ e => e.elim)).trans g8
  have g5 : Ch (fun k => k = B + 69) w5 W8 := Ch.trans (by have := C6.out; rwa [show w3.heap.size = B + 69 by omega] at this) g7
  have g4 : Ch (fun k => k = B + 69) W4 W8 := (C5.out.mono (fun _ _ e => e.elim)).trans g5
  have g3 : Ch (fun k => k = B + 69) w3 W8 := (C4.out.mono (fun _ _ e => e.elim)).trans g4
  have g2 : Ch (fun k => k = B + 69) w2 W8 := (HD3.out.mono (fun _ _ e => e.elim)).trans g3
  have g1 : Ch (fun k => k = B + 69) w1 W8 := (HD2.out.mono (fun _ _ e => e.elim)).trans g2
  have g0 : Ch (fun k => k = B + 69) W0 W8 := (HC1.out.mono (fun _ _ e => e.elim)).trans g1
  rw [← hB]
  refine ⟨by rw [show w3.heap.size = B + 69 by omega]; rfl, ⟨by omega, ⟨_, r8, rfl, ?_⟩, t1.keeps g5 (by omega), t2.keeps g8 (by omega), a1.keeps g1 (fun k e hb => by simp only [Rqb] at hb; omega), a2.keeps g2 (by omega), a3.keeps g3 (by omega) (by omega)⟩, C0.out.trans' g0 (fun k hk e => by omega), by omega⟩
  rw [show W0.heap.size = B by omega, show w1.heap.size = B + 65 by omega, show w2.heap.size + 2 = B + 68 by omega, show W4.heap.size = B + 70 by omega]
  refine ⟨rfl, rfl, rfl, rfl, fun i hi => ?_, rfl, rfl, rfl⟩
  have h48 := kcells_nil s B (B + 65) (B + 68) (2 + i) (by omega)
  rw [set_get (by show 3 < 55; decide), if_neg (by omega), set_get (by show 2 < 55; decide), if_neg (by omega), show 4 + i = 2 + (2 + i) by omega]
  exact h48
end Go.Proofs.YtcngfaggignmpaaGreatDoor

/-
  The kernel: a new thing, a row.
-/
namespace Go.Proofs.YtcngfaggignmpaaGreatDoor
open Go.RowKit

/-- The kernel with a row, without tasks. -/
def km0 (s : Int) (most : Nat) : KM := ⟨s, 0, fun _ => 0, fun _ => false, fun _ => none, fun _ => [], fun _ => 0, most, [], none, []⟩
theorem oage_eq : upd (fun _ => (0 : Int)) 0 (0 + 1) = oage := by
  funext k
  unfold upd oage
  split <;> rfl
theorem oused_eq : upd (fun _ => false) 0 true = oused := by
  funext k
  unfold upd oused
  by_cases h : k = 0 <;> simp [h]
section
variable {B : Nat} {s : Int} {w : World}
set_option maxHeartbeats 400000 in
theorem kThere0_any (h : KN B s w) : Calls Tryz.prog 22 #[.pointer (some ⟨B + 69, 0, none⟩)] w fun e w' => e = .returned (.bool true) ∧ w = w' := by
  have c : w.cell? ⟨B + 69, 52, none⟩ = some (.pointer (some ⟨B, 0, none⟩)) := by
    obtain ⟨cs, r, _, _, _, _, _, _, e, _⟩ := h.kern
    exact r.cell e
  clear h
  go_enter Tryz.func22, Tryz.ntmps22
  go_wp2_with fail
  go_ret
  exact ⟨rfl, rfl⟩
theorem KN.keeps {S : Nat → Prop} {w' : World} (h : KN B s w) (g : Ch S w w') (hS : ∀ k, S k → B + 72 ≤ k) : KN B s w' := by
  have no : ∀ k, k < B + 72 → ¬ S k := fun k hk e => by have := hS k e; omega
  refine ⟨Nat.le_trans h.size g.size, ?_, h.th.keeps g (no _ (by omega)), h.oh.keeps g (no _ (by omega)), h.ready.keeps g (fun k e hb => by simp only [Rqb] at hb; exact no k (by omega) e), h.sleeps.keeps g (no _ (by omega)), h.alarms.keeps g (no _ (by omega)) (no _ (by omega))⟩
  obtain ⟨cs, r, e⟩ := h.kern
  exact ⟨cs, r.keeps g (no _ (by omega)), e⟩
theorem KN.no {w' : World} (h : KN B s w) (g : Ch No w w') : KN B s w' := h.keeps g (fun _ e => e.elim)

set_option maxRecDepth 100000 in
set_option maxHeartbeats 4000000 in
theorem thingNew_any (most : Nat) (h0 : 1 ≤ most) (h1 : most ≤ 64) (hb : B + 75 ≤ w.heap.size) (h : KN B s w) :
    Calls Tryz.prog 9 #[.pointer (some ⟨B + 69, 0, none⟩), .agg #[.int .u8 3, .int .u32 most, .int .u32 0]] w fun e w' => ∃ T U, e = .returned (.tuple #[.int .u32 256, .int .i64 0]) ∧
      KS B T U (fun i => U + 3 + i) (km0 s most) w' ∧ w.heap.size ≤ T ∧ w'.heap.size = U + 3 ∧ Ch (fun k => k = B + 69 ∨ k = B + 71) w w' := by
  obtain ⟨W0, hW0⟩ : ∃ W0, W0 = w.alloc (.cells #[.int .u8 3, .int .u32 most, .int .u32 0] 43) := ⟨_, rfl⟩
  have r0 : Row w.heap.size 43 #[.int .u8 3, .int .u32 most, .int .u32 0] W0 := by rw [hW0]; exact Row.new w 43 _
  have c0 : Ch No w W0 := by rw [hW0]; exact Ch.alloc w _
  have z0 : W0.heap.size = w.heap.size + 1 := by rw [hW0]; exact Array.size_push _
  have HN := Lib.hid (h.no c0)
  have HSZ := Lib.hid h.size
  have R0 := Lib.hid r0
  have C0 := Lib.hid c0
  have Z0 := Lib.hid z0
  have HW := Lib.hid hW0
  clear r0 c0 z0 hW0 h
  go_enter Tryz.func9, Tryz.ntmps9
  go_wp2_with fail
  rw [← HW.out]
  refine (kThere0_any HN.out).mono ?_; rintro e w1 ⟨rfl, rfl⟩
  have q0 := R0.out.cell (j := 0) rfl
  have q1 := R0.out.cell (j := 1) rfl
  have q2 := R0.out.cell (j := 2) rfl
  go_wp2_with fail
  refine (thNew_any _ most h0 h1).mono ?_; rintro e w2 ⟨rfl, ht, hch, hsz⟩
  have HT1 := Lib.hid ht
  have C2 := Lib.hid hch
  have Z2 := Lib.hid hsz
  have HN2 := Lib.hid (HN.out.no hch)
  have R2 := Lib.hid (R0.out.keeps hch (fun x => x))
  clear q0 q1 q2 ht hch hsz
  have q0 := R2.out.cell (j := 0) rfl
  have ko : w2.cell? ⟨B + 69, 3, none⟩ = some (.pointer (some ⟨B + 71, 0, none⟩)) := by
    obtain ⟨cs, r, _, _, _, _, e, _⟩ := HN2.out.kern
    exact r.cell e
  go_wp2_with fail
  refine (handMake_any _ (B + 71) 32 (fun _ => 0) (fun _ => false) 0 0 (by decide) (by decide) (by decide) (by decide) rfl rfl (fun j hj => absurd hj (by omega)) HN2.out.oh).mono ?_; rintro e w3 ⟨rfl, ht, hch⟩
  rw [oage_eq, oused_eq] at ht
  have HO := Lib.hid ht
  have C3 := Lib.hid hch
  have R3 := Lib.hid (R2.out.keeps hch (by have := HSZ.out; omega))
  have ko : w3.cell? ⟨B + 69, 3, none⟩ = some (.pointer (some ⟨B + 71, 0, none⟩)) := by
    obtain ⟨cs, r, _, _, _, _, e, _⟩ := HN2.out.kern
    exact (r.keeps hch (by omega)).cell e
  clear q0 ht hch
  go_wp2_with fail
  have hp := handPlace_any w3 (B + 71) 32 oage oused 0 1 (by decide) (by decide) (by decide) rfl rfl HO.out
  rw [show (256 * (1 : Int) + ((0 : Nat) : Int)) = 256 by omega] at hp
  refine hp.mono ?_; rintro e w4 ⟨rfl, hch⟩
  have C4 := Lib.hid (C3.out.trans' hch (fun _ _ e => e.elim))
  have HO4 := Lib.hid (HO.out.keeps hch (fun x => x))
  have r4 := R3.out.keeps hch (fun x => x)
  have HT4 : Hid (TH (W0.heap.size + 1) most [] w4) := Lib.hid (HT1.out.keeps C4.out (by have := HSZ.out; have := Z0.out; omega) (by have := HSZ.out; have := Z0.out; omega) (by have := HSZ.out; have := Z0.out; omega))
  have q0 := r4.cell (j := 0) rfl
  have q1 := r4.cell (j := 1) rfl
  have q2 := r4.cell (j := 2) rfl
  have R4 := Lib.hid r4
  clear hp hch r4 ko
  go_wp2_with fail
  have HKR : Hid (∃ cs, Row (B + 69) 96 cs w4 ∧ cs.size = 55 ∧ cs[0]? = some (.int .i64 s) ∧ cs[1]? = some (.int .u32 0) ∧ cs[2]? = some (.pointer (some ⟨B + 70, 0, none⟩)) ∧ cs[3]? = some (.pointer (some ⟨B + 71, 0, none⟩)) ∧
    (∀ i, i < 48 → cs[4 + i]? = some (.pointer none)) ∧ cs[52]? = some (.pointer (some ⟨B, 0, none⟩)) ∧ cs[53]? = some (.pointer (some ⟨B + 65, 0, none⟩)) ∧ cs[54]? = some (.pointer (some ⟨B + 68, 0, none⟩))) := Lib.hid (by
      obtain ⟨cs, r, e⟩ := HN2.out.kern
      exact ⟨cs, r.keeps C4.out (by omega), e⟩)
  have HK : Hid (∀ W, Ch No w4 W → (W.cell? ⟨w.heap.size, 0, none⟩ = some (.int .u8 3) ∧ W.cell? ⟨w.heap.size, 1, none⟩ = some (.int .u32 most) ∧ W.cell? ⟨w.heap.size, 2, none⟩ = some (.int .u32 0)) ∧ W.cell? ⟨B + 69, 20, none⟩ = some (.pointer none) ∧ W.frozen? ⟨B + 69, 20, none⟩ = false) :=
    Lib.hid (fun W c => ⟨⟨(R4.out.keeps c (fun x => x)).cell (j := 0) rfl, (R4.out.keeps c (fun x => x)).cell (j := 1) rfl, (R4.out.keeps c (fun x => x)).cell (j := 2) rfl⟩, by
      obtain ⟨cs, r, _, _, _, _, _, e, _⟩ := HKR.out
      exact ⟨(r.keeps c (fun x => x)).cell (e 16 (by decide)), (r.keeps c (fun x => x)).free 20⟩⟩)
  have HK2 : Hid (∀ W, Ch (fun k => k = B + 69) w4 W → W.cell? ⟨w.heap.size, 0, none⟩ = some (.int .u8 3) ∧ W.cell? ⟨w.heap.size, 1, none⟩ = some (.int .u32 most) ∧ W.cell? ⟨w.heap.size, 2, none⟩ = some (.int .u32 0)) :=
    Lib.hid (fun W c => by
      have hne : ¬ w.heap.size = B + 69 := by have := HSZ.out; omega
      exact ⟨(R4.out.keeps c hne).cell (j := 0) rfl, (R4.out.keeps c hne).cell (j := 1) rfl, (R4.out.keeps c hne).cell (j := 2) rfl⟩)
  go_region_held3 (fun wx => wx.cell? ⟨w.heap.size, 0, none⟩ = some (.int .u8 3) ∧ wx.cell? ⟨w.heap.size, 1, none⟩ = some (.int .u32 most) ∧ wx.cell? ⟨w.heap.size, 2, none⟩ = some (.int .u32 0)) (first | exact ⟨by assumption, by assumption, by assumption⟩ | exact (HK.out _ (Ch.trans C5.out (Ch.alloc _ _))).1 | exact HK2.out _ (Ch.trans (Ch.mono (Ch.trans C5.out (Ch.alloc _ _)) (fun _ _ e => e.elim)) (Ch.set1 _ _ _ _))) (first
    | (go_at_call 27; refine (wqNew_any _).mono ?_; rintro e w5 ⟨rfl, hr, hch, hsz⟩; have HQ := Lib.hid hr; have C5 := Lib.hid (Ch.trans (w1 := w4.drew) (Ch.drewN w4 1) hch); have Z5 := Lib.hid hsz; have k1 := (HK.out _ C5.out).1.1; have k2 := (HK.out _ C5.out).1.2.1; have k3 := (HK.out _ C5.out).1.2.2; have k4 := (HK.out _ C5.out).2.1; have k5 := (HK.out _ C5.out).2.2; have k6 := (HK.out _ (Ch.trans C5.out (Ch.alloc _ (.cells #[.int .u32 256, .int .u8 3, .int .u32 most, .int .u32 0, .pointer (some ⟨W0.heap.size + 1, 0, none⟩), .pointer (some ⟨w4.heap.size + 1, 0, none⟩)] 102)))).2; clear hr hch hsz))
  go_wp2_with fail
  go_ret2
  have z0 := Z0.out
  have z2 := Z2.out
  have hz4 := C4.out.size
  have z5 : w5.heap.size = w4.heap.size + 2 := Z5.out
  obtain ⟨U, hU⟩ : ∃ U, U = w4.heap.size := ⟨_, rfl⟩
  have hq : WQ U (U + 2) none w5 := by rw [hU]; exact HQ.out
  have rq1 : Row (U + 1) 184 #[.pointer (some ⟨U, 0, none⟩)] w5 := hq.1
  have rq2 : Row U 182 #[.int .i64 0, .int .i64 0, .pointer none] w5 := hq.2.2.2
  obtain ⟨W8, hW8⟩ : ∃ W8, W8 = w5.alloc (.cells #[.int .u32 256, .int .u8 3, .int .u32 most, .int .u32 0, .pointer (some ⟨W0.heap.size + 1, 0, none⟩), .pointer (some ⟨w4.heap.size + 1, 0, none⟩)] 102) := ⟨_, rfl⟩
  have r8 : Row w5.heap.size 102 #[.int .u32 256, .int .u8 3, .int .u32 most, .int .u32 0, .pointer (some ⟨W0.heap.size + 1, 0, none⟩), .pointer (some ⟨w4.heap.size + 1, 0, none⟩)] W8 := by rw [hW8]; exact Row.new w5 102 _
  have c8 : Ch No w5 W8 := by rw [hW8]; exact Ch.alloc w5 _
  have z8 : W8.heap.size = w5.heap.size + 1 := by rw [hW8]; exact Array.size_push _
  rw [← hW8]
  obtain ⟨W9, hW9⟩ : ∃ W9, W9 = W8.setCell ⟨B + 69, 20, none⟩ (.pointer (some ⟨w5.heap.size, 0, none⟩)) := ⟨_, rfl⟩
  have c9 : Ch (fun k => k = B + 69) W8 W9 := by rw [hW9]; exact Ch.set1 _ _ _ _
  have z9 : W9.heap.size = W8.heap.size := by rw [hW9]; simp [World.setCell]
  have G5 : Ch (fun k => k = B + 69) w5 W9 := (c8.mono (fun _ _ e => e.elim)).trans c9
  have G : Ch (fun k => k = B + 69) w4 W9 := (C5.out.mono (fun _ _ e => e.elim)).trans G5
  obtain ⟨cs, r, e1, e2, e3, e4, e5, e6, e7, e8, e9⟩ := HKR.out
  have r9 : Row (B + 69) 96 (cs.setIfInBounds 20 (.pointer (some ⟨w5.heap.size, 0, none⟩))) W9 := by rw [hW9]; exact ((r.keeps C5.out (fun x => x)).keeps c8 (fun x => x)).set 20 _
  rw [← hW9]
  clear hW8 hW9
  have es : w5.heap.size = U + 2 := by omega
  rw [es] at r8 r9
  rw [← hU] at r8
  have hse : ∀ j, j ≠ 20 → (cs.setIfInBounds 20 (.pointer (some ⟨U + 2, 0, none⟩)))[j]? = cs[j]? := fun j hj => by rw [set_get (by omega), if_neg (fun e => hj e.symm)]
  have n2 := HN2.out
  refine ⟨W0.heap.size + 1, U, rfl, ⟨by omega, by omega, fun i _ => by omega, fun i j _ _ e => by omega, ⟨_, r9, ?_⟩, ?_, ?_, ?_, ?_, ?_, r8.keeps c9 (by omega), ?_, ?_, fun i t _ ht => by cases ht⟩, by omega, by omega, ?_⟩
  · refine ⟨by simp [e1], ?_, ?_, ?_, ?_, fun i hi => ?_, fun i hi => ?_, ?_, ?_, ?_⟩
    · rw [hse 0 (by decide)]; exact e2
    · rw [hse 1 (by decide)]; exact e3
    · rw [hse 2 (by decide)]; exact e4
    · rw [hse 3 (by decide)]; exact e5
    · rw [hse _ (by omega)]; exact e6 i (by omega)
    · by_cases e : i = 0
      · subst e; rw [set_get (by omega), if_pos rfl, if_pos rfl]
      · rw [hse _ (by omega), if_neg e, show 20 + i = 4 + (16 + i) by omega]; exact e6 _ (by omega)
    · rw [hse 52 (by decide)]; exact e7
    · rw [hse 53 (by decide)]; exact e8
    · rw [hse 54 (by decide)]; exact e9
  · exact (n2.th.keeps C4.out (by omega)).keeps G (by omega)
  · exact HO4.out.keeps G (by omega)
  · exact (n2.ready.keeps C4.out (fun k e hk => by simp only [Rqb] at hk; omega)).keeps G (fun k e hk => by simp only [Rqb] at hk; omega)
  · exact ((n2.sleeps.keeps C4.out (by omega)).keeps G (by omega)).dl _
  · exact (n2.alarms.keeps C4.out (by omega) (by omega)).keeps G (by omega) (by omega)
  · exact HT4.out.keeps G (by omega) (by omega) (by omega)
  · exact ⟨rq1.keeps G5 (by omega), by omega, by omega, rq2.keeps G5 (by omega)⟩
  · exact (((C0.out.mono (fun _ _ e => e.elim)).trans (C2.out.mono (fun _ _ e => e.elim))).trans (C4.out.mono (fun _ _ e => .inr e))).trans (G.mono (fun _ _ e => .inl e))
end
end Go.Proofs.YtcngfaggignmpaaGreatDoor

/-
  The kernel: answers.
-/
namespace Go.Proofs.YtcngfaggignmpaaGreatDoor
open Go.RowKit

section
variable {B T U : Nat} {tb : Nat → Nat} {m : KM} {w : World} {i : Nat} {t : TM}
theorem told_cells (U i : Nat) (t : TM) (e v : Int) : ((((tcells i t U).setIfInBounds 11 (.int .i64 (t.ans + 1))).setIfInBounds 12 (.int .i64 e)).setIfInBounds 13 (.int .u32 v)) = tcells i (KM.told t e v) U := by
  cases h : t.wait <;> simp [tcells, KM.told, h]
theorem freed_cells (U i : Nat) (t : TM) : (tcells i (KM.cut t) U).setIfInBounds 1 (.int .u8 1) = tcells i (KM.freed t) U := by
  simp [tcells, KM.cut, KM.freed]
theorem told_row {p : Nat} {e v : Int} (h : Row p 127 (tcells i t U) w) : Row p 127 (tcells i (KM.told t e v) U) (((w.setCell ⟨p, 11, none⟩ (.int .i64 (t.ans + 1))).setCell ⟨p, 12, none⟩ (.int .i64 e)).setCell ⟨p, 13, none⟩ (.int .u32 v)) := by
  have := ((h.set 11 (.int .i64 (t.ans + 1))).set 12 (.int .i64 e)).set 13 (.int .u32 v)
  rw [told_cells] at this
  exact this
theorem told_ch (w : World) (p : Nat) (a e v : Value) : Ch (fun k => k = p) w (((w.setCell ⟨p, 11, none⟩ a).setCell ⟨p, 12, none⟩ e).setCell ⟨p, 13, none⟩ v) := ((Ch.set1 w p _ _).trans (Ch.set1 _ p _ _)).trans (Ch.set1 _ p _ _)
theorem KM.setT_tk (m : KM) (i : Nat) (t : TM) : (m.setT i t).tk i = some t := upd_at _ _ _

set_option maxRecDepth 100000 in
set_option maxHeartbeats 4000000 in
theorem answers_any (e v : Int) (h : KS B T U tb m w) (hc : Cons m) (hi : i < 16) (ht : m.tk i = some t) (hr : t.rank < 32) (hw : t.on = true → ∃ r, m.wl = some (i, r)) (hs : Awake m i) (ha : 0 ≤ t.ans ∧ t.ans < 1000000000) :
    Calls Tryz.prog 70 #[.pointer (some ⟨B + 69, 0, none⟩), .int .i64 i, .int .i64 e, .int .u32 v] w fun x w' => x = .returned (.tuple #[]) ∧ KS B T U tb (m.answers i t e v) w' ∧ Ch (Sk B T U w) w w' := by
  have H := Lib.hid h
  have HC := Lib.hid hc
  have HT := Lib.hid ht
  have HW := Lib.hid hw
  have HS := Lib.hid hs
  have c1 := h.cTask hi ht
  have hrow := h.task i t hi ht
  have c2 : w.cell? ⟨tb i, 11, none⟩ = some (.int .i64 t.ans) := hrow.cell (j := 11) rfl
  have c3 := hrow.cell (j := 12) rfl
  have c4 := hrow.cell (j := 13) rfl
  have f2 := hrow.free 11
  have f3 := hrow.free 12
  have f4 := hrow.free 13
  have HR := Lib.hid hrow
  have hi1 : 0 ≤ (i : Int) ∧ (i : Int) < 16 := by omega
  have hw64 : wrap64 (t.ans + 1) = t.ans + 1 := by unfold wrap64; omega
  have c5 := h.tCell hi ht (tcells_state i U t)
  have HA := Lib.hid ha
  clear h hc ht hw hs hrow ha
  cases hwait : t.wait
  · rw [hwait] at c5
    have HWT := Lib.hid hwait
    clear hwait
    go_enter Tryz.func70, Tryz.ntmps70
    go_wp2_with fail
    (try simp only [Exit.inBlock, Exit.then]); refine bodyPost_ret (results_none rfl _ _ _) rfl ?_
    have hfin := H.out.task' (told_ch w (tb i) (.int .i64 (t.ans + 1)) (.int .i64 e) (.int .u32 v)) hi HT.out (t' := KM.told t e v) (told_row HR.out)
    have he : m.answers i t e v = m.setT i (KM.told t e v) := by unfold KM.answers; rw [HWT.out]; rfl
    rw [he]
    exact ⟨rfl, hfin.1, hfin.2⟩
  · rw [hwait] at c5
    have HWT := Lib.hid hwait
    clear hwait
    go_enter Tryz.func70, Tryz.ntmps70
    go_wp2_with fail
    have hfin := H.out.task' (told_ch w (tb i) (.int .i64 (t.ans + 1)) (.int .i64 e) (.int .u32 v)) hi HT.out (t' := KM.told t e v) (told_row HR.out)
    have HF := Lib.hid hfin
    refine (stops_any (m := m.setT i (KM.told t e v)) HF.out.1 HC.out hi (KM.setT_tk _ _ _) HW.out HS.out).mono ?_; rintro x w2 ⟨rfl, hk2, hch2⟩
    have ht2 : (((m.setT i (KM.told t e v)).stops i (KM.told t e v))).tk i = some (KM.cut (KM.told t e v)) := KM.setT_tk _ _ _
    have hrow2 := hk2.task i _ hi ht2
    have d1 := hrow2.cell (j := 1) rfl
    have g1 := hrow2.free 1
    have d2 : w2.cell? ⟨tb i, 2, none⟩ = some (.bool false) := hrow2.cell (j := 2) rfl
    have HR2 := Lib.hid hrow2
    have HT2 := Lib.hid ht2
    have HK2 := Lib.hid hk2
    have HCH2 := Lib.hid hch2
    have HC2 : Hid (Cons ((m.setT i (KM.told t e v)).stops i (KM.told t e v))) := Lib.hid (Cons.rm (m := (m.setT i (KM.told t e v)).noWait t.on) (i := i) HC.out (by omega))
    clear hfin hk2 hch2 hrow2 ht2 c1 c2 c3 c4 c5 f2 f3 f4
    go_wp2_with fail
    have hrow3 : Row (tb i) 127 (tcells i (KM.freed (KM.told t e v)) U) (w2.setCell ⟨tb i, 1, none⟩ (.int .u8 1)) := by
      have := HR2.out.set 1 (.int .u8 1)
      rw [freed_cells] at this
      exact this
    have hk3 := HK2.out.task' (Ch.set1 w2 (tb i) 1 (.int .u8 1)) hi HT2.out (t' := KM.freed (KM.told t e v)) hrow3
    have HK3 := Lib.hid hk3
    refine (joins_any (t := KM.freed (KM.told t e v)) HK3.out.1 HC2.out hi (KM.setT_tk _ _ _) hr).mono ?_; rintro x w4 ⟨rfl, hk4, hch4⟩
    have HK4 := Lib.hid hk4
    have HCH4 := Lib.hid hch4
    clear hrow3 hk3 hk4 hch4
    go_wp2_with fail
    go_end0
    have he : m.answers i t e v = (((m.setT i (KM.told t e v)).stops i (KM.told t e v)).setT i (KM.freed (KM.told t e v))).joins i (KM.freed (KM.told t e v)) := by unfold KM.answers; rw [HWT.out]; rfl
    rw [he]
    exact ⟨rfl, HK4.out, ((HF.out.2.tr HCH2.out).tr HK3.out.2).tr HCH4.out⟩
end
end Go.Proofs.YtcngfaggignmpaaGreatDoor
