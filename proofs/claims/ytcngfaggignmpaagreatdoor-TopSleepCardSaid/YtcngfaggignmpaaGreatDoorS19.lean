/-
  The top, part 19: Tell, Rules.
-/
import Derived.Test.YtcngfaggignmpaaGreatDoorS18
import Derived.Laws.EntriesVeiled

/-
  The core of a task: it says something.
-/
namespace Go.Proofs.YtcngfaggignmpaaGreatDoor
open Go.RowKit

theorem info5 : (Tryz.prog.info? 5).map (fun i => (i.zero, i.size, i.bytes)) = some (some (.int .u8 0), 1, 1) := by kernel_rfl
section
variable {g : CG} {sv : Value} {m : CM} {w w2 : World}
theorem core_reg {a : Nat} (h : Row g.b 191 (ccells g sv m) w) (ha : a < 8) : w.cell? ⟨g.b, a, none⟩ = some (.int .u32 (m.r a)) :=
  h.cell (by match a, ha with | 0, _ => rfl | 1, _ => rfl | 2, _ => rfl | 3, _ => rfl | 4, _ => rfl | 5, _ => rfl | 6, _ => rfl | 7, _ => rfl)
theorem okS3 {wx : World} {bx o a b c : Nat} (k : Row g.b 191 (ccells g sv m) wx) (r : Row bx 49 #[.int .u8 o, .int .u8 a, .int .u8 b, .int .u8 c] wx) (ha : a < 8) :
    wx.cell? ⟨bx, 1, none⟩ = some (.int .u8 a) ∧ wx.cell? ⟨g.b, a, none⟩ = some (.int .u32 (m.r a)) := ⟨r.cell (j := 1) rfl, core_reg k ha⟩
theorem okS4 {wx : World} {bx o a b c : Nat} {v : Value} (k : Row g.b 191 (ccells g sv m) wx) (r : Row bx 49 #[.int .u8 o, .int .u8 a, .int .u8 b, .int .u8 c] wx) (ha : a < 8) :
    (wx.setCell ⟨g.b, 11, none⟩ v).cell? ⟨bx, 1, none⟩ = some (.int .u8 a) ∧ (wx.setCell ⟨g.b, 11, none⟩ v).cell? ⟨g.b, a, none⟩ = some (.int .u32 (m.r a)) := by
  have hne : bx ≠ g.b := fun e => by rw [e] at r; exact absurd (r.ty k) (by decide)
  exact ⟨(r.other hne _ _).cell (j := 1) rfl, core_reg (g := g) (sv := v) (m := m) (k.set 11 v) ha⟩
theorem Ch.ofGrown {o : Option Nat} (h : w.grownBy w2 o) : Ch (fun k => o = some k) w w2 :=
  ⟨h.os, h.tape, h.output, h.size, fun k hk hn => h.block k hk (fun e => hn e.symm)⟩
/-- More is said, and the core knows of it. -/
theorem CO.said {sv' : Value} {x : Int} (h : CO g sv m w) (c : Ch (fun k => sv.ownBlock = some k) w w2) (ho : w2.ownsRow g.lo 5 1 sv' (m.says.length + 1) (m.says.map (Value.int .u8) ++ [.int .u8 x])) :
    Row g.b 191 (ccells g sv m) w2 ∧ CO g sv' { m with says := m.says ++ [x] } (w2.setCell ⟨g.b, 11, none⟩ sv') ∧ Ch (fun k => k = g.b ∨ sv.ownBlock = some k) w (w2.setCell ⟨g.b, 11, none⟩ sv') := by
  have hs := h.neSays
  have hn := h.neCode
  obtain ⟨cs, rc, hc⟩ := h.code
  have k1 : Row g.b 191 (ccells g sv m) w2 := h.core.keeps c (fun e => (hs _ e).1 rfl)
  have k2 : Row g.cb 49 cs w2 := rc.keeps c (fun e => (hs _ e).2 rfl)
  have c2 := Ch.set1 w2 g.b 11 sv'
  refine ⟨k1, ⟨k1.set 11 sv', ⟨cs, k2.keeps c2 hn, hc⟩, ?_⟩, (c.mono (fun _ _ e => .inr e)).trans (c2.mono (fun _ _ e => .inl e))⟩
  have e : (m.says ++ [x]).map (Value.int .u8) = m.says.map (Value.int .u8) ++ [.int .u8 x] := by simp
  show World.ownsRow _ g.lo 5 1 sv' (m.says ++ [x]).length ((m.says ++ [x]).map (Value.int .u8))
  rw [e, List.length_append]
  refine own_keeps ho c2 (fun k hk ek => ?_)
  rcases ho.2 with ⟨e0, _⟩ | ⟨q, cap, cur, e0, hb, hg, _⟩
  · rw [e0] at hk; cases hk
  · have hq : k = q := by rw [e0] at hk; simp [Value.ownBlock] at hk; exact hk.symm
    subst hq
    subst ek
    exact absurd ((show Row g.b 5 cur w2 from hg).ty k1) (by decide)

theorem CO.notBox {bx : Nat} {cs : Array Value} (h : CO g sv m w) (r : Row bx 49 cs w) : sv.ownBlock ≠ some bx := fun e => by
  rcases h.says.2 with ⟨e0, _⟩ | ⟨q, cap, cur, e0, hb, hg, _⟩
  · rw [e0] at e; cases e
  · have hq : bx = q := by rw [e0] at e; simp [Value.ownBlock] at e; exact e.symm
    subst hq
    exact absurd ((show Row bx 5 cur w from hg).ty r) (by decide)

/-- A number is said. -/
def CM.tell (m : CM) (x : Int) : CM := { m with says := m.says ++ [x] }
set_option linter.unusedSimpArgs false in
set_option maxRecDepth 100000 in
set_option maxHeartbeats 4000000 in
theorem tell_any (a : Nat) (ha : a < 8) (hlen : m.says.length < 250) (hlo : g.lo ≤ w.heap.size) (h : CO g sv m w) :
    Calls Tryz.prog 118 #[.pointer (some ⟨g.b, 0, none⟩), inV ⟨20, a, 0, 0⟩] w fun e w' => ∃ sv', e = .returned (.int .i64 0) ∧ CO g sv' (m.tell (m.r a % 256)) w' ∧ Ch (fun k => k = g.b ∨ sv.ownBlock = some k) w w' := by
  obtain ⟨i0, hi, hz0, hz1, hz2⟩ := info_parts info5
  have ha1 : 0 ≤ (a : Int) ∧ (a : Int) < 8 := by omega
  have r0 := boxed w (.int .u8 20) (.int .u8 a) (.int .u8 0) (.int .u8 0)
  obtain ⟨W0, hW0⟩ : ∃ W0, W0 = w.alloc (.cells #[.int .u8 20, .int .u8 a, .int .u8 0, .int .u8 0] 49) := ⟨_, rfl⟩
  have k1 : CO g sv m W0 := by rw [hW0]; exact h.no (Ch.alloc w _)
  have hc0 : Ch No w W0 := by rw [hW0]; exact Ch.alloc w _
  rw [← hW0] at r0
  have d1 := k1.cSays
  have d2 := k1.free 11
  have hlo0 : g.lo ≤ W0.heap.size := Nat.le_trans hlo hc0.size
  have K1 := Lib.hid k1
  have R0 := Lib.hid r0
  have HC0 := Lib.hid hc0
  have HW0 := Lib.hid hW0
  clear h k1 r0 hc0 hW0
  unfold inV
  go_enter Tryz.func118, Tryz.ntmps118
  go_wp2_with fail
  rw [← HW0.out]
  refine wp_region_held_drew (S := (fun wx => wx.cell? ⟨w.heap.size, 1, none⟩ = some (.int .u8 a) ∧ wx.cell? ⟨g.b, a, none⟩ = some (.int .u32 (m.r a)))) (by kernel_rfl) ?_ (fun hHeld => ?_)
  · first | exact okS3 (K1.out.drewN 1).core (R0.out.drewN 1) ha | exact okS3 K2.out.core R2.out ha | exact okS3 CO3.out R3.out ha | exact okS4 CO3.out R3.out ha
  refine wpAnyH_take (i := 0) (v := ?_) rfl (by kernel_rfl) (by kernel_rfl) (by kernel_rfl) (fun _ _ _ h => h) (Or.inl ⟨by rfl, by intro wx hSw; (try dsimp only at hSw); go_simp; (try with_reducible rfl)⟩) (by assumption) ?_
  (try simp only [List.getElem_toArray, List.getElem_cons_succ, List.getElem_cons_zero, Act.put, List.setIfInBounds_toArray, List.set_cons_succ, List.set_cons_zero])
  refine wpAnyH_take (i := 1) (v := ?_) rfl (by kernel_rfl) (by kernel_rfl) (by kernel_rfl) (fun _ _ _ h => h) (Or.inl ⟨by rfl, by intro wx hSw; (try dsimp only at hSw); go_simp; (try with_reducible rfl)⟩) (by assumption) ?_
  (try simp only [List.getElem_toArray, List.getElem_cons_succ, List.getElem_cons_zero, Act.put, List.setIfInBounds_toArray, List.set_cons_succ, List.set_cons_zero])
  refine wpAnyH_take (i := 2) (v := ?_) rfl (by kernel_rfl) (by kernel_rfl) (by kernel_rfl) (fun _ _ _ h => h) (Or.inl ⟨by rfl, by intro wx hSw; (try dsimp only at hSw); go_simp; (try with_reducible rfl)⟩) (by assumption) ?_
  (try simp only [List.getElem_toArray, List.getElem_cons_succ, List.getElem_cons_zero, Act.put, List.setIfInBounds_toArray, List.set_cons_succ, List.set_cons_zero])
  refine wpAnyH_take (i := 3) (v := ?_) rfl (by kernel_rfl) (by kernel_rfl) (by kernel_rfl) (fun _ _ _ h => h) (Or.inl ⟨by rfl, by intro wx hSw; (try dsimp only at hSw); go_simp; (try with_reducible rfl)⟩) (by assumption) ?_
  (try simp only [List.getElem_toArray, List.getElem_cons_succ, List.getElem_cons_zero, Act.put, List.setIfInBounds_toArray, List.set_cons_succ, List.set_cons_zero])
  refine wpAnyH_take (i := 5) (v := ?_) rfl (by kernel_rfl) (by kernel_rfl) (by kernel_rfl) (fun _ _ _ h => h) (Or.inl ⟨by rfl, by intro wx hSw; (try dsimp only at hSw); go_simp; (try with_reducible rfl)⟩) (by assumption) ?_
  (try simp only [List.getElem_toArray, List.getElem_cons_succ, List.getElem_cons_zero, Act.put, List.setIfInBounds_toArray, List.set_cons_succ, List.set_cons_zero])
  refine wpAnyH_take (i := 6) (v := ?_) rfl (by kernel_rfl) (by kernel_rfl) (by kernel_rfl) (fun _ _ _ h => h) (Or.inl ⟨by rfl, by intro wx hSw; (try dsimp only at hSw); go_simp; (try with_reducible rfl)⟩) (by assumption) ?_
  (try simp only [List.getElem_toArray, List.getElem_cons_succ, List.getElem_cons_zero, Act.put, List.setIfInBounds_toArray, List.set_cons_succ, List.set_cons_zero])
  refine wpAnyH_take (i := 7) (v := ?_) rfl (by kernel_rfl) (by kernel_rfl) (by kernel_rfl) (fun _ _ _ h => h) (Or.inl ⟨by rfl, by intro wx hSw; (try dsimp only at hSw); go_simp; (try with_reducible rfl)⟩) (by assumption) ?_
  (try simp only [List.getElem_toArray, List.getElem_cons_succ, List.getElem_cons_zero, Act.put, List.setIfInBounds_toArray, List.set_cons_succ, List.set_cons_zero])
  refine wpAnyH_take (i := 8) (v := ?_) rfl (by kernel_rfl) (by kernel_rfl) (by kernel_rfl) (fun _ _ _ h => h) (Or.inl ⟨by rfl, by intro wx hSw; (try dsimp only at hSw); go_simp; (try with_reducible rfl)⟩) (by assumption) ?_
  (try simp only [List.getElem_toArray, List.getElem_cons_succ, List.getElem_cons_zero, Act.put, List.setIfInBounds_toArray, List.set_cons_succ, List.set_cons_zero])
  refine wpAnyH_take (i := 9) (v := ?_) rfl (by kernel_rfl) (by kernel_rfl) (by kernel_rfl) (fun _ _ _ h => h) (Or.inl ⟨by rfl, by intro wx hSw; (try dsimp only at hSw); go_simp; (try with_reducible rfl)⟩) (by assumption) ?_
  (try simp only [List.getElem_toArray, List.getElem_cons_succ, List.getElem_cons_zero, Act.put, List.setIfInBounds_toArray, List.set_cons_succ, List.set_cons_zero])
  refine wpAnyH_take (i := 10) (v := ?_) rfl (by kernel_rfl) (by kernel_rfl) (by kernel_rfl) (fun _ _ _ h => h) (Or.inl ⟨by rfl, by intro wx hSw; (try dsimp only at hSw); go_simp; (try with_reducible rfl)⟩) (by assumption) ?_
  (try simp only [List.getElem_toArray, List.getElem_cons_succ, List.getElem_cons_zero, Act.put, List.setIfInBounds_toArray, List.set_cons_succ, List.set_cons_zero])
  refine wpAnyH_take (i := 11) (v := ?_) rfl (by kernel_rfl) (by kernel_rfl) (by kernel_rfl) (fun _ _ _ h => h) (Or.inl ⟨by rfl, by intro wx hSw; (try dsimp only at hSw); go_simp; (try with_reducible rfl)⟩) (by assumption) ?_
  (try simp only [List.getElem_toArray, List.getElem_cons_succ, List.getElem_cons_zero, Act.put, List.setIfInBounds_toArray, List.set_cons_succ, List.set_cons_zero])
  refine wpAnyH_take (i := 12) (v := ?_) rfl (by kernel_rfl) (by kernel_rfl) (by kernel_rfl) (fun _ _ _ h => h) (Or.inl ⟨by rfl, by intro wx hSw; (try dsimp only at hSw); go_simp; (try with_reducible rfl)⟩) (by assumption) ?_
  (try simp only [List.getElem_toArray, List.getElem_cons_succ, List.getElem_cons_zero, Act.put, List.setIfInBounds_toArray, List.set_cons_succ, List.set_cons_zero])
  refine wpAnyH_ready (rs := [4, 13]) (by kernel_rfl) (by simp) ?_
  refine AllReadyH.cons rfl (fun K hK => ?_) (AllReadyH.cons rfl (fun K hK => ?_) AllReadyH.nil)
  rotate_left
  go_simp
  have c2 : Ch No W0 (W0.alloc (.cells #[.int .u8 (IntKind.u8.wrap (m.r a))] 5)).drew := (Ch.alloc W0 _).trans (Ch.drewN _ 1)
  have K2 := Lib.hid (K1.out.no c2)
  have R2 := Lib.hid (R0.out.keeps c2 (fun x => x))
  have C2 := Lib.hid (HC0.out.trans c2)
  have N2 := Lib.hid ((Row.new W0 5 #[.int .u8 (IntKind.u8.wrap (m.r a))]).drewN 1)
  have hlo2 : g.lo ≤ (W0.alloc (.cells #[.int .u8 (IntKind.u8.wrap (m.r a))] 5)).drew.heap.size := Nat.le_trans hlo0 c2.size
  clear c2
  have d3 := K2.out.cSays
  refine hK.out _ _ ?_ (fun hHeld2 => ?_)
  · first | exact okS3 (K1.out.drewN 1).core (R0.out.drewN 1) ha | exact okS3 K2.out.core R2.out ha | exact okS3 CO3.out R3.out ha | exact okS4 CO3.out R3.out ha
  clear hK K
  (try simp only [List.getElem_toArray, List.getElem_cons_succ, List.getElem_cons_zero, Act.put, List.setIfInBounds_toArray, List.set_cons_succ, List.set_cons_zero])
  refine wpAnyH_ready (rs := [4]) (by kernel_rfl) (by simp) ?_
  refine AllReadyH.cons rfl (fun K hK => ?_) AllReadyH.nil
  go_simp
  skip
  refine hK.out _ _ ?_ (fun hHeld2 => ?_)
  · first | exact okS3 (K1.out.drewN 1).core (R0.out.drewN 1) ha | exact okS3 K2.out.core R2.out ha | exact okS3 CO3.out R3.out ha | exact okS4 CO3.out R3.out ha
  clear hK K
  (try simp only [List.getElem_toArray, List.getElem_cons_succ, List.getElem_cons_zero, Act.put, List.setIfInBounds_toArray, List.set_cons_succ, List.set_cons_zero])
  rotate_left
  go_simp
  skip
  refine hK.out _ _ ?_ (fun hHeld2 => ?_)
  · first | exact okS3 (K1.out.drewN 1).core (R0.out.drewN 1) ha | exact okS3 K2.out.core R2.out ha | exact okS3 CO3.out R3.out ha | exact okS4 CO3.out R3.out ha
  clear hK K
  (try simp only [List.getElem_toArray, List.getElem_cons_succ, List.getElem_cons_zero, Act.put, List.setIfInBounds_toArray, List.set_cons_succ, List.set_cons_zero])
  refine wpAnyH_ready (rs := [13]) (by kernel_rfl) (by simp) ?_
  refine AllReadyH.cons rfl (fun K hK => ?_) AllReadyH.nil
  go_simp
  have c2 : Ch No W0 (W0.alloc (.cells #[.int .u8 (IntKind.u8.wrap (m.r a))] 5)).drew := (Ch.alloc W0 _).trans (Ch.drewN _ 1)
  have K2 := Lib.hid (K1.out.no c2)
  have R2 := Lib.hid (R0.out.keeps c2 (fun x => x))
  have C2 := Lib.hid (HC0.out.trans c2)
  have N2 := Lib.hid ((Row.new W0 5 #[.int .u8 (IntKind.u8.wrap (m.r a))]).drewN 1)
  have hlo2 : g.lo ≤ (W0.alloc (.cells #[.int .u8 (IntKind.u8.wrap (m.r a))] 5)).drew.heap.size := Nat.le_trans hlo0 c2.size
  clear c2
  refine hK.out _ _ ?_ (fun hHeld2 => ?_)
  · first | exact okS3 (K1.out.drewN 1).core (R0.out.drewN 1) ha | exact okS3 K2.out.core R2.out ha | exact okS3 CO3.out R3.out ha | exact okS4 CO3.out R3.out ha
  clear hK K
  (try simp only [List.getElem_toArray, List.getElem_cons_succ, List.getElem_cons_zero, Act.put, List.setIfInBounds_toArray, List.set_cons_succ, List.set_cons_zero])
  all_goals
    refine wpAnyH_ready (rs := [14]) (by kernel_rfl) (by simp) ?_
    refine AllReadyH.cons rfl (fun K hK => ?_) AllReadyH.nil
    rw [if_pos (by rfl)]
    refine wp_append_own _ _ _ 22 rfl g.lo 5 i0 (.int .u8 0) 1 1 Tryz.underlying22 hi hz0 hz1 hz2 rfl (by decide) sv m.says.length (m.says.map (Value.int .u8)) rfl K2.out.says ⟨W0.heap.size, 0, none⟩ 1 1 [.int .u8 (IntKind.u8.wrap (m.r a))] rfl rfl ?c1 ?c2 ?c3 ?c4 ?c5 ?_
    case c1 =>
      intro j u hj
      match j, hj with
      | 0, hj => simp at hj; subst hj; exact N2.out.cell (j := 0) rfl
    case c2 => intro u hu; simp at hu; subst hu; rfl
    case c3 => unfold maxLen; omega
    case c4 => omega
    case c5 => exact hlo2
    intro v' w3 hown hgrow _
    obtain ⟨q, cap, rfl⟩ : ∃ q cap, v' = .slice (some ⟨q, 0, none⟩) (m.says.length + 1) cap := by
      rcases hown.2 with ⟨_, e0⟩ | ⟨q, cap, _, e0, _⟩
      · exact absurd e0 (by omega)
      · exact ⟨q, cap, e0⟩
    have hsaid := K2.out.said (Ch.ofGrown hgrow) (x := IntKind.u8.wrap (m.r a)) hown
    have CO3 := Lib.hid hsaid.1
    have R3 := Lib.hid (R2.out.keeps (Ch.ofGrown hgrow) (fun e => K2.out.notBox R2.out e))
    have e1 := CO3.out.cell (j := 11) rfl
    have e2 := CO3.out.free 11
    have CS := Lib.hid hsaid.2
    have HOWN := Lib.hid hown
    clear hsaid hown hgrow
    refine hK.out _ _ ?_ (fun hHeld2 => ?_)
    · first | exact okS3 (K1.out.drewN 1).core (R0.out.drewN 1) ha | exact okS3 K2.out.core R2.out ha | exact okS3 CO3.out R3.out ha | exact okS4 CO3.out R3.out ha
    clear hK K
    (try simp only [List.getElem_toArray, List.getElem_cons_succ, List.getElem_cons_zero, Act.put, List.setIfInBounds_toArray, List.set_cons_succ, List.set_cons_zero])
    refine wpAnyH_take (i := 15) (v := ?_) rfl (by kernel_rfl) (by kernel_rfl) (by kernel_rfl) (fun _ _ _ h => h) (Or.inl ⟨by rfl, by intro wx hSw; (try dsimp only at hSw); go_simp; (try with_reducible rfl)⟩) (by assumption) ?_
    (try simp only [List.getElem_toArray, List.getElem_cons_succ, List.getElem_cons_zero, Act.put, List.setIfInBounds_toArray, List.set_cons_succ, List.set_cons_zero])
    refine wpAnyH_take (i := 16) (v := ?_) rfl (by kernel_rfl) (by kernel_rfl) (by kernel_rfl) (fun _ _ _ h => h) (Or.inl ⟨by rfl, by intro wx hSw; (try dsimp only at hSw); go_simp; (try with_reducible rfl)⟩) (by assumption) ?_
    (try simp only [List.getElem_toArray, List.getElem_cons_succ, List.getElem_cons_zero, Act.put, List.setIfInBounds_toArray, List.set_cons_succ, List.set_cons_zero])
    refine wpAnyH_ready (rs := [17]) (by kernel_rfl) (by simp) ?_
    refine AllReadyH.cons rfl (fun K hK => ?_) AllReadyH.nil
    go_simp
    skip
    refine hK.out _ _ ?_ (fun hHeld2 => ?_)
    · first | exact okS3 (K1.out.drewN 1).core (R0.out.drewN 1) ha | exact okS3 K2.out.core R2.out ha | exact okS3 CO3.out R3.out ha | exact okS4 CO3.out R3.out ha
    clear hK K
    (try simp only [List.getElem_toArray, List.getElem_cons_succ, List.getElem_cons_zero, Act.put, List.setIfInBounds_toArray, List.set_cons_succ, List.set_cons_zero])
    refine wpAnyH_done (by kernel_rfl) ?_ _
    have f1 := CS.out.1.cSays
    have f2 := CS.out.1.free 11
    have hl2 : (0 : Int) ≤ (m.says.length : Int) + 1 ∧ (m.says.length : Int) + 1 < 256 := by omega
    have hmx : max (0 : Int) ((m.says.length : Int) + 1 - 256) = 0 := by omega
    have hcap : m.says.length + 1 ≤ cap := by
      rcases HOWN.out.2 with ⟨e0, _⟩ | ⟨q', cap', _, e0, _, _, hle, _⟩
      · cases e0
      · cases e0; exact hle
    have hcap2 : (m.says.length : Int) + 1 ≤ (cap : Int) := by omega
    clear hHeld2 e1 e2
    obtain ⟨W4, hW4⟩ : ∃ W4, W4 = w3.setCell ⟨g.b, 11, none⟩ (.slice (some ⟨q, 0, none⟩) (m.says.length + 1) cap) := ⟨_, rfl⟩
    rw [← hW4] at CS f1 f2 ⊢
    clear hW4
    go_wp2_with fail
    go_region
    all_goals
      go_wp2_with fail
      go_ret
      have hx : IntKind.u8.wrap (m.r a) = m.r a % 256 := IntKind.wrap_u8 _
      have c5 := Ch.set1 W4 g.b 11 (.slice (some ⟨q, 0, none⟩) (m.says.length + 1) cap)
      have k5 : CO g (.slice (some ⟨q, 0, none⟩) (m.says.length + 1) cap) (m.tell (IntKind.u8.wrap (m.r a))) (W4.setCell ⟨g.b, 11, none⟩ (.slice (some ⟨q, 0, none⟩) (m.says.length + 1) cap)) :=
        CS.out.1.turn c5 (CS.out.1.core.set 11 (.slice (some ⟨q, 0, none⟩) (m.says.length + 1) cap)) rfl
      rw [hx] at k5
      exact ⟨_, rfl, k5.drewN 1, ((C2.out.mono (fun _ _ s => s.elim)).trans (CS.out.2)).trans ((c5.mono (fun _ _ e => .inl e)).trans (Ch.drewN _ 1))⟩
end
end Go.Proofs.YtcngfaggignmpaaGreatDoor

/-
  The core's rules: a map of functions.
-/
namespace Go.Proofs.YtcngfaggignmpaaGreatDoor
open Go.RowKit Go.ChangeMaps Go.MapKept

/-- The rules' keys, their functions, whether they hold the box, and their places, in the order in which they are laid. -/
def ruleRow : List (Nat × Nat × Bool × Nat) :=
  [(0, 103, false, 0), (1, 104, false, 1), (2, 105, false, 2), (11, 106, true, 3), (13, 109, true, 4), (12, 112, true, 5), (14, 115, true, 6), (19, 117, false, 7), (20, 118, false, 8), (3, 119, false, 9), (4, 119, false, 10), (5, 119, false, 11), (6, 119, false, 12), (7, 119, false, 13), (8, 119, false, 14), (9, 119, false, 15), (10, 119, false, 16), (15, 121, false, 17), (16, 121, false, 18), (17, 121, false, 19), (18, 121, false, 20)]
def ruleV (bx f : Nat) (b : Bool) : Value := .agg #[.func (.func f) #[] (if b then #[.pointer (some ⟨bx, 0, none⟩)] else #[])]
def ruleEnt (bx : Nat) (x : Nat × Nat × Bool × Nat) : MapEntry := ⟨.int .u8 x.1, ruleV bx x.2.1 x.2.2.1, x.2.2.2⟩
/-- The first so many of them. -/
def ruleArr (bx : Nat) (n : Nat) : Array MapEntry := ((ruleRow.take n).map (ruleEnt bx)).toArray

theorem find_none (k : Int) : ∀ (l : List MapEntry) (i : Nat), (∀ e ∈ l, ∃ k' : Int, e.key = .int .u8 k' ∧ k ≠ k') → Instr.findNow (.int .u8) (.int .u8 k) l i = some none
  | [], _, _ => rfl
  | x :: r, i, h => by
    obtain ⟨k', e, hk⟩ := h x (.head _)
    have h1 : (k == k') = false := by rw [beq_eq_false_iff_ne]; exact hk
    have h2 := find_none k r (i + 1) (fun y hy => h y (.tail _ hy))
    simp [Instr.findNow, Instr.sameNow, e, h1]
    simpa using h2
theorem rule_apart : ∀ n, n < 21 → ∀ x, ruleRow[n]? = some x → x.2.2.2 = n ∧ ∀ y ∈ ruleRow.take n, x.1 ≠ y.1 := by decide
theorem rule_put (bx n k f : Nat) (b : Bool) (w : World) (h : ruleRow[n]? = some (k, f, b, n)) :
    (Instr.mapUpdate 203 (.map (some w.heap.size)) (.int .u8 k) (ruleV bx f b)).run Tryz.prog (w.alloc (.map (ruleArr bx n) n)) = .ok () (w.alloc (.map (ruleArr bx (n + 1)) (n + 1))) := by
  have hn : n < 21 := (List.getElem?_eq_some_iff.1 h).1
  have h1 := run_put_new Tryz.underlying203 Tryz.underlying45 w (ruleArr bx n) n k (ruleV bx f b) (find_none _ _ _ (fun e he => by
    simp only [ruleArr, List.mem_map] at he
    obtain ⟨y, hy, rfl⟩ := he
    exact ⟨y.1, rfl, fun e2 => (rule_apart n hn _ h).2 y hy (by omega)⟩))
  have e : ruleArr bx (n + 1) = (ruleArr bx n).push ⟨.int .u8 k, ruleV bx f b, n⟩ := by
    unfold ruleArr
    rw [List.take_add_one, h]
    simp [ruleEnt]
  rw [e]
  exact h1

theorem rule_key1 : ∀ k, 3 ≤ k → k ≤ 10 → ruleRow[k + 6]? = some (k, 119, false, k + 6) := by
  intro k h1 h2
  have : k = 3 ∨ k = 4 ∨ k = 5 ∨ k = 6 ∨ k = 7 ∨ k = 8 ∨ k = 9 ∨ k = 10 := by omega
  rcases this with rfl | rfl | rfl | rfl | rfl | rfl | rfl | rfl <;> rfl
theorem rule_key2 : ∀ k, 15 ≤ k → k ≤ 18 → ruleRow[k + 2]? = some (k, 121, false, k + 2) := by
  intro k h1 h2
  have : k = 15 ∨ k = 16 ∨ k = 17 ∨ k = 18 := by omega
  rcases this with rfl | rfl | rfl | rfl <;> rfl

set_option maxRecDepth 100000 in
set_option maxHeartbeats 4000000 in
theorem rules_any (w : World) : Calls Tryz.prog 64 #[] w fun e w' => ∃ bx mp, e = .returned (.map (some mp)) ∧ w'.heap[mp]? = some (.map (ruleArr bx 21) 21) ∧ Ch No w w' := by
  have hmm := @run_makeMap Tryz.prog
  have hsz : (w.alloc (.cells #[.func (.func 102) #[] #[]] 261)).heap.size = w.heap.size + 1 := Array.size_push _
  have HP : Hid (∀ (n k f : Nat) (b : Bool), ruleRow[n]? = some (k, f, b, n) → (Instr.mapUpdate 203 (.map (some (w.heap.size + 1))) (.int .u8 k) (ruleV w.heap.size f b)).run Tryz.prog ((w.alloc (.cells #[.func (.func 102) #[] #[]] 261)).alloc (.map (ruleArr w.heap.size n) n)) = .ok () ((w.alloc (.cells #[.func (.func 102) #[] #[]] 261)).alloc (.map (ruleArr w.heap.size (n + 1)) (n + 1)))) := Lib.hid (fun n k f b h => by
    have := rule_put w.heap.size n k f b (w.alloc (.cells #[.func (.func 102) #[] #[]] 261)) h
    rw [hsz] at this
    exact this)
  have p0 : (Instr.mapUpdate 203 (.map (some (w.heap.size + 1))) (.int .u8 0) (.agg #[.func (.func 103) #[] #[]])).run Tryz.prog ((w.alloc (.cells #[.func (.func 102) #[] #[]] 261)).alloc (.map #[] 0)) = .ok () ((w.alloc (.cells #[.func (.func 102) #[] #[]] 261)).alloc (.map (ruleArr w.heap.size 1) 1)) := HP.out 0 0 103 false rfl
  have p1 : (Instr.mapUpdate 203 (.map (some (w.heap.size + 1))) (.int .u8 1) (.agg #[.func (.func 104) #[] #[]])).run Tryz.prog ((w.alloc (.cells #[.func (.func 102) #[] #[]] 261)).alloc (.map (ruleArr w.heap.size 1) 1)) = .ok () ((w.alloc (.cells #[.func (.func 102) #[] #[]] 261)).alloc (.map (ruleArr w.heap.size 2) 2)) := HP.out 1 1 104 false rfl
  have p2 : (Instr.mapUpdate 203 (.map (some (w.heap.size + 1))) (.int .u8 2) (.agg #[.func (.func 105) #[] #[]])).run Tryz.prog ((w.alloc (.cells #[.func (.func 102) #[] #[]] 261)).alloc (.map (ruleArr w.heap.size 2) 2)) = .ok () ((w.alloc (.cells #[.func (.func 102) #[] #[]] 261)).alloc (.map (ruleArr w.heap.size 3) 3)) := HP.out 2 2 105 false rfl
  have p3 : (Instr.mapUpdate 203 (.map (some (w.heap.size + 1))) (.int .u8 11) (.agg #[.func (.func 106) #[] #[.pointer (some ⟨w.heap.size, 0, none⟩)]])).run Tryz.prog ((w.alloc (.cells #[.func (.func 102) #[] #[]] 261)).alloc (.map (ruleArr w.heap.size 3) 3)) = .ok () ((w.alloc (.cells #[.func (.func 102) #[] #[]] 261)).alloc (.map (ruleArr w.heap.size 4) 4)) := HP.out 3 11 106 true rfl
  have p4 : (Instr.mapUpdate 203 (.map (some (w.heap.size + 1))) (.int .u8 13) (.agg #[.func (.func 109) #[] #[.pointer (some ⟨w.heap.size, 0, none⟩)]])).run Tryz.prog ((w.alloc (.cells #[.func (.func 102) #[] #[]] 261)).alloc (.map (ruleArr w.heap.size 4) 4)) = .ok () ((w.alloc (.cells #[.func (.func 102) #[] #[]] 261)).alloc (.map (ruleArr w.heap.size 5) 5)) := HP.out 4 13 109 true rfl
  have p5 : (Instr.mapUpdate 203 (.map (some (w.heap.size + 1))) (.int .u8 12) (.agg #[.func (.func 112) #[] #[.pointer (some ⟨w.heap.size, 0, none⟩)]])).run Tryz.prog ((w.alloc (.cells #[.func (.func 102) #[] #[]] 261)).alloc (.map (ruleArr w.heap.size 5) 5)) = .ok () ((w.alloc (.cells #[.func (.func 102) #[] #[]] 261)).alloc (.map (ruleArr w.heap.size 6) 6)) := HP.out 5 12 112 true rfl
  have p6 : (Instr.mapUpdate 203 (.map (some (w.heap.size + 1))) (.int .u8 14) (.agg #[.func (.func 115) #[] #[.pointer (some ⟨w.heap.size, 0, none⟩)]])).run Tryz.prog ((w.alloc (.cells #[.func (.func 102) #[] #[]] 261)).alloc (.map (ruleArr w.heap.size 6) 6)) = .ok () ((w.alloc (.cells #[.func (.func 102) #[] #[]] 261)).alloc (.map (ruleArr w.heap.size 7) 7)) := HP.out 6 14 115 true rfl
  have p7 : (Instr.mapUpdate 203 (.map (some (w.heap.size + 1))) (.int .u8 19) (.agg #[.func (.func 117) #[] #[]])).run Tryz.prog ((w.alloc (.cells #[.func (.func 102) #[] #[]] 261)).alloc (.map (ruleArr w.heap.size 7) 7)) = .ok () ((w.alloc (.cells #[.func (.func 102) #[] #[]] 261)).alloc (.map (ruleArr w.heap.size 8) 8)) := HP.out 7 19 117 false rfl
  have p8 : (Instr.mapUpdate 203 (.map (some (w.heap.size + 1))) (.int .u8 20) (.agg #[.func (.func 118) #[] #[]])).run Tryz.prog ((w.alloc (.cells #[.func (.func 102) #[] #[]] 261)).alloc (.map (ruleArr w.heap.size 8) 8)) = .ok () ((w.alloc (.cells #[.func (.func 102) #[] #[]] 261)).alloc (.map (ruleArr w.heap.size 9) 9)) := HP.out 8 20 118 false rfl
  have HM : Hid (((w.alloc (.cells #[.func (.func 102) #[] #[]] 261)).alloc (.map (ruleArr w.heap.size 21) 21)).heap[w.heap.size + 1]? = some (.map (ruleArr w.heap.size 21) 21)) := Lib.hid (by rw [← hsz]; exact (MapKept.heap_alloc _ _).1)
  clear hsz
  go_enter Tryz.func64, Tryz.ntmps64
  go_wp2_with fail
  clear p0 p1 p2 p3 p4 p5 p6 p7 p8
  go_loopw [3] (fun i wr => ∃ k : Nat, 3 ≤ k ∧ k ≤ 11 ∧ i = .int .u8 (k : Int) ∧ wr = (w.alloc (.cells #[.func (.func 102) #[] #[]] 261)).alloc (.map (ruleArr w.heap.size (k + 6)) (k + 6))) (fun i _ => 11 - (intOf i).toNat)
  case atStart => exact ⟨3, by omega, by omega, rfl, rfl⟩
  case round =>
    obtain ⟨k, h3, hk, rfl, rfl⟩ := hrel
    by_cases hlt : k ≤ 10
    · have pk := HP.out (k + 6) k 119 false (rule_key1 k h3 hlt)
      simp only [ruleV, Bool.false_eq_true, if_false] at pk
      have hk1 : ((k : Int) + 1) % 256 = (k : Int) + 1 := by omega
      have hk2 : (0 : Int) ≤ (k : Int) ∧ (k : Int) ≤ 10 := by omega
      go_wp2_with fail
      go_roundw
      case rel => exact ⟨k + 1, by omega, by omega, by go_num, rfl⟩
      case measure => simp [intOf]; omega
    · obtain rfl : k = 11 := by omega
      go_wp2_with fail
      go_loopw [4] (fun i wx => ∃ k : Nat, 15 ≤ k ∧ k ≤ 19 ∧ i = .int .u8 (k : Int) ∧ wx = (w.alloc (.cells #[.func (.func 102) #[] #[]] 261)).alloc (.map (ruleArr w.heap.size (k + 2)) (k + 2))) (fun i _ => 19 - (intOf i).toNat)
      case atStart => exact ⟨15, by omega, by omega, rfl, rfl⟩
      case round =>
        obtain ⟨k, h3, hk, rfl, rfl⟩ := hrel
        by_cases hlt : k ≤ 18
        · have pk := HP.out (k + 2) k 121 false (rule_key2 k h3 hlt)
          simp only [ruleV, Bool.false_eq_true, if_false] at pk
          have hk1 : ((k : Int) + 1) % 256 = (k : Int) + 1 := by omega
          have hk2 : (0 : Int) ≤ (k : Int) ∧ (k : Int) ≤ 18 := by omega
          go_wp2_with fail
          go_roundw
          case rel => exact ⟨k + 1, by omega, by omega, by go_num, rfl⟩
          case measure => simp [intOf]; omega
        · obtain rfl : k = 19 := by omega
          go_wp2_with fail
          go_ret
          exact ⟨_, _, rfl, HM.out, (Ch.alloc w _).trans (Ch.alloc _ _)⟩
end Go.Proofs.YtcngfaggignmpaaGreatDoor
