/-
  The top, part 40: NapThings, NapBoard, Load.
-/
import Derived.Test.YtcngfaggignmpaaGreatDoorS15
import Derived.Test.YtcngfaggignmpaaGreatDoorS27
import Derived.Test.YtcngfaggignmpaaGreatDoorS32
import Derived.Test.YtcngfaggignmpaaGreatDoorS39

/-
  The kernel: its things, as they are seen.
-/
namespace Go.Proofs.YtcngfaggignmpaaGreatDoor
open Go.RowKit

section
variable {B T U : Nat} {tb : Nat → Nat} {m : KM} {w : World}
set_option maxHeartbeats 1000000 in
theorem handles_nil (w : World) (k : Value) : Calls Tryz.prog 36 #[k, .slice none 0 0] w fun e w' => e = .returned (.slice none 0 0) ∧ w = w' := by
  go_enter Tryz.func36, Tryz.ntmps36
  go_wp2_with fail
  go_loopw [4, 6, 9] (fun v _ i wr => v = .slice none 0 0 ∧ i = .int .i64 0 ∧ wr = w) (fun _ _ _ _ => 0)
  case atStart => exact ⟨rfl, rfl, rfl⟩
  case round =>
    obtain ⟨rfl, rfl, rfl⟩ := hrel
    go_wp2_with fail
    go_ret
    exact ⟨rfl, rfl⟩

/-- A row as it is seen. -/
def seenL (most : Nat) (v : Value) : List Value := [.int .u32 256, .int .u8 3, .int .u32 most, .int .u32 0, .int .u32 0, .int .u32 0, v, .slice none 0 0, .int .i64 0, .slice none 0 0]
theorem info62 : (Tryz.prog.info? 62).map (fun i => (i.zero, i.size, i.bytes)) = some (some (.agg #[.int .u32 0, .int .u8 0, .int .u32 0, .int .u32 0, .int .u32 0, .int .u32 0, .slice none 0 0, .slice none 0 0, .int .i64 0, .slice none 0 0]), 10, 104) := by kernel_rfl
theorem U32s.keepsLt {base : Nat} {v : Value} {l : List Int} {w w' : World} {S : Nat → Prop} (h : U32s base v l w) (c : Ch S w w') (hn : ∀ k, base ≤ k → k < w.heap.size → ¬ S k) : U32s base v l w' := by
  refine ⟨h.1, ?_⟩
  rcases h.2 with h0 | ⟨g, cap, cur, rfl, hb, hg, r⟩
  · exact .inl h0
  · exact .inr ⟨g, cap, cur, rfl, hb, c.keeps hg (hn g hb (lt_of_blk hg)), r⟩

set_option maxRecDepth 100000 in
set_option maxHeartbeats 4000000 in
theorem things_any (h : KS B T U tb m w) (hw : m.wl = none) :
    Calls Tryz.prog 13 #[.pointer (some ⟨B + 69, 0, none⟩)] w fun e w' => ∃ g v, e = .returned (.slice (some ⟨g, 0, none⟩) 1 1) ∧ w.heap.size ≤ g ∧ (∃ cs, Row g 62 cs w' ∧ cs[6]? = some v) ∧ U32s w.heap.size v m.row w' ∧ Ch No w w' := by
  obtain ⟨i0, hi, hz0, hz1, hz2⟩ := info_parts info62
  have H := Lib.hid h
  have HW : Hid (WQ U (U + 3) none w) := Lib.hid (by have := h.wait; rwa [hw] at this)
  clear h hw
  go_enter Tryz.func13, Tryz.ntmps13
  go_wp2_with fail
  refine (kThere_any H.out).mono ?_; rintro e w1 ⟨rfl, rfl⟩
  go_wp2_with (first | (refine wpList_load_mid rfl 91 _ rfl (B + 69) 20 rfl (oarr U) _ H.out.oRange Tryz.underlying91 rfl (by rw [info91]; simp [oarr]) ?_))
  go_loopw [2, 13] (fun v iv wx => ∃ k : Nat, k ≤ 32 ∧ iv = .int .i64 (k : Int) ∧ Ch No w wx ∧ ((k = 0 ∧ v = .slice none 0 0) ∨ (1 ≤ k ∧ ∃ u, wx.ownsRow w.heap.size 62 10 v 1 (seenL m.most u) ∧ U32s w.heap.size u m.row wx))) (fun _ iv _ => 32 - (intOf iv).toNat)
  case atStart => exact ⟨0, by omega, rfl, Ch.refl _ _, .inl ⟨rfl, rfl⟩⟩
  case round =>
    obtain ⟨k, hk, rfl, hch, hcase⟩ := hrel
    by_cases hlt : k < 32
    · have hidx := oarr_index U k hlt
      have hk1 : 0 ≤ (k : Int) ∧ (k : Int) < 32 := by omega
      have HCH := Lib.hid hch
      have HK := Lib.hid (H.out.no hch)
      have HWR := Lib.hid (HW.out.no hch)
      clear hch
      rcases hcase with ⟨rfl, rfl⟩ | ⟨h0, u, hown, hu⟩
      · have hidx0 : ∀ w, (Instr.index 91 (.agg (oarr U).toArray) (.int .i64 0)).run Tryz.prog w = .ok (.pointer (some ⟨U + 2, 0, none⟩)) w := fun w => oarr_index U 0 (by decide) w
        clear hidx
        have c1 : wr.cell? ⟨U + 2, 2 + 2, none⟩ = some (.pointer (some ⟨T, 0, none⟩)) := HK.out.thing.cell (j := 4) rfl
        go_wp2_with fail
        refine (see_any _ T m.most m.row HK.out.obj).mono ?_; rintro e w1 ⟨v, rfl, hu, hch1⟩
        obtain ⟨a, cap, rfl⟩ := hu.slice
        unfold seenV
        go_wp2_with fail
        obtain ⟨W2, hW2⟩ : ∃ W2, W2 = w1.alloc (.cells #[.int .u32 0, .int .u8 3, .int .u32 m.most, .int .u32 0, .int .u32 0, .int .u32 0, .slice a m.row.length cap, .slice none 0 0, .int .i64 0, .slice none 0 0] 62) := ⟨_, rfl⟩
        obtain ⟨X, hX⟩ : ∃ X, X = w1.heap.size := ⟨_, rfl⟩
        have c2 : Ch No w1 W2 := by rw [hW2]; exact Ch.alloc w1 _
        have rx : Row X 62 #[.int .u32 0, .int .u8 3, .int .u32 m.most, .int .u32 0, .int .u32 0, .int .u32 0, .slice a m.row.length cap, .slice none 0 0, .int .i64 0, .slice none 0 0] W2 := by rw [hW2, hX]; exact Row.new w1 62 _
        have HX := Lib.hid hX
        have HS1 := Lib.hid hch1.size
        have HC2 : Hid (Ch No w W2) := Lib.hid ((HCH.out.trans hch1).trans c2)
        have HRX := Lib.hid rx
        have HU2 : Hid (U32s w.heap.size (.slice a m.row.length cap) m.row W2 ∧ ∀ W, Ch (fun k => k = X) W2 W → U32s w.heap.size (.slice a m.row.length cap) m.row W) := Lib.hid (by
          have u1 := (hu.keepsLt c2 (fun _ _ _ e => e)).low HCH.out.size
          refine ⟨u1, fun W hW => ?_⟩
          refine (U32s.low (base := wr.heap.size) ?_ HCH.out.size)
          rcases hu.2 with ⟨e, e0⟩ | ⟨g, cap', cur, e, hb, hg, r⟩
          · exact ⟨hu.1, .inl ⟨e, e0⟩⟩
          · have hlt := lt_of_blk hg
            exact ⟨hu.1, .inr ⟨g, cap', cur, e, hb, hW.keeps (c2.keeps hg (fun x => x)) (by omega), r⟩⟩)
        have HK2 := Lib.hid (H.out.no HC2.out)
        have HWQ2 := Lib.hid (HW.out.no HC2.out)
        have d0 : W2.cell? ⟨U + 2, 0, none⟩ = some (.int .u32 256) := HK2.out.thing.cell (j := 0) rfl
        have d1 : W2.cell? ⟨U + 2, 5, none⟩ = some (.pointer (some ⟨U + 1, 0, none⟩)) := HK2.out.thing.cell (j := 5) rfl
        have d2 := HK2.out.cAlarms
        have l1 := H.out.lay1
        have l2 := H.out.lay2
        have l3 : U + 2 < X := by have := H.out.thing.lt; have := HCH.out.size; have := hch1.size; omega
        have n1 : ¬ X = U + 2 := by omega
        have n2 : ¬ X = B + 69 := by omega
        have n3 : ¬ U + 2 = X := by omega
        have n4 : ¬ B + 69 = X := by omega
        rw [← hW2, ← hX]
        clear hW2 hX c2 rx hu hch1 c1
        go_region_held3 (fun wx => wx.cell? ⟨U + 2, 0, none⟩ = some (.int .u32 256) ∧ wx.cell? ⟨U + 2, 5, none⟩ = some (.pointer (some ⟨U + 1, 0, none⟩)) ∧ wx.cell? ⟨B + 69, 54, none⟩ = some (.pointer (some ⟨B + 68, 0, none⟩))) (first | exact ⟨by assumption, by assumption, by assumption⟩ | go_keep) (first
          | (go_at_call 37; refine (wqList_none _ U (U + 3) (HWQ2.out.no (Ch.drewN W2 1))).mono ?_; rintro e w3 ⟨rfl, hch3⟩
             have HC3 : Hid (Ch No W2 w3) := Lib.hid ((Ch.drewN W2 1).trans hch3)
             have HK3 := Lib.hid (HK2.out.no HC3.out)
             have e0 : w3.cell? ⟨U + 2, 0, none⟩ = some (.int .u32 256) := HK3.out.thing.cell (j := 0) rfl
             have e1 : w3.cell? ⟨U + 2, 5, none⟩ = some (.pointer (some ⟨U + 1, 0, none⟩)) := HK3.out.thing.cell (j := 5) rfl
             have e2 := HK3.out.cAlarms
             clear hch3)
          | (go_at_call 36; refine (handles_nil _ _).mono ?_; rintro e w4 ⟨rfl, rfl⟩)
          | (go_at_call 38; refine (alLeft_none _ (B + 66) _ HK3.out.alarms).mono ?_; rintro e w5 ⟨rfl, hch5⟩
             have HC5 : Hid (Ch No W2 w5) := Lib.hid (HC3.out.trans hch5)
             have HK5 := Lib.hid (HK2.out.no HC5.out)
             have k0 : w5.cell? ⟨U + 2, 0, none⟩ = some (.int .u32 256) := HK5.out.thing.cell (j := 0) rfl
             have k1 : w5.cell? ⟨U + 2, 5, none⟩ = some (.pointer (some ⟨U + 1, 0, none⟩)) := HK5.out.thing.cell (j := 5) rfl
             have k2 := HK5.out.cAlarms
             have rx5 := HRX.out.keeps HC5.out (fun x => x)
             have x0 := rx5.cell (j := 0) rfl
             have x9 := rx5.cell (j := 9) rfl
             have x8 := rx5.cell (j := 8) rfl
             have y0 := rx5.free 0
             have y9 := rx5.free 9
             have y8 := rx5.free 8
             have HRX5 := Lib.hid rx5
             clear hch5 rx5))
        all_goals
          have rx6 : Row X 62 #[.int .u32 256, .int .u8 3, .int .u32 m.most, .int .u32 0, .int .u32 0, .int .u32 0, .slice a m.row.length cap, .slice none 0 0, .int .i64 0, .slice none 0 0] (((w5.setCell ⟨X, 0, none⟩ (.int .u32 256)).setCell ⟨X, 9, none⟩ (.slice none 0 0)).setCell ⟨X, 8, none⟩ (.int .i64 0)) := by
            have := ((HRX5.out.set 0 (.int .u32 256)).set 9 (.slice none 0 0)).set 8 (.int .i64 0)
            simpa using this
          have c6 : Ch (fun k => k = X) W2 (((w5.setCell ⟨X, 0, none⟩ (.int .u32 256)).setCell ⟨X, 9, none⟩ (.slice none 0 0)).setCell ⟨X, 8, none⟩ (.int .i64 0)) :=
            (((HC5.out.mono (fun _ _ s => s.elim)).trans (Ch.set1 w5 X 0 _)).trans (Ch.set1 _ X 9 _)).trans (Ch.set1 _ X 8 _)
          obtain ⟨W6, hW6⟩ : ∃ W6, W6 = (((w5.setCell ⟨X, 0, none⟩ (.int .u32 256)).setCell ⟨X, 9, none⟩ (.slice none 0 0)).setCell ⟨X, 8, none⟩ (.int .i64 0)) := ⟨_, rfl⟩
          rw [← hW6] at rx6 c6 ⊢
          have HU6 := Lib.hid (HU2.out.2 W6 c6)
          have HC6 : Hid (Ch No w W6) := Lib.hid (HC2.out.trans' c6 (fun k hk e => by have := HX.out; have := HCH.out.size; have := HS1.out; omega))
          have hsz := HC6.out.size
          clear hW6 c6 x0 x8 x9 y0 y8 y9 d0 d1 d2 e0 e1 e2 k0 k1 k2
          have z0 := rx6.cell (j := 0) rfl
          have z1 := rx6.cell (j := 1) rfl
          have z2 := rx6.cell (j := 2) rfl
          have z3 := rx6.cell (j := 3) rfl
          have z4 := rx6.cell (j := 4) rfl
          have z5 := rx6.cell (j := 5) rfl
          have z6 := rx6.cell (j := 6) rfl
          have z7 := rx6.cell (j := 7) rfl
          have z8 := rx6.cell (j := 8) rfl
          have z9 := rx6.cell (j := 9) rfl
          clear rx6
          go_wp2_with (first
            | (at_builtin; refine wpList_append_own _ rfl _ _ 58 rfl w.heap.size 62 i0 (.agg #[.int .u32 0, .int .u8 0, .int .u32 0, .int .u32 0, .int .u32 0, .int .u32 0, .slice none 0 0, .slice none 0 0, .int .i64 0, .slice none 0 0]) 10 104 Tryz.underlying58 hi hz0 hz1 hz2 rfl (by decide) _ _ _ rfl (World.ownsRow.alloc (w := W6) (World.ownsRow_nil _ _ _ _) _) ⟨W6.heap.size, 0, none⟩ 1 1 (seenL m.most (.slice a m.row.length cap)) rfl rfl ?c1 ?c2 ?c3 ?c4 ?c5 ?_))
          case c1 =>
            intro j u hj
            have hn := Row.new W6 62 (seenL m.most (.slice a m.row.length cap)).toArray
            match j, hj with
            | 0, hj => simp [seenL] at hj; subst hj; exact hn.cell (j := 0) rfl
            | 1, hj => simp [seenL] at hj; subst hj; exact hn.cell (j := 1) rfl
            | 2, hj => simp [seenL] at hj; subst hj; exact hn.cell (j := 2) rfl
            | 3, hj => simp [seenL] at hj; subst hj; exact hn.cell (j := 3) rfl
            | 4, hj => simp [seenL] at hj; subst hj; exact hn.cell (j := 4) rfl
            | 5, hj => simp [seenL] at hj; subst hj; exact hn.cell (j := 5) rfl
            | 6, hj => simp [seenL] at hj; subst hj; exact hn.cell (j := 6) rfl
            | 7, hj => simp [seenL] at hj; subst hj; exact hn.cell (j := 7) rfl
            | 8, hj => simp [seenL] at hj; subst hj; exact hn.cell (j := 8) rfl
            | 9, hj => simp [seenL] at hj; subst hj; exact hn.cell (j := 9) rfl
            | n + 10, hj => simp [seenL] at hj
          case c2 => intro u hu; simp [seenL] at hu; rcases hu with rfl | rfl | rfl | rfl | rfl | rfl | rfl | rfl <;> rfl
          case c3 => unfold maxLen; omega
          case c4 => omega
          case c5 => simp; omega
          · intro v' w2 hown' hgrow _
            have hg2 : Ch No W6 w2 := (Ch.alloc W6 (.cells #[.int .u32 256, .int .u8 3, .int .u32 m.most, .int .u32 0, .int .u32 0, .int .u32 0, .slice a m.row.length cap, .slice none 0 0, .int .i64 0, .slice none 0 0] 62)).grownOwn hgrow (fun g hg => by cases hg)
            have HU7 := Lib.hid (HU6.out.keepsLt hg2 (fun _ _ _ e => e))
            have HC7 := Lib.hid (HC6.out.trans hg2)
            clear hgrow hg2
            go_wp2
            go_roundw
            case rel => exact ⟨1, by omega, by go_num, HC7.out, .inr ⟨by omega, _, hown', HU7.out⟩⟩
            case measure => simp [intOf]
      · rw [if_neg (by omega)] at hidx
        have HOWN := Lib.hid hown
        have HU := Lib.hid hu
        clear hown hu
        go_wp2_with fail
        go_roundw
        case rel => exact ⟨k + 1, by omega, by go_num, HCH.out, .inr ⟨by omega, u, HOWN.out, HU.out⟩⟩
        case measure => simp [intOf]; omega
    · obtain rfl : k = 32 := by omega
      rcases hcase with ⟨h0, _⟩ | ⟨h0, u, hown, hu⟩
      · omega
      · rcases hown.2 with ⟨_, e0⟩ | ⟨g, cap, cur, rfl, hb, hg, hn, hm, hs, ht⟩
        · cases e0
        · have hcur : cur[6]? = some u := by
            have : (cur.toList.take (1 * 10))[6]? = some u := by rw [ht]; rfl
            rw [List.getElem?_take_of_lt (by omega)] at this
            simpa using this
          go_wp2_with fail
          go_ret
          exact ⟨g, u, rfl, hb, ⟨cur, hg, hcur⟩, hu, hch⟩
end
end Go.Proofs.YtcngfaggignmpaaGreatDoor

/-
  The board: a tick goes by, where nobody runs; its things, as they are seen.
-/
namespace Go.Proofs.YtcngfaggignmpaaGreatDoor
open Go.RowKit

section
variable {B T' U : Nat} {tb bx : Nat → Nat} {gs : Nat → CG} {tp : Nat} {code : Nat → List IN} {L : Nat} {R D : Nat → Nat} {T u : Nat} {w : World}
set_option maxHeartbeats 1000000 in
theorem tickRW (h : RS B T' U tb bx gs tp code (fun m cs u => NP L R D T m cs u ∧ Still m) u w) :
    Calls Tryz.prog 14 #[.pointer (some ⟨B + 74, 0, none⟩)] w fun e w' => e = .returned (.int .i64 0) ∧ RW B T' U tb bx gs tp code (NP L R D (T + 1)) 72 w' ∧ Ch (Bn B U w) w w' := by
  obtain ⟨m, sv, cs, an, os, clk, h⟩ := h
  obtain ⟨⟨rows, κ, hb, hu⟩, hs⟩ := h.p
  have HT := Lib.hid (tick0_any h.st.kern hs.2 hb.ni.slen hb.ni.sleepers hb.ni.calm (fun i t ht => by
    refine ⟨(hb.ni.place i t ht).1, ?_⟩
    have := hb.ni.left i t ht (hs.1 i t ht)
    omega) (fun k _ hz hnz => by
    obtain ⟨m', _, hw, _⟩ := hb.tick hs.1 hz hnz
    exact hw))
  have HB := Lib.hid h.st.board
  have H := Lib.hid h
  have HBB := Lib.hid hb
  have HS := Lib.hid hs
  have c := h.st.board.cK
  clear h hb hs
  go_enter Tryz.func14, Tryz.ntmps14
  go_wp2_with fail
  refine (bThere_any HB.out).mono ?_; rintro e w1 ⟨rfl, rfl⟩
  go_wp2_with fail
  refine HT.out.mono ?_; rintro e w2 ⟨rfl, k, hk, hz, hnz, hks, hch⟩
  go_wp2_with fail
  go_ret
  obtain ⟨m', hm', hw, nb, htell, hsome⟩ := HBB.out.tick HS.out.1 hz hnz
  rw [← hm'] at hks
  refine ⟨rfl, ⟨m', sv, cs, an, os, clk, H.out.st.kern' hch hks, ⟨rows, kap m', ?_, ?_⟩, fun i t' ht' => ?_, fun i hl => ?_, H.out.own, H.out.cod, H.out.tell⟩, hch.mono (fun _ _ s => H.out.st.kern.bn s)⟩
  · have e : (fun j => toldC (m'.tk j) (cs j) (ansOf (m.tk j))) = (fun j => toldC (m'.tk j) (cs j) (an j)) := by
      funext j
      cases e0 : m.tk j with
      | none =>
        have := hsome j
        rw [e0] at this
        cases e1 : m'.tk j with
        | none => rfl
        | some t' => rw [e1] at this; cases this
      | some t0 =>
        have := (H.out.tan j t0 e0).1
        rw [this]
        rfl
    rw [← e]
    exact nb
  · have h1 := sumTo_le (f := kap m') (b := 4) L (fun j _ => kap_le m' j)
    have h2 := HBB.out.rng.1
    omega
  · obtain ⟨t0, e0, h1, h2, h3⟩ := htell i t' ht'
    obtain ⟨ha, hi, hl⟩ := H.out.tan i t0 e0
    rw [ha]
    exact ⟨h1, fun hlt => ⟨h2 hlt, h3⟩, hi, hl⟩
  · rw [hsome i]
    exact H.out.live i hl
/-- The things of a board: the row, with all that was said. -/
theorem thingsRS (h : RS B T' U tb bx gs tp code (fun m cs u => NP L R D T m cs u ∧ Still m) u w) :
    Calls Tryz.prog 13 #[.pointer (some ⟨B + 69, 0, none⟩)] w fun e w' => ∃ (g : Nat) (v : Value) (rows : List Nat), e = .returned (.slice (some ⟨g, 0, none⟩) 1 1) ∧ w.heap.size ≤ g ∧ (∃ cs, Row g 62 cs w' ∧ cs[6]? = some v) ∧ U32s w.heap.size v (rows.map (fun i : Nat => (i : Int))) w' ∧
      (∀ i, i ∈ rows ↔ i < L ∧ D i ≤ T) ∧ rows.Pairwise (Ord R D) ∧ rows.Nodup ∧ RS B T' U tb bx gs tp code (fun m cs u => NP L R D T m cs u ∧ Still m) u w' ∧ Ch No w w' := by
  obtain ⟨m, sv, cs, an, os, clk, h⟩ := h
  obtain ⟨⟨rows, κ, hb, hu⟩, hs⟩ := h.p
  refine (things_any h.st.kern hb.ni.wl).mono ?_
  rintro e w' ⟨g, v, rfl, hg, hrow, hv, hch⟩
  rw [hb.row] at hv
  exact ⟨g, v, rows, rfl, hg, hrow, hv, hb.still hs.1, hb.ord, hb.nodr, ⟨m, sv, cs, an, os, clk, h.no hch⟩, hch⟩
end
end Go.Proofs.YtcngfaggignmpaaGreatDoor

/-
  The board: a task of an image.
-/
namespace Go.Proofs.YtcngfaggignmpaaGreatDoor
open Go.RowKit Go.ChangeMaps Go.MapKept

section
variable {B T U : Nat} {tb bx : Nat → Nat} {gs : Nat → CG} {m : KM} {sv : Nat → Value} {cs : Nat → CM} {an : Nat → Int} {os : List (Nat × Nat)} {clk : Nat} {w w' : World} {i : Nat}
/-- A core more. -/
theorem BS.grow (h : BS B T U tb bx gs m sv cs an os clk w) (g : Ch (fun k => k = B + 73) w w') {b0 : Nat} {g0 : CG} {s0 : Value} {c0 : CM} {a0 : Int}
    (hm : w'.heap[B + 73]? = some (.map ((entA bx os).push ⟨.int .u32 (256 + (i : Int)), .pointer (some ⟨b0, 0, none⟩), clk⟩) (clk + 1))) (hi : i < 16) (hn : ¬ Live os i)
    (hc : CS U (fun _ => b0) (fun _ => g0) (fun _ => s0) (fun _ => c0) (fun _ => a0) i w) (hs : s0.ownBlock = none) (hsep : ∀ j, Live os j → bx j ≠ b0 ∧ (gs j).b ≠ g0.b) :
    BS B T U tb (upd bx i b0) (upd gs i g0) m (upd sv i s0) (upd cs i c0) (upd an i a0) (os ++ [(i, clk)]) (clk + 1) w' := by
  have l1 := h.kern.lay1
  have l2 := h.kern.lay2
  have no : ∀ k ty cur, Row k ty cur w → ¬ (k = B + 73) := fun k ty cur r e => by
    subst e
    exact map_noRow h.map ty cur r
  have hne : ∀ j, Live os j → j ≠ i := fun j hj e => hn (e ▸ hj)
  have hlive : ∀ j, Live (os ++ [(i, clk)]) j → Live os j ∨ j = i := fun j hj => by
    obtain ⟨s, hs⟩ := hj
    rw [List.mem_append] at hs
    rcases hs with hs | hs
    · exact .inl ⟨s, hs⟩
    · simp at hs; exact .inr hs.1
  have k := h.kern
  refine ⟨h.board.keeps g (fun (e : B + 74 = B + 73) => by omega), ?_, ?_, ?_, ?_, fun x hx => ?_, fun j hj => ?_, fun a b ha hb hab => ?_⟩
  · refine ⟨k.lay1, k.lay2, k.lay3, k.lay4, ?_, k.th.keeps g (fun (e : B + 70 = B + 73) => by omega), k.oh.keeps g (fun (e : B + 71 = B + 73) => by omega), k.ready.keeps g (fun k e hb => by simp only [Rqb] at hb; omega), k.sleeps.keeps g (fun (e : B + 65 = B + 73) => by omega) (fun k cs hk r => no k _ _ r), k.alarms.keeps g (fun (e : B + 66 = B + 73) => by omega) (fun (e : B + 66 + 2 = B + 73) => by omega),
      k.thing.keeps g (fun (e : U + 2 = B + 73) => by omega), k.obj.keeps g (fun (e : T = B + 73) => by omega) (fun (e : T + 1 = B + 73) => by omega) (fun (e : T + 2 = B + 73) => by omega), k.wait.keeps g (fun (e : U = B + 73) => by omega) (fun (e : U + 1 = B + 73) => by omega) (fun k cs _ r => no k _ _ r), fun i t hi ht => (k.task i t hi ht).keeps g (no _ _ _ (k.task i t hi ht))⟩
    obtain ⟨c, r, kb⟩ := k.kern
    exact ⟨c, r.keeps g (fun (e : B + 69 = B + 73) => by omega), kb⟩
  · have e : entA (upd bx i b0) (os ++ [(i, clk)]) = (entA bx os).push ⟨.int .u32 (256 + (i : Int)), .pointer (some ⟨b0, 0, none⟩), clk⟩ := by
      unfold entA
      rw [List.map_append]
      have e1 : os.map (entC (upd bx i b0)) = os.map (entC bx) := List.map_congr_left (fun x hx => by
        unfold entC
        rw [upd_ne _ _ (hne x.1 ⟨x.2, hx⟩)])
      rw [e1]
      simp [entC, upd_at]
    rw [e]
    exact hm
  · rw [List.map_append, List.nodup_append]
    refine ⟨h.one, by simp, fun a ha b hb e => ?_⟩
    simp at hb
    subst hb
    obtain ⟨x, hx, rfl⟩ := List.mem_map.1 ha
    exact hne x.1 ⟨x.2, hx⟩ e
  · rw [List.map_append, List.nodup_append]
    refine ⟨h.two, by simp, fun a ha b hb e => ?_⟩
    simp at hb
    subst hb
    obtain ⟨x, hx, rfl⟩ := List.mem_map.1 ha
    have := (h.low x hx).2
    omega
  · rw [List.mem_append] at hx
    rcases hx with hx | hx
    · have := h.low x hx; exact ⟨this.1, by omega⟩
    · simp at hx; subst hx; exact ⟨hi, by simp⟩
  · have ap : ∀ {bx gs sv cs an j}, CS U bx gs sv cs an j w → CS U bx gs sv cs an j w' := fun x => x.apart g (fun k ty cur _ r _ => no k ty cur r)
    rcases hlive j hj with hl | rfl
    · have x := ap (h.core j hl)
      have e := hne j hl
      refine ⟨?_, ?_, ?_, ?_⟩
      · rw [upd_ne _ _ e, upd_ne _ _ e, upd_ne _ _ e]; exact x.box
      · rw [upd_ne _ _ e, upd_ne _ _ e, upd_ne _ _ e]; exact x.core
      · rw [upd_ne _ _ e]; exact x.lo
      · rw [upd_ne _ _ e, upd_ne _ _ e]; exact x.hi
    · have x := ap hc
      refine ⟨?_, ?_, ?_, ?_⟩
      · rw [upd_at, upd_at, upd_at]; exact x.box
      · rw [upd_at, upd_at, upd_at]; exact x.core
      · rw [upd_at]; exact x.lo
      · rw [upd_at, upd_at]; exact x.hi
  · rcases hlive a ha with la | rfl
    · rcases hlive b hb with lb | rfl
      · rw [upd_ne _ _ (hne a la), upd_ne _ _ (hne b lb), upd_ne _ _ (hne a la), upd_ne _ _ (hne b lb), upd_ne _ _ (hne a la), upd_ne _ _ (hne b lb)]
        exact h.sep a b la lb hab
      · rw [upd_ne _ _ (hne a la), upd_at, upd_ne _ _ (hne a la), upd_at, upd_ne _ _ (hne a la), upd_at]
        exact ⟨(hsep a la).1, (hsep a la).2, .inr hs⟩
    · rcases hlive b hb with lb | rfl
      · rw [upd_ne _ _ (hne b lb), upd_at, upd_ne _ _ (hne b lb), upd_at, upd_ne _ _ (hne b lb), upd_at]
        exact ⟨fun e => (hsep b lb).1 e.symm, fun e => (hsep b lb).2 e.symm, .inl hs⟩
      · exact absurd rfl hab
/-- The kernel has a task more. -/
theorem BS.kern2 (h : BS B T U tb bx gs m sv cs an os clk w) (g : Ch (Sk B T U w) w w') {m' : KM} {tb' : Nat → Nat} (k : KS B T U tb' m' w') : BS B T U tb' bx gs m' sv cs an os clk w' := by
  have l1 := h.kern.lay1
  have l2 := h.kern.lay2
  have n81 : ¬ Sk B T U w (B + 74) := fun s => by
    obtain ⟨c, r, _⟩ := h.board
    rcases s with ⟨_, _, e⟩ | ⟨_, ty, c', r', ht⟩
    · omega
    · rcases ht with rfl | rfl <;> exact absurd (r.ty r') (by decide)
  have nmap : ¬ Sk B T U w (B + 73) := fun s => by
    rcases s with ⟨_, _, e⟩ | ⟨_, ty, c', r', _⟩
    · omega
    · exact map_noRow h.map _ _ r'
  exact ⟨h.board.keeps g n81, k, g.keeps h.map nmap, h.one, h.two, h.low, fun i hi => (h.core i hi).apart g (fun k ty cur hk r ht => skNot hk (by rcases ht with rfl | rfl | rfl | rfl <;> decide) r), h.sep⟩

set_option maxRecDepth 100000 in
set_option maxHeartbeats 4000000 in
theorem load_any {r b cap : Nat} {l : List IN} (h : BS B T U tb bx gs m sv cs an os clk w) (hc : Cons m) (hi : i < 16) (hn : m.tk i = none) (hag : m.age i = 0) (hus : m.used i = false) (hall : ∀ j, j < i → m.used j = true) (hr : r < 32) (hcalm : Calm (m.task i r)) (hnl : ¬ Live os i)
    (hl : l.length ≤ 1000) (h1 : 1 ≤ l.length) (hcode : Code49 b l w) (hok : ∀ x ∈ l, OkI x) :
    Calls Tryz.prog 10 #[.pointer (some ⟨B + 74, 0, none⟩), imV b l.length cap, .int .i64 r] w fun e w' => ∃ (nb b0 : Nat) (g0 : CG), e = .returned (.tuple #[.int .u32 (256 + i), .int .i64 0]) ∧ g0.code = l ∧
      BS B T U (tb2 tb m i nb) (upd bx i b0) (upd gs i g0) (m.task i r) (upd sv i (.slice none 0 0)) (upd cs i cm0) (upd an i 0) (os ++ [(i, clk)]) (clk + 1) w' ∧ Ch (fun k => B ≤ k) w w' := by
  obtain ⟨W0, hW0⟩ : ∃ W0, W0 = w.alloc (.cells #[.int .i64 0, .slice none 0 0, .slice (some ⟨b, 0, none⟩) l.length cap] 54) := ⟨_, rfl⟩
  have r0 : Row w.heap.size 54 #[.int .i64 0, .slice none 0 0, .slice (some ⟨b, 0, none⟩) l.length cap] W0 := by rw [hW0]; exact Row.new w 54 _
  have c0 : Ch No w W0 := by rw [hW0]; exact Ch.alloc w _
  have hN := coreNew_any W0 b cap l hl h1 (hcode.keeps c0 (fun x => x)) hok
  have H0 := Lib.hid (h.no c0)
  have HCO := Lib.hid hc
  have HN := Lib.hid hn
  have HAG := Lib.hid hag
  have HUS := Lib.hid hus
  have HALL := Lib.hid hall
  have HCALM := Lib.hid hcalm
  have HNL := Lib.hid hnl
  have HNEW := Lib.hid hN
  have R0 := Lib.hid r0
  have C0 := Lib.hid c0
  have HW := Lib.hid hW0
  clear h hc hn hag hus hall hcalm hnl hN r0 c0 hW0 hcode hok
  unfold imV at HNEW ⊢
  go_enter Tryz.func10, Tryz.ntmps10
  go_wp2_with fail
  rw [← HW.out]
  refine (bThere_any H0.out.board).mono ?_; rintro e w1 ⟨rfl, rfl⟩
  have q0 := R0.out.cell (j := 0) rfl
  have q1 := R0.out.cell (j := 1) rfl
  have q2 := R0.out.cell (j := 2) rfl
  go_wp2_with fail
  refine HNEW.out.mono ?_; rintro e w2 ⟨g0, rfl, hg0, hlo, hb0, hcb0, hco, hch⟩
  have HG0 := Lib.hid hg0
  have HLO := Lib.hid hlo
  have H2 := Lib.hid (H0.out.no hch)
  have HCO2 := Lib.hid hco
  have HC2 := Lib.hid (C0.out.trans hch)
  have HS02 := Lib.hid hch.size
  have cK := H2.out.board.cK
  clear hg0 hlo hco hch q0 q1 q2
  go_wp2_with fail
  refine (task_any H2.out.kern HCO.out hi HN.out HAG.out HUS.out HALL.out hr HCALM.out).mono ?_; rintro e w3 ⟨nb, rfl, hk3, hch3⟩
  have hst3 := H2.out.kern2 hch3 hk3
  have hroom := H0.out.kern.room
  have hs2 := HC2.out.size
  have cM := hst3.board.cMap
  have hlo2 : g0.lo = w2.heap.size := HLO.out
  have hW02 : W0.heap.size ≤ w2.heap.size := by
    have := HS02.out
    exact this
  have hco3 : CO g0 (.slice none 0 0) cm0 w3 := HCO2.out.keeps hch3 (skNot (by omega) (by decide) HCO2.out.core) (by
    obtain ⟨c49, r49⟩ := HCO2.out.code49
    exact skNot (by omega) (by decide) r49) (fun q hq => by simp [Value.ownBlock] at hq)
  have hco4 := hco3.no (Ch.alloc w3 (.cells #[.pointer (some ⟨g0.b, 0, none⟩), .int .i64 0] 109))
  have hst4 := hst3.no (Ch.alloc w3 (.cells #[.pointer (some ⟨g0.b, 0, none⟩), .int .i64 0] 109))
  have r4 := Row.new w3 109 #[.pointer (some ⟨g0.b, 0, none⟩), .int .i64 0]
  have z4 : (w3.alloc (.cells #[.pointer (some ⟨g0.b, 0, none⟩), .int .i64 0] 109)).heap.size = w3.heap.size + 1 := Array.size_push _
  have pp := run_put_at (P := Tryz.prog) Tryz.underlying79 Tryz.underlying34 (256 + (i : Int)) (.pointer (some ⟨w3.heap.size, 0, none⟩)) hst4.map (by
    rcases entA_find bx os i with ⟨hf, _⟩ | ⟨j, s, _, hj⟩
    · exact hf
    · exact absurd ⟨s, List.mem_of_getElem? hj⟩ HNL.out)
  obtain ⟨W4, hW4⟩ : ∃ W4, W4 = w3.alloc (.cells #[.pointer (some ⟨g0.b, 0, none⟩), .int .i64 0] 109) := ⟨_, rfl⟩
  obtain ⟨W5, hW5⟩ : ∃ W5, W5 = putMap W4 (B + 73) ((entA bx os).push ⟨.int .u32 (256 + (i : Int)), .pointer (some ⟨w3.heap.size, 0, none⟩), clk⟩) (clk + 1) := ⟨_, rfl⟩
  have g4 : Ch No w3 W4 := by rw [hW4]; exact Ch.alloc _ _
  rw [← hW4] at hco4 hst4 r4 z4
  have m5 : W5.heap[B + 73]? = some (.map ((entA bx os).push ⟨.int .u32 (256 + (i : Int)), .pointer (some ⟨w3.heap.size, 0, none⟩), clk⟩) (clk + 1)) := by rw [hW5]; exact putMap_at (lt_of_blk hst4.map)
  have g5 : Ch (fun k => k = B + 73) W4 W5 := by rw [hW5]; exact putMap_ch
  rw [← hW4, ← hW5] at pp
  rw [hW4] at pp
  have hs3 := hch3.size
  have hfin := hst4.grow (i := i) g5 m5 hi HNL.out ⟨r4, hco4, ⟨by omega, by omega⟩, ⟨by omega, by omega, by omega⟩⟩ rfl (fun j hj => ⟨fun e => by
      have := (hst3.core j hj).box.lt
      omega, fun e => by
      have := (H0.out.core j hj).core.core.lt
      omega⟩)
  have HFIN := Lib.hid hfin
  have HCF : Hid (Ch (fun k => B ≤ k) w W5) := Lib.hid ((((HC2.out.mono (fun _ _ e => e.elim)).trans' hch3 (fun z hz s => by
      have l1 := H0.out.kern.lay1
      have l2 := H0.out.kern.lay2
      rcases s with ⟨s, _, _⟩ | ⟨s, _⟩
      · exact s
      · show B ≤ z
        omega)).trans (g4.mono (fun _ _ e => e.elim))).trans (g5.mono (fun z _ e => by show B ≤ z; omega)))
  clear hst3 hco3 hco4 hst4 r4 z4 hW4 hW5 g4 m5 g5 hfin hk3 hch3 cK
  go_wp2_with fail
  go_ret2
  exact ⟨nb, w3.heap.size, g0, rfl, HG0.out, HFIN.out, HCF.out⟩
end
end Go.Proofs.YtcngfaggignmpaaGreatDoor
