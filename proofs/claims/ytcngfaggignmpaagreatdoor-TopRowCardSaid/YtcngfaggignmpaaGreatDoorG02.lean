/-
  The top, part 2: Rings, RingList, Lad.
-/
import Derived.Test.YtcngfaggignmpaaGreatDoorG01
import Derived.Test.YtcngfaggignmpaaGreatDoorProg
import Derived.Laws.AppendOwn
import Derived.Deep.QuietTactic
import Derived.BigQuiet
import Derived.Lib.BitFns

/-
  Rings: the exported functions, over a ring as a list.
-/
namespace Go.Proofs.YtcngfaggignmpaaGreatDoor
open Go.RowKit

theorem drN (w : World) (a b : Nat) : ∃ q, (w.drewN a).drewN b = w.drewN q := ⟨a + b, by simp [World.drewN, Nat.add_assoc]⟩

/-- A ring in block p, its places in block b, that holds l. -/
def Ring (p b : Nat) (l : List Int) (w : World) : Prop := ∃ t t' f arr, RingAt p b t t' f arr l w
section
variable {w w' : World} {p b : Nat} {l : List Int} {S : Nat → Prop}
theorem Ring.drewN (h : Ring p b l w) (q : Nat) : Ring p b l (w.drewN q) := by obtain ⟨t, t', f, arr, h⟩ := h; exact ⟨t, t', f, arr, h.drewN q⟩
theorem Ring.keeps (h : Ring p b l w) (g : Ch S w w') (h1 : ¬ S p) (h2 : ¬ S b) : Ring p b l w' := by obtain ⟨t, t', f, arr, h⟩ := h; exact ⟨t, t', f, arr, h.keeps g h1 h2⟩
theorem Ring.ltp (h : Ring p b l w) : p < w.heap.size := by obtain ⟨t, t', f, arr, h⟩ := h; exact h.head.lt
theorem Ring.ltb (h : Ring p b l w) : b < w.heap.size := by obtain ⟨t, t', f, arr, h⟩ := h; exact h.body.lt
end

set_option maxHeartbeats 1000000 in
theorem ringThere_any (w : World) (p b : Nat) (l : List Int) (h : Ring p b l w) :
    Calls Tryz.prog 184 #[.pointer (some ⟨p, 0, none⟩)] w fun e w' => e = .returned (.bool true) ∧ ∃ q, w' = w.drewN q := by
  obtain ⟨t, t', f, arr, h⟩ := h
  have c0 := h.head.cell (j := 0) rfl
  clear h
  go_enter Tryz.func184, Tryz.ntmps184
  go_wp2_with fail
  go_ret
  exact ⟨rfl, 0, rfl⟩

theorem plc_in {l : List Int} {x : Int} (h : x ∈ l) : plc l x = (l.idxOf x : Int) := by unfold plc; rw [if_pos h]
theorem plc_out {l : List Int} {x : Int} (h : x ∉ l) : plc l x = -1 := by unfold plc; rw [if_neg h]

set_option maxHeartbeats 1000000 in
theorem ringMay_any (w : World) (p b : Nat) (l : List Int) (x : Int) (h : Ring p b l w) (h0 : 0 ≤ x) (hx : x ∉ l) (hl : l.length < 256) :
    Calls Tryz.prog 190 #[.pointer (some ⟨p, 0, none⟩), .int .i64 x] w fun e w' => e = .returned (.int .i64 0) ∧ ∃ q, w' = w.drewN q := by
  have HR := Lib.hid h
  obtain ⟨t, t', f, arr, h⟩ := h
  have H := Lib.hid h
  have c0 := h.head.cell (j := 0) rfl
  have c2 := h.head.cell (j := 2) rfl
  have HP := Lib.hid (plc_out hx)
  have hd : decide (x < 0) = false := by rw [decide_eq_false_iff_not]; omega
  have hb : ((l.length : Int) == 256) = false := by rw [beq_eq_false_iff_ne]; omega
  clear h hx
  go_enter Tryz.func190, Tryz.ntmps190
  go_wp2_with fail
  refine (ringThere_any _ p b l HR.out).mono ?_; rintro e1 w1 ⟨rfl, q1, rfl⟩
  go_wp2_with fail
  refine (find_any _ p b f t t' arr l x (H.out.drewN q1)).mono ?_; rintro e1 w1 ⟨rfl, q2, rfl⟩
  rw [HP.out]
  go_wp2_with fail
  go_quiet (fail)
  go_wp2_with fail
  go_ret
  exact ⟨rfl, drN _ _ _⟩

set_option maxHeartbeats 1000000 in
theorem ringPut_any (w : World) (p b : Nat) (l : List Int) (x : Int) (h : Ring p b l w) (h0 : 0 ≤ x) (hx : x ∉ l) (hl : l.length < 256) :
    Calls Tryz.prog 160 #[.pointer (some ⟨p, 0, none⟩), .int .i64 x] w fun e w' => e = .returned (.int .i64 0) ∧ Ring p b (l ++ [x]) w' ∧ Ch (Rb p b) w w' := by
  have HR := Lib.hid h
  have HX := Lib.hid hx
  clear h hx
  go_enter Tryz.func160, Tryz.ntmps160
  go_wp2_with fail
  refine (ringMay_any _ p b l x HR.out h0 HX.out hl).mono ?_; rintro e1 w1 ⟨rfl, q1, rfl⟩
  go_wp2_with fail
  obtain ⟨t, t', f, arr, h⟩ := HR.out
  have H := Lib.hid h
  clear h
  refine (add_any _ p b f t t' arr l x (H.out.drewN q1) hl).mono ?_; rintro e1 w1 ⟨rfl, ⟨arr', hr⟩, hch⟩
  go_wp2_with fail
  go_ret
  exact ⟨rfl, ⟨_, _, _, _, hr⟩, (Ch.drewN w q1).trans hch⟩

set_option maxHeartbeats 1000000 in
theorem ringRemove_any (w : World) (p b : Nat) (l : List Int) (x : Int) (h : Ring p b l w) (hx : x ∈ l) :
    Calls Tryz.prog 156 #[.pointer (some ⟨p, 0, none⟩), .int .i64 x] w fun e w' => e = .returned (.int .i64 0) ∧ Ring p b (l.erase x) w' ∧ Ch (Rb p b) w w' := by
  have HR := Lib.hid h
  obtain ⟨t, t', f, arr, h⟩ := h
  have H := Lib.hid h
  have hi : l.idxOf x < l.length := List.idxOf_lt_length_of_mem hx
  have HP := Lib.hid (plc_in hx)
  have HG : Hid (l[l.idxOf x]? = some x) := Lib.hid (by rw [List.getElem?_eq_getElem hi]; congr 1; exact List.getElem_idxOf hi)
  have HE : Hid (l.eraseIdx (l.idxOf x) = l.erase x) := Lib.hid (List.erase_eq_eraseIdx_of_idxOf rfl).symm
  clear h hx
  generalize l.idxOf x = k at *
  go_enter Tryz.func156, Tryz.ntmps156
  go_wp2_with fail
  refine (ringThere_any _ p b l HR.out).mono ?_; rintro e1 w1 ⟨rfl, q1, rfl⟩
  go_wp2_with fail
  refine (find_any _ p b f t t' arr l x (H.out.drewN q1)).mono ?_; rintro e1 w1 ⟨rfl, q2, rfl⟩
  rw [HP.out]
  go_wp2_with fail
  refine (cut_any _ p b f k t t' arr l x (H.out.drewN _) HG.out).mono ?_; rintro e1 w1 ⟨rfl, ⟨f', arr', hr⟩, hch⟩
  go_wp2_with fail
  go_ret
  rw [HE.out] at hr
  exact ⟨rfl, ⟨_, _, _, _, hr⟩, (Ch.drewN w _).trans hch⟩

theorem info3 : (Tryz.prog.info? 3).map (fun i => (i.zero, i.size, i.bytes)) = some (some (.int .i64 0), 1, 8) := by kernel_rfl
/-- 'make([]int, 256)'. -/
theorem mk256 : ∃ Z : Array Value, Z.size = 256 ∧ (∀ j, j < 256 → Z[j]? = some (.int .i64 0)) ∧
    ∀ w : World, (Instr.makeSlice 120 (.int .i64 256) (.int .i64 256)).run Tryz.prog w = .ok (.slice (some ⟨w.heap.size, 0, none⟩) 256 256) (w.alloc (.cells Z 3)) := by
  obtain ⟨i0, hi, hz0, hz1, hz2⟩ := info_parts info3
  refine ⟨madeCells (Value.int .i64 0).cells (256 * 1), by simp [madeCells], fun j hj => ?_, fun w => ?_⟩
  · have hj' : j < 256 * 1 := by omega
    simp [madeCells, hj, Value.cells, Nat.mod_one]
  · have := run_make (P := Tryz.prog) w 120 3 i0 (.int .i64 0) Tryz.underlying120 hi hz0 .i64 .i64 256 256 (by omega) (by omega) (by rw [hz2]; omega) (by omega)
    rw [hz1] at this
    exact this

set_option maxHeartbeats 1000000 in
theorem ringNew_any (w : World) : Calls Tryz.prog 87 #[.int .i64 256] w fun e w' => e = .returned (.tuple #[.pointer (some ⟨w.heap.size + 1, 0, none⟩), .int .i64 0]) ∧ Ring (w.heap.size + 1) w.heap.size [] w' ∧ Ch No w w' ∧ w'.heap.size = w.heap.size + 2 := by
  obtain ⟨Z, hs, hz, hmk⟩ := mk256
  have HS := Lib.hid hs
  have HZ := Lib.hid hz
  clear hs hz
  go_enter Tryz.func87, Tryz.ntmps87
  go_wp2_with fail
  go_ret2
  have h1 := Row.new w 3 Z
  have hsz : (w.alloc (.cells Z 3)).heap.size = w.heap.size + 1 := World.size_alloc _ _
  refine ⟨by first | rfl | (simp), ⟨295, 3, 0, Z, ⟨by decide, by simp, ?_, h1.alloc _, by omega, HS.out, fun j hj => ⟨0, HZ.out j hj⟩, fun i x e => by simp at e⟩⟩, (Ch.alloc w _).trans (Ch.alloc _ _), by simp⟩
  have := Row.new (w.alloc (.cells Z 3)) 295 #[.slice (some ⟨w.heap.size, 0, none⟩) 256 256, .int .i64 0, .int .i64 0]
  rw [hsz] at this
  exact this
end Go.Proofs.YtcngfaggignmpaaGreatDoor

/-
  Rings: the list of all.
-/
namespace Go.Proofs.YtcngfaggignmpaaGreatDoor
open Go.RowKit

theorem Ch.grownNone {w w' : World} (S : Nat → Prop) (h : w.grownBy w' none) : Ch S w w' :=
  ⟨h.os, h.tape, h.output, h.size, fun k hk _ => h.block k hk (fun e => by cases e)⟩

theorem own_ge {w : World} {base : Nat} {e : TypeId} {size : Nat} {v : Value} {n : Nat} {xs : List Value} (h : w.ownsRow base e size v n xs) : ∀ g, v.ownBlock = some g → base ≤ g := by
  intro g hg
  rcases h.2 with ⟨rfl, _⟩ | ⟨g', cap, cur, rfl, hb, _⟩
  · simp [Value.ownBlock] at hg
  · simp [Value.ownBlock] at hg; omega
theorem Ch.grownOwn {S : Nat → Prop} {w wx w2 : World} {o : Option Nat} (h : Ch S w wx) (g : wx.grownBy w2 o) (ho : ∀ g, o = some g → w.heap.size ≤ g) : Ch S w w2 :=
  ⟨g.os.trans h.os, g.tape.trans h.tape, g.output.trans h.output, Nat.le_trans h.size g.size, fun k hk hn =>
    (g.block k (Nat.lt_of_lt_of_le hk h.size) (fun e => absurd (ho k (by first | exact e | exact e.symm)) (by omega))).trans (h.block k hk hn)⟩

/-- A slice of whole numbers that was made since base, and holds l. -/
def Ints (base : Nat) (v : Value) (l : List Int) (w : World) : Prop := w.ownsRow base 3 1 v l.length (l.map (Value.int .i64))

theorem Ints.slice {base : Nat} {v : Value} {l : List Int} {w : World} (h : Ints base v l w) : ∃ a cap, v = .slice a l.length cap := by
  rcases h.2 with ⟨e, h0⟩ | ⟨g, cap, cur, e, _⟩
  · exact ⟨none, 0, by rw [e, h0]⟩
  · exact ⟨_, _, e⟩
/-- Where something lies in it, it lies in a block. -/
theorem Ints.cells {base : Nat} {v : Value} {l : List Int} {w : World} (h : Ints base v l w) (hl : l ≠ []) :
    ∃ g cap, v = .slice (some ⟨g, 0, none⟩) l.length cap ∧ base ≤ g ∧ ∃ cs, Row g 3 cs w ∧ ∀ (i : Nat) x, l[i]? = some x → cs[i]? = some (.int .i64 x) := by
  rcases h.2 with ⟨e, h0⟩ | ⟨g, cap, cur, e, hb, hg, hn, hm, hs, ht⟩
  · exact absurd (List.eq_nil_of_length_eq_zero h0) hl
  · refine ⟨g, cap, e, hb, cur, hg, fun i x hi => ?_⟩
    have hil : i < l.length := (List.getElem?_eq_some_iff.1 hi).1
    have h1 : (cur.toList.take (l.length * 1))[i]? = some (.int .i64 x) := by rw [ht, List.getElem?_map, hi]; rfl
    rw [List.getElem?_take_of_lt (by omega)] at h1
    simpa using h1

set_option maxHeartbeats 2000000 in
theorem ringList_any (w : World) (p b : Nat) (l : List Int) (h : Ring p b l w) :
    Calls Tryz.prog 157 #[.pointer (some ⟨p, 0, none⟩)] w fun e w' => ∃ v, e = .returned v ∧ Ints w.heap.size v l w' ∧ Ch No w w' := by
  obtain ⟨i0, hi, hz0, hz1, hz2⟩ := info_parts info3
  have HR := Lib.hid h
  obtain ⟨t, t', f, arr, h⟩ := h
  have H := Lib.hid h
  have c2 := h.head.cell (j := 2) rfl
  have hm := h.most
  clear h
  go_enter Tryz.func157, Tryz.ntmps157
  go_wp2_with fail
  refine (ringThere_any _ p b l HR.out).mono ?_; rintro e1 w1 ⟨rfl, q1, rfl⟩
  go_wp2_with fail
  go_loopw [2, 3, 12] (fun v _ i wr => ∃ k : Nat, k ≤ l.length ∧ i = .int .i64 (k : Int) ∧ wr.ownsRow w.heap.size 3 1 v k ((l.take k).map (Value.int .i64)) ∧ Ch No w wr) (fun _ _ i _ => l.length - (intOf i).toNat)
  case atStart => exact ⟨0, by omega, rfl, World.ownsRow_nil _ _ _ _, Ch.drewN w q1⟩
  case round =>
    obtain ⟨k, hk, rfl, hown, hch⟩ := hrel
    by_cases hlt : k < l.length
    · obtain ⟨y, hy⟩ : ∃ y, l[k]? = some y := ⟨_, List.getElem?_eq_getElem hlt⟩
      have hr := H.out.keeps hch (fun x => x) (fun x => x)
      have cb := hr.body.cell (hr.has k y hy)
      have HT : Hid ((l.take (k + 1)).map (Value.int .i64) = (l.take k).map (Value.int .i64) ++ [.int .i64 y]) := Lib.hid (by rw [List.take_add_one, hy]; simp)
      have HH := Lib.hid hr
      have HC := Lib.hid hch
      have hsz := hch.size
      clear hr hy hch
      go_wp2_with fail
      refine (at_any _ p b f l.length k t HH.out.head HH.out.first (by omega)).mono ?_; rintro e1 w1 ⟨rfl, q2, rfl⟩
      go_wp2_with (first
        | (at_builtin; refine wpList_append_own _ rfl _ _ 120 rfl w.heap.size 3 i0 (.int .i64 0) 1 8 Tryz.underlying120 hi hz0 hz1 hz2 rfl (by decide) _ _ _ rfl (World.ownsRow.alloc (w := wr.drewN q2) hown _) ⟨wr.heap.size, 0, none⟩ 1 1 [.int .i64 y] rfl rfl ?c1 ?c2 ?c3 ?c4 ?c5 ?_))
      case c1 =>
        intro j u hj
        match j, hj with
        | 0, hj => simp at hj; subst hj; exact (Row.new (wr.drewN q2) 3 #[.int .i64 y]).cell (j := 0) rfl
      case c2 => intro u hu; simp at hu; subst hu; rfl
      case c3 => unfold maxLen; omega
      case c4 => omega
      case c5 => simp; omega
      · intro v' w2 hown' hgrow _
        have hg2 : Ch No w w2 := ((HC.out.trans (Ch.drewN wr q2)).trans (Ch.alloc _ _)).grownOwn hgrow (own_ge hown)
        clear hown hgrow
        go_wp2
        go_roundw
        case rel => exact ⟨k + 1, by omega, by go_num, by rw [HT.out, List.map_take]; exact hown', hg2⟩
        case measure => simp [intOf]; omega
    · obtain rfl : k = l.length := by omega
      rw [List.take_length] at hown
      go_wp2_with fail
      go_ret
      exact ⟨_, rfl, hown, hch⟩
end Go.Proofs.YtcngfaggignmpaaGreatDoor

/-
  Ladders: a word of 32 ranks.
-/
namespace Go.Proofs.YtcngfaggignmpaaGreatDoor
open Go.RowKit

theorem len8_w (b : Int) (h0 : 0 ≤ b) (h1 : b ≤ 255) : wrap64 (Lib.len8 b) = (Lib.bitLen b.toNat : Int) ∧ (Lib.bitLen b.toNat : Int) ≤ 8 := by
  have e := Lib.len8_of b h0 h1
  have l := Lib.bitLen_le8' b h0 h1
  rw [e]
  unfold wrap64
  omega

set_option maxHeartbeats 1000000 in
theorem len32_any (w : World) (x : Int) (h0 : 0 ≤ x) (h1 : x ≤ 4294967295) : Calls Tryz.prog 163 #[.int .u32 x] w fun e w' => e = .returned (.int .i64 (Lib.bitLen x.toNat)) ∧ w = w' := by
  by_cases a : 65536 ≤ x
  · have ea : decide (65536 ≤ x) = true := by rw [decide_eq_true_iff]; exact a
    by_cases b : 256 ≤ x / 65536
    · have eb : decide (256 ≤ x / 65536) = true := by rw [decide_eq_true_iff]; exact b
      have y0 : 0 ≤ x / 65536 / 256 := by omega
      have y1 : x / 65536 / 256 ≤ 255 := by omega
      have L := len8_w (x / 65536 / 256) y0 y1
      have B : Lib.bitLen x.toNat = 24 + Lib.bitLen (x / 65536 / 256).toNat := by
        rw [Lib.bitLen_shift24 x.toNat (by omega) (by omega)]
        congr 2; omega
      have F : Hid (wrap64 (24 + wrap64 (Lib.len8 (x / 65536 / 256))) = (Lib.bitLen x.toNat : Int)) := Lib.hid (by rw [L.1, B]; have := L.2; unfold wrap64; omega)
      clear L B
      go_enter Tryz.func163, Tryz.ntmps163
      go_wp2_with fail
      go_ret
      exact ⟨congrArg (fun z => Ending.returned (Value.int .i64 z)) F.out, rfl⟩
    · have eb : decide (256 ≤ x / 65536) = false := by rw [decide_eq_false_iff_not]; exact b
      have y0 : 0 ≤ x / 65536 := by omega
      have y1 : x / 65536 ≤ 255 := by omega
      have L := len8_w (x / 65536) y0 y1
      have B : Lib.bitLen x.toNat = 16 + Lib.bitLen (x / 65536).toNat := by
        rw [Lib.bitLen_shift16 x.toNat (by omega) (by omega)]
        congr 2; omega
      have F : Hid (wrap64 (16 + wrap64 (Lib.len8 (x / 65536))) = (Lib.bitLen x.toNat : Int)) := Lib.hid (by rw [L.1, B]; have := L.2; unfold wrap64; omega)
      clear L B
      go_enter Tryz.func163, Tryz.ntmps163
      go_wp2_with fail
      go_ret
      exact ⟨congrArg (fun z => Ending.returned (Value.int .i64 z)) F.out, rfl⟩
  · have ea : decide (65536 ≤ x) = false := by rw [decide_eq_false_iff_not]; exact a
    by_cases b : 256 ≤ x
    · have eb : decide (256 ≤ x) = true := by rw [decide_eq_true_iff]; exact b
      have y0 : 0 ≤ x / 256 := by omega
      have y1 : x / 256 ≤ 255 := by omega
      have L := len8_w (x / 256) y0 y1
      have B : Lib.bitLen x.toNat = 8 + Lib.bitLen (x / 256).toNat := by
        rw [Lib.bitLen_shift8 x.toNat (by omega) (by omega)]
        congr 2; omega
      have F : Hid (wrap64 (8 + wrap64 (Lib.len8 (x / 256))) = (Lib.bitLen x.toNat : Int)) := Lib.hid (by rw [L.1, B]; have := L.2; unfold wrap64; omega)
      clear L B
      go_enter Tryz.func163, Tryz.ntmps163
      go_wp2_with fail
      go_ret
      exact ⟨congrArg (fun z => Ending.returned (Value.int .i64 z)) F.out, rfl⟩
    · have eb : decide (256 ≤ x) = false := by rw [decide_eq_false_iff_not]; exact b
      have y0 : 0 ≤ x := by omega
      have y1 : x ≤ 255 := by omega
      have L := len8_w (x) y0 y1
      have B : Lib.bitLen x.toNat = 0 + Lib.bitLen (x).toNat := by
        rw [Nat.zero_add]
      have F : Hid (wrap64 (wrap64 (Lib.len8 (x))) = (Lib.bitLen x.toNat : Int)) := Lib.hid (by rw [L.1, B]; have := L.2; unfold wrap64; omega)
      clear L B
      go_enter Tryz.func163, Tryz.ntmps163
      go_wp2_with fail
      go_ret
      exact ⟨congrArg (fun z => Ending.returned (Value.int .i64 z)) F.out, rfl⟩

/-- A bit of a word. -/
def wb (c : Int) (j : Nat) : Bool := c.toNat.testBit j
/-- A word of 32 bits. -/
def w32 (c : Int) : Prop := 0 ≤ c ∧ c ≤ 4294967295
/-- A rank more, a rank less. -/
def setW (c r : Int) : Int := bits BinOp.or .u32 c (2 ^ r.toNat % 4294967296)
def clrW (c r : Int) : Int := bits BinOp.andNot .u32 c (2 ^ r.toNat % 4294967296)

theorem w32_nat {c : Int} (h : w32 c) : ∃ n : Nat, n < 4294967296 ∧ c = (n : Int) := ⟨c.toNat, by have := h.1; have := h.2; omega, by have := h.1; omega⟩
theorem u32_id (n : Int) (g0 : 0 ≤ n) (g1 : n < 2 ^ 32) : IntKind.u32.wrap n = n := by rw [IntKind.wrap_u32]; omega
theorem two_pow32 (r : Int) (h0 : 0 ≤ r) (h1 : r ≤ 31) : (2 : Int) ^ r.toNat % 4294967296 = ((2 ^ r.toNat : Nat) : Int) ∧ 2 ^ r.toNat < 4294967296 := by
  have h : (2 : Nat) ^ r.toNat ≤ 2 ^ 31 := Nat.pow_le_pow_right (by decide) (by omega)
  have e : (2 : Int) ^ r.toNat = ((2 ^ r.toNat : Nat) : Int) := by simp
  rw [e]
  generalize 2 ^ r.toNat = z at *
  omega
theorem w32_setW (c r : Int) : w32 (setW c r) := ⟨bits_lo_u32 _ _ _, bits_hi_u32 _ _ _⟩
theorem w32_clrW (c r : Int) : w32 (clrW c r) := ⟨bits_lo_u32 _ _ _, bits_hi_u32 _ _ _⟩
theorem high32 {x : Nat} (hx : x < 4294967296) {j : Nat} (hj : 32 ≤ j) : x.testBit j = false :=
  Nat.testBit_lt_two_pow (Nat.lt_of_lt_of_le (show x < 2 ^ 32 from hx) (Nat.pow_le_pow_right (by decide) hj))
theorem wb_setW {c r : Int} (hc : w32 c) (h0 : 0 ≤ r) (h1 : r ≤ 31) (j : Nat) : wb (setW c r) j = (wb c j || decide (r.toNat = j)) := by
  obtain ⟨x, hx, rfl⟩ := w32_nat hc
  obtain ⟨e, hl⟩ := two_pow32 r h0 h1
  unfold setW
  rw [e, (bits_nat .u32 32 (by decide) u32_id x _ hx hl).2]
  unfold wb
  rw [Int.toNat_natCast, Int.toNat_natCast, Nat.testBit_or, Nat.testBit_two_pow]
theorem wb_clrW {c r : Int} (hc : w32 c) (h0 : 0 ≤ r) (h1 : r ≤ 31) (j : Nat) : wb (clrW c r) j = (wb c j && !decide (r.toNat = j)) := by
  obtain ⟨x, hx, rfl⟩ := w32_nat hc
  obtain ⟨e, hl⟩ := two_pow32 r h0 h1
  unfold clrW
  rw [e]
  have e2 : bits BinOp.andNot .u32 (x : Int) ((2 ^ r.toNat : Nat) : Int) = (((BitVec.ofNat 32 x &&& ~~~ BitVec.ofNat 32 (2 ^ r.toNat)).toNat : Nat) : Int) := by
    simp only [bits, BitVec.ofInt_natCast]
    exact u32_id _ (Int.natCast_nonneg _) (by have := (BitVec.ofNat 32 x &&& ~~~ BitVec.ofNat 32 (2 ^ r.toNat)).isLt; exact_mod_cast this)
  rw [e2]
  unfold wb
  rw [Int.toNat_natCast, BitVec.testBit_toNat, BitVec.getLsbD_and, BitVec.getLsbD_not, BitVec.getLsbD_ofNat, BitVec.getLsbD_ofNat, Nat.testBit_two_pow, Int.toNat_natCast]
  by_cases hj : j < 32
  · simp [hj]
  · have hz := high32 hx (j := j) (by omega)
    simp [hj, hz]

set_option maxHeartbeats 1000000 in
theorem step_any (w : World) (r : Int) (h0 : 0 ≤ r) (h1 : r ≤ 31) : Calls Tryz.prog 188 #[.int .i64 r] w fun e w' => e = .returned (.int .u32 (2 ^ r.toNat % 4294967296)) ∧ w = w' := by
  go_enter Tryz.func188, Tryz.ntmps188
  go_wp2_with fail
  go_ret
  exact ⟨rfl, rfl⟩
set_option maxHeartbeats 1000000 in
theorem ladSet_any (w : World) (c r : Int) (h0 : 0 ≤ r) (h1 : r ≤ 31) : Calls Tryz.prog 192 #[.int .u32 c, .int .i64 r] w fun e w' => e = .returned (.int .u32 (setW c r)) ∧ w = w' := by
  go_enter Tryz.func192, Tryz.ntmps192
  go_wp2_with fail
  refine (step_any _ r h0 h1).mono ?_; rintro e w1 ⟨rfl, rfl⟩
  go_wp2_with fail
  go_ret
  exact ⟨rfl, rfl⟩
set_option maxHeartbeats 1000000 in
theorem ladClear_any (w : World) (c r : Int) (h0 : 0 ≤ r) (h1 : r ≤ 31) : Calls Tryz.prog 158 #[.int .u32 c, .int .i64 r] w fun e w' => e = .returned (.int .u32 (clrW c r)) ∧ w = w' := by
  go_enter Tryz.func158, Tryz.ntmps158
  go_wp2_with fail
  refine (step_any _ r h0 h1).mono ?_; rintro e w1 ⟨rfl, rfl⟩
  go_wp2_with fail
  go_ret
  exact ⟨rfl, rfl⟩

theorem bitLen_top {x r : Nat} (h : x.testBit r = true) (hn : ∀ j, r < j → j < 32 → x.testBit j = false) (hx : x < 4294967296) : Lib.bitLen x = r + 1 := by
  have h1 : 2 ^ r ≤ x := Nat.ge_two_pow_of_testBit h
  have h2 : x < 2 ^ (r + 1) := by
    apply Nat.lt_pow_two_of_testBit
    intro i hi
    by_cases hi2 : i < 32
    · exact hn i (by omega) hi2
    · exact high32 hx (by omega)
  rw [Lib.bitLen_shift r x h1 (by omega)]
  have h3 : x / 2 ^ r = 1 := by
    rw [Nat.pow_succ] at h2
    exact Nat.div_eq_of_lt_le (by omega) (by omega)
  rw [h3]
  rfl

set_option maxHeartbeats 1000000 in
theorem ladFirst_any (w : World) (c : Int) (r : Nat) (hc : w32 c) (hr : r < 32) (h : wb c r = true) (hn : ∀ j, r < j → j < 32 → wb c j = false) :
    Calls Tryz.prog 99 #[.int .u32 c] w fun e w' => e = .returned (.tuple #[.int .i64 r, .bool true]) ∧ w = w' := by
  obtain ⟨x, hx, rfl⟩ := w32_nat hc
  have HL : Hid (Lib.bitLen ((x : Int)).toNat = r + 1) := Lib.hid (by
    rw [Int.toNat_natCast]
    refine bitLen_top ?_ ?_ hx
    · unfold wb at h; rw [Int.toNat_natCast] at h; exact h
    · intro j h1 h2; have := hn j h1 h2; unfold wb at this; rw [Int.toNat_natCast] at this; exact this)
  have hne : ((x : Int) != 0) = true := by
    rw [bne_iff_ne]; intro e; rw [e] at h; unfold wb at h; simp at h
  clear hc h hn
  go_enter Tryz.func99, Tryz.ntmps99
  go_wp2_with fail
  refine (len32_any _ (x : Int) (by omega) (by omega)).mono ?_; rintro e w1 ⟨rfl, rfl⟩
  rw [HL.out]
  go_wp2_with fail
  · go_ret2
    exact ⟨rfl, rfl⟩
  · obtain rfl : r = 0 := by omega
    go_ret2
    exact ⟨rfl, rfl⟩
end Go.Proofs.YtcngfaggignmpaaGreatDoor
