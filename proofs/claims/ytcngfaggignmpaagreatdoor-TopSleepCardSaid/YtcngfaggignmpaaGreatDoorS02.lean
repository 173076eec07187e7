/-
  The top, part 2: Lad, Ready, ReadyPut, ReadyRem.
-/
import Derived.Test.YtcngfaggignmpaaGreatDoorProg
import Derived.Test.YtcngfaggignmpaaGreatDoorS01
import Derived.Deep.QuietTactic
import Derived.BigQuiet
import Derived.Lib.BitFns

/-
  Ladders: a word of 32 ranks.
-/
namespace Go.Proofs.YtcngfaggignmpaaGreatDoor
open Go.RowKit

theorem len8_w (b : Int) (h0 : 0 ≤ b) (h1 : b ≤ 255) : wrap64 (Lib.len8 b) = (Lib.bitLen b.toNat : Int) ∧ (Lib.bitLen b.toNat : Int) ≤ 8 := by
  have e := Lib.len8_of b h0 h1
  have l := Lib.bitLen_le8' b h0 h1
  rw [e]
  unfold wrap64
  omega

set_option maxHeartbeats 1000000 in
theorem len32_any (w : World) (x : Int) (h0 : 0 ≤ x) (h1 : x ≤ 4294967295) : Calls Tryz.prog 163 #[.int .u32 x] w fun e w' => e = .returned (.int .i64 (Lib.bitLen x.toNat)) ∧ w = w' := by
  by_cases a : 65536 ≤ x
  · have ea : decide (65536 ≤ x) = true := by rw [decide_eq_true_iff]; exact a
    by_cases b : 256 ≤ x / 65536
    · have eb : decide (256 ≤ x / 65536) = true := by rw [decide_eq_true_iff]; exact b
      have y0 : 0 ≤ x / 65536 / 256 := by omega
      have y1 : x / 65536 / 256 ≤ 255 := by omega
      have L := len8_w (x / 65536 / 256) y0 y1
      have B : Lib.bitLen x.toNat = 24 + Lib.bitLen (x / 65536 / 256).toNat := by
        rw [Lib.bitLen_shift24 x.toNat (by omega) (by omega)]
        congr 2; omega
      have F : Hid (wrap64 (24 + wrap64 (Lib.len8 (x / 65536 / 256))) = (Lib.bitLen x.toNat : Int)) := Lib.hid (by rw [L.1, B]; have := L.2; unfold wrap64; omega)
      clear L B
      go_enter Tryz.func163, Tryz.ntmps163
      go_wp2_with fail
      go_ret
      exact ⟨congrArg (fun z => Ending.returned (Value.int .i64 z)) F.out, rfl⟩
    · have eb : decide (256 ≤ x / 65536) = false := by rw [decide_eq_false_iff_not]; exact b
      have y0 : 0 ≤ x / 65536 := by omega
      have y1 : x / 65536 ≤ 255 := by omega
      have L := len8_w (x / 65536) y0 y1
      have B : Lib.bitLen x.toNat = 16 + Lib.bitLen (x / 65536).toNat := by
        rw [Lib.bitLen_shift16 x.toNat (by omega) (by omega)]
        congr 2; omega
      have F : Hid (wrap64 (16 + wrap64 (Lib.len8 (x / 65536))) = (Lib.bitLen x.toNat : Int)) := Lib.hid (by rw [L.1, B]; have := L.2; unfold wrap64; omega)
      clear L B
      go_enter Tryz.func163, Tryz.ntmps163
      go_wp2_with fail
      go_ret
      exact ⟨congrArg (fun z => Ending.returned (Value.int .i64 z)) F.out, rfl⟩
  · have ea : decide (65536 ≤ x) = false := by rw [decide_eq_false_iff_not]; exact a
    by_cases b : 256 ≤ x
    · have eb : decide (256 ≤ x) = true := by rw [decide_eq_true_iff]; exact b
      have y0 : 0 ≤ x / 256 := by omega
      have y1 : x / 256 ≤ 255 := by omega
      have L := len8_w (x / 256) y0 y1
      have B : Lib.bitLen x.toNat = 8 + Lib.bitLen (x / 256).toNat := by
        rw [Lib.bitLen_shift8 x.toNat (by omega) (by omega)]
        congr 2; omega
      have F : Hid (wrap64 (8 + wrap64 (Lib.len8 (x / 256))) = (Lib.bitLen x.toNat : Int)) := Lib.hid (by rw [L.1, B]; have := L.2; unfold wrap64; omega)
      clear L B
      go_enter Tryz.func163, Tryz.ntmps163
      go_wp2_with fail
      go_ret
      exact ⟨congrArg (fun z => Ending.returned (Value.int .i64 z)) F.out, rfl⟩
    · have eb : decide (256 ≤ x) = false := by rw [decide_eq_false_iff_not]; exact b
      have y0 : 0 ≤ x := by omega
      have y1 : x ≤ 255 := by omega
      have L := len8_w (x) y0 y1
      have B : Lib.bitLen x.toNat = 0 + Lib.bitLen (x).toNat := by
        rw [Nat.zero_add]
      have F : Hid (wrap64 (wrap64 (Lib.len8 (x))) = (Lib.bitLen x.toNat : Int)) := Lib.hid (by rw [L.1, B]; have := L.2; unfold wrap64; omega)
      clear L B
      go_enter Tryz.func163, Tryz.ntmps163
      go_wp2_with fail
      go_ret
      exact ⟨congrArg (fun z => Ending.returned (Value.int .i64 z)) F.out, rfl⟩

/-- A bit of a word. -/
def wb (c : Int) (j : Nat) : Bool := c.toNat.testBit j
/-- A word of 32 bits. -/
def w32 (c : Int) : Prop := 0 ≤ c ∧ c ≤ 4294967295
/-- A rank more, a rank less. -/
def setW (c r : Int) : Int := bits BinOp.or .u32 c (2 ^ r.toNat % 4294967296)
def clrW (c r : Int) : Int := bits BinOp.andNot .u32 c (2 ^ r.toNat % 4294967296)

theorem w32_nat {c : Int} (h : w32 c) : ∃ n : Nat, n < 4294967296 ∧ c = (n : Int) := ⟨c.toNat, by have := h.1; have := h.2; omega, by have := h.1; omega⟩
theorem u32_id (n : Int) (g0 : 0 ≤ n) (g1 : n < 2 ^ 32) : IntKind.u32.wrap n = n := by rw [IntKind.wrap_u32]; omega
theorem two_pow32 (r : Int) (h0 : 0 ≤ r) (h1 : r ≤ 31) : (2 : Int) ^ r.toNat % 4294967296 = ((2 ^ r.toNat : Nat) : Int) ∧ 2 ^ r.toNat < 4294967296 := by
  have h : (2 : Nat) ^ r.toNat ≤ 2 ^ 31 := Nat.pow_le_pow_right (by decide) (by omega)
  have e : (2 : Int) ^ r.toNat = ((2 ^ r.toNat : Nat) : Int) := by simp
  rw [e]
  generalize 2 ^ r.toNat = z at *
  omega
theorem w32_setW (c r : Int) : w32 (setW c r) := ⟨bits_lo_u32 _ _ _, bits_hi_u32 _ _ _⟩
theorem w32_clrW (c r : Int) : w32 (clrW c r) := ⟨bits_lo_u32 _ _ _, bits_hi_u32 _ _ _⟩
theorem high32 {x : Nat} (hx : x < 4294967296) {j : Nat} (hj : 32 ≤ j) : x.testBit j = false :=
  Nat.testBit_lt_two_pow (Nat.lt_of_lt_of_le (show x < 2 ^ 32 from hx) (Nat.pow_le_pow_right (by decide) hj))
theorem wb_setW {c r : Int} (hc : w32 c) (h0 : 0 ≤ r) (h1 : r ≤ 31) (j : Nat) : wb (setW c r) j = (wb c j || decide (r.toNat = j)) := by
  obtain ⟨x, hx, rfl⟩ := w32_nat hc
  obtain ⟨e, hl⟩ := two_pow32 r h0 h1
  unfold setW
  rw [e, (bits_nat .u32 32 (by decide) u32_id x _ hx hl).2]
  unfold wb
  rw [Int.toNat_natCast, Int.toNat_natCast, Nat.testBit_or, Nat.testBit_two_pow]
theorem wb_clrW {c r : Int} (hc : w32 c) (h0 : 0 ≤ r) (h1 : r ≤ 31) (j : Nat) : wb (clrW c r) j = (wb c j && !decide (r.toNat = j)) := by
  obtain ⟨x, hx, rfl⟩ := w32_nat hc
  obtain ⟨e, hl⟩ := two_pow32 r h0 h1
  unfold clrW
  rw [e]
  have e2 : bits BinOp.andNot .u32 (x : Int) ((2 ^ r.toNat : Nat) : Int) = (((BitVec.ofNat 32 x &&& ~~~ BitVec.ofNat 32 (2 ^ r.toNat)).toNat : Nat) : Int) := by
    simp only [bits, BitVec.ofInt_natCast]
    exact u32_id _ (Int.natCast_nonneg _) (by have := (BitVec.ofNat 32 x &&& ~~~ BitVec.ofNat 32 (2 ^ r.toNat)).isLt; exact_mod_cast this)
  rw [e2]
  unfold wb
  rw [Int.toNat_natCast, BitVec.testBit_toNat, BitVec.getLsbD_and, BitVec.getLsbD_not, BitVec.getLsbD_ofNat, BitVec.getLsbD_ofNat, Nat.testBit_two_pow, Int.toNat_natCast]
  by_cases hj : j < 32
  · simp [hj]
  · have hz := high32 hx (j := j) (by omega)
    simp [hj, hz]

set_option maxHeartbeats 1000000 in
theorem step_any (w : World) (r : Int) (h0 : 0 ≤ r) (h1 : r ≤ 31) : Calls Tryz.prog 188 #[.int .i64 r] w fun e w' => e = .returned (.int .u32 (2 ^ r.toNat % 4294967296)) ∧ w = w' := by
  go_enter Tryz.func188, Tryz.ntmps188
  go_wp2_with fail
  go_ret
  exact ⟨rfl, rfl⟩
set_option maxHeartbeats 1000000 in
theorem ladSet_any (w : World) (c r : Int) (h0 : 0 ≤ r) (h1 : r ≤ 31) : Calls Tryz.prog 192 #[.int .u32 c, .int .i64 r] w fun e w' => e = .returned (.int .u32 (setW c r)) ∧ w = w' := by
  go_enter Tryz.func192, Tryz.ntmps192
  go_wp2_with fail
  refine (step_any _ r h0 h1).mono ?_; rintro e w1 ⟨rfl, rfl⟩
  go_wp2_with fail
  go_ret
  exact ⟨rfl, rfl⟩
set_option maxHeartbeats 1000000 in
theorem ladClear_any (w : World) (c r : Int) (h0 : 0 ≤ r) (h1 : r ≤ 31) : Calls Tryz.prog 158 #[.int .u32 c, .int .i64 r] w fun e w' => e = .returned (.int .u32 (clrW c r)) ∧ w = w' := by
  go_enter Tryz.func158, Tryz.ntmps158
  go_wp2_with fail
  refine (step_any _ r h0 h1).mono ?_; rintro e w1 ⟨rfl, rfl⟩
  go_wp2_with fail
  go_ret
  exact ⟨rfl, rfl⟩

theorem bitLen_top {x r : Nat} (h : x.testBit r = true) (hn : ∀ j, r < j → j < 32 → x.testBit j = false) (hx : x < 4294967296) : Lib.bitLen x = r + 1 := by
  have h1 : 2 ^ r ≤ x := Nat.ge_two_pow_of_testBit h
  have h2 : x < 2 ^ (r + 1) := by
    apply Nat.lt_pow_two_of_testBit
    intro i hi
    by_cases hi2 : i < 32
    · exact hn i (by omega) hi2
    · exact high32 hx (by omega)
  rw [Lib.bitLen_shift r x h1 (by omega)]
  have h3 : x / 2 ^ r = 1 := by
    rw [Nat.pow_succ] at h2
    exact Nat.div_eq_of_lt_le (by omega) (by omega)
  rw [h3]
  rfl

set_option maxHeartbeats 1000000 in
theorem ladFirst_any (w : World) (c : Int) (r : Nat) (hc : w32 c) (hr : r < 32) (h : wb c r = true) (hn : ∀ j, r < j → j < 32 → wb c j = false) :
    Calls Tryz.prog 99 #[.int .u32 c] w fun e w' => e = .returned (.tuple #[.int .i64 r, .bool true]) ∧ w = w' := by
  obtain ⟨x, hx, rfl⟩ := w32_nat hc
  have HL : Hid (Lib.bitLen ((x : Int)).toNat = r + 1) := Lib.hid (by
    rw [Int.toNat_natCast]
    refine bitLen_top ?_ ?_ hx
    · unfold wb at h; rw [Int.toNat_natCast] at h; exact h
    · intro j h1 h2; have := hn j h1 h2; unfold wb at this; rw [Int.toNat_natCast] at this; exact this)
  have hne : ((x : Int) != 0) = true := by
    rw [bne_iff_ne]; intro e; rw [e] at h; unfold wb at h; simp at h
  clear hc h hn
  go_enter Tryz.func99, Tryz.ntmps99
  go_wp2_with fail
  refine (len32_any _ (x : Int) (by omega) (by omega)).mono ?_; rintro e w1 ⟨rfl, rfl⟩
  rw [HL.out]
  go_wp2_with fail
  · go_ret2
    exact ⟨rfl, rfl⟩
  · obtain rfl : r = 0 := by omega
    go_ret2
    exact ⟨rfl, rfl⟩
end Go.Proofs.YtcngfaggignmpaaGreatDoor

/-
  The queue of those who may run: each rank's ring, who has which rank.
-/
namespace Go.Proofs.YtcngfaggignmpaaGreatDoor
open Go.RowKit

/-- A function, turned at one place. -/
def upd {α : Type} (f : Nat → α) (i : Nat) (v : α) : Nat → α := fun k => if k = i then v else f k
theorem upd_at {α : Type} (f : Nat → α) (i : Nat) (v : α) : upd f i v i = v := by simp [upd]
theorem upd_ne {α : Type} (f : Nat → α) {i k : Nat} (v : α) (h : k ≠ i) : upd f i v k = f k := by simp [upd, h]

/-- The block of the queue itself: the word of ranks, the rings, the ranks of all. -/
structure RQrow (q : Nat) (t : TypeId) (has : Int) (cs : Array Value) (ls : Nat → List Int) (rk : Nat → Int) (w : World) : Prop where
  row : Row q t cs w
  size : cs.size = 289
  word : cs[0]? = some (.int .u32 has)
  w32 : w32 has
  bits : ∀ r, r < 32 → wb has r = !(ls r).isEmpty
  ptr : ∀ i, i < 32 → cs[1 + i]? = some (.pointer (some ⟨q + 2 + 2 * i, 0, none⟩))
  rank : ∀ k, k < 256 → cs[33 + k]? = some (.int .i64 (rk k))
/-- The queue: by ranks who may run; of each one the rank, and 1 (0: not there). -/
structure RQ (q : Nat) (ls : Nat → List Int) (rk : Nat → Int) (w : World) : Prop where
  row : ∃ t has cs, RQrow q t has cs ls rk w
  rings : ∀ i, i < 32 → Ring (q + 2 + 2 * i) (q + 1 + 2 * i) (ls i) w
/-- Its blocks. -/
def Rqb (q : Nat) : Nat → Prop := fun k => q ≤ k ∧ k < q + 65

section
variable {w w' : World} {q : Nat} {ls : Nat → List Int} {rk : Nat → Int} {S : Nat → Prop} {t : TypeId} {has : Int} {cs : Array Value}
theorem RQrow.keeps (h : RQrow q t has cs ls rk w) (g : Ch S w w') (hn : ¬ S q) : RQrow q t has cs ls rk w' := ⟨h.row.keeps g hn, h.size, h.word, h.w32, h.bits, h.ptr, h.rank⟩
theorem RQ.keeps (h : RQ q ls rk w) (g : Ch S w w') (hn : ∀ k, S k → ¬ Rqb q k) : RQ q ls rk w' :=
  ⟨by obtain ⟨t, has, cs, h1⟩ := h.row; exact ⟨t, has, cs, h1.keeps g (fun s => hn _ s ⟨by omega, by omega⟩)⟩, fun i hi => (h.rings i hi).keeps g (fun s => hn _ s ⟨by omega, by omega⟩) (fun s => hn _ s ⟨by omega, by omega⟩)⟩
theorem RQ.drewN (h : RQ q ls rk w) (n : Nat) : RQ q ls rk (w.drewN n) := h.keeps (S := No) (Ch.drewN w n) (fun _ s => s.elim)
end

set_option maxRecDepth 100000 in
set_option maxHeartbeats 1000000 in
theorem rqThere_any (w : World) (q : Nat) (ls : Nat → List Int) (rk : Nat → Int) (h : RQ q ls rk w) :
    Calls Tryz.prog 98 #[.pointer (some ⟨q, 0, none⟩)] w fun e w' => e = .returned (.bool true) ∧ w = w' := by
  obtain ⟨t, has, cs, h1⟩ := h.row
  have c1 := h1.row.cell (h1.ptr 0 (by omega))
  clear h h1
  go_enter Tryz.func98, Tryz.ntmps98
  go_wp2_with fail
  go_ret
  exact ⟨rfl, rfl⟩
set_option maxRecDepth 100000 in
set_option maxHeartbeats 1000000 in
theorem rankless_any (w : World) (r : Nat) (h : r < 32) :
    Calls Tryz.prog 189 #[.int .i64 r] w fun e w' => e = .returned (.bool false) ∧ w = w' := by
  have hd : decide ((31 : Int) < (r : Int)) = false := by rw [decide_eq_false_iff_not]; omega
  go_enter Tryz.func189, Tryz.ntmps189
  go_wp2_with fail
  go_ret
  exact ⟨rfl, rfl⟩

set_option maxRecDepth 100000 in
set_option maxHeartbeats 1000000 in
theorem rqMay_any (w : World) (q : Nat) (ls : Nat → List Int) (rk : Nat → Int) (h : RQ q ls rk w) (i r : Nat) (hi : i < 256) (hr : r < 32) (h0 : rk i = 0) :
    Calls Tryz.prog 159 #[.pointer (some ⟨q, 0, none⟩), .int .i64 i, .int .i64 r] w fun e w' => e = .returned (.int .i64 0) ∧ w = w' := by
  have HR := Lib.hid h
  obtain ⟨t, has, cs, h1⟩ := h.row
  have c1 := h1.row.cell (h1.rank i hi)
  rw [h0] at c1
  clear h h1 h0
  go_enter Tryz.func159, Tryz.ntmps159
  go_wp2_with fail
  refine (rqThere_any _ q ls rk HR.out).mono ?_; rintro e w1 ⟨rfl, rfl⟩
  go_wp2_with fail
  refine (rankless_any _ r hr).mono ?_; rintro e w1 ⟨rfl, rfl⟩
  go_wp2_with fail
  go_ret
  exact ⟨rfl, rfl⟩

set_option maxRecDepth 100000 in
set_option maxHeartbeats 1000000 in
theorem rqRank_any (w : World) (q : Nat) (ls : Nat → List Int) (rk : Nat → Int) (h : RQ q ls rk w) (i r : Nat) (hi : i < 256) (h0 : rk i = r + 1) (hr : r < 32) :
    Calls Tryz.prog 93 #[.pointer (some ⟨q, 0, none⟩), .int .i64 i] w fun e w' => e = .returned (.tuple #[.int .i64 r, .bool true]) ∧ w = w' := by
  have HR := Lib.hid h
  obtain ⟨t, has, cs, h1⟩ := h.row
  have c1 := h1.row.cell (h1.rank i hi)
  rw [h0] at c1
  have he : (((r : Int) + 1) == 0) = false := by rw [beq_eq_false_iff_ne]; omega
  clear h h1 h0
  go_enter Tryz.func93, Tryz.ntmps93
  go_wp2_with fail
  refine (rqThere_any _ q ls rk HR.out).mono ?_; rintro e w1 ⟨rfl, rfl⟩
  go_wp2_with fail
  go_ret2
  exact ⟨rfl, rfl⟩
set_option maxRecDepth 100000 in
set_option maxHeartbeats 1000000 in
theorem rqRank_none (w : World) (q : Nat) (ls : Nat → List Int) (rk : Nat → Int) (h : RQ q ls rk w) (i : Nat) (hi : i < 256) (h0 : rk i = 0) :
    Calls Tryz.prog 93 #[.pointer (some ⟨q, 0, none⟩), .int .i64 i] w fun e w' => e = .returned (.tuple #[.int .i64 0, .bool false]) ∧ w = w' := by
  have HR := Lib.hid h
  obtain ⟨t, has, cs, h1⟩ := h.row
  have c1 := h1.row.cell (h1.rank i hi)
  rw [h0] at c1
  clear h h1 h0
  go_enter Tryz.func93, Tryz.ntmps93
  go_wp2_with fail
  refine (rqThere_any _ q ls rk HR.out).mono ?_; rintro e w1 ⟨rfl, rfl⟩
  go_wp2_with fail
  go_ret2
  exact ⟨rfl, rfl⟩
end Go.Proofs.YtcngfaggignmpaaGreatDoor

/-
  The queue of those who may run: one comes, one goes.
-/
namespace Go.Proofs.YtcngfaggignmpaaGreatDoor
open Go.RowKit

theorem set_get {arr : Array Value} {i j : Nat} {v : Value} (hi : i < arr.size) : (arr.setIfInBounds i v)[j]? = if i = j then some v else arr[j]? := by
  rw [Array.getElem?_setIfInBounds]
  by_cases e : i = j
  · rw [if_pos e, if_pos e, if_pos hi]
  · rw [if_neg e, if_neg e]

section
variable {w w' : World} {q : Nat} {ls : Nat → List Int} {rk : Nat → Int} {t : TypeId} {has : Int} {cs : Array Value}
theorem RQrow.come (h : RQrow q t has cs ls rk w) {i r : Nat} (hi : i < 256) (hr : r < 32) (x : Int) :
    RQrow q t (setW has r) ((cs.setIfInBounds (33 + i) (.int .i64 (r + 1))).setIfInBounds 0 (.int .u32 (setW has r))) (upd ls r (ls r ++ [x])) (upd rk i (r + 1))
      ((w.setCell ⟨q, 33 + i, none⟩ (.int .i64 (r + 1))).setCell ⟨q, 0, none⟩ (.int .u32 (setW has r))) := by
  have hs := h.size
  refine ⟨(h.row.set _ _).set _ _, by simp [hs], ?_, w32_setW _ _, ?_, ?_, ?_⟩
  · rw [set_get (by simp [hs]), if_pos rfl]
  · intro k hk
    rw [wb_setW h.w32 (by omega) (by omega)]
    by_cases e : k = r
    · subst e; rw [upd_at]; simp
    · rw [upd_ne _ _ e, decide_eq_false (by omega), Bool.or_false]; exact h.bits k hk
  · intro k hk
    rw [set_get (by simp [hs]), if_neg (by omega), set_get (by omega), if_neg (by omega)]
    exact h.ptr k hk
  · intro k hk
    rw [set_get (by simp [hs]), if_neg (by omega), set_get (by omega)]
    by_cases e : k = i
    · subst e; rw [if_pos rfl, upd_at]
    · rw [if_neg (by omega), upd_ne _ _ e]; exact h.rank k hk
end

set_option maxRecDepth 100000 in
set_option maxHeartbeats 1000000 in
theorem came_any (w : World) (q : Nat) (t : TypeId) (has : Int) (cs : Array Value) (ls : Nat → List Int) (rk : Nat → Int) (i r : Nat) (x : Int) (hi : i < 256) (hr : r < 32) (h : RQrow q t has cs ls rk w) :
    Calls Tryz.prog 161 #[.pointer (some ⟨q, 0, none⟩), .int .i64 i, .int .i64 r] w fun e w' => e = .returned (.tuple #[]) ∧ (∃ has' cs', RQrow q t has' cs' (upd ls r (ls r ++ [x])) (upd rk i (r + 1)) w') ∧ Ch (fun k => k = q) w w' := by
  have H := Lib.hid h
  have c0 := h.row.cell h.word
  have c1 := h.row.cell (h.rank i hi)
  have f0 := h.row.free 0
  have f1 := h.row.free (33 + i)
  clear h
  go_enter Tryz.func161, Tryz.ntmps161
  go_wp2_with fail
  refine (ladSet_any _ has (r : Int) (by omega) (by omega)).mono ?_; rintro e w1 ⟨rfl, rfl⟩
  go_wp2_with fail
  go_end0
  exact ⟨rfl, ⟨_, _, H.out.come hi hr x⟩, (Ch.setCell (S := fun k => k = q) w q _ _ rfl).trans (Ch.setCell _ q _ _ rfl)⟩

set_option maxRecDepth 100000 in
set_option maxHeartbeats 1000000 in
theorem rqPut_any (w : World) (q : Nat) (ls : Nat → List Int) (rk : Nat → Int) (h : RQ q ls rk w) (i r : Nat) (hi : i < 256) (hr : r < 32) (h0 : rk i = 0) (hx : (i : Int) ∉ ls r) (hl : (ls r).length < 256) :
    Calls Tryz.prog 96 #[.pointer (some ⟨q, 0, none⟩), .int .i64 i, .int .i64 r] w fun e w' => e = .returned (.int .i64 0) ∧ RQ q (upd ls r (ls r ++ [(i : Int)])) (upd rk i (r + 1)) w' ∧ Ch (Rqb q) w w' := by
  have HR := Lib.hid h
  have HX := Lib.hid hx
  have H0 := Lib.hid h0
  obtain ⟨t, has, cs, h1⟩ := h.row
  have H1 := Lib.hid h1
  have c1 := h1.row.cell (h1.ptr r hr)
  clear h h1 h0 hx
  go_enter Tryz.func96, Tryz.ntmps96
  go_wp2_with fail
  refine (rqMay_any _ q ls rk HR.out i r hi hr H0.out).mono ?_; rintro e w1 ⟨rfl, rfl⟩
  go_wp2_with fail
  refine (ringPut_any _ _ _ (ls r) (i : Int) (HR.out.rings r hr) (by omega) HX.out hl).mono ?_; rintro e w2 ⟨rfl, r2, ch2⟩
  have HCH := Lib.hid ch2
  have HR2 := Lib.hid r2
  clear ch2 r2
  go_wp2_with fail
  refine (came_any w2 q t has cs ls rk i r (i : Int) hi hr (H1.out.keeps HCH.out (by simp only [Rb]; omega))).mono ?_; rintro e w3 ⟨rfl, ⟨has', cs', r3⟩, ch3⟩
  go_wp2_with fail
  go_ret
  refine ⟨rfl, ⟨⟨t, has', cs', r3⟩, fun k hk => ?_⟩, (HCH.out.mono (fun k _ s => ?_)).trans' ch3 (fun k _ s => ?_)⟩
  · by_cases e : k = r
    · subst e
      rw [upd_at]
      exact HR2.out.keeps ch3 (by omega) (by omega)
    · rw [upd_ne _ _ e]
      exact ((HR.out.rings k hk).keeps HCH.out (by simp only [Rb]; omega) (by simp only [Rb]; omega)).keeps ch3 (by omega) (by omega)
  · simp only [Rb] at s; simp only [Rqb]; omega
  · simp only [Rqb]; omega
end Go.Proofs.YtcngfaggignmpaaGreatDoor

/-
  The queue of those who may run: one goes.
-/
namespace Go.Proofs.YtcngfaggignmpaaGreatDoor
open Go.RowKit

section
variable {w w' : World} {q : Nat} {ls : Nat → List Int} {rk : Nat → Int} {t : TypeId} {has : Int} {cs : Array Value}
/-- One's rank is struck. -/
theorem RQrow.struck (h : RQrow q t has cs ls rk w) {i : Nat} (hi : i < 256) :
    RQrow q t has (cs.setIfInBounds (33 + i) (.int .i64 0)) ls (upd rk i 0) (w.setCell ⟨q, 33 + i, none⟩ (.int .i64 0)) := by
  have hs := h.size
  refine ⟨h.row.set _ _, by simp [hs], ?_, h.w32, h.bits, ?_, ?_⟩
  · rw [set_get (by omega), if_neg (by omega)]; exact h.word
  · intro k hk
    rw [set_get (by omega), if_neg (by omega)]
    exact h.ptr k hk
  · intro k hk
    rw [set_get (by omega)]
    by_cases e : k = i
    · subst e; rw [if_pos rfl, upd_at]
    · rw [if_neg (by omega), upd_ne _ _ e]; exact h.rank k hk
/-- A rank has somebody still. -/
theorem RQrow.still (h : RQrow q t has cs ls rk w) {r : Nat} {l : List Int} (h0 : ls r ≠ []) (hl : l ≠ []) : RQrow q t has cs (upd ls r l) rk w := by
  refine ⟨h.row, h.size, h.word, h.w32, fun k hk => ?_, h.ptr, h.rank⟩
  by_cases e : k = r
  · subst e
    rw [upd_at, h.bits k hk]
    cases a : ls k <;> cases b : l <;> simp_all
  · rw [upd_ne _ _ e]; exact h.bits k hk
/-- A rank has nobody any more. -/
theorem RQrow.empty (h : RQrow q t has cs ls rk w) {r : Nat} (hr : r < 32) :
    RQrow q t (clrW has r) (cs.setIfInBounds 0 (.int .u32 (clrW has r))) (upd ls r []) rk (w.setCell ⟨q, 0, none⟩ (.int .u32 (clrW has r))) := by
  have hs := h.size
  refine ⟨h.row.set _ _, by simp [hs], ?_, w32_clrW _ _, ?_, ?_, ?_⟩
  · rw [set_get (by omega), if_pos rfl]
  · intro k hk
    rw [wb_clrW h.w32 (by omega) (by omega)]
    by_cases e : k = r
    · subst e; rw [upd_at]; simp
    · rw [upd_ne _ _ e, decide_eq_false (by omega), Bool.not_false, Bool.and_true]; exact h.bits k hk
  · intro k hk
    rw [set_get (by omega), if_neg (by omega)]
    exact h.ptr k hk
  · intro k hk
    rw [set_get (by omega), if_neg (by omega)]
    exact h.rank k hk
end

set_option maxRecDepth 100000 in
set_option maxHeartbeats 1000000 in
theorem rqRemove_none (w : World) (q : Nat) (ls : Nat → List Int) (rk : Nat → Int) (h : RQ q ls rk w) (i : Nat) (hi : i < 256) (h0 : rk i = 0) :
    Calls Tryz.prog 95 #[.pointer (some ⟨q, 0, none⟩), .int .i64 i] w fun e w' => e = .returned (.int .i64 1) ∧ w = w' := by
  have HR := Lib.hid h
  have H0 := Lib.hid h0
  clear h h0
  go_enter Tryz.func95, Tryz.ntmps95
  go_wp2_with fail
  refine (rqThere_any _ q ls rk HR.out).mono ?_; rintro e w1 ⟨rfl, rfl⟩
  go_wp2_with fail
  refine (rqRank_none _ q ls rk HR.out i hi H0.out).mono ?_; rintro e w1 ⟨rfl, rfl⟩
  go_wp2_with fail
  go_ret
  exact ⟨rfl, rfl⟩

set_option maxRecDepth 100000 in
set_option maxHeartbeats 2000000 in
theorem rqRemove_any (w : World) (q : Nat) (ls : Nat → List Int) (rk : Nat → Int) (h : RQ q ls rk w) (i r : Nat) (hi : i < 256) (hr : r < 32) (h0 : rk i = r + 1) (hx : (i : Int) ∈ ls r) :
    Calls Tryz.prog 95 #[.pointer (some ⟨q, 0, none⟩), .int .i64 i] w fun e w' => e = .returned (.int .i64 0) ∧ RQ q (upd ls r ((ls r).erase (i : Int))) (upd rk i 0) w' ∧ Ch (Rqb q) w w' := by
  have HR := Lib.hid h
  have HX := Lib.hid hx
  have H0 := Lib.hid h0
  obtain ⟨t, has, cs, h1⟩ := h.row
  have H1 := Lib.hid h1
  have c1 := h1.row.cell (h1.ptr r hr)
  clear h h1 h0 hx
  go_enter Tryz.func95, Tryz.ntmps95
  go_wp2_with fail
  refine (rqThere_any _ q ls rk HR.out).mono ?_; rintro e w1 ⟨rfl, rfl⟩
  go_wp2_with fail
  refine (rqRank_any _ q ls rk HR.out i r hi H0.out hr).mono ?_; rintro e w1 ⟨rfl, rfl⟩
  go_wp2_with fail
  refine (ringRemove_any _ _ _ (ls r) (i : Int) (HR.out.rings r hr) HX.out).mono ?_; rintro e w2 ⟨rfl, r2, ch2⟩
  have HCH := Lib.hid ch2
  have HR2 := Lib.hid r2
  have g1 := H1.out.keeps ch2 (by simp only [Rb]; omega)
  have G1 := Lib.hid g1
  have d0 := g1.row.cell (g1.rank i hi)
  have d1 := g1.row.cell (g1.ptr r hr)
  have d2 := g1.row.free (33 + i)
  have d3 := g1.row.free 0
  have d4 := g1.row.cell g1.word
  have HS := Lib.hid (g1.struck hi)
  clear ch2 r2 g1 c1
  go_wp2_with fail
  have hc4 : Ch (fun k => k = q) w2 (w2.setCell ⟨q, 33 + i, none⟩ (.int .i64 0)) := Ch.setCell w2 q _ _ rfl
  have HC4 := Lib.hid hc4
  clear hc4
  refine (ringList_any _ _ _ ((ls r).erase (i : Int)) (HR2.out.keeps HC4.out (by omega) (by omega))).mono ?_; rintro e w3 ⟨v, rfl, hints, ch3⟩
  obtain ⟨a, cap, rfl⟩ := hints.slice
  have HCH3 := Lib.hid ch3
  have hq : q < w2.heap.size := G1.out.row.lt
  have g3 := HS.out.keeps ch3 (fun x => x)
  have G3 := Lib.hid g3
  have d5 := g3.row.cell g3.word
  have d6 := g3.row.free 0
  clear ch3 g3 hints
  have HRI : Hid (∀ k, k < 32 → Ring (q + 2 + 2 * k) (q + 1 + 2 * k) (upd ls r ((ls r).erase (i : Int)) k) w3) := Lib.hid (fun k hk => by
    by_cases e : k = r
    · subst e
      rw [upd_at]
      exact (HR2.out.keeps HC4.out (by omega) (by omega)).keeps HCH3.out (fun x => x) (fun x => x)
    · rw [upd_ne _ _ e]
      exact (((HR.out.rings k hk).keeps HCH.out (by simp only [Rb]; omega) (by simp only [Rb]; omega)).keeps HC4.out (by omega) (by omega)).keeps HCH3.out (fun x => x) (fun x => x))
  have HALL : Hid (Ch (Rqb q) w w3) := Lib.hid (((HCH.out.mono (fun k _ s => by simp only [Rb] at s; simp only [Rqb]; omega)).trans' HC4.out (fun k _ s => by simp only [Rqb]; omega)).trans' HCH3.out (fun k _ s => s.elim))
  by_cases hz : (ls r).erase (i : Int) = []
  · have hlen : ((ls r).erase (i : Int)).length = 0 := by rw [hz]; rfl
    have HZ := Lib.hid hz
    clear hz
    rw [hlen]
    go_wp2_with fail
    refine (ladClear_any _ has (r : Int) (by omega) (by omega)).mono ?_; rintro e w4 ⟨rfl, rfl⟩
    go_wp2_with fail
    go_ret
    have hfin : Ch (fun k => k = q) w3 (w3.setCell ⟨q, 0, none⟩ (.int .u32 (clrW has r))) := Ch.setCell w3 q _ _ rfl
    have hrow := G3.out.empty hr
    rw [← HZ.out] at hrow
    exact ⟨rfl, ⟨⟨t, _, _, hrow⟩, fun k hk => (HRI.out k hk).keeps hfin (by omega) (by omega)⟩, HALL.out.trans' hfin (fun k _ s => by simp only [Rqb]; omega)⟩
  · have hne : (((ls r).erase (i : Int)).length == 0) = false := by
      rw [beq_eq_false_iff_ne]; intro e; exact hz (List.eq_nil_of_length_eq_zero e)
    have hne2 : ((((ls r).erase (i : Int)).length : Int) == 0) = false := by
      rw [beq_eq_false_iff_ne]; intro e; exact hz (List.eq_nil_of_length_eq_zero (by omega))
    have HZ := Lib.hid hz
    clear hz
    go_wp2_with fail
    go_ret
    exact ⟨rfl, ⟨⟨t, _, _, G3.out.still (fun e => by have := HX.out; rw [e] at this; cases this) HZ.out⟩, HRI.out⟩, HALL.out⟩
end Go.Proofs.YtcngfaggignmpaaGreatDoor
