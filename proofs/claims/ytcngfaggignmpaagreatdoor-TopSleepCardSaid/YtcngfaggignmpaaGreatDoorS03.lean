/-
  The top, part 3: ReadyNew, Hand, HandDrop, HandMake, HandFind, HandNew, Que, Queue.
-/
import Derived.Test.YtcngfaggignmpaaGreatDoorS02

/-
  The queue of those who may run: a new one.
-/
namespace Go.Proofs.YtcngfaggignmpaaGreatDoor
open Go.RowKit

/-- Is the value at place k the whole number 0? -/
def zeroInt (cs : Array Value) (k : Nat) : Bool := match cs[k]? with
  | some (.int .i64 n) => n == 0
  | _ => false
theorem zeroInt_eq {cs : Array Value} {k : Nat} (h : zeroInt cs k = true) : cs[k]? = some (.int .i64 0) := by
  unfold zeroInt at h
  split at h
  · rename_i n e; rw [beq_iff_eq] at h; rw [e, h]
  · cases h
def nilPtr (cs : Array Value) (k : Nat) : Bool := match cs[k]? with
  | some (.pointer none) => true
  | _ => false
theorem nilPtr_eq {cs : Array Value} {k : Nat} (h : nilPtr cs k = true) : cs[k]? = some (.pointer none) := by
  unfold nilPtr at h
  split at h
  · assumption
  · cases h
theorem z233_size : Tryz.zeroCells233.size = 289 := by decide +kernel
theorem z233_word : Tryz.zeroCells233[0]? = some (.int .u32 0) := by kernel_rfl
theorem z233_ints : ∀ k : Fin 256, zeroInt Tryz.zeroCells233 (33 + k.val) = true := by decide +kernel
theorem z233_ptrs : ∀ k : Fin 32, nilPtr Tryz.zeroCells233 (1 + k.val) = true := by decide +kernel

/-- The queue as it is made: k rings lie there. -/
structure Making (q k : Nat) (cs : Array Value) (w : World) : Prop where
  row : Row q 233 cs w
  size : cs.size = 289
  word : cs[0]? = some (.int .u32 0)
  ptr : ∀ i, i < k → cs[1 + i]? = some (.pointer (some ⟨q + 2 + 2 * i, 0, none⟩))
  nil : ∀ i, k ≤ i → i < 32 → cs[1 + i]? = some (.pointer none)
  rank : ∀ k, k < 256 → cs[33 + k]? = some (.int .i64 0)
  rings : ∀ i, i < k → Ring (q + 2 + 2 * i) (q + 1 + 2 * i) [] w
  heap : w.heap.size = q + 1 + 2 * k

section
variable {w w1 : World} {q k : Nat} {cs : Array Value}
theorem Making.drewN (h : Making q k cs w) (n : Nat) : Making q k cs (w.drewN n) :=
  ⟨h.row.drewN n, h.size, h.word, h.ptr, h.nil, h.rank, fun i hi => (h.rings i hi).drewN n, h.heap⟩
theorem Making.next (h : Making q k cs w) (hk : k < 32) (g : Ch No w w1) (hr : Ring (w.heap.size + 1) w.heap.size [] w1) (hs : w1.heap.size = w.heap.size + 2) :
    Making q (k + 1) (cs.setIfInBounds (1 + k) (.pointer (some ⟨q + 2 + 2 * k, 0, none⟩))) (w1.setCell ⟨q, 1 + k, none⟩ (.pointer (some ⟨q + 2 + 2 * k, 0, none⟩))) := by
  have hsz := h.size
  have hp := h.heap
  have hfin : Ch (fun x => x = q) w1 (w1.setCell ⟨q, 1 + k, none⟩ (.pointer (some ⟨q + 2 + 2 * k, 0, none⟩))) := Ch.setCell w1 q _ _ rfl
  refine ⟨(h.row.keeps g (fun x => x)).set _ _, by simp [hsz], ?_, ?_, ?_, ?_, ?_, ?_⟩
  · rw [set_get (by omega), if_neg (by omega)]; exact h.word
  · intro i hi
    rw [set_get (by omega)]
    by_cases e : i = k
    · subst e; rw [if_pos rfl]
    · rw [if_neg (by omega)]; exact h.ptr i (by omega)
  · intro i hi hi2
    rw [set_get (by omega), if_neg (by omega)]; exact h.nil i (by omega) hi2
  · intro i hi
    rw [set_get (by omega), if_neg (by omega)]; exact h.rank i hi
  · intro i hi
    by_cases e : i = k
    · subst e
      have hr2 : Ring (q + 2 + 2 * i) (q + 1 + 2 * i) [] w1 := by
        rw [show q + 2 + 2 * i = w.heap.size + 1 by omega, show q + 1 + 2 * i = w.heap.size by omega]; exact hr
      exact hr2.keeps hfin (by omega) (by omega)
    · exact ((h.rings i (by omega)).keeps g (fun x => x) (fun x => x)).keeps hfin (by omega) (by omega)
  · simp [World.setCell]; omega
end

set_option maxRecDepth 100000 in
set_option maxHeartbeats 4000000 in
theorem rqNew_any (w : World) :
    Calls Tryz.prog 43 #[] w fun e w' => e = .returned (.pointer (some ⟨w.heap.size, 0, none⟩)) ∧ RQ w.heap.size (fun _ => []) (fun _ => 0) w' ∧ Ch No w w' ∧ w'.heap.size = w.heap.size + 65 := by
  have h0 : Making w.heap.size 0 Tryz.zeroCells233 (w.alloc (.cells Tryz.zeroCells233 233)) :=
    ⟨Row.new w 233 _, z233_size, z233_word, fun i hi => absurd hi (by omega), fun i _ hi => nilPtr_eq (z233_ptrs ⟨i, hi⟩), fun i hi => zeroInt_eq (z233_ints ⟨i, hi⟩), fun i hi => absurd hi (by omega), by simp⟩
  have H0 := Lib.hid h0
  clear h0
  go_enter Tryz.func43, Tryz.ntmps43
  go_wp2_with fail
  obtain ⟨q, hq⟩ : ∃ q, q = w.heap.size := ⟨_, rfl⟩
  have HQ := Lib.hid hq
  rw [← hq] at H0 ⊢
  clear hq
  go_loopw [2, 5] (fun _ i wr => ∃ k : Nat, k ≤ 32 ∧ i = .int .i64 (k : Int) ∧ (∃ cs, Making q k cs wr) ∧ Ch No w wr) (fun _ i _ => 32 - (intOf i).toNat)
  case atStart => exact ⟨0, by omega, rfl, ⟨_, H0.out⟩, Ch.alloc w _⟩
  case round =>
    obtain ⟨k, hk, rfl, ⟨cs, hm⟩, hch⟩ := hrel
    have HM := Lib.hid hm
    have HCH := Lib.hid hch
    clear hm hch
    by_cases hlt : k < 32
    · go_wp2_with fail
      go_region_held3 (fun _ => True) (first | exact trivial) (first | (go_at_call 87; refine (ringNew_any _).mono ?_; rintro e w1 ⟨rfl, hr, hch, hsz⟩; have k1 := ((HM.out.row.drewN 1).keeps (S := No) hch (fun x => x)).cell (HM.out.nil k (Nat.le_refl _) hlt); have k2 := ((HM.out.row.drewN 1).keeps (S := No) hch (fun x => x)).free (1 + k)))
      all_goals
        have hn := (HM.out.drewN 1).next hlt hch hr hsz
        have hc2 : Ch No w w1 := (HCH.out.trans (Ch.drewN wr 1)).trans hch
        have hc3 : Ch No w (w1.setCell ⟨q, 1 + k, none⟩ (.pointer (some ⟨q + 2 + 2 * k, 0, none⟩))) :=
          hc2.trans' (Ch.setCell (S := fun x => x = q) w1 q _ _ rfl) (fun x hx e => by rw [HQ.out] at e; omega)
        have hv : wr.heap.size + 1 = q + 2 + 2 * k := by have := HM.out.heap; omega
        rw [hv]
        have HN := Lib.hid hn
        have HC3 := Lib.hid hc3
        clear hn hc2 hc3 hr hch hsz
        go_wp2_with fail
        go_roundw
        case rel => exact ⟨k + 1, by omega, by go_num, ⟨_, HN.out⟩, HC3.out⟩
        case measure => simp [intOf]; omega
    · obtain rfl : k = 32 := by omega
      go_wp2_with fail
      go_ret
      refine ⟨by rw [← HQ.out]; rfl, ?_, HCH.out, by rw [← HQ.out, HM.out.heap]⟩
      rw [← HQ.out]
      exact ⟨⟨233, 0, cs, HM.out.row, HM.out.size, HM.out.word, ⟨by decide, by decide⟩, fun r _ => by unfold wb; simp, HM.out.ptr, HM.out.rank⟩, HM.out.rings⟩
end Go.Proofs.YtcngfaggignmpaaGreatDoor

/-
  Tables of handles: 256 places, of each its age and whether somebody has it.
-/
namespace Go.Proofs.YtcngfaggignmpaaGreatDoor
open Go.RowKit

/-- A table in block b. -/
structure HT (b m : Nat) (age : Nat → Int) (tk : Nat → Bool) (w : World) : Prop where
  lo : 1 ≤ m
  up : m ≤ 256
  ex : ∃ cs, Row b 173 cs w ∧ cs.size = 513 ∧ cs[512]? = some (.int .i64 m) ∧ (∀ i, i < 256 → cs[i * 2]? = some (.int .u32 (age i))) ∧ (∀ i, i < 256 → cs[i * 2 + 1]? = some (.bool (tk i)))

section
variable {w w' : World} {b m : Nat} {age : Nat → Int} {tk : Nat → Bool} {S : Nat → Prop}
theorem HT.keeps (h : HT b m age tk w) (g : Ch S w w') (hn : ¬ S b) : HT b m age tk w' := by
  obtain ⟨cs, h1, h2⟩ := h.ex
  exact ⟨h.lo, h.up, cs, h1.keeps g hn, h2⟩
theorem HT.lt (h : HT b m age tk w) : b < w.heap.size := by
  obtain ⟨cs, h1, _⟩ := h.ex
  exact h1.lt
end

def zeroU (cs : Array Value) (k : Nat) : Bool := match cs[k]? with
  | some (.int .u32 n) => n == 0
  | _ => false
theorem zeroU_eq {cs : Array Value} {k : Nat} (h : zeroU cs k = true) : cs[k]? = some (.int .u32 0) := by
  unfold zeroU at h
  split at h
  · rename_i n e; rw [beq_iff_eq] at h; rw [e, h]
  · cases h
def isNo (cs : Array Value) (k : Nat) : Bool := match cs[k]? with
  | some (.bool x) => !x
  | _ => false
theorem isNo_eq {cs : Array Value} {k : Nat} (h : isNo cs k = true) : cs[k]? = some (.bool false) := by
  unfold isNo at h
  split at h
  · rename_i x e; cases x
    · exact e
    · cases h
  · cases h

set_option maxRecDepth 100000 in
set_option maxHeartbeats 2000000 in
theorem handPlace_any (w : World) (b m : Nat) (age : Nat → Int) (tk : Nat → Bool) (i : Nat) (g : Int) (hi : i < 256) (hg : 1 ≤ g) (hg2 : g ≤ 16777215) (ha : age i = g) (ht : tk i = true) (h : HT b m age tk w) :
    Calls Tryz.prog 26 #[.pointer (some ⟨b, 0, none⟩), .int .u32 (256 * g + i)] w fun e w' => e = .returned (.tuple #[.int .i64 i, .int .i64 0]) ∧ Ch No w w' := by
  obtain ⟨cs, h1, h2, h3, h4, h5⟩ := h.ex
  have c1 := h1.cell h3
  have c2 := h1.cell (h4 i hi)
  have c3 := h1.cell (h5 i hi)
  rw [ha] at c2
  rw [ht] at c3
  have m1 : (256 * g + (i : Int)) % 256 = i := by omega
  have m2 : (256 * g + (i : Int)) / 256 = g := by omega
  have hz : ((m : Int) == 0) = false := by rw [beq_eq_false_iff_ne]; have := h.lo; omega
  have e1 : (g == 0) = false := by rw [beq_eq_false_iff_ne]; omega
  clear h h1 h2 h3 h4 h5 ha ht
  go_enter Tryz.func26, Tryz.ntmps26
  go_wp2_with fail
  go_ret2
  exact ⟨rfl, Ch.alloc w _⟩
end Go.Proofs.YtcngfaggignmpaaGreatDoor

/-
  Tables of handles: one is dropped; a new table; a handle of a place.
-/
namespace Go.Proofs.YtcngfaggignmpaaGreatDoor
open Go.RowKit

section
variable {w : World} {b m : Nat} {age : Nat → Int} {tk : Nat → Bool}
theorem HT.dropped (h : HT b m age tk w) {i : Nat} (hi : i < 256) (v : Bool) : HT b m age (upd tk i v) (w.setCell ⟨b, i * 2 + 1, none⟩ (.bool v)) := by
  obtain ⟨cs, h1, h2, h3, h4, h5⟩ := h.ex
  refine ⟨h.lo, h.up, _, h1.set _ _, by simp [h2], ?_, ?_, ?_⟩
  · rw [set_get (by omega), if_neg (by omega)]; exact h3
  · intro k hk
    rw [set_get (by omega), if_neg (by omega)]; exact h4 k hk
  · intro k hk
    rw [set_get (by omega)]
    by_cases e : k = i
    · subst e; rw [if_pos rfl, upd_at]
    · rw [if_neg (by omega), upd_ne _ _ e]; exact h5 k hk
end

set_option maxRecDepth 100000 in
set_option maxHeartbeats 2000000 in
theorem handDrop_any (w : World) (b m : Nat) (age : Nat → Int) (tk : Nat → Bool) (i : Nat) (g : Int) (hi : i < 256) (hg : 1 ≤ g) (hg2 : g ≤ 16777215) (ha : age i = g) (ht : tk i = true) (h : HT b m age tk w) :
    Calls Tryz.prog 127 #[.pointer (some ⟨b, 0, none⟩), .int .u32 (256 * g + i)] w fun e w' => e = .returned (.int .i64 0) ∧ HT b m age (upd tk i false) w' ∧ Ch (fun k => k = b) w w' := by
  have H := Lib.hid h
  have HA := Lib.hid ha
  have HT' := Lib.hid ht
  clear h ha ht
  go_enter Tryz.func127, Tryz.ntmps127
  go_wp2_with fail
  refine (handPlace_any _ b m age tk i g hi hg hg2 HA.out HT'.out H.out).mono ?_; rintro e w1 ⟨rfl, hch⟩
  have h1 := H.out.keeps hch (fun x => x)
  have HH := Lib.hid h1
  have HCH := Lib.hid hch
  obtain ⟨cs, r1, r2, r3, r4, r5⟩ := h1.ex
  have c1 := r1.cell (r5 i hi)
  have f1 := r1.free (i * 2 + 1)
  clear h1 r1 r2 r3 r4 r5 hch
  go_wp2_with fail
  go_ret
  exact ⟨rfl, HH.out.dropped hi false, (HCH.out.mono (T := fun k => k = b) (fun _ _ s => s.elim)).trans (Ch.setCell w1 b _ _ rfl)⟩

theorem z173_size : Tryz.zeroCells173.size = 513 := by decide +kernel
theorem z173_age : ∀ k : Fin 256, zeroU Tryz.zeroCells173 (k.val * 2) = true := by decide +kernel
theorem z173_tk : ∀ k : Fin 256, isNo Tryz.zeroCells173 (k.val * 2 + 1) = true := by decide +kernel

set_option maxRecDepth 100000 in
set_option maxHeartbeats 2000000 in
theorem handNew_any (w : World) (m : Nat) (h0 : 1 ≤ m) (h1 : m ≤ 256) :
    Calls Tryz.prog 46 #[.int .i64 m] w fun e w' => e = .returned (.tuple #[.pointer (some ⟨w.heap.size, 0, none⟩), .int .i64 0]) ∧ HT w.heap.size m (fun _ => 0) (fun _ => false) w' ∧ Ch No w w' ∧ w'.heap.size = w.heap.size + 1 := by
  have d1 : decide (m < 1) = false := by rw [decide_eq_false_iff_not]; omega
  have d2 : decide (256 < m) = false := by rw [decide_eq_false_iff_not]; omega
  have d3 : decide ((m : Int) < 1) = false := by rw [decide_eq_false_iff_not]; omega
  have d4 : decide ((256 : Int) < (m : Int)) = false := by rw [decide_eq_false_iff_not]; omega
  go_enter Tryz.func46, Tryz.ntmps46
  go_wp2_with fail
  go_ret2
  refine ⟨rfl, ⟨h0, h1, _, Row.new w 173 _, ?_, ?_, ?_, ?_⟩, Ch.alloc w _, by simp⟩
  · simp
  · rw [set_get (by rw [z173_size]; omega), if_pos rfl]
  · intro k hk
    rw [set_get (by rw [z173_size]; omega), if_neg (by omega)]; exact zeroU_eq (z173_age ⟨k, hk⟩)
  · intro k hk
    rw [set_get (by rw [z173_size]; omega), if_neg (by omega)]; exact isNo_eq (z173_tk ⟨k, hk⟩)

theorem or_hand (g : Int) (i : Nat) (hi : i < 256) (hg : 0 ≤ g) (hg2 : g ≤ 16777215) : bits BinOp.or .u32 (g * 256) i = 256 * g + i := by
  obtain ⟨n, rfl⟩ := Int.eq_ofNat_of_zero_le hg
  have h1 := (bits_nat .u32 32 (by decide) u32_id (n * 256) i (by show n * 256 < 4294967296; omega) (by show i < 4294967296; omega)).2
  have h2 : n * 256 ||| i = 256 * n + i := by
    have := Nat.two_pow_add_eq_or_of_lt (i := 8) (b := i) (by omega) n
    rw [Nat.mul_comm n 256]; exact this.symm
  rw [h2] at h1
  have e : ((n * 256 : Nat) : Int) = (n : Int) * 256 := by simp
  rw [e] at h1
  rw [h1]; simp
set_option maxRecDepth 100000 in
set_option maxHeartbeats 2000000 in
theorem handle_any (w : World) (b m : Nat) (age : Nat → Int) (tk : Nat → Bool) (i : Nat) (g : Int) (hi : i < 256) (hg : 0 ≤ g) (hg2 : g ≤ 16777215) (ha : age i = g) (h : HT b m age tk w) :
    Calls Tryz.prog 53 #[.pointer (some ⟨b, 0, none⟩), .int .i64 i] w fun e w' => e = .returned (.int .u32 (256 * g + i)) ∧ w = w' := by
  obtain ⟨cs, h1, h2, h3, h4, h5⟩ := h.ex
  have c2 := h1.cell (h4 i hi)
  rw [ha] at c2
  have HO := Lib.hid (or_hand g i hi hg hg2)
  clear h h1 h2 h3 h4 h5 ha
  go_enter Tryz.func53, Tryz.ntmps53
  go_wp2_with fail
  go_ret
  exact ⟨congrArg (fun z => Ending.returned (Value.int .u32 z)) HO.out, rfl⟩
end Go.Proofs.YtcngfaggignmpaaGreatDoor

/-
  Tables of handles: a new handle.
-/
namespace Go.Proofs.YtcngfaggignmpaaGreatDoor
open Go.RowKit

set_option maxHeartbeats 1000000 in
theorem makeAs_no (w : World) (g : Int) : Calls Tryz.prog 51 #[.agg #[.int .u32 g, .bool true]] w fun e w' => e = .returned (.bool false) ∧ Ch No w w' := by
  go_enter Tryz.func51, Tryz.ntmps51
  go_wp2_with fail
  go_ret
  exact ⟨rfl, Ch.alloc w _⟩
set_option maxHeartbeats 1000000 in
theorem makeAs_yes (w : World) (g : Int) (hg : g < 16777215) : Calls Tryz.prog 51 #[.agg #[.int .u32 g, .bool false]] w fun e w' => e = .returned (.bool true) ∧ Ch No w w' := by
  have hd : decide (g < 16777215) = true := by rw [decide_eq_true_iff]; exact hg
  go_enter Tryz.func51, Tryz.ntmps51
  go_wp2_with fail
  go_ret
  exact ⟨rfl, Ch.alloc w _⟩

section
variable {w : World} {b m : Nat} {age : Nat → Int} {tk : Nat → Bool}
theorem HT.taken (h : HT b m age tk w) {i : Nat} (hi : i < 256) (g : Int) (v : Bool) : HT b m (upd age i g) (upd tk i v) ((w.setCell ⟨b, i * 2, none⟩ (.int .u32 g)).setCell ⟨b, i * 2 + 1, none⟩ (.bool v)) := by
  obtain ⟨cs, h1, h2, h3, h4, h5⟩ := h.ex
  refine ⟨h.lo, h.up, _, (h1.set _ _).set _ _, by simp [h2], ?_, ?_, ?_⟩
  · rw [set_get (by simp; omega), if_neg (by omega), set_get (by omega), if_neg (by omega)]; exact h3
  · intro k hk
    rw [set_get (by simp; omega), if_neg (by omega), set_get (by omega)]
    by_cases e : k = i
    · subst e; rw [if_pos rfl, upd_at]
    · rw [if_neg (by omega), upd_ne _ _ e]; exact h4 k hk
  · intro k hk
    rw [set_get (by simp; omega)]
    by_cases e : k = i
    · subst e; rw [if_pos rfl, upd_at]
    · rw [if_neg (by omega), set_get (by omega), if_neg (by omega), upd_ne _ _ e]; exact h5 k hk
end

set_option maxRecDepth 100000 in
set_option maxHeartbeats 2000000 in
theorem makeEnough_any (w : World) (b m B1 B2 B3 : Nat) (v2 v3 : Value) (age : Nat → Int) (tk : Nat → Bool) (i : Nat) (g : Int) (hi : i < 256) (hg : 0 ≤ g) (hg2 : g < 16777215) (ha : age i = g) (h : HT b m age tk w)
    (h1 : Row B1 88 #[.pointer (some ⟨b, 0, none⟩)] w) (h2 : Row B2 34 #[v2] w) (h3 : Row B3 31 #[v3] w) (n1 : b ≠ B1) (n2 : b ≠ B2) (n3 : b ≠ B3) (n4 : B2 ≠ B3) :
    Calls Tryz.prog 52 #[.int .i64 i, .pointer (some ⟨B1, 0, none⟩), .pointer (some ⟨B2, 0, none⟩), .pointer (some ⟨B3, 0, none⟩)] w fun e w' => e = .returned (.bool true) ∧ HT b m (upd age i (g + 1)) (upd tk i true) w' ∧
      Row B2 34 #[.int .u32 (256 * (g + 1) + i)] w' ∧ Row B3 31 #[.int .i64 0] w' ∧ Ch (fun k => k = b ∨ k = B2 ∨ k = B3) w w' := by
  have H := Lib.hid h
  have H1 := Lib.hid h1
  have H2 := Lib.hid h2
  have H3 := Lib.hid h3
  obtain ⟨cs, r1, r2, r3, r4, r5⟩ := h.ex
  have c1 := h1.cell (j := 0) rfl
  have c2 := r1.cell (r4 i hi)
  have c3 := r1.cell (r5 i hi)
  have f2 := r1.free (i * 2)
  have f3 := r1.free (i * 2 + 1)
  have d2 := h2.cell (j := 0) rfl
  have d3 := h3.cell (j := 0) rfl
  have e2 := h2.free 0
  have e3 := h3.free 0
  rw [ha] at c2
  have m1 := n1.symm
  have m2 := n2.symm
  have m3 := n3.symm
  have m4 := n4.symm
  clear h h1 h2 h3 r1 r2 r3 r4 r5 ha
  go_enter Tryz.func52, Tryz.ntmps52
  go_wp2_with fail
  go_region
  all_goals
    go_wp2_with fail
    have hT := H.out.taken hi (g + 1) true
    refine (handle_any _ b m (upd age i (g + 1)) (upd tk i true) i (g + 1) hi (by omega) (by omega) (upd_at _ _ _) (hT.keeps (S := No) (Ch.drewN _ 1) (fun x => x))).mono ?_; rintro e w1 ⟨rfl, rfl⟩
    have HTT := Lib.hid hT
    clear hT
    go_wp2_with fail
    go_ret
    have q1 : Ch (fun k => k = b) w ((w.setCell ⟨b, i * 2, none⟩ (.int .u32 (g + 1))).setCell ⟨b, i * 2 + 1, none⟩ (.bool true)).drew := ((Ch.setCell (S := fun k => k = b) w b _ _ rfl).trans (Ch.setCell _ b _ _ rfl)).trans (Ch.drewN _ 1)
    have q2 := Ch.setCell (S := fun k => k = B2) (((w.setCell ⟨b, i * 2, none⟩ (.int .u32 (g + 1))).setCell ⟨b, i * 2 + 1, none⟩ (.bool true)).drew) B2 0 (.int .u32 (256 * (g + 1) + i)) rfl
    have q3 := Ch.setCell (S := fun k => k = B3) ((((w.setCell ⟨b, i * 2, none⟩ (.int .u32 (g + 1))).setCell ⟨b, i * 2 + 1, none⟩ (.bool true)).drew).setCell ⟨B2, 0, none⟩ (.int .u32 (256 * (g + 1) + i))) B3 0 (.int .i64 0) rfl
    refine ⟨rfl, (((HTT.out.keeps (S := No) (Ch.drewN _ 1) (fun x => x)).keeps q2 n2).keeps q3 n3), ?_, ?_, ?_⟩
    · have := ((H2.out.keeps q1 m2).set 0 (.int .u32 (256 * (g + 1) + i))).keeps q3 n4
      exact this
    · have := ((H3.out.keeps q1 m3).keeps q2 m4).set 0 (.int .i64 0)
      exact this
    · exact ((q1.mono (fun k _ e => .inl e)).trans' q2 (fun k _ e => .inr (.inl e))).trans' q3 (fun k _ e => .inr (.inr e))
end Go.Proofs.YtcngfaggignmpaaGreatDoor

/-
  Tables of handles: the least place that is free is found, and made a handle of.
-/
namespace Go.Proofs.YtcngfaggignmpaaGreatDoor
open Go.RowKit

set_option maxRecDepth 100000 in
set_option maxHeartbeats 2000000 in
theorem handFind_any (w : World) (b m B1 B2 B3 : Nat) (v2 v3 : Value) (age : Nat → Int) (tk : Nat → Bool) (i : Nat) (g : Int) (hi : i < 256) (him : i < m) (hg : 0 ≤ g) (hg2 : g < 16777215) (ha : age i = g) (ht : tk i = false) (hl : ∀ j, j < i → tk j = true) (h : HT b m age tk w)
    (h1 : Row B1 88 #[.pointer (some ⟨b, 0, none⟩)] w) (h2 : Row B2 34 #[v2] w) (h3 : Row B3 31 #[v3] w) (n1 : b ≠ B1) (n2 : b ≠ B2) (n3 : b ≠ B3) (n4 : B2 ≠ B3) :
    Calls Tryz.prog 50 #[.pointer (some ⟨b, 0, none⟩), .func (.func 51) #[] #[], .func (.func 52) #[] #[.pointer (some ⟨B1, 0, none⟩), .pointer (some ⟨B2, 0, none⟩), .pointer (some ⟨B3, 0, none⟩)]] w
      fun e w' => e = .returned (.tuple #[]) ∧ HT b m (upd age i (g + 1)) (upd tk i true) w' ∧
      Row B2 34 #[.int .u32 (256 * (g + 1) + i)] w' ∧ Row B3 31 #[.int .i64 0] w' ∧ Ch (fun k => k = b ∨ k = B2 ∨ k = B3) w w' := by
  have H := Lib.hid h
  have H1 := Lib.hid h1
  have H2 := Lib.hid h2
  have H3 := Lib.hid h3
  have HL := Lib.hid hl
  have HA := Lib.hid ha
  have HT' := Lib.hid ht
  obtain ⟨cs, r1, r2, r3, r4, r5⟩ := h.ex
  have c1 := r1.cell r3
  clear h h1 h2 h3 r1 r2 r3 r4 r5 hl ha ht
  go_enter Tryz.func50, Tryz.ntmps50
  go_wp2_with fail
  go_loopw [6, 11] (fun _ iv wr => ∃ k : Nat, k ≤ i ∧ iv = .int .i64 (k : Int) ∧ Ch No w wr) (fun _ iv _ => i - (intOf iv).toNat)
  case atStart => exact ⟨0, by omega, rfl, Ch.refl _ _⟩
  case round =>
    obtain ⟨k, hk, rfl, hch⟩ := hrel
    have hT := H.out.keeps hch (fun x => x)
    obtain ⟨cs', r1, r2, r3, r4, r5⟩ := hT.ex
    have d0 := r1.cell (r4 k (by omega))
    have d1 := r1.cell (r5 k (by omega))
    have HTT := Lib.hid hT
    have HCH := Lib.hid hch
    clear hT hch r1 r2 r3 r4 r5
    by_cases hlt : k < i
    · have hk1 := HL.out k hlt
      rw [hk1] at d1
      clear hk1
      go_wp2_with fail
      refine (makeAs_no _ _).mono ?_; rintro e w2 ⟨rfl, hch2⟩
      have HC2 := Lib.hid (HCH.out.trans hch2)
      clear hch2
      go_wp2_with fail
      go_roundw
      case rel => exact ⟨k + 1, by omega, by go_num, HC2.out⟩
      case measure => simp [intOf]; omega
    · obtain rfl : k = i := by omega
      rw [HA.out] at d0
      rw [HT'.out] at d1
      go_wp2_with fail
      refine (makeAs_yes _ _ hg2).mono ?_; rintro e w2 ⟨rfl, hch2⟩
      have HC2 := Lib.hid (HCH.out.trans hch2)
      clear hch2
      go_wp2_with fail
      refine (makeEnough_any _ b m B1 B2 B3 v2 v3 age tk k g hi hg hg2 HA.out (H.out.keeps HC2.out (fun x => x)) (H1.out.keeps HC2.out (fun x => x)) (H2.out.keeps HC2.out (fun x => x)) (H3.out.keeps HC2.out (fun x => x)) n1 n2 n3 n4).mono ?_; rintro e w3 ⟨rfl, g1, g2, g3, g4⟩
      go_wp2_with fail
      (try simp only [Exit.inBlock, Exit.then]); refine bodyPost_ret (results_none rfl _ _ _) rfl ?_
      exact ⟨rfl, g1, g2, g3, (HC2.out.mono (fun _ _ s => s.elim)).trans g4⟩
end Go.Proofs.YtcngfaggignmpaaGreatDoor

/-
  Tables of handles: a new handle, whole.
-/
namespace Go.Proofs.YtcngfaggignmpaaGreatDoor
open Go.RowKit

set_option maxRecDepth 100000 in
set_option maxHeartbeats 2000000 in
theorem handMake_any (w : World) (b m : Nat) (age : Nat → Int) (tk : Nat → Bool) (i : Nat) (g : Int) (hi : i < 256) (him : i < m) (hg : 0 ≤ g) (hg2 : g < 16777215) (ha : age i = g) (ht : tk i = false) (hl : ∀ j, j < i → tk j = true) (h : HT b m age tk w) :
    Calls Tryz.prog 25 #[.pointer (some ⟨b, 0, none⟩)] w fun e w' => e = .returned (.tuple #[.int .u32 (256 * (g + 1) + i), .int .i64 0]) ∧ HT b m (upd age i (g + 1)) (upd tk i true) w' ∧ Ch (fun k => k = b) w w' := by
  have hmf : ∀ (fn : Fn) (first cap : Array Value) (w : World), (Instr.makeFunc fn first cap).run Tryz.prog w = .ok (.func fn first cap) w := fun _ _ _ _ => rfl
  have hz : ((m : Int) == 0) = false := by rw [beq_eq_false_iff_ne]; have := h.lo; omega
  have H := Lib.hid h
  have HL := Lib.hid hl
  have HA := Lib.hid ha
  have HT' := Lib.hid ht
  have hlt := h.lt
  obtain ⟨cs, r1, r2, r3, r4, r5⟩ := h.ex
  have w1 := r1.keeps (S := No) (((Ch.alloc w (.cells #[.pointer (some ⟨b, 0, none⟩)] 88)).trans (Ch.alloc _ (.cells #[.int .u32 0] 34))).trans (Ch.alloc _ (.cells #[.int .i64 0] 31))) (fun x => x)
  have c1 := w1.cell r3
  have a1 : Row w.heap.size 88 #[.pointer (some ⟨b, 0, none⟩)] (((w.alloc (.cells #[.pointer (some ⟨b, 0, none⟩)] 88)).alloc (.cells #[.int .u32 0] 34)).alloc (.cells #[.int .i64 3] 31)) := ((Row.new w 88 _).alloc _).alloc _
  have a2 : Row (w.heap.size + 1) 34 #[.int .u32 0] (((w.alloc (.cells #[.pointer (some ⟨b, 0, none⟩)] 88)).alloc (.cells #[.int .u32 0] 34)).alloc (.cells #[.int .i64 3] 31)) := by
    have := (Row.new (w.alloc (.cells #[.pointer (some ⟨b, 0, none⟩)] 88)) 34 #[.int .u32 0]).alloc (.cells #[.int .i64 3] 31)
    rw [World.size_alloc] at this; exact this
  have a3 : Row (w.heap.size + 1 + 1) 31 #[.int .i64 3] (((w.alloc (.cells #[.pointer (some ⟨b, 0, none⟩)] 88)).alloc (.cells #[.int .u32 0] 34)).alloc (.cells #[.int .i64 3] 31)) := by
    have := Row.new ((w.alloc (.cells #[.pointer (some ⟨b, 0, none⟩)] 88)).alloc (.cells #[.int .u32 0] 34)) 31 #[.int .i64 3]
    rw [World.size_alloc, World.size_alloc] at this; exact this
  have hch : Ch No w (((w.alloc (.cells #[.pointer (some ⟨b, 0, none⟩)] 88)).alloc (.cells #[.int .u32 0] 34)).alloc (.cells #[.int .i64 3] 31)) := ((Ch.alloc w _).trans (Ch.alloc _ _)).trans (Ch.alloc _ _)
  obtain ⟨W, hW⟩ : ∃ W, W = (((w.alloc (.cells #[.pointer (some ⟨b, 0, none⟩)] 88)).alloc (.cells #[.int .u32 0] 34)).alloc (.cells #[.int .i64 3] 31)) := ⟨_, rfl⟩
  have HW := Lib.hid hW
  rw [← hW] at a1 a2 a3 hch
  have A1 := Lib.hid a1
  have A2 := Lib.hid a2
  have A3 := Lib.hid a3
  have HC := Lib.hid hch
  clear h r1 r2 r3 r4 r5 hl ha ht w1 a1 a2 a3 hch hW
  go_enter Tryz.func25, Tryz.ntmps25
  go_wp2_with fail
  rw [← HW.out]
  refine (handFind_any W b m w.heap.size (w.heap.size + 1) (w.heap.size + 1 + 1) (.int .u32 0) (.int .i64 3) age tk i g hi him hg hg2 HA.out HT'.out HL.out (H.out.keeps HC.out (fun x => x)) A1.out A2.out A3.out (by omega) (by omega) (by omega) (by omega)).mono ?_; rintro e w4 ⟨rfl, g1, g2, g3, g4⟩
  have d2 := g2.cell (j := 0) rfl
  have d3 := g3.cell (j := 0) rfl
  have e2 := g2.free 0
  have e3 := g3.free 0
  have G1 := Lib.hid g1
  have G2 := Lib.hid g2
  have G3 := Lib.hid g3
  have G4 := Lib.hid g4
  clear g1 g2 g3 g4 c1
  go_wp2_with fail
  go_region
  all_goals
    go_wp2_with fail
    have q2 := Ch.setCell (S := fun k => k = w.heap.size + 1) w4 (w.heap.size + 1) 0 (.int .u32 (256 * (g + 1) + i)) rfl
    have q3 := Ch.setCell (S := fun k => k = w.heap.size + 1 + 1) (w4.setCell ⟨w.heap.size + 1, 0, none⟩ (.int .u32 (256 * (g + 1) + i))) (w.heap.size + 1 + 1) 0 (.int .i64 0) rfl
    have k2 := (((G2.out.set 0 (.int .u32 (256 * (g + 1) + i))).keeps q3 (by omega)).drewN 1).cell (j := 0) (v := .int .u32 (256 * (g + 1) + i)) rfl
    have k3 := (((G3.out.keeps q2 (by omega)).set 0 (.int .i64 0)).drewN 1).cell (j := 0) (v := .int .i64 0) rfl
    have hT := ((G1.out.keeps q2 (by omega)).keeps q3 (by omega)).keeps (S := No) (Ch.drewN _ 1) (fun x => x)
    refine bodyPost_ret (v := .tuple #[.int .u32 (256 * (g + 1) + i), .int .i64 0]) ?_ rfl ⟨rfl, hT, ?_⟩
    · change World.cell? (World.drew _) _ = _ at k2
      change World.cell? (World.drew _) _ = _ at k3
      simp [results, Tryz.results25, go_sem, k2, k3]
    · have z1 : Ch (fun k => k = b) w w4 := (HC.out.mono (fun _ _ s => s.elim)).trans' G4.out (fun k hk e => by omega)
      exact ((z1.trans' q2 (fun k hk e => by omega)).trans' q3 (fun k hk e => by omega)).trans (Ch.drewN _ 1)
end Go.Proofs.YtcngfaggignmpaaGreatDoor

/-
  Queues of messages: 64 places that go round.
-/
namespace Go.Proofs.YtcngfaggignmpaaGreatDoor
open Go.RowKit

/-- A queue in block b: room for most, the first place f; it holds l. -/
structure QUat (b most f : Nat) (t : TypeId) (cs : Array Value) (l : List Int) (w : World) : Prop where
  row : Row b t cs w
  size : cs.size = 67
  first : f < 64
  room : l.length ≤ most
  most0 : 1 ≤ most
  most1 : most ≤ 64
  cf : cs[64]? = some (.int .i64 f)
  cn : cs[65]? = some (.int .i64 l.length)
  cm : cs[66]? = some (.int .i64 most)
  ints : ∀ j, j < 64 → ∃ x : Int, cs[j]? = some (.int .u32 x)
  has : ∀ i x, l[i]? = some x → cs[(f + i) % 64]? = some (.int .u32 x)
def QU (b most : Nat) (l : List Int) (w : World) : Prop := ∃ f t cs, QUat b most f t cs l w

section
variable {w w' : World} {b most f : Nat} {t : TypeId} {cs : Array Value} {l : List Int} {S : Nat → Prop}
theorem QUat.keeps (h : QUat b most f t cs l w) (g : Ch S w w') (hn : ¬ S b) : QUat b most f t cs l w' :=
  ⟨h.row.keeps g hn, h.size, h.first, h.room, h.most0, h.most1, h.cf, h.cn, h.cm, h.ints, h.has⟩
theorem QU.keeps (h : QU b most l w) (g : Ch S w w') (hn : ¬ S b) : QU b most l w' := by obtain ⟨f, t, cs, h⟩ := h; exact ⟨f, t, cs, h.keeps g hn⟩
theorem QUat.drewN (h : QUat b most f t cs l w) (q : Nat) : QUat b most f t cs l (w.drewN q) := h.keeps (S := No) (Ch.drewN w q) (fun x => x)
theorem QU.lt (h : QU b most l w) : b < w.heap.size := by obtain ⟨f, t, cs, h⟩ := h; exact h.row.lt
end

set_option maxHeartbeats 1000000 in
theorem quThere_any (w : World) (b most : Nat) (l : List Int) (h : QU b most l w) : Calls Tryz.prog 276 #[.pointer (some ⟨b, 0, none⟩)] w fun e w' => e = .returned (.bool true) ∧ w = w' := by
  obtain ⟨f, t, cs, h⟩ := h
  have c := h.row.cell h.cm
  have m0 := h.most0
  have hd : decide (0 < most) = true := by rw [decide_eq_true_iff]; omega
  clear h
  go_enter Tryz.func276, Tryz.ntmps276
  go_wp2_with fail
  go_ret
  exact ⟨rfl, rfl⟩

set_option maxHeartbeats 1000000 in
theorem quAt_any (w : World) (b most f : Nat) (t : TypeId) (cs : Array Value) (l : List Int) (i : Nat) (hi : i ≤ 64) (h : QUat b most f t cs l w) :
    Calls Tryz.prog 140 #[.pointer (some ⟨b, 0, none⟩), .int .i64 i] w fun e w' => e = .returned (.pointer (some ⟨b, (f + i) % 64, none⟩)) ∧ ∃ q, w' = w.drewN q := by
  have c := h.row.cell h.cf
  have hf := h.first
  clear h
  go_enter Tryz.func140, Tryz.ntmps140
  go_wp2_with fail
  go_quiet (fail)
  go_wp2_with fail
  go_ret
  exact ⟨rfl, _, rfl⟩
end Go.Proofs.YtcngfaggignmpaaGreatDoor

/-
  Queues of messages: Put and Take.
-/
namespace Go.Proofs.YtcngfaggignmpaaGreatDoor
open Go.RowKit

set_option maxHeartbeats 1000000 in
theorem quRoom_yes (w : World) (b most : Nat) (l : List Int) (hl : l.length < most) (h : QU b most l w) : Calls Tryz.prog 283 #[.pointer (some ⟨b, 0, none⟩)] w fun e w' => e = .returned (.int .i64 0) ∧ ∃ q, w' = w.drewN q := by
  have HR := Lib.hid h
  obtain ⟨f, t, cs, h⟩ := h
  have c := h.row.cell h.cm
  have c2 := h.row.cell h.cn
  have hb : ((l.length : Int) == (most : Int)) = false := by rw [beq_eq_false_iff_ne]; omega
  clear h
  go_enter Tryz.func283, Tryz.ntmps283
  go_wp2_with fail
  refine (quThere_any _ b most l HR.out).mono ?_; rintro e w1 ⟨rfl, rfl⟩
  go_wp2_with fail
  go_quiet (fail)
  go_wp2_with fail
  go_ret
  exact ⟨rfl, _, rfl⟩
set_option maxHeartbeats 1000000 in
theorem quRoom_no (w : World) (b most : Nat) (l : List Int) (hl : l.length = most) (h : QU b most l w) : Calls Tryz.prog 283 #[.pointer (some ⟨b, 0, none⟩)] w fun e w' => e = .returned (.int .i64 10) ∧ ∃ q, w' = w.drewN q := by
  have HR := Lib.hid h
  obtain ⟨f, t, cs, h⟩ := h
  have c := h.row.cell h.cm
  have c2 := h.row.cell h.cn
  have hb : ((l.length : Int) == (most : Int)) = true := by rw [beq_iff_eq]; omega
  clear h hl
  go_enter Tryz.func283, Tryz.ntmps283
  go_wp2_with fail
  refine (quThere_any _ b most l HR.out).mono ?_; rintro e w1 ⟨rfl, rfl⟩
  go_wp2_with fail
  go_quiet (fail)
  go_wp2_with fail
  go_ret
  exact ⟨rfl, _, rfl⟩
end Go.Proofs.YtcngfaggignmpaaGreatDoor
