/-
  The top, part 30: Steps, Console, Code, Region, Below.
-/
import Derived.Test.YtcngfaggignmpaaGreatDoorG08
import Derived.Test.YtcngfaggignmpaaGreatDoorG29
import Derived.Lib.BufferRead

/-
  The core of a task: its instructions, one by one.
-/
namespace Go.Proofs.YtcngfaggignmpaaGreatDoor
open Go.RowKit

section
variable {g : CG} {sv : Value} {m : CM} {w : World}
theorem look_set (W : World) (mp rb : Nat) (h : W.heap[mp]? = some (.map (ruleArr rb 21) 21)) : (Instr.lookup 203 (.map (some mp)) (.int .u8 1) false).run Tryz.prog W = .ok (.agg #[.func (.func 104) #[] #[]]) W :=
  run_look1 Tryz.underlying203 Tryz.underlying45 W mp _ 21 1 1 _ h rfl
theorem look_move (W : World) (mp rb : Nat) (h : W.heap[mp]? = some (.map (ruleArr rb 21) 21)) : (Instr.lookup 203 (.map (some mp)) (.int .u8 2) false).run Tryz.prog W = .ok (.agg #[.func (.func 105) #[] #[]]) W :=
  run_look1 Tryz.underlying203 Tryz.underlying45 W mp _ 21 2 2 _ h rfl
theorem look_add (W : World) (mp rb : Nat) (h : W.heap[mp]? = some (.map (ruleArr rb 21) 21)) : (Instr.lookup 203 (.map (some mp)) (.int .u8 3) false).run Tryz.prog W = .ok (.agg #[.func (.func 119) #[] #[]]) W :=
  run_look1 Tryz.underlying203 Tryz.underlying45 W mp _ 21 3 9 _ h rfl
theorem look_sub (W : World) (mp rb : Nat) (h : W.heap[mp]? = some (.map (ruleArr rb 21) 21)) : (Instr.lookup 203 (.map (some mp)) (.int .u8 4) false).run Tryz.prog W = .ok (.agg #[.func (.func 119) #[] #[]]) W :=
  run_look1 Tryz.underlying203 Tryz.underlying45 W mp _ 21 4 10 _ h rfl
theorem look_other (W : World) (mp rb : Nat) (h : W.heap[mp]? = some (.map (ruleArr rb 21) 21)) : (Instr.lookup 203 (.map (some mp)) (.int .u8 16) false).run Tryz.prog W = .ok (.agg #[.func (.func 121) #[] #[]]) W :=
  run_look1 Tryz.underlying203 Tryz.underlying45 W mp _ 21 16 18 _ h rfl
theorem look_go (W : World) (mp rb : Nat) (h : W.heap[mp]? = some (.map (ruleArr rb 21) 21)) : (Instr.lookup 203 (.map (some mp)) (.int .u8 19) false).run Tryz.prog W = .ok (.agg #[.func (.func 117) #[] #[]]) W :=
  run_look1 Tryz.underlying203 Tryz.underlying45 W mp _ 21 19 7 _ h rfl
theorem look_tell (W : World) (mp rb : Nat) (h : W.heap[mp]? = some (.map (ruleArr rb 21) 21)) : (Instr.lookup 203 (.map (some mp)) (.int .u8 20) false).run Tryz.prog W = .ok (.agg #[.func (.func 118) #[] #[]]) W :=
  run_look1 Tryz.underlying203 Tryz.underlying45 W mp _ 21 20 8 _ h rfl
theorem call_104 (args : Array Value) (W : World) : (callFunc 104 args).run Tryz.prog W = .ok (.enter 104 args) W := by kernel_rfl
theorem call_105 (args : Array Value) (W : World) : (callFunc 105 args).run Tryz.prog W = .ok (.enter 105 args) W := by kernel_rfl
theorem call_119 (args : Array Value) (W : World) : (callFunc 119 args).run Tryz.prog W = .ok (.enter 119 args) W := by kernel_rfl
theorem call_121 (args : Array Value) (W : World) : (callFunc 121 args).run Tryz.prog W = .ok (.enter 121 args) W := by kernel_rfl
theorem call_117 (args : Array Value) (W : World) : (callFunc 117 args).run Tryz.prog W = .ok (.enter 117 args) W := by kernel_rfl
theorem call_118 (args : Array Value) (W : World) : (callFunc 118 args).run Tryz.prog W = .ok (.enter 118 args) W := by kernel_rfl

/-- Ready for a step: its place, and that nothing is asked. -/
structure Goes (g : CG) (m : CM) (k : Nat) (x : IN) (w : World) : Prop where
  pc : m.pc = (k : Int)
  small : k < 900
  code : g.code[k]? = some x
  asked : m.asked = false
  lo : g.lo ≤ w.heap.size
/-- What a step that asks nothing leaves. -/
def Stepped (g : CG) (sv : Value) (Z : Value → Prop) (m : CM) (w : World) (e : Ending) (w' : World) : Prop :=
  ∃ sv', Z sv' ∧ e = .returned (.tuple #[.bool false, askV 0 0 0 0 0, .int .i64 0]) ∧ CO g sv' m w' ∧ Ch (fun k => k = g.b ∨ sv.ownBlock = some k) w w'

theorem at_b {sv : Value} {w w' : World} (c : Ch (fun k => k = g.b) w w') : Ch (fun k => k = g.b ∨ sv.ownBlock = some k) w w' := c.mono (fun _ _ e => .inl e)
theorem step_set {k a c : Nat} (h : CO g sv m w) (p : Goes g m k ⟨1, a, 0, c⟩ w) (ha : a < 8) (hc : c < 256) :
    Calls Tryz.prog 32 #[.pointer (some ⟨g.b, 0, none⟩)] w (Stepped g sv (fun s => s = sv) { m.setR a c with pc := (k : Int) + 1 } w) := by
  have := cstep_any (Z := fun s => s = sv) k ⟨1, a, 0, c⟩ 104 (m.setR a c) 0 p.pc (Nat.lt_trans p.small (by decide)) (by omega) p.pc p.code p.asked (show (1 : Nat) ≠ 21 by decide) (show (1 : Nat) ≠ 22 by decide) p.lo look_set call_104
    (fun W _ hW => (set_any a c ha hc hW).mono (fun e w' q => ⟨sv, rfl, q.1, q.2.1, at_b q.2.2⟩)) h
  rw [show (k : Int) + (1 + 0) = (k : Int) + 1 by omega] at this
  exact this
theorem step_move {k a b : Nat} (h : CO g sv m w) (p : Goes g m k ⟨2, a, b, 0⟩ w) (ha : a < 8) (hb : b < 8) :
    Calls Tryz.prog 32 #[.pointer (some ⟨g.b, 0, none⟩)] w (Stepped g sv (fun s => s = sv) { m.setR a (m.r b) with pc := (k : Int) + 1 } w) := by
  have := cstep_any (Z := fun s => s = sv) k ⟨2, a, b, 0⟩ 105 (m.setR a (m.r b)) 0 p.pc (Nat.lt_trans p.small (by decide)) (by omega) p.pc p.code p.asked (show (2 : Nat) ≠ 21 by decide) (show (2 : Nat) ≠ 22 by decide) p.lo look_move call_105
    (fun W _ hW => (move_any a b ha hb hW).mono (fun e w' q => ⟨sv, rfl, q.1, q.2.1, at_b q.2.2⟩)) h
  rw [show (k : Int) + (1 + 0) = (k : Int) + 1 by omega] at this
  exact this
theorem step_add {k a c : Nat} (h : CO g sv m w) (p : Goes g m k ⟨3, a, a, c⟩ w) (ha : a < 8) (hc : c < 8) (hac : c ≠ a) :
    Calls Tryz.prog 32 #[.pointer (some ⟨g.b, 0, none⟩)] w (Stepped g sv (fun s => s = sv) { m.setR a ((m.r a + m.r c) % 4294967296) with pc := (k : Int) + 1 } w) := by
  have := cstep_any (Z := fun s => s = sv) k ⟨3, a, a, c⟩ 119 (m.setR a ((m.r a + m.r c) % 4294967296)) 0 p.pc (Nat.lt_trans p.small (by decide)) (by omega) p.pc p.code p.asked (show (3 : Nat) ≠ 21 by decide) (show (3 : Nat) ≠ 22 by decide) p.lo look_add call_119
    (fun W _ hW => (arith_any 3 a c _ ha hc hac (fun w => doAdd_any _ _ w) hW).mono (fun e w' q => ⟨sv, rfl, q.1, q.2.1, at_b q.2.2⟩)) h
  rw [show (k : Int) + (1 + 0) = (k : Int) + 1 by omega] at this
  exact this
theorem step_sub {k a c : Nat} (h : CO g sv m w) (p : Goes g m k ⟨4, a, a, c⟩ w) (ha : a < 8) (hc : c < 8) (hac : c ≠ a) :
    Calls Tryz.prog 32 #[.pointer (some ⟨g.b, 0, none⟩)] w (Stepped g sv (fun s => s = sv) { m.setR a ((m.r a - m.r c) % 4294967296) with pc := (k : Int) + 1 } w) := by
  have := cstep_any (Z := fun s => s = sv) k ⟨4, a, a, c⟩ 119 (m.setR a ((m.r a - m.r c) % 4294967296)) 0 p.pc (Nat.lt_trans p.small (by decide)) (by omega) p.pc p.code p.asked (show (4 : Nat) ≠ 21 by decide) (show (4 : Nat) ≠ 22 by decide) p.lo look_sub call_119
    (fun W _ hW => (arith_any 4 a c _ ha hc hac (fun w => doSub_any _ _ w) hW).mono (fun e w' q => ⟨sv, rfl, q.1, q.2.1, at_b q.2.2⟩)) h
  rw [show (k : Int) + (1 + 0) = (k : Int) + 1 by omega] at this
  exact this
theorem step_other {k a b : Nat} (h : CO g sv m w) (p : Goes g m k ⟨16, a, b, 249⟩ w) (ha : a < 8) (hb : b < 8) :
    Calls Tryz.prog 32 #[.pointer (some ⟨g.b, 0, none⟩)] w (Stepped g sv (fun s => s = sv) { m with pc := if m.r a = m.r b then (k : Int) + 1 else (k : Int) - 6 } w) := by
  have := cstep_any (Z := fun s => s = sv) k ⟨16, a, b, 249⟩ 121 m (if m.r a = m.r b then 0 else -7) p.pc (Nat.lt_trans p.small (by decide)) (by split <;> omega) p.pc p.code p.asked (show (16 : Nat) ≠ 21 by decide) (show (16 : Nat) ≠ 22 by decide) p.lo look_other call_121
    (fun W _ hW => (other_any a b ha hb hW).mono (fun e w' q => ⟨sv, rfl, q.1, q.2.1, q.2.2.mono (fun _ _ s => s.elim)⟩)) h
  rw [show (k : Int) + (1 + if m.r a = m.r b then 0 else -7) = if m.r a = m.r b then (k : Int) + 1 else (k : Int) - 6 by split <;> omega] at this
  exact this
theorem step_go {k b : Nat} (h : CO g sv m w) (p : Goes g m k ⟨19, 0, b, 0⟩ w) (hb : b < 256) :
    Calls Tryz.prog 32 #[.pointer (some ⟨g.b, 0, none⟩)] w (Stepped g sv (fun s => s = sv) { m with pc := (b : Int) } w) := by
  have hs := p.small
  have hp := p.pc
  have := cstep_any (Z := fun s => s = sv) k ⟨19, 0, b, 0⟩ 117 m ((b : Int) - m.pc - 1) p.pc (Nat.lt_trans p.small (by decide)) (by omega) p.pc p.code p.asked (show (19 : Nat) ≠ 21 by decide) (show (19 : Nat) ≠ 22 by decide) p.lo look_go call_117
    (fun W _ hW => (go_any b hb hW (by omega)).mono (fun e w' q => ⟨sv, rfl, q.1, q.2.1, q.2.2.mono (fun _ _ s => s.elim)⟩)) h
  rw [show (k : Int) + (1 + ((b : Int) - m.pc - 1)) = (b : Int) by omega] at this
  exact this
theorem step_tell {k a : Nat} (h : CO g sv m w) (p : Goes g m k ⟨20, a, 0, 0⟩ w) (ha : a < 8) (hl : m.says.length < 250) :
    Calls Tryz.prog 32 #[.pointer (some ⟨g.b, 0, none⟩)] w (Stepped g sv (fun _ => True) { m.tell (m.r a % 256) with pc := (k : Int) + 1 } w) := by
  have := cstep_any (Z := fun _ => True) k ⟨20, a, 0, 0⟩ 118 (m.tell (m.r a % 256)) 0 p.pc (Nat.lt_trans p.small (by decide)) (by omega) p.pc p.code p.asked (show (20 : Nat) ≠ 21 by decide) (show (20 : Nat) ≠ 22 by decide) p.lo look_tell call_118
    (fun W hlo hW => (tell_any a ha hl hlo hW).mono (fun e w' q => by obtain ⟨s', q1, q2, q3⟩ := q; exact ⟨s', trivial, q1, q2, q3⟩)) h
  rw [show (k : Int) + (1 + 0) = (k : Int) + 1 by omega] at this
  exact this
end
end Go.Proofs.YtcngfaggignmpaaGreatDoor

/-
  The core of a task: what it said, as a string.
-/
namespace Go.Proofs.YtcngfaggignmpaaGreatDoor
open Go.RowKit

section
variable {g : CG} {sv : Value} {m : CM} {w : World}
theorem CO.shown {l : List UInt8} (h : CO g sv m w) (hl : m.says = l.map fun b => (b.toNat : Int)) : (convert 22 9 sv).run Tryz.prog w = .ok (.string ⟨l.toArray⟩) w := by
  have hlen : m.says.length = l.length := by rw [hl]; simp
  have hs := h.says
  rcases hs.2 with ⟨e, h0⟩ | ⟨q, cap, cur, e, _⟩
  · have h1 : l = [] := List.eq_nil_of_length_eq_zero (by omega)
    rw [e, h1]
    exact Go.Lib.run_convert_nil_bytes w 22 9 5 0 Tryz.underlying22 Tryz.underlying5 Tryz.underlying9
  · rw [e, hlen]
    refine run_convert_bytes_back w 22 9 5 ⟨q, 0, none⟩ cap l Tryz.underlying22 Tryz.underlying5 Tryz.underlying9 (fun j hj => ?_)
    have hc := World.ownsRow.cells hs (g := q) (by rw [e]; rfl) j (.int .u8 (l[j].toNat : Int)) (by rw [hl]; simp [List.getElem?_eq_getElem hj])
    exact hc
set_option maxHeartbeats 400000 in
theorem console_any {l : List UInt8} (h : CO g sv m w) (hl : m.says = l.map fun b => (b.toNat : Int)) :
    Calls Tryz.prog 42 #[.pointer (some ⟨g.b, 0, none⟩)] w fun e w' => e = .returned (.string ⟨l.toArray⟩) ∧ w = w' := by
  have hv := h.shown hl
  have c11 := h.cSays
  have H := Lib.hid h
  clear h hl
  go_enter Tryz.func42, Tryz.ntmps42
  go_wp2_with fail
  refine (cThere_any H.out).mono ?_; rintro e w1 ⟨rfl, rfl⟩
  go_wp2_with fail
  go_ret
  exact ⟨rfl, rfl⟩
end
end Go.Proofs.YtcngfaggignmpaaGreatDoor

/-
  Code as a row of cells: a clone of it.
-/
namespace Go.Proofs.YtcngfaggignmpaaGreatDoor
open Go.RowKit

/-- An instruction's cells. -/
def inCells (x : IN) : List Value := [.int .u8 x.op, .int .u8 x.a, .int .u8 x.b, .int .u8 x.c]
def flat : List IN → List Value
  | [] => []
  | x :: l => inCells x ++ flat l
theorem flat_len : ∀ l, (flat l).length = l.length * 4
  | [] => rfl
  | x :: l => by simp [flat, inCells, flat_len l]; omega
theorem flat_get : ∀ (l : List IN) (i : Nat) (x : IN), l[i]? = some x →
    (flat l)[i * 4]? = some (.int .u8 x.op) ∧ (flat l)[i * 4 + 1]? = some (.int .u8 x.a) ∧ (flat l)[i * 4 + 2]? = some (.int .u8 x.b) ∧ (flat l)[i * 4 + 3]? = some (.int .u8 x.c)
  | [], i, x, h => by simp at h
  | y :: l, 0, x, h => by
    simp at h
    subst h
    simp [flat, inCells]
  | y :: l, i + 1, x, h => by
    have h' : l[i]? = some x := by simpa using h
    obtain ⟨a, b, c, d⟩ := flat_get l i x h'
    have e : ∀ j, (flat (y :: l))[(i + 1) * 4 + j]? = (flat l)[i * 4 + j]? := fun j => by
      rw [show (i + 1) * 4 + j = 4 + (i * 4 + j) by omega]
      show (inCells y ++ flat l)[4 + (i * 4 + j)]? = _
      rw [List.getElem?_append_right (by simp [inCells])]
      simp [inCells]
    exact ⟨(e 0).trans a, (e 1).trans b, (e 2).trans c, (e 3).trans d⟩
theorem flat_one : ∀ (l : List IN) (u : Value), u ∈ flat l → u.oneCell' = true
  | [], u, h => by cases h
  | x :: l, u, h => by
    rcases List.mem_append.1 (show u ∈ inCells x ++ flat l from h) with h | h
    · simp [inCells] at h
      rcases h with rfl | rfl | rfl | rfl <;> rfl
    · exact flat_one l u h
/-- A block holds code. -/
def Code49 (b : Nat) (l : List IN) (w : World) : Prop := ∃ cs, Row b 49 cs w ∧ ∀ (j : Nat) (u : Value), (flat l)[j]? = some u → cs[j]? = some u

theorem info49 : (Tryz.prog.info? 49).map (fun i => (i.zero, i.size, i.bytes)) = some (some (.agg #[.int .u8 0, .int .u8 0, .int .u8 0, .int .u8 0]), 4, 4) := by kernel_rfl
theorem eqNil52 (w : World) (a : Option Addr) (n c n' c' : Nat) : (binOp .eql 52 (.slice a n c) (.slice none n' c')).run Tryz.prog w = .ok (.bool a.isNone) w := Lib.run_eql_slice_nil w _ _ a n c n' c' Tryz.underlying52

set_option maxHeartbeats 2000000 in
theorem code_clone (w : World) (g cap : Nat) (l : List IN) (hn : l.length ≤ 1000) (h1 : 1 ≤ l.length) (h : Code49 g l w) :
    Calls Tryz.prog 56 #[.slice (some ⟨g, 0, none⟩) l.length cap] w fun e w' => (∃ g' cap', e = .returned (.slice (some ⟨g', 0, none⟩) l.length cap') ∧ l.length ≤ cap' ∧ w.heap.size ≤ g' ∧ Code49 g' l w') ∧ Ch No w w' := by
  obtain ⟨i0, hi, hz0, hz1, hz2⟩ := info_parts info49
  have qT := eqNil52
  have H := Lib.hid h
  have h0 : (w.alloc (.cells #[] 49)).ownsRow w.heap.size 49 4 (.slice (some ⟨w.heap.size, 0, none⟩) 0 0) 0 [] := World.ownsRow_made w #[] 0 (Nat.le_refl _) (by unfold maxLen; omega) rfl
  clear h
  go_enter Tryz.func56, Tryz.ntmps56
  go_wp2_with (first
    | (at_builtin; go_loud (refine wpList_append_own _ rfl _ _ 52 rfl w.heap.size 49 i0 (.agg #[.int .u8 0, .int .u8 0, .int .u8 0, .int .u8 0]) 4 4 Tryz.underlying52 hi hz0 hz1 hz2 rfl (by decide) _ _ _ rfl h0 ⟨g, 0, none⟩ l.length cap (flat l) rfl (flat_len l) ?c1 ?c2 ?c3 ?c4 ?c5 ?_)))
  case c1 =>
    intro j u hj
    obtain ⟨cs, hr, hc⟩ := H.out
    have e1 : w.cell? ⟨g, j, none⟩ = some u := hr.cell (hc j u hj)
    rw [← e1]
    have := World.cell?_alloc_lt w (Obj.cells #[] 49) ⟨g, j, none⟩ (World.block_lt_of_cell? w _ e1)
    cases j with
    | zero => simpa [Addr.add] using this
    | succ j => simpa [Addr.add] using this
  case c2 => exact flat_one l
  case c3 => unfold maxLen; omega
  case c4 => omega
  case c5 => simp
  · intro v' w2 hown' hgrow _
    have hg2 : Ch No w w2 := (Ch.alloc w (.cells #[] 49)).grownOwn hgrow (own_ge h0)
    have hfin : ∃ g' cap', v' = .slice (some ⟨g', 0, none⟩) l.length cap' ∧ l.length ≤ cap' ∧ w.heap.size ≤ g' ∧ Code49 g' l w2 := by
      rcases hown'.2 with ⟨_, e0⟩ | ⟨g', cap', cur, e, hb, hg, hn', hm, hs, ht⟩
      · omega
      · refine ⟨g', cap', e, by omega, hb, cur, hg, fun j u hj => ?_⟩
        have hjl : j < (flat l).length := (List.getElem?_eq_some_iff.1 hj).1
        rw [flat_len] at hjl
        have h3 : (cur.toList.take (l.length * 4))[j]? = some u := by rw [ht]; exact hj
        rw [List.getElem?_take_of_lt (by omega)] at h3
        simpa using h3
    obtain ⟨g', cap', rfl, hnc', hge, hcode⟩ := hfin
    clear hown' hgrow
    go_wp2
    go_ret
    exact ⟨⟨g', cap', rfl, hnc', hge, hcode⟩, hg2⟩
end Go.Proofs.YtcngfaggignmpaaGreatDoor

/-
  Regions: a new one, of no bytes.
-/
namespace Go.Proofs.YtcngfaggignmpaaGreatDoor
open Go.RowKit

theorem mkNone (w : World) : (Instr.makeSlice 22 (.int .i64 0) (.int .i64 0)).run Tryz.prog w = .ok (.slice (some ⟨w.heap.size, 0, none⟩) 0 0) (w.alloc (.cells #[] 5)) := by kernel_rfl
theorem copyNone (a : Addr) (W : World) : (Builtin.copy_ #[22, 22] 3 #[.slice (some a) 0 0, .slice none 0 0]).run Tryz.prog W = .ok (.int .i64 0) W := by kernel_rfl
set_option maxRecDepth 100000 in
set_option maxHeartbeats 1000000 in
theorem regNew_any (w : World) :
    Calls Tryz.prog 55 #[.int .i64 0, .slice none 0 0] w fun e w' => (∃ r, e = .returned (.tuple #[.pointer (some ⟨r, 0, none⟩), .int .i64 0])) ∧ Ch No w w' := by
  have hmk := mkNone w
  have hcp := copyNone
  go_enter Tryz.func55, Tryz.ntmps55
  go_wp2_with fail
  go_ret2
  exact ⟨⟨_, rfl⟩, (Ch.alloc w _).trans (Ch.alloc _ _)⟩
end Go.Proofs.YtcngfaggignmpaaGreatDoor

/-
  Instructions: whether a number is below another one, at least some; a store into a map wherever it lies.
-/
namespace Go.Proofs.YtcngfaggignmpaaGreatDoor
open Go.RowKit Go.ChangeMaps Go.MapKept

/-- Block b is the map es now. -/
def putMap (w : World) (b : Nat) (es : Array MapEntry) (c : Nat) : World := { w with heap := w.heap.setIfInBounds b (.map es c) }
section
variable {P : Program} {T K E : TypeId} {q : IntKind} {w : World} {b c : Nat} {es es' : Array MapEntry}
theorem run_put_at (ht : P.underlying T = some (.map K E)) (hk : P.underlying K = some (.int q)) (k : Int) (v : Value) (hb : w.heap[b]? = some (.map es c))
    (hnew : Instr.findNow (.int q) (.int q k) es.toList 0 = some none) :
    (Instr.mapUpdate T (.map (some b)) (.int q k) v).run P w = .ok () (putMap w b (es.push ⟨.int q k, v, c⟩) (c + 1)) := by
  have hkey : IsKey (.int q) (.int q k) := by simp [IsKey]
  simp [Instr.mapUpdate, run_underlying ht, MapKept.run_getObj_map hb, run_checkKey hk hkey, run_findKey hk hnew, MapKept.run_setObj_map _ hb, Result.andThen, putMap]
theorem putMap_at (hb : b < w.heap.size) : (putMap w b es c).heap[b]? = some (.map es c) := by simp [putMap, hb]
theorem putMap_ch : Ch (fun k => k = b) w (putMap w b es c) :=
  ⟨rfl, rfl, rfl, by simp [putMap], fun k _ hn => by simp [putMap, Ne.symm hn]⟩
end

/-- Below most, and at least least: a closure over two boxes. -/
def belowV (a : Nat) : Value := .func (.func 222) #[] #[.pointer (some ⟨a, 0, none⟩), .pointer (some ⟨a + 1, 0, none⟩)]
/-- The two boxes. -/
def Bounds (a : Nat) (least most : Int) (w : World) : Prop := Row a 3 #[.int .i64 least] w ∧ Row (a + 1) 3 #[.int .i64 most] w
theorem Bounds.keeps {a : Nat} {least most : Int} {w w' : World} {S : Nat → Prop} (h : Bounds a least most w) (g : Ch S w w') (h0 : ¬ S a) (h1 : ¬ S (a + 1)) : Bounds a least most w' := ⟨h.1.keeps g h0, h.2.keeps g h1⟩

set_option maxHeartbeats 400000 in
theorem below_any (least most : Int) (w : World) :
    Calls Tryz.prog 212 #[.int .i64 least, .int .i64 most] w fun e w' => e = .returned (belowV w.heap.size) ∧ Bounds w.heap.size least most w' ∧ Ch No w w' := by
  have hmf : ∀ (fn : Fn) (first cap : Array Value) (w : World), (Instr.makeFunc fn first cap).run Tryz.prog w = .ok (.func fn first cap) w := fun _ _ _ _ => rfl
  have h1 : (w.alloc (.cells #[.int .i64 least] 3)).heap.size = w.heap.size + 1 := Array.size_push _
  have hb : Hid (Bounds w.heap.size least most ((w.alloc (.cells #[.int .i64 least] 3)).alloc (.cells #[.int .i64 most] 3))) := Lib.hid ⟨(Row.new w 3 _).alloc _, by rw [← h1]; exact Row.new _ 3 _⟩
  clear h1
  go_enter Tryz.func212, Tryz.ntmps212
  go_wp2
  go_ret
  exact ⟨rfl, hb.out, (Ch.alloc w _).trans (Ch.alloc _ _)⟩
set_option maxHeartbeats 400000 in
theorem isBelow_any (a : Nat) (least most n : Int) (w : World) (h : Bounds a least most w) (h1 : least ≤ n) (h2 : n < most) :
    Calls Tryz.prog 222 #[.int .i64 n, .pointer (some ⟨a, 0, none⟩), .pointer (some ⟨a + 1, 0, none⟩)] w fun e w' => e = .returned (.bool true) ∧ w = w' := by
  have c0 := h.1.cell (j := 0) rfl
  have c1 := h.2.cell (j := 0) rfl
  have d0 : decide (least ≤ n) = true := by rw [decide_eq_true_iff]; exact h1
  have d1 : decide (n < most) = true := by rw [decide_eq_true_iff]; exact h2
  clear h h1 h2
  go_enter Tryz.func222, Tryz.ntmps222
  go_wp2_with fail
  go_ret
  exact ⟨rfl, rfl⟩
end Go.Proofs.YtcngfaggignmpaaGreatDoor
