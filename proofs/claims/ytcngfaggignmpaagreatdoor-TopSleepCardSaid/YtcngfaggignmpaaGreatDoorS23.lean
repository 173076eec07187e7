/-
  The top, part 23: Console, Code, Region, Below, Kinds, LineNew, Board, BoardTick, BoardNew.
-/
import Derived.Test.YtcngfaggignmpaaGreatDoorS06
import Derived.Test.YtcngfaggignmpaaGreatDoorS17
import Derived.Test.YtcngfaggignmpaaGreatDoorS22
import Derived.Lib.BufferRead

/-
  The core of a task: what it said, as a string.
-/
namespace Go.Proofs.YtcngfaggignmpaaGreatDoor
open Go.RowKit

section
variable {g : CG} {sv : Value} {m : CM} {w : World}
theorem CO.shown {l : List UInt8} (h : CO g sv m w) (hl : m.says = l.map fun b => (b.toNat : Int)) : (convert 22 9 sv).run Tryz.prog w = .ok (.string ⟨l.toArray⟩) w := by
  have hlen : m.says.length = l.length := by rw [hl]; simp
  have hs := h.says
  rcases hs.2 with ⟨e, h0⟩ | ⟨q, cap, cur, e, _⟩
  · have h1 : l = [] := List.eq_nil_of_length_eq_zero (by omega)
    rw [e, h1]
    exact Go.Lib.run_convert_nil_bytes w 22 9 5 0 Tryz.underlying22 Tryz.underlying5 Tryz.underlying9
  · rw [e, hlen]
    refine run_convert_bytes_back w 22 9 5 ⟨q, 0, none⟩ cap l Tryz.underlying22 Tryz.underlying5 Tryz.underlying9 (fun j hj => ?_)
    have hc := World.ownsRow.cells hs (g := q) (by rw [e]; rfl) j (.int .u8 (l[j].toNat : Int)) (by rw [hl]; simp [List.getElem?_eq_getElem hj])
    exact hc
set_option maxHeartbeats 400000 in
theorem console_any {l : List UInt8} (h : CO g sv m w) (hl : m.says = l.map fun b => (b.toNat : Int)) :
    Calls Tryz.prog 42 #[.pointer (some ⟨g.b, 0, none⟩)] w fun e w' => e = .returned (.string ⟨l.toArray⟩) ∧ w = w' := by
  have hv := h.shown hl
  have c11 := h.cSays
  have H := Lib.hid h
  clear h hl
  go_enter Tryz.func42, Tryz.ntmps42
  go_wp2_with fail
  refine (cThere_any H.out).mono ?_; rintro e w1 ⟨rfl, rfl⟩
  go_wp2_with fail
  go_ret
  exact ⟨rfl, rfl⟩
end
end Go.Proofs.YtcngfaggignmpaaGreatDoor

/-
  Code as a row of cells: a clone of it.
-/
namespace Go.Proofs.YtcngfaggignmpaaGreatDoor
open Go.RowKit

/-- An instruction's cells. -/
def inCells (x : IN) : List Value := [.int .u8 x.op, .int .u8 x.a, .int .u8 x.b, .int .u8 x.c]
def flat : List IN → List Value
  | [] => []
  | x :: l => inCells x ++ flat l
theorem flat_len : ∀ l, (flat l).length = l.length * 4
  | [] => rfl
  | x :: l => by simp [flat, inCells, flat_len l]; omega
theorem flat_get : ∀ (l : List IN) (i : Nat) (x : IN), l[i]? = some x →
    (flat l)[i * 4]? = some (.int .u8 x.op) ∧ (flat l)[i * 4 + 1]? = some (.int .u8 x.a) ∧ (flat l)[i * 4 + 2]? = some (.int .u8 x.b) ∧ (flat l)[i * 4 + 3]? = some (.int .u8 x.c)
  | [], i, x, h => by simp at h
  | y :: l, 0, x, h => by
    simp at h
    subst h
    simp [flat, inCells]
  | y :: l, i + 1, x, h => by
    have h' : l[i]? = some x := by simpa using h
    obtain ⟨a, b, c, d⟩ := flat_get l i x h'
    have e : ∀ j, (flat (y :: l))[(i + 1) * 4 + j]? = (flat l)[i * 4 + j]? := fun j => by
      rw [show (i + 1) * 4 + j = 4 + (i * 4 + j) by omega]
      show (inCells y ++ flat l)[4 + (i * 4 + j)]? = _
      rw [List.getElem?_append_right (by simp [inCells])]
      simp [inCells]
    exact ⟨(e 0).trans a, (e 1).trans b, (e 2).trans c, (e 3).trans d⟩
theorem flat_one : ∀ (l : List IN) (u : Value), u ∈ flat l → u.oneCell' = true
  | [], u, h => by cases h
  | x :: l, u, h => by
    rcases List.mem_append.1 (show u ∈ inCells x ++ flat l from h) with h | h
    · simp [inCells] at h
      rcases h with rfl | rfl | rfl | rfl <;> rfl
    · exact flat_one l u h
/-- A block holds code. -/
def Code49 (b : Nat) (l : List IN) (w : World) : Prop := ∃ cs, Row b 49 cs w ∧ ∀ (j : Nat) (u : Value), (flat l)[j]? = some u → cs[j]? = some u

theorem info49 : (Tryz.prog.info? 49).map (fun i => (i.zero, i.size, i.bytes)) = some (some (.agg #[.int .u8 0, .int .u8 0, .int .u8 0, .int .u8 0]), 4, 4) := by kernel_rfl
theorem eqNil52 (w : World) (a : Option Addr) (n c n' c' : Nat) : (binOp .eql 52 (.slice a n c) (.slice none n' c')).run Tryz.prog w = .ok (.bool a.isNone) w := Lib.run_eql_slice_nil w _ _ a n c n' c' Tryz.underlying52

set_option maxHeartbeats 2000000 in
theorem code_clone (w : World) (g cap : Nat) (l : List IN) (hn : l.length ≤ 1000) (h1 : 1 ≤ l.length) (h : Code49 g l w) :
    Calls Tryz.prog 56 #[.slice (some ⟨g, 0, none⟩) l.length cap] w fun e w' => (∃ g' cap', e = .returned (.slice (some ⟨g', 0, none⟩) l.length cap') ∧ l.length ≤ cap' ∧ w.heap.size ≤ g' ∧ Code49 g' l w') ∧ Ch No w w' := by
  obtain ⟨i0, hi, hz0, hz1, hz2⟩ := info_parts info49
  have qT := eqNil52
  have H := Lib.hid h
  have h0 : (w.alloc (.cells #[] 49)).ownsRow w.heap.size 49 4 (.slice (some ⟨w.heap.size, 0, none⟩) 0 0) 0 [] := World.ownsRow_made w #[] 0 (Nat.le_refl _) (by unfold maxLen; omega) rfl
  clear h
  go_enter Tryz.func56, Tryz.ntmps56
  go_wp2_with (first
    | (at_builtin; go_loud (refine wpList_append_own _ rfl _ _ 52 rfl w.heap.size 49 i0 (.agg #[.int .u8 0, .int .u8 0, .int .u8 0, .int .u8 0]) 4 4 Tryz.underlying52 hi hz0 hz1 hz2 rfl (by decide) _ _ _ rfl h0 ⟨g, 0, none⟩ l.length cap (flat l) rfl (flat_len l) ?c1 ?c2 ?c3 ?c4 ?c5 ?_)))
  case c1 =>
    intro j u hj
    obtain ⟨cs, hr, hc⟩ := H.out
    have e1 : w.cell? ⟨g, j, none⟩ = some u := hr.cell (hc j u hj)
    rw [← e1]
    have := World.cell?_alloc_lt w (Obj.cells #[] 49) ⟨g, j, none⟩ (World.block_lt_of_cell? w _ e1)
    cases j with
    | zero => simpa [Addr.add] using this
    | succ j => simpa [Addr.add] using this
  case c2 => exact flat_one l
  case c3 => unfold maxLen; omega
  case c4 => omega
  case c5 => simp
  · intro v' w2 hown' hgrow _
    have hg2 : Ch No w w2 := (Ch.alloc w (.cells #[] 49)).grownOwn hgrow (own_ge h0)
    have hfin : ∃ g' cap', v' = .slice (some ⟨g', 0, none⟩) l.length cap' ∧ l.length ≤ cap' ∧ w.heap.size ≤ g' ∧ Code49 g' l w2 := by
      rcases hown'.2 with ⟨_, e0⟩ | ⟨g', cap', cur, e, hb, hg, hn', hm, hs, ht⟩
      · omega
      · refine ⟨g', cap', e, by omega, hb, cur, hg, fun j u hj => ?_⟩
        have hjl : j < (flat l).length := (List.getElem?_eq_some_iff.1 hj).1
        rw [flat_len] at hjl
        have h3 : (cur.toList.take (l.length * 4))[j]? = some u := by rw [ht]; exact hj
        rw [List.getElem?_take_of_lt (by omega)] at h3
        simpa using h3
    obtain ⟨g', cap', rfl, hnc', hge, hcode⟩ := hfin
    clear hown' hgrow
    go_wp2
    go_ret
    exact ⟨⟨g', cap', rfl, hnc', hge, hcode⟩, hg2⟩
end Go.Proofs.YtcngfaggignmpaaGreatDoor

/-
  Regions: a new one, of no bytes.
-/
namespace Go.Proofs.YtcngfaggignmpaaGreatDoor
open Go.RowKit

theorem mkNone (w : World) : (Instr.makeSlice 22 (.int .i64 0) (.int .i64 0)).run Tryz.prog w = .ok (.slice (some ⟨w.heap.size, 0, none⟩) 0 0) (w.alloc (.cells #[] 5)) := by kernel_rfl
theorem copyNone (a : Addr) (W : World) : (Builtin.copy_ #[22, 22] 3 #[.slice (some a) 0 0, .slice none 0 0]).run Tryz.prog W = .ok (.int .i64 0) W := by kernel_rfl
set_option maxRecDepth 100000 in
set_option maxHeartbeats 1000000 in
theorem regNew_any (w : World) :
    Calls Tryz.prog 55 #[.int .i64 0, .slice none 0 0] w fun e w' => (∃ r, e = .returned (.tuple #[.pointer (some ⟨r, 0, none⟩), .int .i64 0])) ∧ Ch No w w' := by
  have hmk := mkNone w
  have hcp := copyNone
  go_enter Tryz.func55, Tryz.ntmps55
  go_wp2_with fail
  go_ret2
  exact ⟨⟨_, rfl⟩, (Ch.alloc w _).trans (Ch.alloc _ _)⟩
end Go.Proofs.YtcngfaggignmpaaGreatDoor

/-
  Instructions: whether a number is below another one, at least some; a store into a map wherever it lies.
-/
namespace Go.Proofs.YtcngfaggignmpaaGreatDoor
open Go.RowKit Go.ChangeMaps Go.MapKept

/-- Block b is the map es now. -/
def putMap (w : World) (b : Nat) (es : Array MapEntry) (c : Nat) : World := { w with heap := w.heap.setIfInBounds b (.map es c) }
section
variable {P : Program} {T K E : TypeId} {q : IntKind} {w : World} {b c : Nat} {es es' : Array MapEntry}
theorem run_put_at (ht : P.underlying T = some (.map K E)) (hk : P.underlying K = some (.int q)) (k : Int) (v : Value) (hb : w.heap[b]? = some (.map es c))
    (hnew : Instr.findNow (.int q) (.int q k) es.toList 0 = some none) :
    (Instr.mapUpdate T (.map (some b)) (.int q k) v).run P w = .ok () (putMap w b (es.push ⟨.int q k, v, c⟩) (c + 1)) := by
  have hkey : IsKey (.int q) (.int q k) := by simp [IsKey]
  simp [Instr.mapUpdate, run_underlying ht, MapKept.run_getObj_map hb, run_checkKey hk hkey, run_findKey hk hnew, MapKept.run_setObj_map _ hb, Result.andThen, putMap]
theorem putMap_at (hb : b < w.heap.size) : (putMap w b es c).heap[b]? = some (.map es c) := by simp [putMap, hb]
theorem putMap_ch : Ch (fun k => k = b) w (putMap w b es c) :=
  ⟨rfl, rfl, rfl, by simp [putMap], fun k _ hn => by simp [putMap, Ne.symm hn]⟩
end

/-- Below most, and at least least: a closure over two boxes. -/
def belowV (a : Nat) : Value := .func (.func 222) #[] #[.pointer (some ⟨a, 0, none⟩), .pointer (some ⟨a + 1, 0, none⟩)]
/-- The two boxes. -/
def Bounds (a : Nat) (least most : Int) (w : World) : Prop := Row a 3 #[.int .i64 least] w ∧ Row (a + 1) 3 #[.int .i64 most] w
theorem Bounds.keeps {a : Nat} {least most : Int} {w w' : World} {S : Nat → Prop} (h : Bounds a least most w) (g : Ch S w w') (h0 : ¬ S a) (h1 : ¬ S (a + 1)) : Bounds a least most w' := ⟨h.1.keeps g h0, h.2.keeps g h1⟩

set_option maxHeartbeats 400000 in
theorem below_any (least most : Int) (w : World) :
    Calls Tryz.prog 212 #[.int .i64 least, .int .i64 most] w fun e w' => e = .returned (belowV w.heap.size) ∧ Bounds w.heap.size least most w' ∧ Ch No w w' := by
  have hmf : ∀ (fn : Fn) (first cap : Array Value) (w : World), (Instr.makeFunc fn first cap).run Tryz.prog w = .ok (.func fn first cap) w := fun _ _ _ _ => rfl
  have h1 : (w.alloc (.cells #[.int .i64 least] 3)).heap.size = w.heap.size + 1 := Array.size_push _
  have hb : Hid (Bounds w.heap.size least most ((w.alloc (.cells #[.int .i64 least] 3)).alloc (.cells #[.int .i64 most] 3))) := Lib.hid ⟨(Row.new w 3 _).alloc _, by rw [← h1]; exact Row.new _ 3 _⟩
  clear h1
  go_enter Tryz.func212, Tryz.ntmps212
  go_wp2
  go_ret
  exact ⟨rfl, hb.out, (Ch.alloc w _).trans (Ch.alloc _ _)⟩
set_option maxHeartbeats 400000 in
theorem isBelow_any (a : Nat) (least most n : Int) (w : World) (h : Bounds a least most w) (h1 : least ≤ n) (h2 : n < most) :
    Calls Tryz.prog 222 #[.int .i64 n, .pointer (some ⟨a, 0, none⟩), .pointer (some ⟨a + 1, 0, none⟩)] w fun e w' => e = .returned (.bool true) ∧ w = w' := by
  have c0 := h.1.cell (j := 0) rfl
  have c1 := h.2.cell (j := 0) rfl
  have d0 : decide (least ≤ n) = true := by rw [decide_eq_true_iff]; exact h1
  have d1 : decide (n < most) = true := by rw [decide_eq_true_iff]; exact h2
  clear h h1 h2
  go_enter Tryz.func222, Tryz.ntmps222
  go_wp2_with fail
  go_ret
  exact ⟨rfl, rfl⟩
end Go.Proofs.YtcngfaggignmpaaGreatDoor

/-
  Instructions: the kinds of fields.
-/
namespace Go.Proofs.YtcngfaggignmpaaGreatDoor
open Go.RowKit Go.ChangeMaps Go.MapKept

/-- A kind of field. -/
def kindV (b a f g : Nat) : Value := .agg #[.int .i64 b, belowV a, .func (.func f) #[] #[], .func (.func g) #[] #[]]
def kindE (k b a f g i : Nat) : MapEntry := ⟨.int .i32 k, kindV b a f g, i⟩
def kindArr (a1 a2 a3 a4 a5 : Nat) : Array MapEntry := #[kindE 114 1 a1 213 215 0, kindE 110 2 a2 214 217 1, kindE 98 1 a3 214 217 2, kindE 119 1 a4 214 217 3, kindE 115 1 a5 218 219 4]
/-- The kinds in memory. -/
def Kinds (mp a1 a2 a3 a4 a5 : Nat) (w : World) : Prop :=
  w.heap[mp]? = some (.map (kindArr a1 a2 a3 a4 a5) 5) ∧ Bounds a1 0 8 w ∧ Bounds a2 0 65536 w ∧ Bounds a3 0 256 w ∧ Bounds a4 1 21 w ∧ Bounds a5 0 256 w

set_option maxRecDepth 100000 in
set_option maxHeartbeats 4000000 in
theorem kinds_any (w : World) : Calls Tryz.prog 180 #[] w fun e w' => ∃ mp a1 a2 a3 a4 a5, e = .returned (.map (some mp)) ∧ Kinds mp a1 a2 a3 a4 a5 w' ∧ Ch No w w' := by
  have hmm := @run_makeMap Tryz.prog
  obtain ⟨M, hM⟩ : ∃ M, M = w.heap.size := ⟨_, rfl⟩
  obtain ⟨v0, hv0⟩ : ∃ v, v = w.alloc (.map #[] 0) := ⟨_, rfl⟩
  have m0 : v0.heap[M]? = some (.map #[] 0) := by rw [hv0, hM]; exact (MapKept.heap_alloc _ _).1
  have c0 : Ch (fun k => k = M) w v0 := by rw [hv0]; exact Ch.alloc w _
  have HM := Lib.hid hM
  have HV0 := Lib.hid hv0
  have M0 := Lib.hid m0
  have C0 := Lib.hid c0
  clear hM hv0 m0 c0
  go_enter Tryz.func180, Tryz.ntmps180
  go_wp2_with fail
  rw [← HV0.out, ← HM.out]
  refine (below_any 0 8 v0).mono ?_; rintro e u1 ⟨rfl, hb1, hc1⟩
  obtain ⟨a1, ha1⟩ : ∃ a, a = v0.heap.size := ⟨_, rfl⟩
  have la1 : M < a1 := by rw [ha1]; exact lt_of_blk M0.out
  rw [← ha1] at hb1 ⊢
  clear ha1
  unfold belowV
  have mm1 : u1.heap[M]? = some (.map #[] 0) := hc1.keeps M0.out (fun x => x)
  have pp1 := run_put_at Tryz.underlying330 Tryz.underlying21 114 (kindV 1 a1 213 215) mm1 rfl
  obtain ⟨v1, hv1⟩ : ∃ v, v = putMap u1 M #[kindE 114 1 a1 213 215 0] 1 := ⟨_, rfl⟩
  have pq1 : (Instr.mapUpdate 330 (.map (some M)) (.int .i32 114) (.agg #[.int .i64 1, .func (.func 222) #[] #[.pointer (some ⟨a1, 0, none⟩), .pointer (some ⟨a1 + 1, 0, none⟩)], .func (.func 213) #[] #[], .func (.func 215) #[] #[]])).run Tryz.prog u1 = .ok () v1 := by rw [hv1]; exact pp1
  have M1 : Hid (v1.heap[M]? = some (.map #[kindE 114 1 a1 213 215 0] 1)) := Lib.hid (by rw [hv1]; exact putMap_at (lt_of_blk mm1))
  have hd1 : Ch (fun k => k = M) u1 v1 := by rw [hv1]; exact putMap_ch
  have he1 : Ch (fun k => k = M) v0 v1 := (hc1.mono (fun _ _ s => s.elim)).trans hd1
  have C1 := Lib.hid (C0.out.trans he1)
  have B1 : Hid (Bounds a1 0 8 v1) := Lib.hid (hb1.keeps hd1 (by omega) (by omega))
  clear hb1 hc1 mm1 pp1 hv1 hd1 he1
  go_wp2_with fail
  clear pq1
  refine (below_any 0 65536 v1).mono ?_; rintro e u2 ⟨rfl, hb2, hc2⟩
  obtain ⟨a2, ha2⟩ : ∃ a, a = v1.heap.size := ⟨_, rfl⟩
  have la2 : M < a2 := by rw [ha2]; exact lt_of_blk M1.out
  rw [← ha2] at hb2 ⊢
  clear ha2
  unfold belowV
  have mm2 : u2.heap[M]? = some (.map #[kindE 114 1 a1 213 215 0] 1) := hc2.keeps M1.out (fun x => x)
  have pp2 := run_put_at Tryz.underlying330 Tryz.underlying21 110 (kindV 2 a2 214 217) mm2 rfl
  obtain ⟨v2, hv2⟩ : ∃ v, v = putMap u2 M #[kindE 114 1 a1 213 215 0, kindE 110 2 a2 214 217 1] 2 := ⟨_, rfl⟩
  have pq2 : (Instr.mapUpdate 330 (.map (some M)) (.int .i32 110) (.agg #[.int .i64 2, .func (.func 222) #[] #[.pointer (some ⟨a2, 0, none⟩), .pointer (some ⟨a2 + 1, 0, none⟩)], .func (.func 214) #[] #[], .func (.func 217) #[] #[]])).run Tryz.prog u2 = .ok () v2 := by rw [hv2]; exact pp2
  have M2 : Hid (v2.heap[M]? = some (.map #[kindE 114 1 a1 213 215 0, kindE 110 2 a2 214 217 1] 2)) := Lib.hid (by rw [hv2]; exact putMap_at (lt_of_blk mm2))
  have hd2 : Ch (fun k => k = M) u2 v2 := by rw [hv2]; exact putMap_ch
  have he2 : Ch (fun k => k = M) v1 v2 := (hc2.mono (fun _ _ s => s.elim)).trans hd2
  have C2 := Lib.hid (C1.out.trans he2)
  have B2 : Hid (Bounds a2 0 65536 v2) := Lib.hid (hb2.keeps hd2 (by omega) (by omega))
  have B1 : Hid (Bounds a1 0 8 v2) := Lib.hid (B1.out.keeps he2 (by omega) (by omega))
  clear hb2 hc2 mm2 pp2 hv2 hd2 he2
  go_wp2_with fail
  clear pq2
  refine (below_any 0 256 v2).mono ?_; rintro e u3 ⟨rfl, hb3, hc3⟩
  obtain ⟨a3, ha3⟩ : ∃ a, a = v2.heap.size := ⟨_, rfl⟩
  have la3 : M < a3 := by rw [ha3]; exact lt_of_blk M2.out
  rw [← ha3] at hb3 ⊢
  clear ha3
  unfold belowV
  have mm3 : u3.heap[M]? = some (.map #[kindE 114 1 a1 213 215 0, kindE 110 2 a2 214 217 1] 2) := hc3.keeps M2.out (fun x => x)
  have pp3 := run_put_at Tryz.underlying330 Tryz.underlying21 98 (kindV 1 a3 214 217) mm3 rfl
  obtain ⟨v3, hv3⟩ : ∃ v, v = putMap u3 M #[kindE 114 1 a1 213 215 0, kindE 110 2 a2 214 217 1, kindE 98 1 a3 214 217 2] 3 := ⟨_, rfl⟩
  have pq3 : (Instr.mapUpdate 330 (.map (some M)) (.int .i32 98) (.agg #[.int .i64 1, .func (.func 222) #[] #[.pointer (some ⟨a3, 0, none⟩), .pointer (some ⟨a3 + 1, 0, none⟩)], .func (.func 214) #[] #[], .func (.func 217) #[] #[]])).run Tryz.prog u3 = .ok () v3 := by rw [hv3]; exact pp3
  have M3 : Hid (v3.heap[M]? = some (.map #[kindE 114 1 a1 213 215 0, kindE 110 2 a2 214 217 1, kindE 98 1 a3 214 217 2] 3)) := Lib.hid (by rw [hv3]; exact putMap_at (lt_of_blk mm3))
  have hd3 : Ch (fun k => k = M) u3 v3 := by rw [hv3]; exact putMap_ch
  have he3 : Ch (fun k => k = M) v2 v3 := (hc3.mono (fun _ _ s => s.elim)).trans hd3
  have C3 := Lib.hid (C2.out.trans he3)
  have B3 : Hid (Bounds a3 0 256 v3) := Lib.hid (hb3.keeps hd3 (by omega) (by omega))
  have B1 : Hid (Bounds a1 0 8 v3) := Lib.hid (B1.out.keeps he3 (by omega) (by omega))
  have B2 : Hid (Bounds a2 0 65536 v3) := Lib.hid (B2.out.keeps he3 (by omega) (by omega))
  clear hb3 hc3 mm3 pp3 hv3 hd3 he3
  go_wp2_with fail
  clear pq3
  refine (below_any 1 21 v3).mono ?_; rintro e u4 ⟨rfl, hb4, hc4⟩
  obtain ⟨a4, ha4⟩ : ∃ a, a = v3.heap.size := ⟨_, rfl⟩
  have la4 : M < a4 := by rw [ha4]; exact lt_of_blk M3.out
  rw [← ha4] at hb4 ⊢
  clear ha4
  unfold belowV
  have mm4 : u4.heap[M]? = some (.map #[kindE 114 1 a1 213 215 0, kindE 110 2 a2 214 217 1, kindE 98 1 a3 214 217 2] 3) := hc4.keeps M3.out (fun x => x)
  have pp4 := run_put_at Tryz.underlying330 Tryz.underlying21 119 (kindV 1 a4 214 217) mm4 rfl
  obtain ⟨v4, hv4⟩ : ∃ v, v = putMap u4 M #[kindE 114 1 a1 213 215 0, kindE 110 2 a2 214 217 1, kindE 98 1 a3 214 217 2, kindE 119 1 a4 214 217 3] 4 := ⟨_, rfl⟩
  have pq4 : (Instr.mapUpdate 330 (.map (some M)) (.int .i32 119) (.agg #[.int .i64 1, .func (.func 222) #[] #[.pointer (some ⟨a4, 0, none⟩), .pointer (some ⟨a4 + 1, 0, none⟩)], .func (.func 214) #[] #[], .func (.func 217) #[] #[]])).run Tryz.prog u4 = .ok () v4 := by rw [hv4]; exact pp4
  have M4 : Hid (v4.heap[M]? = some (.map #[kindE 114 1 a1 213 215 0, kindE 110 2 a2 214 217 1, kindE 98 1 a3 214 217 2, kindE 119 1 a4 214 217 3] 4)) := Lib.hid (by rw [hv4]; exact putMap_at (lt_of_blk mm4))
  have hd4 : Ch (fun k => k = M) u4 v4 := by rw [hv4]; exact putMap_ch
  have he4 : Ch (fun k => k = M) v3 v4 := (hc4.mono (fun _ _ s => s.elim)).trans hd4
  have C4 := Lib.hid (C3.out.trans he4)
  have B4 : Hid (Bounds a4 1 21 v4) := Lib.hid (hb4.keeps hd4 (by omega) (by omega))
  have B1 : Hid (Bounds a1 0 8 v4) := Lib.hid (B1.out.keeps he4 (by omega) (by omega))
  have B2 : Hid (Bounds a2 0 65536 v4) := Lib.hid (B2.out.keeps he4 (by omega) (by omega))
  have B3 : Hid (Bounds a3 0 256 v4) := Lib.hid (B3.out.keeps he4 (by omega) (by omega))
  clear hb4 hc4 mm4 pp4 hv4 hd4 he4
  go_wp2_with fail
  clear pq4
  refine (below_any 0 256 v4).mono ?_; rintro e u5 ⟨rfl, hb5, hc5⟩
  obtain ⟨a5, ha5⟩ : ∃ a, a = v4.heap.size := ⟨_, rfl⟩
  have la5 : M < a5 := by rw [ha5]; exact lt_of_blk M4.out
  rw [← ha5] at hb5 ⊢
  clear ha5
  unfold belowV
  have mm5 : u5.heap[M]? = some (.map #[kindE 114 1 a1 213 215 0, kindE 110 2 a2 214 217 1, kindE 98 1 a3 214 217 2, kindE 119 1 a4 214 217 3] 4) := hc5.keeps M4.out (fun x => x)
  have pp5 := run_put_at Tryz.underlying330 Tryz.underlying21 115 (kindV 1 a5 218 219) mm5 rfl
  obtain ⟨v5, hv5⟩ : ∃ v, v = putMap u5 M #[kindE 114 1 a1 213 215 0, kindE 110 2 a2 214 217 1, kindE 98 1 a3 214 217 2, kindE 119 1 a4 214 217 3, kindE 115 1 a5 218 219 4] 5 := ⟨_, rfl⟩
  have pq5 : (Instr.mapUpdate 330 (.map (some M)) (.int .i32 115) (.agg #[.int .i64 1, .func (.func 222) #[] #[.pointer (some ⟨a5, 0, none⟩), .pointer (some ⟨a5 + 1, 0, none⟩)], .func (.func 218) #[] #[], .func (.func 219) #[] #[]])).run Tryz.prog u5 = .ok () v5 := by rw [hv5]; exact pp5
  have M5 : Hid (v5.heap[M]? = some (.map #[kindE 114 1 a1 213 215 0, kindE 110 2 a2 214 217 1, kindE 98 1 a3 214 217 2, kindE 119 1 a4 214 217 3, kindE 115 1 a5 218 219 4] 5)) := Lib.hid (by rw [hv5]; exact putMap_at (lt_of_blk mm5))
  have hd5 : Ch (fun k => k = M) u5 v5 := by rw [hv5]; exact putMap_ch
  have he5 : Ch (fun k => k = M) v4 v5 := (hc5.mono (fun _ _ s => s.elim)).trans hd5
  have C5 := Lib.hid (C4.out.trans he5)
  have B5 : Hid (Bounds a5 0 256 v5) := Lib.hid (hb5.keeps hd5 (by omega) (by omega))
  have B1 : Hid (Bounds a1 0 8 v5) := Lib.hid (B1.out.keeps he5 (by omega) (by omega))
  have B2 : Hid (Bounds a2 0 65536 v5) := Lib.hid (B2.out.keeps he5 (by omega) (by omega))
  have B3 : Hid (Bounds a3 0 256 v5) := Lib.hid (B3.out.keeps he5 (by omega) (by omega))
  have B4 : Hid (Bounds a4 1 21 v5) := Lib.hid (B4.out.keeps he5 (by omega) (by omega))
  clear hb5 hc5 mm5 pp5 hv5 hd5 he5
  go_wp2_with fail
  clear pq5
  go_ret
  exact ⟨M, a1, a2, a3, a4, a5, rfl, ⟨M5.out, B1.out, B2.out, B3.out, B4.out, B5.out⟩, C5.out.mono (fun k hk e => by rw [e, HM.out] at hk; omega)⟩
end Go.Proofs.YtcngfaggignmpaaGreatDoor

/-
  Lines: new ones.
-/
namespace Go.Proofs.YtcngfaggignmpaaGreatDoor
open Go.RowKit

set_option maxRecDepth 100000 in
set_option maxHeartbeats 1000000 in
theorem lineNew_any (w : World) : Calls Tryz.prog 20 #[] w fun e w' => e = .returned (.pointer (some ⟨w.heap.size, 0, none⟩)) ∧ w'.heap.size = w.heap.size + 1 ∧ Ch No w w' := by
  go_enter Tryz.func20, Tryz.ntmps20
  go_wp2_with fail
  go_ret
  exact ⟨rfl, Array.size_push _, Ch.alloc w _⟩
end Go.Proofs.YtcngfaggignmpaaGreatDoor

/-
  The board: is it there; its kernel.
-/
namespace Go.Proofs.YtcngfaggignmpaaGreatDoor
open Go.RowKit

/-- The board's own block: its kernel K, its cores in the map mp. -/
def BD (b K mp : Nat) (w : World) : Prop := ∃ cs, Row b 81 cs w ∧ cs[17]? = some (.pointer (some ⟨K, 0, none⟩)) ∧ cs[18]? = some (.map (some mp))
section
variable {b K mp : Nat} {w w' : World} {S : Nat → Prop}
theorem BD.keeps (h : BD b K mp w) (g : Ch S w w') (hn : ¬ S b) : BD b K mp w' := by
  obtain ⟨cs, r, e⟩ := h
  exact ⟨cs, r.keeps g hn, e⟩
theorem BD.cK (h : BD b K mp w) : w.cell? ⟨b, 17, none⟩ = some (.pointer (some ⟨K, 0, none⟩)) := by
  obtain ⟨cs, r, e, _⟩ := h
  exact r.cell e
theorem BD.cMap (h : BD b K mp w) : w.cell? ⟨b, 18, none⟩ = some (.map (some mp)) := by
  obtain ⟨cs, r, _, e⟩ := h
  exact r.cell e
set_option maxHeartbeats 400000 in
theorem bThere_any (h : BD b K mp w) : Calls Tryz.prog 21 #[.pointer (some ⟨b, 0, none⟩)] w fun e w' => e = .returned (.bool true) ∧ w = w' := by
  have c := h.cK
  clear h
  go_enter Tryz.func21, Tryz.ntmps21
  go_wp2_with fail
  go_ret
  exact ⟨rfl, rfl⟩
set_option maxHeartbeats 400000 in
theorem bKernel_any (h : BD b K mp w) : Calls Tryz.prog 8 #[.pointer (some ⟨b, 0, none⟩)] w fun e w' => e = .returned (.pointer (some ⟨K, 0, none⟩)) ∧ w = w' := by
  have H := Lib.hid h
  have c := h.cK
  clear h
  go_enter Tryz.func8, Tryz.ntmps8
  go_wp2_with fail
  refine (bThere_any H.out).mono ?_; rintro e w1 ⟨rfl, rfl⟩
  go_wp2_with fail
  go_ret
  exact ⟨rfl, rfl⟩
end
end Go.Proofs.YtcngfaggignmpaaGreatDoor

/-
  The board: a tick goes by.
-/
namespace Go.Proofs.YtcngfaggignmpaaGreatDoor
open Go.RowKit

section
variable {B T U : Nat} {tb : Nat → Nat} {m : KM} {w : World} {i r b mp : Nat} {t : TM}
set_option maxHeartbeats 400000 in
theorem bTick_any {l' : List Int} (hb : BD b (B + 69) mp w) (h : KS B T U tb m w) (hc : Cons m) (hi : i < 16) (ht : m.tk i = some t) (hr : r < 32) (hl : m.ls r = (i : Int) :: l') (hn : ∀ j, r < j → j < 32 → m.ls j = []) (hrk : t.rank < 32)
    (hran : 0 ≤ t.ran ∧ t.ran < 1000000) (hs : m.sl = []) (hleft : ∀ j u, j < 16 → (m.tick i t).tk j = some u → u.left ≤ 0) (hcalm : Calm (m.tick i t)) :
    Calls Tryz.prog 14 #[.pointer (some ⟨b, 0, none⟩)] w fun e w' => e = .returned (.int .i64 0) ∧ KS B T U tb (m.tick i t) w' ∧ Ch (Sk B T U w) w w' := by
  have c := hb.cK
  have HB := Lib.hid hb
  have HT := Lib.hid (tick_any h hc hi ht hr hl hn hrk hran hs hleft hcalm)
  clear hb h hc ht hl hn hran hs hleft hcalm
  go_enter Tryz.func14, Tryz.ntmps14
  go_wp2_with fail
  refine (bThere_any HB.out).mono ?_; rintro e w1 ⟨rfl, rfl⟩
  go_wp2_with fail
  refine HT.out.mono ?_; rintro e w2 ⟨rfl, hk, hch⟩
  go_wp2_with fail
  go_ret
  exact ⟨rfl, hk, hch⟩
end
end Go.Proofs.YtcngfaggignmpaaGreatDoor

/-
  The board: a new one.
-/
namespace Go.Proofs.YtcngfaggignmpaaGreatDoor
open Go.RowKit

set_option maxRecDepth 100000 in
set_option maxHeartbeats 4000000 in
theorem boardNew_any (w : World) (s : Int) (h1 : 1 ≤ s) (h2 : s ≤ 1000) :
    Calls Tryz.prog 7 #[.agg #[.int .i64 s, .int .u32 0]] w fun e w' => ∃ B, w.heap.size ≤ B ∧ e = .returned (.tuple #[.pointer (some ⟨B + 74, 0, none⟩), .int .i64 0]) ∧ KN B s w' ∧ BD (B + 74) (B + 69) (B + 73) w' ∧
      w'.heap[B + 73]? = some (.map #[] 0) ∧ w'.heap.size = B + 75 ∧ Ch No w w' := by
  have hmm := @run_makeMap Tryz.prog
  obtain ⟨W0, hW0⟩ : ∃ W0, W0 = w.alloc (.cells #[.int .i64 s, .int .u32 0] 36) := ⟨_, rfl⟩
  have r0 : Row w.heap.size 36 #[.int .i64 s, .int .u32 0] W0 := by rw [hW0]; exact Row.new w 36 _
  have c0 : Ch No w W0 := by rw [hW0]; exact Ch.alloc w _
  have z0 : W0.heap.size = w.heap.size + 1 := by rw [hW0]; exact Array.size_push _
  have R0 := Lib.hid r0
  have C0 := Lib.hid c0
  have Z0 := Lib.hid z0
  have HW := Lib.hid hW0
  clear r0 c0 z0 hW0
  go_enter Tryz.func7, Tryz.ntmps7
  go_wp2_with fail
  rw [← HW.out]
  refine (kerNew_any _ s h1 h2).mono ?_; rintro e w1 ⟨rfl, hk, hch, hsz⟩
  have HK := Lib.hid hk
  have C1 := Lib.hid hch
  have Z1 := Lib.hid hsz
  clear hk hch hsz
  go_wp2_with fail
  refine (lineNew_any _).mono ?_; rintro e w2 ⟨rfl, hsz, hch⟩
  have C2 := Lib.hid hch
  have Z2 := Lib.hid hsz
  clear hch hsz
  go_wp2_with fail
  go_ret2
  have z0 := Z0.out
  have z1 := Z1.out
  have z2 := Z2.out
  have m3 : (w2.alloc (.map #[] 0)).heap[w2.heap.size]? = some (.map #[] 0) := (MapKept.heap_alloc w2 _).1
  have z3 : (w2.alloc (.map #[] 0)).heap.size = w2.heap.size + 1 := Array.size_push _
  have em : W0.heap.size + 1 + 73 = w2.heap.size := by omega
  have eb : W0.heap.size + 1 + 74 = w2.heap.size + 1 := by omega
  refine ⟨W0.heap.size + 1, by omega, ?_, ((HK.out.no C2.out).no (Ch.alloc _ _)).no (Ch.alloc _ _), ?_, ?_, ?_, (((C0.out.trans C1.out).trans C2.out).trans (Ch.alloc _ _)).trans (Ch.alloc _ _)⟩
  · rw [eb]; rfl
  · rw [em, eb, ← z3]
    exact ⟨_, Row.new _ 81 _, rfl, rfl⟩
  · rw [em]
    exact (Ch.alloc (S := No) (w2.alloc (.map #[] 0)) _).keeps m3 (fun x => x)
  · refine (Array.size_push _).trans ?_
    omega
end Go.Proofs.YtcngfaggignmpaaGreatDoor
