/-
  The top, part 1: Blk, Ring, RingCut, Rings, RingList.
-/
import Derived.Test.YtcngfaggignmpaaGreatDoorProg
import Derived.WalkKit
import Derived.WalkLawsBesides
import Derived.Carry
import Derived.Lib.Hide
import Derived.OwnWalk
import Derived.LoopTactic
import Derived.Below
import Derived.Deep.QuietTactic
import Derived.BigQuiet
import Derived.Deep.RegionHeld3
import Derived.Laws.AppendOwn

/-
  Blocks as rows of values; a world that is as before but for some blocks. Plain; no program in sight.
-/
namespace Go.Proofs.YtcngfaggignmpaaGreatDoor
open Go.RowKit

/-- w' is w, but for the blocks of S, new blocks, and draws. -/
structure Ch (S : Nat → Prop) (w w' : World) : Prop where
  os : w'.os = w.os
  tape : w'.tape = w.tape
  output : w'.output = w.output
  size : w.heap.size ≤ w'.heap.size
  block : ∀ k, k < w.heap.size → ¬ S k → w'.heap[k]? = w.heap[k]?

/-- Nothing that was there has turned. -/
def No : Nat → Prop := fun _ => False

section
variable {S T : Nat → Prop} {w w' w1 w2 : World}
theorem Ch.refl (S : Nat → Prop) (w : World) : Ch S w w := ⟨rfl, rfl, rfl, Nat.le_refl _, fun _ _ _ => rfl⟩
theorem Ch.mono (h : Ch S w w') (g : ∀ k, k < w.heap.size → S k → T k) : Ch T w w' := ⟨h.os, h.tape, h.output, h.size, fun k hk hn => h.block k hk (fun s => hn (g k hk s))⟩
theorem Ch.trans (h : Ch S w w1) (g : Ch S w1 w2) : Ch S w w2 :=
  ⟨g.os.trans h.os, g.tape.trans h.tape, g.output.trans h.output, Nat.le_trans h.size g.size, fun k hk hn => (g.block k (Nat.lt_of_lt_of_le hk h.size) hn).trans (h.block k hk hn)⟩
theorem Ch.trans' (h : Ch S w w1) (g : Ch T w1 w2) (gt : ∀ k, k < w.heap.size → T k → S k) : Ch S w w2 :=
  ⟨g.os.trans h.os, g.tape.trans h.tape, g.output.trans h.output, Nat.le_trans h.size g.size, fun k hk hn => (g.block k (Nat.lt_of_lt_of_le hk h.size) (fun t => hn (gt k hk t))).trans (h.block k hk hn)⟩
theorem Ch.alloc (w : World) (o : Obj) : Ch S w (w.alloc o) :=
  have b := (Below.refl w.heap.size w).alloc (Nat.le_refl _) o
  ⟨b.os, b.tape, b.output, b.size, fun k hk _ => b.block k hk⟩
theorem Ch.drewN (w : World) (n : Nat) : Ch S w (w.drewN n) := ⟨rfl, rfl, rfl, Nat.le_refl _, fun _ _ _ => rfl⟩
theorem Ch.setCell (w : World) (p j : Nat) (v : Value) (hp : S p) : Ch S w (w.setCell ⟨p, j, none⟩ v) :=
  ⟨rfl, rfl, rfl, by simp [World.setCell], fun k _ hne => Below.heap_setCell _ _ _ _ (fun e => hne (e ▸ hp))⟩
theorem Ch.below (h : Below w.heap.size w w') : Ch S w w' := ⟨h.os, h.tape, h.output, h.size, fun k hk _ => h.block k hk⟩
theorem Ch.toBelow {n : Nat} (h : Ch S w w') (g : ∀ k, S k → n ≤ k) (hn : n ≤ w.heap.size) : Below n w w' :=
  ⟨h.os, h.tape, h.output, h.size, fun k hk => h.block k (Nat.lt_of_lt_of_le hk hn) (fun s => absurd (g k s) (by omega))⟩
theorem Ch.keeps {k : Nat} {o : Obj} (h : Ch S w w') (hk : w.heap[k]? = some o) (hn : ¬ S k) : w'.heap[k]? = some o := by
  rw [h.block k (Array.getElem?_eq_some_iff.1 hk).1 hn]; exact hk
theorem lt_of_blk {k : Nat} {o : Obj} (h : w.heap[k]? = some o) : k < w.heap.size := (Array.getElem?_eq_some_iff.1 h).1

/-- Block p holds the values cs, of elements of type T. -/
def Row (p : Nat) (t : TypeId) (cs : Array Value) (w : World) : Prop := w.heap[p]? = some (.cells cs t)
variable {p q : Nat} {t : TypeId} {cs : Array Value}
theorem Row.lt (h : Row p t cs w) : p < w.heap.size := lt_of_blk h
theorem Row.keeps (h : Row p t cs w) (g : Ch S w w') (hn : ¬ S p) : Row p t cs w' := g.keeps h hn
theorem Row.cell (h : Row p t cs w) {j : Nat} {v : Value} (e : cs[j]? = some v) : w.cell? ⟨p, j, none⟩ = some v := by
  unfold World.cell?
  have h' : w.heap[p]? = some (.cells cs t) := h
  rw [h']
  exact e
theorem Row.free (h : Row p t cs w) (j : Nat) : w.frozen? ⟨p, j, none⟩ = false := by
  have h' : w.heap[p]? = some (.cells cs t) := h
  simp [World.frozen?, h']
theorem Row.set (h : Row p t cs w) (j : Nat) (v : Value) : Row p t (cs.setIfInBounds j v) (w.setCell ⟨p, j, none⟩ v) := by
  have h' : w.heap[p]? = some (.cells cs t) := h
  show (w.setCell ⟨p, j, none⟩ v).heap[p]? = _
  simp [World.setCell, Array.getElem?_modify, h']
theorem Row.other (h : Row p t cs w) (hne : p ≠ q) (j : Nat) (v : Value) : Row p t cs (w.setCell ⟨q, j, none⟩ v) :=
  h.keeps (Ch.setCell (S := fun k => k = q) w q j v rfl) hne
theorem Row.drewN (h : Row p t cs w) (n : Nat) : Row p t cs (w.drewN n) := h
theorem Row.new (w : World) (t : TypeId) (cs : Array Value) : Row w.heap.size t cs (w.alloc (.cells cs t)) := (MapKept.heap_alloc w _).1
theorem Row.alloc (h : Row p t cs w) (o : Obj) : Row p t cs (w.alloc o) := h.keeps (Ch.alloc (S := No) w o) (fun x => x)
end
end Go.Proofs.YtcngfaggignmpaaGreatDoor

/-
  Rings of 256 places: what each function answers, and what the ring holds behind it.
-/
namespace Go.Proofs.YtcngfaggignmpaaGreatDoor
open Go.RowKit

set_option maxHeartbeats 1000000 in
theorem at_any (w : World) (p b f n i : Nat) (t : TypeId) (h : Row p t #[.slice (some ⟨b, 0, none⟩) 256 256, .int .i64 f, .int .i64 n] w) (hf : f < 256) (hi : i ≤ 256) :
    Calls Tryz.prog 187 #[.pointer (some ⟨p, 0, none⟩), .int .i64 i] w fun e w' => e = .returned (.pointer (some ⟨b, (f + i) % 256, none⟩)) ∧ ∃ q, w' = w.drewN q := by
  have c0 := h.cell (j := 0) rfl
  have c1 := h.cell (j := 1) rfl
  clear h
  go_enter Tryz.func187, Tryz.ntmps187
  go_wp2_with fail
  go_quiet (fail)
  go_wp2_with fail
  go_ret
  exact ⟨rfl, _, rfl⟩

/-- A ring in block p, its places in block b: the first place f, the places arr; it holds l. -/
structure RingAt (p b : Nat) (t t' : TypeId) (f : Nat) (arr : Array Value) (l : List Int) (w : World) : Prop where
  first : f < 256
  most : l.length ≤ 256
  head : Row p t #[.slice (some ⟨b, 0, none⟩) 256 256, .int .i64 f, .int .i64 l.length] w
  body : Row b t' arr w
  ne : p ≠ b
  size : arr.size = 256
  ints : ∀ j, j < 256 → ∃ x : Int, arr[j]? = some (.int .i64 x)
  has : ∀ i x, l[i]? = some x → arr[(f + i) % 256]? = some (.int .i64 x)

/-- The place of a number; -1: it is not there. -/
def plc (l : List Int) (x : Int) : Int := if x ∈ l then (l.idxOf x : Int) else -1

section
variable {w : World} {p b f : Nat} {t t' : TypeId} {arr : Array Value} {l : List Int}
theorem RingAt.drewN (h : RingAt p b t t' f arr l w) (q : Nat) : RingAt p b t t' f arr l (w.drewN q) := ⟨h.first, h.most, h.head, h.body, h.ne, h.size, h.ints, h.has⟩
theorem RingAt.keeps {S : Nat → Prop} {w' : World} (h : RingAt p b t t' f arr l w) (g : Ch S w w') (h1 : ¬ S p) (h2 : ¬ S b) : RingAt p b t t' f arr l w' :=
  ⟨h.first, h.most, h.head.keeps g h1, h.body.keeps g h2, h.ne, h.size, h.ints, h.has⟩
end

theorem plc_found {l : List Int} {x : Int} {k : Nat} (h : l[k]? = some x) (hn : ∀ j, j < k → l[j]? ≠ some x) : plc l x = k := by
  have hm : x ∈ l := List.mem_of_getElem? h
  unfold plc
  rw [if_pos hm]
  congr 1
  have h1 : l.idxOf x ≤ k := by
    rcases Nat.lt_or_ge k (l.idxOf x) with hlt | hge
    · exfalso
      have hk : k < l.length := (List.getElem?_eq_some_iff.1 h).1
      have := List.not_of_lt_findIdx (xs := l) (p := fun y => y == x) hlt
      obtain ⟨hk', e⟩ := List.getElem?_eq_some_iff.1 h
      simp [e] at this
    · exact hge
  rcases Nat.lt_or_eq_of_le h1 with hlt | heq
  · exfalso
    have hi := List.idxOf_lt_length_of_mem hm
    refine hn _ hlt ?_
    rw [List.getElem?_eq_getElem hi]
    congr 1
    exact List.getElem_idxOf hi
  · exact heq
theorem plc_none {l : List Int} {x : Int} (hn : ∀ j, j < l.length → l[j]? ≠ some x) : plc l x = -1 := by
  unfold plc
  rw [if_neg]
  intro hm
  obtain ⟨i, hi, e⟩ := List.mem_iff_getElem.1 hm
  exact hn i hi (by rw [List.getElem?_eq_getElem hi, e])

set_option maxHeartbeats 1000000 in
theorem find_any (w : World) (p b f : Nat) (t t' : TypeId) (arr : Array Value) (l : List Int) (x : Int) (h : RingAt p b t t' f arr l w) :
    Calls Tryz.prog 185 #[.pointer (some ⟨p, 0, none⟩), .int .i64 x] w fun e w' => e = .returned (.int .i64 (plc l x)) ∧ ∃ q, w' = w.drewN q := by
  have H := Lib.hid h
  have c2 := h.head.cell (j := 2) rfl
  have hmost := h.most
  clear h
  go_enter Tryz.func185, Tryz.ntmps185
  go_wp2_with fail
  go_loopw [5, 10] (fun _ i wr => ∃ k : Nat, k ≤ l.length ∧ i = .int .i64 (k : Int) ∧ (∀ j, j < k → l[j]? ≠ some x) ∧ ∃ q, wr = w.drewN q) (fun _ i _ => l.length - (intOf i).toNat)
  case atStart => exact ⟨0, by omega, rfl, fun j hj => absurd hj (by omega), 0, rfl⟩
  case round =>
    obtain ⟨k, hk, rfl, hno, q, rfl⟩ := hrel
    have HN := Lib.hid hno
    clear hno
    by_cases hlt : k < l.length
    · obtain ⟨y, hy⟩ : ∃ y, l[k]? = some y := ⟨_, List.getElem?_eq_getElem hlt⟩
      have hc := H.out.body.cell (H.out.has k y hy)
      have HY := Lib.hid hy
      clear hy
      cases e : y == x
      · have HS : Hid (∀ j, j < k + 1 → l[j]? ≠ some x) := Lib.hid (fun j hj => by
          by_cases ej : j = k
          · rw [ej, HY.out]; intro e2; rw [Option.some.injEq] at e2; rw [e2, beq_self_eq_true] at e; cases e
          · exact HN.out j (by omega))
        go_wp2_with fail
        refine (at_any _ p b f l.length k t (H.out.head.drewN q) H.out.first (by omega)).mono ?_; rintro e1 w1 ⟨rfl, q1, rfl⟩
        go_wp2_with fail
        go_roundw
        case rel => exact ⟨k + 1, by omega, by go_num, HS.out, _, rfl⟩
        case measure => simp [intOf]; omega
      · have HS : Hid (plc l x = k) := Lib.hid (plc_found (by rw [HY.out, beq_iff_eq.1 e]) HN.out)
        go_wp2_with fail
        refine (at_any _ p b f l.length k t (H.out.head.drewN q) H.out.first (by omega)).mono ?_; rintro e1 w1 ⟨rfl, q1, rfl⟩
        go_wp2_with fail
        go_ret
        rw [HS.out]; exact ⟨rfl, _, rfl⟩
    · obtain rfl : k = l.length := by omega
      have HS : Hid (plc l x = -1) := Lib.hid (plc_none HN.out)
      go_wp2_with fail
      go_ret
      rw [HS.out]; exact ⟨rfl, _, rfl⟩

/-- The blocks of a ring. -/
def Rb (p b : Nat) : Nat → Prop := fun k => k = p ∨ k = b

theorem mod_ne {f i j : Nat} (hi : i < 256) (hj : j < 256) (h : i ≠ j) : (f + i) % 256 ≠ (f + j) % 256 := by omega

theorem get_set {arr : Array Value} {i j : Nat} {v : Value} (hs : arr.size = 256) (hi : i < 256) : (arr.setIfInBounds i v)[j]? = if i = j then some v else arr[j]? := by
  rw [Array.getElem?_setIfInBounds]
  split
  · rw [if_pos (by omega)]
  · rfl

section
variable {w : World} {p b f : Nat} {t t' : TypeId} {arr : Array Value} {l : List Int}
/-- A ring with one more at the end. -/
theorem RingAt.added (h : RingAt p b t t' f arr l w) (hl : l.length < 256) (x : Int) :
    RingAt p b t t' f (arr.setIfInBounds ((f + l.length) % 256) (.int .i64 x)) (l ++ [x]) ((w.setCell ⟨b, (f + l.length) % 256, none⟩ (.int .i64 x)).setCell ⟨p, 2, none⟩ (.int .i64 ((l.length : Int) + 1))) := by
  have hlt : (f + l.length) % 256 < 256 := Nat.mod_lt _ (by decide)
  refine ⟨h.first, by simp; omega, ?_, ?_, h.ne, by simp [h.size], ?_, ?_⟩
  · have := (h.head.other (q := b) h.ne ((f + l.length) % 256) (.int .i64 x)).set 2 (.int .i64 ((l.length : Int) + 1))
    simpa using this
  · exact (h.body.set _ _).other h.ne.symm _ _
  · intro j hj
    rw [get_set h.size hlt]
    split
    · exact ⟨x, rfl⟩
    · exact h.ints j hj
  · intro i y hi
    rw [get_set h.size hlt]
    rcases Nat.lt_trichotomy i l.length with hlt' | heq | hgt
    · rw [if_neg (mod_ne hl (by omega) (by omega))]
      rw [List.getElem?_append_left hlt'] at hi
      exact h.has i y hi
    · subst heq
      rw [List.getElem?_append_right (Nat.le_refl _), Nat.sub_self] at hi
      simp at hi
      rw [if_pos rfl, hi]
    · rw [List.getElem?_eq_none (by simp; omega)] at hi
      cases hi
end

set_option maxHeartbeats 1000000 in
theorem add_any (w : World) (p b f : Nat) (t t' : TypeId) (arr : Array Value) (l : List Int) (x : Int) (h : RingAt p b t t' f arr l w) (hl : l.length < 256) :
    Calls Tryz.prog 191 #[.pointer (some ⟨p, 0, none⟩), .int .i64 x] w fun e w' => e = .returned (.tuple #[]) ∧ (∃ arr', RingAt p b t t' f arr' (l ++ [x]) w') ∧ Ch (Rb p b) w w' := by
  have H := Lib.hid h
  have c2 := h.head.cell (j := 2) rfl
  have f2 := h.head.free 2
  have hlt : (f + l.length) % 256 < 256 := Nat.mod_lt _ (by decide)
  obtain ⟨y, hy⟩ := h.ints _ hlt
  have cb := h.body.cell hy
  have fb := h.body.free ((f + l.length) % 256)
  have hne := h.ne
  clear h hy
  go_enter Tryz.func191, Tryz.ntmps191
  go_wp2_with fail
  refine (at_any _ p b f l.length l.length t H.out.head H.out.first (by omega)).mono ?_; rintro e1 w1 ⟨rfl, q1, rfl⟩
  go_wp2_with fail
  go_end0
  exact ⟨rfl, ⟨_, (H.out.drewN q1).added hl x⟩, (((Ch.drewN w q1).trans (Ch.setCell _ b _ _ (.inr rfl))).trans (Ch.setCell _ p _ _ (.inl rfl)))⟩
end Go.Proofs.YtcngfaggignmpaaGreatDoor

/-
  Rings: one is taken out of its place.
-/
namespace Go.Proofs.YtcngfaggignmpaaGreatDoor
open Go.RowKit

/-- Of the numbers those behind place i, up to place k, have gone on by one. -/
structure Shifted (f k i : Nat) (l : List Int) (arr : Array Value) : Prop where
  size : arr.size = 256
  ints : ∀ j, j < 256 → ∃ x : Int, arr[j]? = some (.int .i64 x)
  has : ∀ j x, j < l.length → l[if i < j ∧ j ≤ k then j - 1 else j]? = some x → arr[(f + j) % 256]? = some (.int .i64 x)

section
variable {f k i : Nat} {l : List Int} {arr : Array Value}
theorem Shifted.start (hs : arr.size = 256) (hi : ∀ j, j < 256 → ∃ x : Int, arr[j]? = some (.int .i64 x)) (h : ∀ i x, l[i]? = some x → arr[(f + i) % 256]? = some (.int .i64 x)) : Shifted f k k l arr :=
  ⟨hs, hi, fun j x _ e => h j x (by rw [if_neg (by omega)] at e; exact e)⟩
theorem Shifted.step (h : Shifted f k (i + 1) l arr) (hl : l.length ≤ 256) (hk : i + 1 ≤ k) (hkl : k < l.length) {y : Int} (hy : l[i]? = some y) : Shifted f k i l (arr.setIfInBounds ((f + (i + 1)) % 256) (.int .i64 y)) := by
  have hlt : (f + (i + 1)) % 256 < 256 := Nat.mod_lt _ (by decide)
  refine ⟨by simp [h.size], ?_, ?_⟩
  · intro j hj
    rw [get_set h.size hlt]
    split
    · exact ⟨y, rfl⟩
    · exact h.ints j hj
  · intro j x hj e
    rw [get_set h.size hlt]
    by_cases hji : j = i + 1
    · subst hji
      rw [if_pos rfl]
      rw [if_pos (by omega), Nat.add_sub_cancel, hy] at e
      rw [Option.some.inj e]
    · rw [if_neg (mod_ne (by omega) (by omega) (fun e => hji e.symm))]
      refine h.has j x hj ?_
      by_cases hc : i < j ∧ j ≤ k
      · rw [if_pos hc] at e
        rw [if_pos (by omega)]; exact e
      · rw [if_neg hc] at e
        rw [if_neg (by omega)]; exact e
end

section
variable {w : World} {p b f k : Nat} {t t' : TypeId} {arr : Array Value} {l : List Int}
theorem RingAt.cutted (hl : l.length ≤ 256) (hk : k < l.length) (hne : p ≠ b) (hs : Shifted f k 0 l arr) (hb : Row b t' arr w) (hh : Row p t #[.slice (some ⟨b, 0, none⟩) 256 256, .int .i64 (((f + 1) % 256 : Nat) : Int), .int .i64 ((l.length : Int) - 1)] w) :
    RingAt p b t t' ((f + 1) % 256) arr (l.eraseIdx k) w := by
  have hlen : (l.eraseIdx k).length = l.length - 1 := by rw [List.length_eraseIdx, if_pos hk]
  refine ⟨Nat.mod_lt _ (by decide), by omega, ?_, hb, hne, hs.size, hs.ints, ?_⟩
  · rw [hlen, show ((l.length - 1 : Nat) : Int) = (l.length : Int) - 1 by omega]; exact hh
  · intro i x e
    have hi : i < l.length - 1 := by rw [← hlen]; exact (List.getElem?_eq_some_iff.1 e).1
    rw [List.getElem?_eraseIdx] at e
    have := hs.has (i + 1) x (by omega) (by
      by_cases hc : i < k
      · rw [if_pos hc] at e; rw [if_pos (by omega), Nat.add_sub_cancel]; exact e
      · rw [if_neg hc] at e; rw [if_neg (by omega)]; exact e)
    rw [show ((f + 1) % 256 + i) % 256 = (f + (i + 1)) % 256 by omega]; exact this
end

set_option maxHeartbeats 2000000 in
theorem cut_any (w : World) (p b f k : Nat) (t t' : TypeId) (arr : Array Value) (l : List Int) (x : Int) (h : RingAt p b t t' f arr l w) (hx : l[k]? = some x) :
    Calls Tryz.prog 186 #[.pointer (some ⟨p, 0, none⟩), .int .i64 k] w fun e w' => e = .returned (.int .i64 x) ∧ (∃ f' arr', RingAt p b t t' f' arr' (l.eraseIdx k) w') ∧ Ch (Rb p b) w w' := by
  have H := Lib.hid h
  have hk : k < l.length := (List.getElem?_eq_some_iff.1 hx).1
  have hm := h.most
  have cb := h.body.cell (h.has k x hx)
  have HX := Lib.hid hx
  clear h hx
  go_enter Tryz.func186, Tryz.ntmps186
  go_wp2_with fail
  refine (at_any _ p b f l.length k t H.out.head H.out.first (by omega)).mono ?_; rintro e1 w1 ⟨rfl, q1, rfl⟩
  go_wp2_with fail
  clear cb
  go_loopw [6] (fun iv wr => ∃ (i : Nat) (a : Array Value), i ≤ k ∧ iv = .int .i64 (i : Int) ∧ Shifted f k i l a ∧ Row p t #[.slice (some ⟨b, 0, none⟩) 256 256, .int .i64 f, .int .i64 l.length] wr ∧ Row b t' a wr ∧ Ch (Rb p b) w wr) (fun iv _ => (intOf iv).toNat)
  case atStart => exact ⟨k, arr, Nat.le_refl _, rfl, Shifted.start H.out.size H.out.ints H.out.has, H.out.head, H.out.body, Ch.drewN w q1⟩
  case round =>
    obtain ⟨i, a, hi, rfl, hs, hh, hb, hch⟩ := hrel
    cases i with
    | zero =>
      have c0 := hh.cell (j := 0) rfl
      have c1 := hh.cell (j := 1) rfl
      have c2 := hh.cell (j := 2) rfl
      have f1 := hh.free 1
      have f2 := hh.free 2
      have hf := H.out.first
      have HS := Lib.hid hs
      have HH := Lib.hid hh
      have HB := Lib.hid hb
      have HCH := Lib.hid hch
      clear hs hh hb hch
      go_wp2_with fail
      go_region
      all_goals
        go_wp2_with fail
        go_ret
        have e1 : (((f + 1) % 256 : Nat) : Int) = ((f : Int) + 1) % 256 := by omega
        have hrow := ((HH.out.set 1 (.int .i64 (((f : Int) + 1) % 256))).set 2 (.int .i64 ((l.length : Int) - 1)))
        have hbody := ((HB.out.other H.out.ne.symm 1 (.int .i64 (((f : Int) + 1) % 256))).other H.out.ne.symm 2 (.int .i64 ((l.length : Int) - 1)))
        refine ⟨rfl, ⟨_, _, RingAt.drewN (RingAt.cutted hm hk H.out.ne HS.out hbody ?_) 1⟩, ((HCH.out.trans (Ch.setCell _ p _ _ (.inl rfl))).trans (Ch.setCell _ p _ _ (.inl rfl))).trans (Ch.drewN _ 1)⟩
        rw [e1]
        simpa using hrow
    | succ i =>
      obtain ⟨y, hy⟩ : ∃ y, l[i]? = some y := ⟨_, List.getElem?_eq_getElem (by omega)⟩
      have hlt : (f + (i + 1)) % 256 < 256 := Nat.mod_lt _ (by decide)
      obtain ⟨z, hz⟩ := hs.ints _ hlt
      have c1 := hb.cell hz
      have c0 := hb.cell (hs.has i y (by omega) (by rw [if_neg (by omega)]; exact hy))
      have f1 := hb.free ((f + (i + 1)) % 256)
      have hf := H.out.first
      have HS := Lib.hid (hs.step hm hi hk hy)
      have HH := Lib.hid hh
      have HB := Lib.hid hb
      have HCH := Lib.hid hch
      clear hs hh hb hch hy hz
      go_wp2_with fail
      refine (at_any _ p b f l.length (i + 1) t HH.out hf (by omega)).mono ?_; rintro e1 w1 ⟨rfl, q2, rfl⟩
      go_wp2_with fail
      refine (at_any _ p b f l.length i t (HH.out.drewN q2) hf (by omega)).mono ?_; rintro e1 w1 ⟨rfl, q3, rfl⟩
      go_wp2_with fail
      go_roundw
      case rel => exact ⟨i, _, by omega, by go_num, HS.out, HH.out.other H.out.ne _ _, HB.out.set _ _, (HCH.out.trans (Ch.drewN _ _)).trans (Ch.setCell _ b _ _ (.inr rfl))⟩
      case measure => simp [intOf]
end Go.Proofs.YtcngfaggignmpaaGreatDoor

/-
  Rings: the exported functions, over a ring as a list.
-/
namespace Go.Proofs.YtcngfaggignmpaaGreatDoor
open Go.RowKit

theorem drN (w : World) (a b : Nat) : ∃ q, (w.drewN a).drewN b = w.drewN q := ⟨a + b, by simp [World.drewN, Nat.add_assoc]⟩

/-- A ring in block p, its places in block b, that holds l. -/
def Ring (p b : Nat) (l : List Int) (w : World) : Prop := ∃ t t' f arr, RingAt p b t t' f arr l w
section
variable {w w' : World} {p b : Nat} {l : List Int} {S : Nat → Prop}
theorem Ring.drewN (h : Ring p b l w) (q : Nat) : Ring p b l (w.drewN q) := by obtain ⟨t, t', f, arr, h⟩ := h; exact ⟨t, t', f, arr, h.drewN q⟩
theorem Ring.keeps (h : Ring p b l w) (g : Ch S w w') (h1 : ¬ S p) (h2 : ¬ S b) : Ring p b l w' := by obtain ⟨t, t', f, arr, h⟩ := h; exact ⟨t, t', f, arr, h.keeps g h1 h2⟩
theorem Ring.ltp (h : Ring p b l w) : p < w.heap.size := by obtain ⟨t, t', f, arr, h⟩ := h; exact h.head.lt
theorem Ring.ltb (h : Ring p b l w) : b < w.heap.size := by obtain ⟨t, t', f, arr, h⟩ := h; exact h.body.lt
end

set_option maxHeartbeats 1000000 in
theorem ringThere_any (w : World) (p b : Nat) (l : List Int) (h : Ring p b l w) :
    Calls Tryz.prog 184 #[.pointer (some ⟨p, 0, none⟩)] w fun e w' => e = .returned (.bool true) ∧ ∃ q, w' = w.drewN q := by
  obtain ⟨t, t', f, arr, h⟩ := h
  have c0 := h.head.cell (j := 0) rfl
  clear h
  go_enter Tryz.func184, Tryz.ntmps184
  go_wp2_with fail
  go_ret
  exact ⟨rfl, 0, rfl⟩

theorem plc_in {l : List Int} {x : Int} (h : x ∈ l) : plc l x = (l.idxOf x : Int) := by unfold plc; rw [if_pos h]
theorem plc_out {l : List Int} {x : Int} (h : x ∉ l) : plc l x = -1 := by unfold plc; rw [if_neg h]

set_option maxHeartbeats 1000000 in
theorem ringMay_any (w : World) (p b : Nat) (l : List Int) (x : Int) (h : Ring p b l w) (h0 : 0 ≤ x) (hx : x ∉ l) (hl : l.length < 256) :
    Calls Tryz.prog 190 #[.pointer (some ⟨p, 0, none⟩), .int .i64 x] w fun e w' => e = .returned (.int .i64 0) ∧ ∃ q, w' = w.drewN q := by
  have HR := Lib.hid h
  obtain ⟨t, t', f, arr, h⟩ := h
  have H := Lib.hid h
  have c0 := h.head.cell (j := 0) rfl
  have c2 := h.head.cell (j := 2) rfl
  have HP := Lib.hid (plc_out hx)
  have hd : decide (x < 0) = false := by rw [decide_eq_false_iff_not]; omega
  have hb : ((l.length : Int) == 256) = false := by rw [beq_eq_false_iff_ne]; omega
  clear h hx
  go_enter Tryz.func190, Tryz.ntmps190
  go_wp2_with fail
  refine (ringThere_any _ p b l HR.out).mono ?_; rintro e1 w1 ⟨rfl, q1, rfl⟩
  go_wp2_with fail
  refine (find_any _ p b f t t' arr l x (H.out.drewN q1)).mono ?_; rintro e1 w1 ⟨rfl, q2, rfl⟩
  rw [HP.out]
  go_wp2_with fail
  go_quiet (fail)
  go_wp2_with fail
  go_ret
  exact ⟨rfl, drN _ _ _⟩

set_option maxHeartbeats 1000000 in
theorem ringPut_any (w : World) (p b : Nat) (l : List Int) (x : Int) (h : Ring p b l w) (h0 : 0 ≤ x) (hx : x ∉ l) (hl : l.length < 256) :
    Calls Tryz.prog 160 #[.pointer (some ⟨p, 0, none⟩), .int .i64 x] w fun e w' => e = .returned (.int .i64 0) ∧ Ring p b (l ++ [x]) w' ∧ Ch (Rb p b) w w' := by
  have HR := Lib.hid h
  have HX := Lib.hid hx
  clear h hx
  go_enter Tryz.func160, Tryz.ntmps160
  go_wp2_with fail
  refine (ringMay_any _ p b l x HR.out h0 HX.out hl).mono ?_; rintro e1 w1 ⟨rfl, q1, rfl⟩
  go_wp2_with fail
  obtain ⟨t, t', f, arr, h⟩ := HR.out
  have H := Lib.hid h
  clear h
  refine (add_any _ p b f t t' arr l x (H.out.drewN q1) hl).mono ?_; rintro e1 w1 ⟨rfl, ⟨arr', hr⟩, hch⟩
  go_wp2_with fail
  go_ret
  exact ⟨rfl, ⟨_, _, _, _, hr⟩, (Ch.drewN w q1).trans hch⟩

set_option maxHeartbeats 1000000 in
theorem ringRemove_any (w : World) (p b : Nat) (l : List Int) (x : Int) (h : Ring p b l w) (hx : x ∈ l) :
    Calls Tryz.prog 156 #[.pointer (some ⟨p, 0, none⟩), .int .i64 x] w fun e w' => e = .returned (.int .i64 0) ∧ Ring p b (l.erase x) w' ∧ Ch (Rb p b) w w' := by
  have HR := Lib.hid h
  obtain ⟨t, t', f, arr, h⟩ := h
  have H := Lib.hid h
  have hi : l.idxOf x < l.length := List.idxOf_lt_length_of_mem hx
  have HP := Lib.hid (plc_in hx)
  have HG : Hid (l[l.idxOf x]? = some x) := Lib.hid (by rw [List.getElem?_eq_getElem hi]; congr 1; exact List.getElem_idxOf hi)
  have HE : Hid (l.eraseIdx (l.idxOf x) = l.erase x) := Lib.hid (List.erase_eq_eraseIdx_of_idxOf rfl).symm
  clear h hx
  generalize l.idxOf x = k at *
  go_enter Tryz.func156, Tryz.ntmps156
  go_wp2_with fail
  refine (ringThere_any _ p b l HR.out).mono ?_; rintro e1 w1 ⟨rfl, q1, rfl⟩
  go_wp2_with fail
  refine (find_any _ p b f t t' arr l x (H.out.drewN q1)).mono ?_; rintro e1 w1 ⟨rfl, q2, rfl⟩
  rw [HP.out]
  go_wp2_with fail
  refine (cut_any _ p b f k t t' arr l x (H.out.drewN _) HG.out).mono ?_; rintro e1 w1 ⟨rfl, ⟨f', arr', hr⟩, hch⟩
  go_wp2_with fail
  go_ret
  rw [HE.out] at hr
  exact ⟨rfl, ⟨_, _, _, _, hr⟩, (Ch.drewN w _).trans hch⟩

theorem info3 : (Tryz.prog.info? 3).map (fun i => (i.zero, i.size, i.bytes)) = some (some (.int .i64 0), 1, 8) := by kernel_rfl
/-- 'make([]int, 256)'. -/
theorem mk256 : ∃ Z : Array Value, Z.size = 256 ∧ (∀ j, j < 256 → Z[j]? = some (.int .i64 0)) ∧
    ∀ w : World, (Instr.makeSlice 120 (.int .i64 256) (.int .i64 256)).run Tryz.prog w = .ok (.slice (some ⟨w.heap.size, 0, none⟩) 256 256) (w.alloc (.cells Z 3)) := by
  obtain ⟨i0, hi, hz0, hz1, hz2⟩ := info_parts info3
  refine ⟨madeCells (Value.int .i64 0).cells (256 * 1), by simp [madeCells], fun j hj => ?_, fun w => ?_⟩
  · have hj' : j < 256 * 1 := by omega
    simp [madeCells, hj, Value.cells, Nat.mod_one]
  · have := run_make (P := Tryz.prog) w 120 3 i0 (.int .i64 0) Tryz.underlying120 hi hz0 .i64 .i64 256 256 (by omega) (by omega) (by rw [hz2]; omega) (by omega)
    rw [hz1] at this
    exact this

set_option maxHeartbeats 1000000 in
theorem ringNew_any (w : World) : Calls Tryz.prog 87 #[.int .i64 256] w fun e w' => e = .returned (.tuple #[.pointer (some ⟨w.heap.size + 1, 0, none⟩), .int .i64 0]) ∧ Ring (w.heap.size + 1) w.heap.size [] w' ∧ Ch No w w' ∧ w'.heap.size = w.heap.size + 2 := by
  obtain ⟨Z, hs, hz, hmk⟩ := mk256
  have HS := Lib.hid hs
  have HZ := Lib.hid hz
  clear hs hz
  go_enter Tryz.func87, Tryz.ntmps87
  go_wp2_with fail
  go_ret2
  have h1 := Row.new w 3 Z
  have hsz : (w.alloc (.cells Z 3)).heap.size = w.heap.size + 1 := World.size_alloc _ _
  refine ⟨by first | rfl | (simp), ⟨295, 3, 0, Z, ⟨by decide, by simp, ?_, h1.alloc _, by omega, HS.out, fun j hj => ⟨0, HZ.out j hj⟩, fun i x e => by simp at e⟩⟩, (Ch.alloc w _).trans (Ch.alloc _ _), by simp⟩
  have := Row.new (w.alloc (.cells Z 3)) 295 #[.slice (some ⟨w.heap.size, 0, none⟩) 256 256, .int .i64 0, .int .i64 0]
  rw [hsz] at this
  exact this
end Go.Proofs.YtcngfaggignmpaaGreatDoor

/-
  Rings: the list of all.
-/
namespace Go.Proofs.YtcngfaggignmpaaGreatDoor
open Go.RowKit

theorem Ch.grownNone {w w' : World} (S : Nat → Prop) (h : w.grownBy w' none) : Ch S w w' :=
  ⟨h.os, h.tape, h.output, h.size, fun k hk _ => h.block k hk (fun e => by cases e)⟩

theorem own_ge {w : World} {base : Nat} {e : TypeId} {size : Nat} {v : Value} {n : Nat} {xs : List Value} (h : w.ownsRow base e size v n xs) : ∀ g, v.ownBlock = some g → base ≤ g := by
  intro g hg
  rcases h.2 with ⟨rfl, _⟩ | ⟨g', cap, cur, rfl, hb, _⟩
  · simp [Value.ownBlock] at hg
  · simp [Value.ownBlock] at hg; omega
theorem Ch.grownOwn {S : Nat → Prop} {w wx w2 : World} {o : Option Nat} (h : Ch S w wx) (g : wx.grownBy w2 o) (ho : ∀ g, o = some g → w.heap.size ≤ g) : Ch S w w2 :=
  ⟨g.os.trans h.os, g.tape.trans h.tape, g.output.trans h.output, Nat.le_trans h.size g.size, fun k hk hn =>
    (g.block k (Nat.lt_of_lt_of_le hk h.size) (fun e => absurd (ho k (by first | exact e | exact e.symm)) (by omega))).trans (h.block k hk hn)⟩

/-- A slice of whole numbers that was made since base, and holds l. -/
def Ints (base : Nat) (v : Value) (l : List Int) (w : World) : Prop := w.ownsRow base 3 1 v l.length (l.map (Value.int .i64))

theorem Ints.slice {base : Nat} {v : Value} {l : List Int} {w : World} (h : Ints base v l w) : ∃ a cap, v = .slice a l.length cap := by
  rcases h.2 with ⟨e, h0⟩ | ⟨g, cap, cur, e, _⟩
  · exact ⟨none, 0, by rw [e, h0]⟩
  · exact ⟨_, _, e⟩
/-- Where something lies in it, it lies in a block. -/
theorem Ints.cells {base : Nat} {v : Value} {l : List Int} {w : World} (h : Ints base v l w) (hl : l ≠ []) :
    ∃ g cap, v = .slice (some ⟨g, 0, none⟩) l.length cap ∧ base ≤ g ∧ ∃ cs, Row g 3 cs w ∧ ∀ (i : Nat) x, l[i]? = some x → cs[i]? = some (.int .i64 x) := by
  rcases h.2 with ⟨e, h0⟩ | ⟨g, cap, cur, e, hb, hg, hn, hm, hs, ht⟩
  · exact absurd (List.eq_nil_of_length_eq_zero h0) hl
  · refine ⟨g, cap, e, hb, cur, hg, fun i x hi => ?_⟩
    have hil : i < l.length := (List.getElem?_eq_some_iff.1 hi).1
    have h1 : (cur.toList.take (l.length * 1))[i]? = some (.int .i64 x) := by rw [ht, List.getElem?_map, hi]; rfl
    rw [List.getElem?_take_of_lt (by omega)] at h1
    simpa using h1

set_option maxHeartbeats 2000000 in
theorem ringList_any (w : World) (p b : Nat) (l : List Int) (h : Ring p b l w) :
    Calls Tryz.prog 157 #[.pointer (some ⟨p, 0, none⟩)] w fun e w' => ∃ v, e = .returned v ∧ Ints w.heap.size v l w' ∧ Ch No w w' := by
  obtain ⟨i0, hi, hz0, hz1, hz2⟩ := info_parts info3
  have HR := Lib.hid h
  obtain ⟨t, t', f, arr, h⟩ := h
  have H := Lib.hid h
  have c2 := h.head.cell (j := 2) rfl
  have hm := h.most
  clear h
  go_enter Tryz.func157, Tryz.ntmps157
  go_wp2_with fail
  refine (ringThere_any _ p b l HR.out).mono ?_; rintro e1 w1 ⟨rfl, q1, rfl⟩
  go_wp2_with fail
  go_loopw [2, 3, 12] (fun v _ i wr => ∃ k : Nat, k ≤ l.length ∧ i = .int .i64 (k : Int) ∧ wr.ownsRow w.heap.size 3 1 v k ((l.take k).map (Value.int .i64)) ∧ Ch No w wr) (fun _ _ i _ => l.length - (intOf i).toNat)
  case atStart => exact ⟨0, by omega, rfl, World.ownsRow_nil _ _ _ _, Ch.drewN w q1⟩
  case round =>
    obtain ⟨k, hk, rfl, hown, hch⟩ := hrel
    by_cases hlt : k < l.length
    · obtain ⟨y, hy⟩ : ∃ y, l[k]? = some y := ⟨_, List.getElem?_eq_getElem hlt⟩
      have hr := H.out.keeps hch (fun x => x) (fun x => x)
      have cb := hr.body.cell (hr.has k y hy)
      have HT : Hid ((l.take (k + 1)).map (Value.int .i64) = (l.take k).map (Value.int .i64) ++ [.int .i64 y]) := Lib.hid (by rw [List.take_add_one, hy]; simp)
      have HH := Lib.hid hr
      have HC := Lib.hid hch
      have hsz := hch.size
      clear hr hy hch
      go_wp2_with fail
      refine (at_any _ p b f l.length k t HH.out.head HH.out.first (by omega)).mono ?_; rintro e1 w1 ⟨rfl, q2, rfl⟩
      go_wp2_with (first
        | (at_builtin; refine wpList_append_own _ rfl _ _ 120 rfl w.heap.size 3 i0 (.int .i64 0) 1 8 Tryz.underlying120 hi hz0 hz1 hz2 rfl (by decide) _ _ _ rfl (World.ownsRow.alloc (w := wr.drewN q2) hown _) ⟨wr.heap.size, 0, none⟩ 1 1 [.int .i64 y] rfl rfl ?c1 ?c2 ?c3 ?c4 ?c5 ?_))
      case c1 =>
        intro j u hj
        match j, hj with
        | 0, hj => simp at hj; subst hj; exact (Row.new (wr.drewN q2) 3 #[.int .i64 y]).cell (j := 0) rfl
      case c2 => intro u hu; simp at hu; subst hu; rfl
      case c3 => unfold maxLen; omega
      case c4 => omega
      case c5 => simp; omega
      · intro v' w2 hown' hgrow _
        have hg2 : Ch No w w2 := ((HC.out.trans (Ch.drewN wr q2)).trans (Ch.alloc _ _)).grownOwn hgrow (own_ge hown)
        clear hown hgrow
        go_wp2
        go_roundw
        case rel => exact ⟨k + 1, by omega, by go_num, by rw [HT.out, List.map_take]; exact hown', hg2⟩
        case measure => simp [intOf]; omega
    · obtain rfl : k = l.length := by omega
      rw [List.take_length] at hown
      go_wp2_with fail
      go_ret
      exact ⟨_, rfl, hown, hch⟩
end Go.Proofs.YtcngfaggignmpaaGreatDoor
