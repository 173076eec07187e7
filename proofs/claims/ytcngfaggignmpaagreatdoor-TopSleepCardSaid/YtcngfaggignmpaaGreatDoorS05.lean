/-
  The top, part 5: Sleeps, Tasks, Fits, Blocks.
-/
import Derived.Test.YtcngfaggignmpaaGreatDoorS04

/-
  Who sleeps, and alarms: a new list, a list of nobody.
-/
namespace Go.Proofs.YtcngfaggignmpaaGreatDoor
open Go.RowKit

/-- A slice of those who sleep: who, and how many ticks behind the one ahead; the block behind it holds its room, and no more. -/
def DV (c : Nat) (a : Option Addr) (l : List (Nat × Int)) (cap : Nat) (w : World) : Prop := cap ≠ 0 → ∃ g off cs, a = some ⟨g, off, none⟩ ∧ c ≤ g ∧ Row g 289 cs w ∧ cs.size = off + 2 * cap ∧
  ∀ (j : Nat) x, l[j]? = some x → cs[off + 2 * j]? = some (.int .i64 x.1) ∧ cs[off + 2 * j + 1]? = some (.int .i64 x.2)
/-- A list of those who sleep. -/
def DL (b c : Nat) (l : List (Nat × Int)) (w : World) : Prop := ∃ a cap, Row b 238 #[.slice a l.length cap, .bool true] w ∧ l.length ≤ cap ∧ cap ≤ maxLen ∧ DV c a l cap w
/-- A list of nobody, without room. -/
def DN (b : Nat) (w : World) : Prop := ∃ a, Row b 238 #[.slice a 0 0, .bool true] w

section
variable {w w' : World} {b c : Nat} {l : List (Nat × Int)} {S : Nat → Prop} {a : Option Addr} {cap : Nat}
theorem DV.keeps (h : DV c a l cap w) (g : Ch S w w') (h2 : ∀ k cs, c ≤ k → Row k 289 cs w → ¬ S k) : DV c a l cap w' := fun hl => by
  obtain ⟨p, off, cs, e, hc, rr, hs, hh⟩ := h hl
  exact ⟨p, off, cs, e, hc, rr.keeps g (h2 p cs hc rr), hs, hh⟩
theorem DV.no (h : DV c a l cap w) (g : Ch No w w') : DV c a l cap w' := h.keeps g (fun _ _ _ _ x => x)
theorem DV.cells (h : DV c a l cap w) (hl : l.length ≤ cap) {j : Nat} {x : Nat × Int} (hj : l[j]? = some x) :
    ∃ g off, a = some ⟨g, off, none⟩ ∧ c ≤ g ∧ w.cell? ⟨g, off + 2 * j, none⟩ = some (.int .i64 x.1) ∧ w.cell? ⟨g, off + 2 * j + 1, none⟩ = some (.int .i64 x.2) := by
  have hlt := (List.getElem?_eq_some_iff.1 hj).1
  obtain ⟨g, off, cs, e, hc, r, hs, hh⟩ := h (by omega)
  obtain ⟨h1, h2⟩ := hh j x hj
  exact ⟨g, off, e, hc, r.cell h1, r.cell h2⟩
theorem DL.keeps (h : DL b c l w) (g : Ch S w w') (h0 : ¬ S b) (h2 : ∀ k cs, c ≤ k → Row k 289 cs w → ¬ S k) : DL b c l w' := by
  obtain ⟨a, cap, r, h3, h4, hr⟩ := h
  exact ⟨a, cap, r.keeps g h0, h3, h4, hr.keeps g h2⟩
theorem DL.no (h : DL b c l w) (g : Ch No w w') : DL b c l w' := h.keeps g (fun x => x) (fun _ _ _ _ x => x)
theorem DL.lt (h : DL b c l w) : b < w.heap.size := by obtain ⟨a, cap, r, _⟩ := h; exact r.lt
theorem DN.keeps (h : DN b w) (g : Ch S w w') (h0 : ¬ S b) : DN b w' := by
  obtain ⟨a, r⟩ := h
  exact ⟨a, r.keeps g h0⟩
theorem DN.no (h : DN b w) (g : Ch No w w') : DN b w' := h.keeps g (fun x => x)
theorem DN.dl (h : DN b w) (c : Nat) : DL b c [] w := by
  obtain ⟨a, r⟩ := h
  exact ⟨a, 0, r, Nat.le_refl _, by unfold maxLen; omega, fun e => absurd rfl e⟩
theorem DN.lt (h : DN b w) : b < w.heap.size := by obtain ⟨a, r⟩ := h; exact r.lt
end

set_option maxHeartbeats 1000000 in
theorem dlNew_any (w : World) : Calls Tryz.prog 44 #[] w fun e w' => e = .returned (.pointer (some ⟨w.heap.size, 0, none⟩)) ∧ DN w.heap.size w' ∧ Ch No w w' ∧ w'.heap.size = w.heap.size + 1 := by
  go_enter Tryz.func44, Tryz.ntmps44
  go_wp2_with fail
  go_ret
  exact ⟨rfl, ⟨none, Row.new w 238 _⟩, Ch.alloc w _, by simp⟩

set_option maxHeartbeats 1000000 in
theorem dlThere_any (w : World) (b c : Nat) (l : List (Nat × Int)) (h : DL b c l w) : Calls Tryz.prog 146 #[.pointer (some ⟨b, 0, none⟩)] w fun e w' => e = .returned (.bool true) ∧ w = w' := by
  obtain ⟨a, cap, r, _, _, hr⟩ := h
  have c1 := r.cell (j := 1) rfl
  clear r hr
  go_enter Tryz.func146, Tryz.ntmps146
  go_wp2_with fail
  go_ret
  exact ⟨rfl, rfl⟩

set_option maxHeartbeats 1000000 in
theorem dlTick_none (w : World) (b c : Nat) (h : DL b c [] w) : Calls Tryz.prog 82 #[.pointer (some ⟨b, 0, none⟩)] w fun e w' => e = .returned (.slice none 0 0) ∧ w = w' := by
  have H := Lib.hid h
  obtain ⟨a, cap, r, _, _, hr⟩ := h
  have c1 : w.cell? ⟨b, 0, none⟩ = some (.slice a 0 cap) := r.cell (j := 0) rfl
  clear r hr
  go_enter Tryz.func82, Tryz.ntmps82
  go_wp2_with fail
  refine (dlThere_any _ b c [] H.out).mono ?_; rintro e w1 ⟨rfl, rfl⟩
  go_wp2_with fail
  go_ret
  exact ⟨rfl, rfl⟩

set_option maxHeartbeats 1000000 in
theorem dlIndex_none (w : World) (a : Option Addr) (cap : Nat) (f : Value) : Calls Tryz.prog 205 #[.slice a 0 cap, f] w fun e w' => e = .returned (.int .i64 (-1)) ∧ w = w' := by
  go_enter Tryz.func205, Tryz.ntmps205
  go_wp2_with fail
  go_loopw [5, 8] (fun _ i wr => i = .int .i64 0 ∧ wr = w) (fun _ _ _ => 0)
  case atStart => exact ⟨rfl, rfl⟩
  case round =>
    obtain ⟨rfl, rfl⟩ := hrel
    go_wp2_with fail
    go_ret
    exact ⟨rfl, rfl⟩

set_option maxHeartbeats 1000000 in
theorem dlFind_none (w : World) (b c : Nat) (x : Int) (h : DL b c [] w) : Calls Tryz.prog 169 #[.pointer (some ⟨b, 0, none⟩), .int .i64 x] w fun e w' => e = .returned (.int .i64 (-1)) ∧ Ch No w w' := by
  have hmf := mkFn
  obtain ⟨a, cap, r, _, _, hr⟩ := h
  have c1 : (w.alloc (.cells #[.int .i64 x] 3)).cell? ⟨b, 0, none⟩ = some (.slice a 0 cap) := (r.alloc _).cell (j := 0) rfl
  clear r hr
  go_enter Tryz.func169, Tryz.ntmps169
  go_wp2_with fail
  refine (dlIndex_none _ a cap _).mono ?_; rintro e w1 ⟨rfl, rfl⟩
  go_wp2_with fail
  go_ret
  exact ⟨rfl, Ch.alloc w _⟩

set_option maxHeartbeats 1000000 in
theorem dlRemove_none (w : World) (b c : Nat) (x : Int) (h : DL b c [] w) : Calls Tryz.prog 125 #[.pointer (some ⟨b, 0, none⟩), .int .i64 x] w fun e w' => e = .returned (.int .i64 1) ∧ Ch No w w' := by
  have H := Lib.hid h
  clear h
  go_enter Tryz.func125, Tryz.ntmps125
  go_wp2_with fail
  refine (dlThere_any _ b c [] H.out).mono ?_; rintro e w1 ⟨rfl, rfl⟩
  go_wp2_with fail
  refine (dlFind_none _ b c x H.out).mono ?_; rintro e w1 ⟨rfl, hch⟩
  go_wp2_with fail
  go_ret
  exact ⟨rfl, hch⟩

/-- Alarms of which none runs: the list in block b, the map in the next one, themselves in the one behind. -/
def AL (b : Nat) (w : World) : Prop := DN b w ∧ Row (b + 2) 224 #[.pointer (some ⟨b, 0, none⟩), .map (some (b + 1))] w
theorem AL.keeps {w w' : World} {b : Nat} {S : Nat → Prop} (h : AL b w) (g : Ch S w w') (h0 : ¬ S b) (h2 : ¬ S (b + 2)) : AL b w' := ⟨h.1.keeps g h0, h.2.keeps g h2⟩

set_option maxHeartbeats 1000000 in
theorem alNew_any (w : World) : Calls Tryz.prog 45 #[] w fun e w' => e = .returned (.pointer (some ⟨w.heap.size + 2, 0, none⟩)) ∧ AL w.heap.size w' ∧ Ch No w w' ∧ w'.heap.size = w.heap.size + 3 := by
  have hmm := @run_makeMap Tryz.prog
  go_enter Tryz.func45, Tryz.ntmps45
  go_wp2_with fail
  refine (dlNew_any _).mono ?_; rintro e w1 ⟨rfl, hd, hch, hs⟩
  have HD := Lib.hid hd
  clear hd
  go_wp2_with fail
  go_ret
  have n1 := Row.new (w1.alloc (.map #[] 0)) 224 #[.pointer (some ⟨w.heap.size, 0, none⟩), .map (some w1.heap.size)]
  rw [World.size_alloc, hs] at n1
  refine ⟨by first | rfl | simp [hs], ⟨HD.out.no ((Ch.alloc _ _).trans (Ch.alloc _ _)), ?_⟩, (hch.trans (Ch.alloc _ _)).trans (Ch.alloc _ _), by simp [hs]⟩
  exact n1

set_option maxHeartbeats 1000000 in
theorem alThere_any (w : World) (b : Nat) (h : AL b w) : Calls Tryz.prog 80 #[.pointer (some ⟨b + 2, 0, none⟩)] w fun e w' => e = .returned (.bool true) ∧ w = w' := by
  have c1 := h.2.cell (j := 0) rfl
  clear h
  go_enter Tryz.func80, Tryz.ntmps80
  go_wp2_with fail
  go_ret
  exact ⟨rfl, rfl⟩

set_option maxHeartbeats 1000000 in
theorem alAgain_none (w : World) (p : Value) : Calls Tryz.prog 148 #[p, .slice none 0 0] w fun e w' => e = .returned (.tuple #[]) ∧ w = w' := by
  go_enter Tryz.func148, Tryz.ntmps148
  go_wp2_with fail
  go_loopw [5, 9] (fun _ i wr => i = .int .i64 0 ∧ wr = w) (fun _ _ _ => 0)
  case atStart => exact ⟨rfl, rfl⟩
  case round =>
    obtain ⟨rfl, rfl⟩ := hrel
    go_wp2_with fail
    go_end0
    exact ⟨rfl, rfl⟩

set_option maxHeartbeats 1000000 in
theorem alTick_none (w : World) (b : Nat) (h : AL b w) : Calls Tryz.prog 83 #[.pointer (some ⟨b + 2, 0, none⟩)] w fun e w' => e = .returned (.slice none 0 0) ∧ w = w' := by
  have H := Lib.hid h
  have c1 := h.2.cell (j := 0) rfl
  clear h
  go_enter Tryz.func83, Tryz.ntmps83
  go_wp2_with fail
  refine (alThere_any _ b H.out).mono ?_; rintro e w1 ⟨rfl, rfl⟩
  go_wp2_with fail
  refine (dlTick_none _ b 0 (H.out.1.dl 0)).mono ?_; rintro e w1 ⟨rfl, rfl⟩
  go_wp2_with fail
  refine (alAgain_none _ _).mono ?_; rintro e w1 ⟨rfl, rfl⟩
  go_wp2_with fail
  go_ret
  exact ⟨rfl, rfl⟩
end Go.Proofs.YtcngfaggignmpaaGreatDoor

/-
  What may be asked of a row.
-/
namespace Go.Proofs.YtcngfaggignmpaaGreatDoor
open Go.RowKit

set_option maxHeartbeats 1000000 in
theorem index_yes (w : World) (g off len cap k : Nat) (xs : Nat → Int) (x : Int) (hm : len < 100) (hk : k < len) (hx : (x == xs k) = true) (hn : ∀ j, j < k → (x == xs j) = false) (hc : ∀ j, j < len → w.cell? ⟨g, off + j, none⟩ = some (.int .u8 (xs j))) :
    Calls Tryz.prog 207 #[.slice (some ⟨g, off, none⟩) len cap, .int .u8 x] w fun e w' => e = .returned (.int .i64 k) ∧ w = w' := by
  have HC := Lib.hid hc
  have HN := Lib.hid hn
  have HX := Lib.hid hx
  clear hc hn hx
  go_enter Tryz.func207, Tryz.ntmps207
  go_wp2_with fail
  go_loopw [5, 8] (fun _ i wr => ∃ j : Nat, j ≤ k ∧ i = .int .i64 (j : Int) ∧ wr = w) (fun _ i _ => k - (intOf i).toNat)
  case atStart => exact ⟨0, by omega, rfl, rfl⟩
  case round =>
    obtain ⟨j, hj, rfl, rfl⟩ := hrel
    have c1 := HC.out j (by omega)
    by_cases hlt : j < k
    · have e1 := HN.out j hlt
      go_wp2_with fail
      go_roundw
      case rel => exact ⟨j + 1, by omega, by go_num, by first | rfl | trivial⟩
      case measure => simp [intOf]; omega
    · obtain rfl : j = k := by omega
      have e1 := HX.out
      go_wp2_with fail
      go_ret
      exact ⟨rfl, rfl⟩
set_option maxHeartbeats 1000000 in
theorem index_no (w : World) (g off len cap : Nat) (xs : Nat → Int) (x : Int) (hm : len < 100) (hn : ∀ j, j < len → (x == xs j) = false) (hc : ∀ j, j < len → w.cell? ⟨g, off + j, none⟩ = some (.int .u8 (xs j))) :
    Calls Tryz.prog 207 #[.slice (some ⟨g, off, none⟩) len cap, .int .u8 x] w fun e w' => e = .returned (.int .i64 (-1)) ∧ w = w' := by
  have HC := Lib.hid hc
  have HN := Lib.hid hn
  clear hc hn
  go_enter Tryz.func207, Tryz.ntmps207
  go_wp2_with fail
  go_loopw [5, 8] (fun _ i wr => ∃ j : Nat, j ≤ len ∧ i = .int .i64 (j : Int) ∧ wr = w) (fun _ i _ => len - (intOf i).toNat)
  case atStart => exact ⟨0, by omega, rfl, rfl⟩
  case round =>
    obtain ⟨j, hj, rfl, rfl⟩ := hrel
    by_cases hlt : j < len
    · have c1 := HC.out j hlt
      have e1 := HN.out j hlt
      go_wp2_with fail
      go_roundw
      case rel => exact ⟨j + 1, by omega, by go_num, by first | rfl | trivial⟩
      case measure => simp [intOf]; omega
    · obtain rfl : j = len := by omega
      go_wp2_with fail
      go_ret
      exact ⟨rfl, rfl⟩
set_option maxHeartbeats 1000000 in
theorem index_nil (w : World) (x : Int) : Calls Tryz.prog 207 #[.slice none 0 0, .int .u8 x] w fun e w' => e = .returned (.int .i64 (-1)) ∧ w = w' := by
  go_enter Tryz.func207, Tryz.ntmps207
  go_wp2_with fail
  go_loopw [5, 8] (fun _ i wr => i = .int .i64 0 ∧ wr = w) (fun _ i _ => 0)
  case atStart => exact ⟨rfl, rfl⟩
  case round =>
    obtain ⟨rfl, rfl⟩ := hrel
    go_wp2_with fail
    go_ret
    exact ⟨rfl, rfl⟩
set_option maxHeartbeats 1000000 in
theorem contains_yes (w : World) (g off len cap k : Nat) (xs : Nat → Int) (x : Int) (hm : len < 100) (hk : k < len) (hx : (x == xs k) = true) (hn : ∀ j, j < k → (x == xs j) = false) (hc : ∀ j, j < len → w.cell? ⟨g, off + j, none⟩ = some (.int .u8 (xs j))) :
    Calls Tryz.prog 171 #[.slice (some ⟨g, off, none⟩) len cap, .int .u8 x] w fun e w' => e = .returned (.bool true) ∧ w = w' := by
  have HC := Lib.hid hc
  have HN := Lib.hid hn
  have HX := Lib.hid hx
  have hd : decide ((0 : Int) ≤ (k : Int)) = true := by rw [decide_eq_true_iff]; omega
  clear hc hn hx
  go_enter Tryz.func171, Tryz.ntmps171
  go_wp2_with fail
  refine (index_yes _ g off len cap k xs x hm hk HX.out HN.out HC.out).mono ?_; rintro e w1 ⟨rfl, rfl⟩
  go_wp2_with fail
  go_ret
  exact ⟨rfl, rfl⟩
set_option maxHeartbeats 1000000 in
theorem contains_no (w : World) (g off len cap : Nat) (xs : Nat → Int) (x : Int) (hm : len < 100) (hn : ∀ j, j < len → (x == xs j) = false) (hc : ∀ j, j < len → w.cell? ⟨g, off + j, none⟩ = some (.int .u8 (xs j))) :
    Calls Tryz.prog 171 #[.slice (some ⟨g, off, none⟩) len cap, .int .u8 x] w fun e w' => e = .returned (.bool false) ∧ w = w' := by
  have HC := Lib.hid hc
  have HN := Lib.hid hn
  clear hc hn
  go_enter Tryz.func171, Tryz.ntmps171
  go_wp2_with fail
  refine (index_no _ g off len cap xs x hm HN.out HC.out).mono ?_; rintro e w1 ⟨rfl, rfl⟩
  go_wp2_with fail
  go_ret
  exact ⟨rfl, rfl⟩
set_option maxHeartbeats 1000000 in
theorem contains_nil (w : World) (x : Int) : Calls Tryz.prog 171 #[.slice none 0 0, .int .u8 x] w fun e w' => e = .returned (.bool false) ∧ w = w' := by
  go_enter Tryz.func171, Tryz.ntmps171
  go_wp2_with fail
  refine (index_nil _ x).mono ?_; rintro e w1 ⟨rfl, rfl⟩
  go_wp2_with fail
  go_ret
  exact ⟨rfl, rfl⟩

/-- All that may be asked. -/
def allCells : Array Value := #[.int .u8 3, .int .u8 4, .int .u8 5, .int .u8 6, .int .u8 7, .int .u8 8, .int .u8 9, .int .u8 10, .int .u8 11, .int .u8 12, .int .u8 13, .int .u8 14, .int .u8 15, .int .u8 16, .int .u8 17]
set_option maxHeartbeats 1000000 in
theorem tkAll_any (w : World) : Calls Tryz.prog 208 #[] w fun e w' => e = .returned (.slice (some ⟨w.heap.size, 0, none⟩) 15 15) ∧ w' = w.alloc (.cells allCells 51) := by
  go_enter Tryz.func208, Tryz.ntmps208
  go_wp2_with fail
  go_ret
  exact ⟨rfl, rfl⟩
/-- What may be asked of each kind, and how many of these may wait. -/
def kindsA (g : Nat) : Array Value := #[.slice none 0 0, .int .i64 0, .slice (some ⟨g, 0, none⟩) 2 2, .int .i64 1, .slice (some ⟨g, 2, none⟩) 2 2, .int .i64 1, .slice (some ⟨g, 4, none⟩) 4 4, .int .i64 3,
  .slice (some ⟨g, 8, none⟩) 3 3, .int .i64 1, .slice (some ⟨g, 11, none⟩) 2 2, .int .i64 1, .slice (some ⟨g, 13, none⟩) 2 2, .int .i64 0]
set_option maxRecDepth 100000 in
set_option maxHeartbeats 4000000 in
theorem tkKinds_any (w : World) : Calls Tryz.prog 172 #[] w fun e w' => e = .returned (.agg (kindsA (w.heap.size + 1))) ∧ Row (w.heap.size + 1) 51 allCells w' ∧ Ch No w w' := by
  go_enter Tryz.func172, Tryz.ntmps172
  go_wp2_with fail
  refine (tkAll_any _).mono ?_; rintro e w1 ⟨rfl, rfl⟩
  go_wp2_with fail
  go_region
  all_goals
    go_wp2_with fail
    refine bodyPost_ret (v := .agg (kindsA (w.heap.size + 1))) (by simp [results, Tryz.results172, go_sem, kindsA]) rfl ⟨rfl, ?_, ((Ch.alloc w _).trans (Ch.alloc _ _)).trans (Ch.drewN _ 1)⟩
    have n1 := Row.new (w.alloc (.cells (kindsA (w.heap.size + 1)) 322)) 51 allCells
    rw [World.size_alloc] at n1
    exact n1.drewN 1
end Go.Proofs.YtcngfaggignmpaaGreatDoor

/-
  What may be asked of a row: Fits and Blocks, of those asks that come up.
-/
namespace Go.Proofs.YtcngfaggignmpaaGreatDoor
open Go.RowKit

/-- An ask, as a value. -/
def askV (what hh v mm wt : Int) : Value := .agg #[.int .u8 what, .int .u32 hh, .int .u32 v, .int .u32 mm, .int .i64 wt]
/-- The k-th of all that may be asked. -/
def allX (k : Nat) : Int := 3 + (k : Int)
theorem allCells_get (k : Nat) (h : k < 15) : allCells[k]? = some (.int .u8 (allX k)) := by
  match k, h with
  | 0, _ => rfl
  | 1, _ => rfl
  | 2, _ => rfl
  | 3, _ => rfl
  | 4, _ => rfl
  | 5, _ => rfl
  | 6, _ => rfl
  | 7, _ => rfl
  | 8, _ => rfl
  | 9, _ => rfl
  | 10, _ => rfl
  | 11, _ => rfl
  | 12, _ => rfl
  | 13, _ => rfl
  | 14, _ => rfl

theorem Row.all {w : World} {g : Nat} (h : Row g 51 allCells w) (off len : Nat) (hl : off + len ≤ 15) (j : Nat) (hj : j < len) : w.cell? ⟨g, off + j, none⟩ = some (.int .u8 (allX (off + j))) :=
  h.cell (allCells_get (off + j) (by omega))

theorem kinds_3 (g : Nat) (w : World) : (Instr.index 322 (.agg (kindsA g)) (.int .u8 3)).run Tryz.prog w = .ok (.agg #[.slice (some ⟨g, 4, none⟩) 4 4, .int .i64 3]) w := by kernel_rfl
theorem kind_l (n : Int) (w : World) (a : Option Addr) (l c : Nat) : (Instr.field 321 (.agg #[.slice a l c, .int .i64 n]) 0).run Tryz.prog w = .ok (.slice a l c) w := by kernel_rfl
set_option maxRecDepth 100000 in
set_option maxHeartbeats 4000000 in
theorem fits_row (w : World) (what hh v mm wt : Int) (k : Nat) (hk : k < 4) (hw : (what == allX (4 + k)) = true) (hn : ∀ j, j < k → (what == allX (4 + j)) = false) :
    Calls Tryz.prog 128 #[askV what hh v mm wt, .int .u8 3] w fun e w' => e = .returned (.bool true) ∧ Ch No w w' := by
  have HW := Lib.hid hw
  have HN := Lib.hid hn
  have h0 := Row.new w 112 #[.int .u8 what, .int .u32 hh, .int .u32 v, .int .u32 mm, .int .i64 wt]
  have hC : Ch No w (w.alloc (.cells #[.int .u8 what, .int .u32 hh, .int .u32 v, .int .u32 mm, .int .i64 wt] 112)) := Ch.alloc w _
  obtain ⟨W0, hW0⟩ : ∃ W0, W0 = w.alloc (.cells #[.int .u8 what, .int .u32 hh, .int .u32 v, .int .u32 mm, .int .i64 wt] 112) := ⟨_, rfl⟩
  have HW0 := Lib.hid hW0
  rw [← hW0] at h0 hC
  have c0 := h0.cell (j := 0) rfl
  have H0 := Lib.hid h0
  clear hw hn h0 hW0
  unfold askV
  have hix := kinds_3
  have hfl := kind_l
  unfold kindsA at hix
  go_enter Tryz.func128, Tryz.ntmps128
  go_wp2_with fail
  rw [← HW0.out]
  have hc : ∀ wx, Ch No W0 wx → wx.cell? ⟨w.heap.size, 0, none⟩ = some (.int .u8 what) := fun wx h => (H0.out.keeps h (fun x => x)).cell (j := 0) rfl
  have hd : Ch No W0 W0.drew := Ch.drewN W0 1
  go_region_held3 (fun wx => Ch No W0 wx ∧ wx.cell? ⟨w.heap.size, 0, none⟩ = some (.int .u8 what)) (first | exact ⟨by assumption, hc _ (by assumption)⟩) (first
    | (go_at_call 172; refine (tkKinds_any _).mono ?_; rintro e w1 ⟨rfl, hrow, hch⟩; have hch2 : Ch No W0 w1 := Ch.trans (by assumption) hch; have HROW := Lib.hid hrow; clear hrow; unfold kindsA)
    | (go_at_call 171; refine (contains_yes _ _ 4 4 4 k (fun j => allX (4 + j)) what (by omega) hk HW.out HN.out (HROW.out.all 4 4 (by omega))).mono ?_; rintro e w2 ⟨rfl, rfl⟩))
  all_goals
    go_wp2_with fail
    go_ret
    exact ⟨rfl, hC.trans (by assumption)⟩
end Go.Proofs.YtcngfaggignmpaaGreatDoor

/-
  What may make a task wait: Blocks, of those asks that come up.
-/
namespace Go.Proofs.YtcngfaggignmpaaGreatDoor
open Go.RowKit

theorem kindsI_0 (g : Nat) (w : World) : (Instr.index 322 (.agg (kindsA g)) (.int .i64 0)).run Tryz.prog w = .ok (.agg #[.slice none 0 0, .int .i64 0]) w := by kernel_rfl
theorem kindsI_1 (g : Nat) (w : World) : (Instr.index 322 (.agg (kindsA g)) (.int .i64 1)).run Tryz.prog w = .ok (.agg #[.slice (some ⟨g, 0, none⟩) 2 2, .int .i64 1]) w := by kernel_rfl
theorem kindsI_2 (g : Nat) (w : World) : (Instr.index 322 (.agg (kindsA g)) (.int .i64 2)).run Tryz.prog w = .ok (.agg #[.slice (some ⟨g, 2, none⟩) 2 2, .int .i64 1]) w := by kernel_rfl
theorem kindsI_3 (g : Nat) (w : World) : (Instr.index 322 (.agg (kindsA g)) (.int .i64 3)).run Tryz.prog w = .ok (.agg #[.slice (some ⟨g, 4, none⟩) 4 4, .int .i64 3]) w := by kernel_rfl

theorem quietC {P : Program} {f : FuncId} {args : Array Value} {w : World} {n : Nat} {v : Value}
    (h : Calls P f args (w.drewN n) fun e w' => e = .returned v ∧ w.drewN n = w') : Calls P f args (w.drewN n) fun e w'' => e = .returned v ∧ ∃ m, w'' = w.drewN m :=
  h.mono fun _ _ ⟨he, hm⟩ => ⟨he, n, hm.symm⟩

set_option maxHeartbeats 1000000 in
theorem blocks_zero (w : World) (what hh v mm : Int) : Calls Tryz.prog 135 #[askV what hh v mm 0] w fun e w' => e = .returned (.bool false) ∧ Ch No w w' := by
  unfold askV
  go_enter Tryz.func135, Tryz.ntmps135
  go_wp2_with fail
  go_ret
  exact ⟨rfl, Ch.alloc w _⟩

set_option maxRecDepth 100000 in
set_option maxHeartbeats 4000000 in
theorem blocks_row (w : World) (what hh v mm wt : Int) (k : Nat) (hk : k < 3) (hwt : (wt == 0) = false) (hw : (what == allX (4 + k)) = true) (hn : ∀ j, j < k → (what == allX (4 + j)) = false) (h3 : (what == allX 0) = false) (h5 : (what == allX 2) = false) :
    Calls Tryz.prog 135 #[askV what hh v mm wt] w fun e w' => e = .returned (.bool true) ∧ Ch No w w' := by
  have HW := Lib.hid hw
  have HN := Lib.hid hn
  have H3 := Lib.hid h3
  have H5 := Lib.hid h5
  have h0 := Row.new w 112 #[.int .u8 what, .int .u32 hh, .int .u32 v, .int .u32 mm, .int .i64 wt]
  have hC : Ch No w (w.alloc (.cells #[.int .u8 what, .int .u32 hh, .int .u32 v, .int .u32 mm, .int .i64 wt] 112)) := Ch.alloc w _
  obtain ⟨W0, hW0⟩ : ∃ W0, W0 = w.alloc (.cells #[.int .u8 what, .int .u32 hh, .int .u32 v, .int .u32 mm, .int .i64 wt] 112) := ⟨_, rfl⟩
  have HW0 := Lib.hid hW0
  rw [← hW0] at h0 hC
  have H0 := Lib.hid h0
  have hix0 := kindsI_0
  have hix1 := kindsI_1
  have hix2 := kindsI_2
  have hix3 := kindsI_3
  clear hw hn h0 hW0 h3 h5
  unfold askV
  go_enter Tryz.func135, Tryz.ntmps135
  go_wp2_with fail
  rw [← HW0.out]
  refine (tkKinds_any _).mono ?_; rintro e w1 ⟨rfl, hrow, hch⟩
  obtain ⟨G, hG⟩ : ∃ G, G = W0.heap.size + 1 := ⟨_, rfl⟩
  rw [← hG] at hrow ⊢
  have HROW := Lib.hid hrow
  have H1 := Lib.hid (H0.out.keeps hch (fun x => x))
  have hC1 := hC.trans hch
  clear hrow hG hch hC
  go_wp2_with fail
  go_loopw [4, 9] (fun _ i wr => ∃ j : Nat, j ≤ 3 ∧ i = .int .i64 (j : Int) ∧ Ch No w1 wr) (fun _ i _ => 3 - (intOf i).toNat)
  case atStart => exact ⟨0, by omega, rfl, Ch.refl _ _⟩
  case round =>
    obtain ⟨j, hj, rfl, hch⟩ := hrel
    have HCH := Lib.hid hch
    have r1 := H1.out.keeps hch (fun x => x)
    have R1 := Lib.hid r1
    have HR := Lib.hid (HROW.out.keeps hch (fun x => x))
    clear hch r1
    match j, hj with
    | 0, _ =>
      have c0 := (R1.out.alloc (.cells #[.slice none 0 0, .int .i64 0] 321)).cell (j := 0) rfl
      have n0 := Row.new wr 321 #[.slice none 0 0, .int .i64 0]
      have c1 := n0.cell (j := 0) rfl
      have c2 := n0.cell (j := 1) rfl
      have HR2 := Lib.hid (fun n => (HR.out.alloc (.cells #[.slice none 0 0, .int .i64 0] 321)).drewN n)
      have HCX : Hid (Ch No w1 (wr.alloc (.cells #[.slice none 0 0, .int .i64 0] 321))) := Lib.hid (HCH.out.trans (Ch.alloc _ _))
      clear n0
      go_wp2_with fail
      go_quiet (exact quietC (contains_nil _ what))
      go_wp2_with fail
      go_roundw
      case rel => exact ⟨1, by omega, rfl, HCX.out.trans (Ch.drewN _ _)⟩
      case measure => simp [intOf]
    | 1, _ =>
      have c0 := (R1.out.alloc (.cells #[.slice (some ⟨G, 0, none⟩) 2 2, .int .i64 1] 321)).cell (j := 0) rfl
      have n0 := Row.new wr 321 #[.slice (some ⟨G, 0, none⟩) 2 2, .int .i64 1]
      have c1 := n0.cell (j := 0) rfl
      have c2 := n0.cell (j := 1) rfl
      have HR2 := Lib.hid (fun n => (HR.out.alloc (.cells #[.slice (some ⟨G, 0, none⟩) 2 2, .int .i64 1] 321)).drewN n)
      have HCX : Hid (Ch No w1 (wr.alloc (.cells #[.slice (some ⟨G, 0, none⟩) 2 2, .int .i64 1] 321))) := Lib.hid (HCH.out.trans (Ch.alloc _ _))
      clear n0
      go_wp2_with fail
      go_quiet (exact quietC (contains_no _ G 0 1 2 (fun j => allX (0 + j)) what (by omega) (fun j hj => by have e : j = 0 := (by omega); subst e; exact H3.out) ((HR2.out _).all 0 1 (by omega))))
      go_wp2_with fail
      go_roundw
      case rel => exact ⟨2, by omega, rfl, HCX.out.trans (Ch.drewN _ _)⟩
      case measure => simp [intOf]
    | 2, _ =>
      have c0 := (R1.out.alloc (.cells #[.slice (some ⟨G, 2, none⟩) 2 2, .int .i64 1] 321)).cell (j := 0) rfl
      have n0 := Row.new wr 321 #[.slice (some ⟨G, 2, none⟩) 2 2, .int .i64 1]
      have c1 := n0.cell (j := 0) rfl
      have c2 := n0.cell (j := 1) rfl
      have HR2 := Lib.hid (fun n => (HR.out.alloc (.cells #[.slice (some ⟨G, 2, none⟩) 2 2, .int .i64 1] 321)).drewN n)
      have HCX : Hid (Ch No w1 (wr.alloc (.cells #[.slice (some ⟨G, 2, none⟩) 2 2, .int .i64 1] 321))) := Lib.hid (HCH.out.trans (Ch.alloc _ _))
      clear n0
      go_wp2_with fail
      go_quiet (exact quietC (contains_no _ G 2 1 2 (fun j => allX (2 + j)) what (by omega) (fun j hj => by have e : j = 0 := (by omega); subst e; exact H5.out) ((HR2.out _).all 2 1 (by omega))))
      go_wp2_with fail
      go_roundw
      case rel => exact ⟨3, by omega, rfl, HCX.out.trans (Ch.drewN _ _)⟩
      case measure => simp [intOf]
    | 3, _ =>
      have c0 := (R1.out.alloc (.cells #[.slice (some ⟨G, 4, none⟩) 4 4, .int .i64 3] 321)).cell (j := 0) rfl
      have n0 := Row.new wr 321 #[.slice (some ⟨G, 4, none⟩) 4 4, .int .i64 3]
      have c1 := n0.cell (j := 0) rfl
      have c2 := n0.cell (j := 1) rfl
      have HR2 := Lib.hid (fun n => (HR.out.alloc (.cells #[.slice (some ⟨G, 4, none⟩) 4 4, .int .i64 3] 321)).drewN n)
      have HCX : Hid (Ch No w1 (wr.alloc (.cells #[.slice (some ⟨G, 4, none⟩) 4 4, .int .i64 3] 321))) := Lib.hid (HCH.out.trans (Ch.alloc _ _))
      clear n0
      go_wp2_with fail
      go_quiet (exact quietC (contains_yes _ G 4 3 4 k (fun j => allX (4 + j)) what (by omega) hk HW.out HN.out ((HR2.out _).all 4 3 (by omega))))
      go_wp2_with fail
      go_ret
      exact ⟨rfl, (hC1.trans HCX.out).trans (Ch.drewN _ _)⟩
end Go.Proofs.YtcngfaggignmpaaGreatDoor
