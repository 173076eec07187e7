/-
  Raise, Mask and Next of package lines: what each answers, and what the lines' block holds behind it; nothing else that was there is turned. No condition but that the lines lie in a block of their own, of numbers of 8 bits.
-/
import Derived.Test.YtijclpkfmkbkpaaLines
import Derived.OwnWalk
import Derived.Deep.QuietTactic
import Derived.BigQuiet
namespace Go.Proofs.Ytijclpkfmkbkpaa
open Go.RowKit

/-- w' is w, but for the block p, new blocks, and draws. -/
def Only (p : Nat) (w w' : World) : Prop := w.grownBy w' (some p)
theorem Only.refl (p : Nat) (w : World) : Only p w w := World.grownBy.refl w _
theorem Only.alloc (p : Nat) (w : World) (o : Obj) : Only p w (w.alloc o) := World.grownBy_alloc w o _
theorem Only.drewN (p : Nat) (w : World) (n : Nat) : Only p w (w.drewN n) := ⟨rfl, rfl, rfl, Nat.le_refl _, fun _ _ _ => rfl⟩
theorem Only.trans {p : Nat} {a b c : World} (h : Only p a b) (g : Only p b c) : Only p a c :=
  ⟨g.os.trans h.os, g.tape.trans h.tape, g.output.trans h.output, Nat.le_trans h.size g.size, fun k hk hne => (g.block k (Nat.lt_of_lt_of_le hk h.size) hne).trans (h.block k hk hne)⟩
theorem Only.setCell (p : Nat) (w : World) (j : Nat) (v : Value) : Only p w (w.setCell ⟨p, j, none⟩ v) :=
  ⟨rfl, rfl, rfl, by simp [World.setCell], fun k _ hne => Below.heap_setCell _ _ _ _ (fun e => hne (by rw [e]))⟩
theorem Only.turned (p : Nat) (w : World) (j : Nat) (i v : Int) : Only p w (turned w p j i v) := by
  unfold Go.Proofs.Ytijclpkfmkbkpaa.turned; split
  · exact Only.setCell _ _ _ _
  · exact Only.refl _ _

/-- Who calls, behind a call of a line that may not be there. -/
def rsC (c i : Int) : Int := if 0 ≤ i ∧ i ≤ 7 then setB c i else c
/-- Who is masked, behind a mask. -/
def mkM (m i : Int) (on : Bool) : Int := if 0 ≤ i ∧ i ≤ 7 then (if on then setB m i else clrB m i) else m

theorem turned_calls {w : World} {p : Nat} {c m : Int} (h : w.heap[p]? = some (ob c m)) (i : Int) : (turned w p 0 i (setB c i)).heap[p]? = some (ob (rsC c i) m) := by
  unfold turned rsC; split
  · exact ob_setCalls h _
  · exact h
theorem turned_on {w : World} {p : Nat} {c m : Int} (h : w.heap[p]? = some (ob c m)) (i : Int) : (turned w p 1 i (setB m i)).heap[p]? = some (ob c (mkM m i true)) := by
  unfold turned mkM; split
  · exact ob_setMasks h _
  · exact h
theorem turned_off {w : World} {p : Nat} {c m : Int} (h : w.heap[p]? = some (ob c m)) (i : Int) : (turned w p 1 i (clrB m i)).heap[p]? = some (ob c (mkM m i false)) := by
  unfold turned mkM; split
  · exact ob_setMasks h _
  · exact h
theorem cell_box (w : World) (v : Value) (T : TypeId) : (w.alloc (.cells #[v] T)).cell? ⟨w.heap.size, 0, none⟩ = some v := by
  have hb := (MapKept.heap_alloc w (.cells #[v] T)).1
  unfold World.cell?; rw [hb]; rfl
theorem old_alloc {w : World} {p : Nat} {o : Obj} (h : w.heap[p]? = some o) (x : Obj) : (w.alloc x).heap[p]? = some o := by
  have hlt : p < w.heap.size := (Array.getElem?_eq_some_iff.1 h).1
  rw [Below.heap_alloc w x p hlt]; exact h

set_option maxHeartbeats 400000 in
theorem raise_any (w : World) (p : Nat) (c m i : Int) (h : w.heap[p]? = some (ob c m)) :
    Calls Try.prog 12 #[.pointer (some ⟨p, 0, none⟩), .int .i64 i] w fun e w' => e = .returned (.int .i64 (erL i)) ∧ Only p w w' ∧ w'.heap[p]? = some (ob (rsC c i) m) := by
  have h1 := old_alloc h (.cells #[.pointer (some ⟨p, 0, none⟩)] 22)
  have hB := cell_box w (.pointer (some ⟨p, 0, none⟩)) 22
  have hmf : ∀ (fn : Fn) (first cap : Array Value) (w : World), (Instr.makeFunc fn first cap).run Try.prog w = .ok (.func fn first cap) w := fun _ _ _ _ => rfl
  go_enter Try.func12, Try.ntmps12
  go_wp2_with (go_at_call 27; refine (turnR_any _ _ p c m i h1 hB).mono ?_; rintro e w1 ⟨rfl, rfl⟩)
  go_ret
  exact ⟨rfl, (Only.alloc p w _).trans (Only.turned _ _ _ _ _), turned_calls h1 i⟩

set_option maxHeartbeats 400000 in
theorem mask_any (w : World) (p : Nat) (c m i : Int) (on : Bool) (h : w.heap[p]? = some (ob c m)) :
    Calls Try.prog 13 #[.pointer (some ⟨p, 0, none⟩), .int .i64 i, .bool on] w fun e w' => e = .returned (.int .i64 (erL i)) ∧ Only p w w' ∧ w'.heap[p]? = some (ob c (mkM m i on)) := by
  have h1 := old_alloc h (.cells #[.pointer (some ⟨p, 0, none⟩)] 22)
  have hB := cell_box w (.pointer (some ⟨p, 0, none⟩)) 22
  have hmf : ∀ (fn : Fn) (first cap : Array Value) (w : World), (Instr.makeFunc fn first cap).run Try.prog w = .ok (.func fn first cap) w := fun _ _ _ _ => rfl
  cases on
  · go_enter Try.func13, Try.ntmps13
    go_wp2_with (go_at_call 27; refine (turnMoff_any _ _ p c m i h1 hB).mono ?_; rintro e w1 ⟨rfl, rfl⟩)
    go_ret
    exact ⟨rfl, (Only.alloc p w _).trans (Only.turned _ _ _ _ _), turned_off h1 i⟩
  · go_enter Try.func13, Try.ntmps13
    go_wp2_with (go_at_call 27; refine (turnMon_any _ _ p c m i h1 hB).mono ?_; rintro e w1 ⟨rfl, rfl⟩)
    go_ret
    exact ⟨rfl, (Only.alloc p w _).trans (Only.turned _ _ _ _ _), turned_on h1 i⟩

/-- Those that call, and are heard. -/
def heard (c m : Int) : Int := bits BinOp.andNot .u8 c m
/-- Which one is told next. -/
def nxL (c m : Int) : Int := if heard c m = 0 then 0 else (Lib.trailingZeros8 (heard c m).toNat : Int)
/-- .. and the error. -/
def nxE (c m : Int) : Int := if heard c m = 0 then 11 else 0
/-- .. and who calls behind it. -/
def nxC (c m : Int) : Int := if heard c m = 0 then c else clrB c (nxL c m)

theorem ntz_lt : ∀ n : Fin 256, n.val ≠ 0 → Lib.trailingZeros8 n.val ≤ 7 := by decide +kernel

set_option maxHeartbeats 1000000 in
theorem next_any (w : World) (p : Nat) (c m : Int) (h : w.heap[p]? = some (ob c m)) :
    Calls Try.prog 11 #[.pointer (some ⟨p, 0, none⟩)] w fun e w' => e = .returned (.tuple #[.int .i64 (nxL c m), .int .i64 (nxE c m)]) ∧ Only p w w' ∧ w'.heap[p]? = some (ob (nxC c m) m) := by
  have hc := ob_calls h
  have hm := ob_masks h
  have hf := ob_free h 0
  by_cases hz : heard c m = 0
  · have e1 : Hid (nxL c m = 0) := by show nxL c m = 0; unfold nxL; rw [if_pos hz]
    have e2 : Hid (nxE c m = 11) := by show nxE c m = 11; unfold nxE; rw [if_pos hz]
    have e3 : Hid (nxC c m = c) := by show nxC c m = c; unfold nxC; rw [if_pos hz]
    have hz' : (bits BinOp.andNot .u8 c m == 0) = true := by rw [beq_iff_eq]; exact hz
    clear hz
    go_enter Try.func11, Try.ntmps11
    go_wp2_with (go_at_call 24; refine (there_any _ p c m h).mono ?_; rintro e w1 ⟨rfl, rfl⟩)
    go_quiet (fail)
    go_wp2_with fail
    go_ret2
    rw [e1.out, e2.out, e3.out]; exact ⟨rfl, Only.drewN _ _ _, h⟩
  · have hlo : 0 ≤ heard c m := bits_lo_u8 _ _ _
    have hhi : heard c m ≤ 255 := bits_hi_u8 _ _ _
    have hl := ntz_lt ⟨(heard c m).toNat, by omega⟩ (by simp; omega)
    have e1 : Hid (nxL c m = (Lib.trailingZeros8 (heard c m).toNat : Int)) := by show nxL c m = _; unfold nxL; rw [if_neg hz]
    have e2 : Hid (nxE c m = 0) := by show nxE c m = 0; unfold nxE; rw [if_neg hz]
    have e3 : Hid (nxC c m = clrB c (nxL c m)) := by show nxC c m = _; unfold nxC; rw [if_neg hz]
    have hz' : (bits BinOp.andNot .u8 c m == 0) = false := by rw [beq_eq_false_iff_ne]; exact hz
    have hlo' : 0 ≤ bits BinOp.andNot .u8 c m := hlo
    have hhi' : bits BinOp.andNot .u8 c m ≤ 255 := hhi
    simp only at hl
    change Lib.trailingZeros8 (bits BinOp.andNot .u8 c m).toNat ≤ 7 at hl
    clear hz hlo hhi
    go_enter Try.func11, Try.ntmps11
    go_wp2_with (go_at_call 24; refine (there_any _ p c m h).mono ?_; rintro e w1 ⟨rfl, rfl⟩)
    go_quiet (fail)
    go_wp2_with (first | (go_at_call 25; refine (ctz_any _ _ hlo' hhi').mono ?_; rintro e w1 ⟨rfl, rfl⟩) | (go_at_call 26; refine (without_any _ _ _ (by omega) (by omega)).mono ?_; rintro e w1 ⟨rfl, rfl⟩))
    go_ret2
    rw [e2.out, e3.out, e1.out]; exact ⟨rfl, (Only.drewN p w _).trans (Only.setCell _ _ _ _), ob_setCalls (w := w.drewN _) h _⟩
end Go.Proofs.Ytijclpkfmkbkpaa
