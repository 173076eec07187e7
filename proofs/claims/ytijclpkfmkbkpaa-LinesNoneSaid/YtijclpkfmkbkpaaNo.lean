/-
  Lines that are not there, or that no call made: the methods answer nothing, and turn nothing that was there.
-/
import Derived.Test.YtijclpkfmkbkpaaAlive
namespace Go.Proofs.Ytijclpkfmkbkpaa
open Go.RowKit

/-- Lines that are nil, or that lie in a block which no call made. -/
def NoL (v : Value) (w : World) : Prop := v = .pointer none ∨ ∃ q, v = .pointer (some ⟨q, 0, none⟩) ∧ w.cell? ⟨q, 0, none⟩ = some (.int .u8 0) ∧ w.cell? ⟨q, 1, none⟩ = some (.int .u8 0) ∧ w.cell? ⟨q, 2, none⟩ = some (.bool false) ∧ q < w.heap.size

theorem NoL.alloc {v : Value} {w : World} (h : NoL v w) (o : Obj) : NoL v (w.alloc o) := by
  rcases h with h | ⟨q, h, h0, h1, h2, hq⟩
  · exact Or.inl h
  · have hb := Below.alloc (Below.refl w.heap.size w) (Nat.le_refl _) o
    exact Or.inr ⟨q, h, by rw [hb.cell (p := ⟨q, 0, none⟩) hq]; exact h0, by rw [hb.cell (p := ⟨q, 1, none⟩) hq]; exact h1, by rw [hb.cell (p := ⟨q, 2, none⟩) hq]; exact h2, Nat.lt_of_lt_of_le hq hb.size⟩

set_option maxHeartbeats 400000 in
theorem there_no (v : Value) (w : World) (h : NoL v w) : Calls Try.prog 24 #[v] w fun e w' => e = .returned (.bool false) ∧ w = w' := by
  rcases h with rfl | ⟨q, rfl, _, _, h2, _⟩
  · exact there_nil w
  · go_enter Try.func24, Try.ntmps24
    go_wp2
    go_ret
    exact ⟨rfl, rfl⟩

set_option maxHeartbeats 400000 in
theorem next_no (v : Value) (w : World) (h : NoL v w) : Calls Try.prog 11 #[v] w fun e w' => e = .returned (.tuple #[.int .i64 0, .int .i64 2]) ∧ w = w' := by
  have H := Lib.hid h
  clear h
  go_enter Try.func11, Try.ntmps11
  go_wp2_with (go_at_call 24; refine (there_no _ _ H.out).mono ?_; rintro e w1 ⟨rfl, rfl⟩)
  go_ret2
  exact ⟨rfl, rfl⟩

set_option maxHeartbeats 400000 in
theorem turn_no (v r d : Value) (i : Int) (w : World) (h : NoL v w) : Calls Try.prog 27 #[v, .int .i64 i, r, d] w fun e w' => e = .returned (.int .i64 2) ∧ w = w' := by
  have H := Lib.hid h
  clear h
  go_enter Try.func27, Try.ntmps27
  go_wp2_with (go_at_call 24; refine (there_no _ _ H.out).mono ?_; rintro e w1 ⟨rfl, rfl⟩)
  go_ret
  exact ⟨rfl, rfl⟩

set_option maxHeartbeats 400000 in
theorem raise_no (v : Value) (i : Int) (w : World) (h : NoL v w) : Calls Try.prog 12 #[v, .int .i64 i] w fun e w' => e = .returned (.int .i64 2) ∧ Below w.heap.size w w' := by
  have h1 := h.alloc (.cells #[v] 22)
  have hB := cell_box w v 22
  have hmf : ∀ (fn : Fn) (first cap : Array Value) (w : World), (Instr.makeFunc fn first cap).run Try.prog w = .ok (.func fn first cap) w := fun _ _ _ _ => rfl
  rcases h with rfl | ⟨q, rfl, _, _, _, _⟩
  all_goals
    have H := Lib.hid h1
    clear h1
    go_enter Try.func12, Try.ntmps12
    go_wp2_with (go_at_call 27; refine (turn_no _ _ _ _ _ H.out).mono ?_; rintro e w1 ⟨rfl, rfl⟩)
    go_ret
    exact ⟨rfl, (Below.refl _ _).alloc (Nat.le_refl _) _⟩

set_option maxHeartbeats 400000 in
theorem mask_no (v : Value) (i : Int) (on : Bool) (w : World) (h : NoL v w) : Calls Try.prog 13 #[v, .int .i64 i, .bool on] w fun e w' => e = .returned (.int .i64 2) ∧ Below w.heap.size w w' := by
  have h1 := h.alloc (.cells #[v] 22)
  have hB := cell_box w v 22
  have hmf : ∀ (fn : Fn) (first cap : Array Value) (w : World), (Instr.makeFunc fn first cap).run Try.prog w = .ok (.func fn first cap) w := fun _ _ _ _ => rfl
  rcases h with rfl | ⟨q, rfl, _, _, _, _⟩
  all_goals cases on
  all_goals
    have H := Lib.hid h1
    clear h1
    go_enter Try.func13, Try.ntmps13
    go_wp2_with (go_at_call 27; refine (turn_no _ _ _ _ _ H.out).mono ?_; rintro e w1 ⟨rfl, rfl⟩)
    go_ret
    exact ⟨rfl, (Below.refl _ _).alloc (Nat.le_refl _) _⟩

set_option maxHeartbeats 400000 in
theorem calls_no (v : Value) (w : World) (h : NoL v w) : Calls Try.prog 14 #[v] w fun e w' => e = .returned (.int .u8 0) ∧ w = w' := by
  rcases h with rfl | ⟨q, rfl, h0, _, _, _⟩
  all_goals
    go_enter Try.func14, Try.ntmps14
    go_wp2
    go_ret
    exact ⟨rfl, rfl⟩

set_option maxHeartbeats 400000 in
theorem masks_no (v : Value) (w : World) (h : NoL v w) : Calls Try.prog 15 #[v] w fun e w' => e = .returned (.int .u8 0) ∧ w = w' := by
  rcases h with rfl | ⟨q, rfl, _, h1, _, _⟩
  all_goals
    go_enter Try.func15, Try.ntmps15
    go_wp2
    go_ret
    exact ⟨rfl, rfl⟩

theorem cell_of_okw {w0 w : World} (h : Okw w0 w) {p : Addr} {v : Value} (hb : p.block < w0.heap.size) (hc : w0.cell? p = some v) : w.cell? p = some v := by
  rw [Below.cell h hb]; exact hc
/-- What was no lines stays none, while nothing that was there is turned. -/
theorem NoL.okw {v : Value} {w0 w : World} (h : NoL v w0) (g : Okw w0 w) : NoL v w := by
  rcases h with h | ⟨q, h, h0, h1, h2, hq⟩
  · exact Or.inl h
  · exact Or.inr ⟨q, h, cell_of_okw g (p := ⟨q, 0, none⟩) hq h0, cell_of_okw g (p := ⟨q, 1, none⟩) hq h1, cell_of_okw g (p := ⟨q, 2, none⟩) hq h2, Nat.lt_of_lt_of_le hq g.size⟩
theorem cell_new (w : World) (c : Array Value) (T : TypeId) (i : Nat) (v : Value) (h : c[i]? = some v) : (w.alloc (.cells c T)).cell? ⟨w.heap.size, i, none⟩ = some v := by
  have hb := (MapKept.heap_alloc w (.cells c T)).1
  unfold World.cell?
  rw [hb]
  exact h
end Go.Proofs.Ytijclpkfmkbkpaa
