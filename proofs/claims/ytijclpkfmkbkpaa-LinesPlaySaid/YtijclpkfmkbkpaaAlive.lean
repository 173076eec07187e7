/-
  The statements' 'alive' answers yes, and turns nothing that was there; no condition.
-/
import Derived.Test.YtijclpkfmkbkpaaSteps
namespace Go.Proofs.Ytijclpkfmkbkpaa
open Go.RowKit

section
variable {w0 w : World} {p : Nat} {c m : Int}
theorem raise_num (i e c' : Int) (he : erL i = e) (hc : rsC c i = c') (h : St w0 p c m w) : Calls Try.prog 12 #[.pointer (some ⟨p, 0, none⟩), .int .i64 i] w fun en w' => en = .returned (.int .i64 e) ∧ St w0 p c' m w' := by
  have := raise_step i h; rw [he, hc] at this; exact this
theorem mask_num (i e m' : Int) (on : Bool) (he : erL i = e) (hm : mkM m i on = m') (h : St w0 p c m w) : Calls Try.prog 13 #[.pointer (some ⟨p, 0, none⟩), .int .i64 i, .bool on] w fun en w' => en = .returned (.int .i64 e) ∧ St w0 p c m' w' := by
  have := mask_step i on h; rw [he, hm] at this; exact this
theorem next_num (n e c' : Int) (hn : nxL c m = n) (he : nxE c m = e) (hc : nxC c m = c') (h : St w0 p c m w) : Calls Try.prog 11 #[.pointer (some ⟨p, 0, none⟩)] w fun en w' => en = .returned (.tuple #[.int .i64 n, .int .i64 e]) ∧ St w0 p c' m w' := by
  have := next_step h; rw [hn, he, hc] at this; exact this
end

set_option maxRecDepth 100000 in
set_option maxHeartbeats 4000000 in
theorem alive_step (w0 w : World) (h : Okw w0 w) : Calls Try.prog 23 #[] w fun e w' => e = .returned (.bool true) ∧ Okw w0 w' := by
  go_enter Try.func23, Try.ntmps23
  go_wp2_with fail
  refine (new_step h).mono ?_; rintro e w1 ⟨rfl, h1⟩
  go_wp2_with fail
  refine (raise_num 5 0 32 (by decide +kernel) (by decide +kernel) h1).mono ?_; rintro e w2 ⟨rfl, h2⟩
  clear h1
  go_wp2_with fail
  refine (raise_num 2 0 36 (by decide +kernel) (by decide +kernel) h2).mono ?_; rintro e w3 ⟨rfl, h3⟩
  clear h2
  go_wp2_with fail
  refine (raise_num 2 0 36 (by decide +kernel) (by decide +kernel) h3).mono ?_; rintro e w4 ⟨rfl, h4⟩
  clear h3
  go_wp2_with fail
  refine (calls_step h4).mono ?_; rintro e w5 ⟨rfl, rfl⟩
  go_wp2_with fail
  refine (raise_num 8 1 36 (by decide +kernel) (by decide +kernel) h4).mono ?_; rintro e w5 ⟨rfl, h5⟩
  clear h4
  go_wp2_with fail
  refine (mask_num (-1) 1 0 true (by decide +kernel) (by decide +kernel) h5).mono ?_; rintro e w6 ⟨rfl, h6⟩
  clear h5
  go_wp2_with fail
  refine (next_num 2 0 32 (by decide +kernel) (by decide +kernel) (by decide +kernel) h6).mono ?_; rintro e w7 ⟨rfl, h7⟩
  clear h6
  go_wp2_with fail
  refine (next_num 5 0 0 (by decide +kernel) (by decide +kernel) (by decide +kernel) h7).mono ?_; rintro e w8 ⟨rfl, h8⟩
  clear h7
  go_wp2_with fail
  refine (next_num 0 11 0 (by decide +kernel) (by decide +kernel) (by decide +kernel) h8).mono ?_; rintro e w9 ⟨rfl, h9⟩
  clear h8
  go_wp2_with fail
  refine (raise_num 1 0 2 (by decide +kernel) (by decide +kernel) h9).mono ?_; rintro e w10 ⟨rfl, h10⟩
  clear h9
  go_wp2_with fail
  refine (mask_num 1 0 2 true (by decide +kernel) (by decide +kernel) h10).mono ?_; rintro e w11 ⟨rfl, h11⟩
  clear h10
  go_wp2_with fail
  refine (masks_step h11).mono ?_; rintro e w12 ⟨rfl, rfl⟩
  go_wp2_with fail
  refine (next_num 0 11 2 (by decide +kernel) (by decide +kernel) (by decide +kernel) h11).mono ?_; rintro e w12 ⟨rfl, h12⟩
  clear h11
  go_wp2_with fail
  refine (mask_num 1 0 0 false (by decide +kernel) (by decide +kernel) h12).mono ?_; rintro e w13 ⟨rfl, h13⟩
  clear h12
  go_wp2_with fail
  refine (next_num 1 0 0 (by decide +kernel) (by decide +kernel) (by decide +kernel) h13).mono ?_; rintro e w14 ⟨rfl, h14⟩
  clear h13
  go_wp2_with fail
  go_ret
  exact ⟨rfl, h14.ok⟩

/-- 'alive' leaves lines that there are as they are. -/
theorem alive_keep {w0 w : World} {p : Nat} {c m : Int} (h : St w0 p c m w) : Calls Try.prog 23 #[] w fun e w' => e = .returned (.bool true) ∧ St w0 p c m w' :=
  (alive_step w w (Okw.refl w)).mono fun _ _ ⟨he, g⟩ => ⟨he, h.other g⟩

theorem bd_u8 {a : Int} (w : (Lit.int .u8 a).wf = true) : b8 a := by
  have hmin : IntKind.u8.min = 0 := rfl
  have hmax : IntKind.u8.max = 255 := rfl
  simp only [Lit.wf, Bool.and_eq_true, decide_eq_true_eq] at w; unfold b8; omega

/-- Lines stay as they are while other lines, made since too, are turned. -/
theorem St.keep {w0 w w' : World} {p q : Nat} {c m : Int} (h : St w0 p c m w) (g : Only q w w') (hq : w0.heap.size ≤ q) (hne : p ≠ q) : St w0 p c m w' :=
  ⟨h.1.grown g h.1.size (fun k ek => by cases ek; exact hq), h.2.1, by rw [g.block p (Array.getElem?_eq_some_iff.1 h.2.2).1 (fun e => hne (by cases e; rfl))]; exact h.2.2⟩
theorem St.lt {w0 w : World} {p : Nat} {c m : Int} (h : St w0 p c m w) : p < w.heap.size := (Array.getElem?_eq_some_iff.1 h.2.2).1

theorem Okw.next {w0 w w' : World} (h : Okw w0 w) (g : Below w.heap.size w w') : Okw w0 w' := Below.trans h (g.mono h.size)
end Go.Proofs.Ytijclpkfmkbkpaa
