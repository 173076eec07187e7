/-
  The top, part 41: Forever, AskIn, Oks.
-/
import Derived.Test.YtcngfaggignmpaaGreatDoorG31
import Derived.Test.YtcngfaggignmpaaGreatDoorG32
import Derived.Test.YtcngfaggignmpaaGreatDoorG36

/-
  The top: two instructions more.
-/
namespace Go.Proofs.YtcngfaggignmpaaGreatDoor
open Go.RowKit

theorem flat_append : ∀ (l m : List IN), flat (l ++ m) = flat l ++ flat m
  | [], _ => rfl
  | x :: l, m => by
    show inCells x ++ flat (l ++ m) = (inCells x ++ flat l) ++ flat m
    rw [flat_append l m, List.append_assoc]
set_option maxHeartbeats 2000000 in
theorem forever_any (w : World) (base : Nat) (v : Value) (l : List IN) (hl : l.length < 1000) (hb : base ≤ w.heap.size) (h : w.ownsRow base 49 4 v l.length (flat l)) :
    Calls Tryz.prog 40 #[v] w fun e w' => ∃ v', e = .returned v' ∧ w'.ownsRow base 49 4 v' (l.length + 2) (flat (l ++ [⟨1, 3, 0, 0⟩, ⟨4, 3, 3, 5⟩])) ∧ Ch (fun k => v.ownBlock = some k) w w' := by
  obtain ⟨i0, hi, hz0, hz1, hz2⟩ := info_parts info49
  have hsz : Hid (base ≤ (w.alloc (.cells #[.int .u8 1, .int .u8 3, .int .u8 0, .int .u8 0, .int .u8 4, .int .u8 3, .int .u8 3, .int .u8 5] 49)).heap.size) := Lib.hid (Nat.le_trans hb (Ch.alloc (S := No) w _).size)
  have H := Lib.hid h
  clear h
  go_enter Tryz.func40, Tryz.ntmps40
  go_wp2_with (first
    | (at_builtin; refine wpList_append_own _ rfl _ _ 52 rfl base 49 i0 (.agg #[.int .u8 0, .int .u8 0, .int .u8 0, .int .u8 0]) 4 4 Tryz.underlying52 hi hz0 hz1 hz2 rfl (by decide) v l.length (flat l) rfl (World.ownsRow.alloc (w := w) H.out _) ⟨w.heap.size, 0, none⟩ 2 2 (flat [⟨1, 3, 0, 0⟩, ⟨4, 3, 3, 5⟩]) rfl rfl ?c1 ?c2 ?c3 ?c4 ?c5 ?_))
  case c1 =>
    intro j u hj
    have hr : Row w.heap.size 49 #[.int .u8 1, .int .u8 3, .int .u8 0, .int .u8 0, .int .u8 4, .int .u8 3, .int .u8 3, .int .u8 5] (w.alloc (.cells #[.int .u8 1, .int .u8 3, .int .u8 0, .int .u8 0, .int .u8 4, .int .u8 3, .int .u8 3, .int .u8 5] 49)) := Row.new w 49 _
    have hj8 : j < 8 := (List.getElem?_eq_some_iff.1 hj).1
    match j, hj8 with
    | 0, _ => cases hj; exact hr.cell (j := 0) rfl
    | 1, _ => cases hj; exact hr.cell (j := 1) rfl
    | 2, _ => cases hj; exact hr.cell (j := 2) rfl
    | 3, _ => cases hj; exact hr.cell (j := 3) rfl
    | 4, _ => cases hj; exact hr.cell (j := 4) rfl
    | 5, _ => cases hj; exact hr.cell (j := 5) rfl
    | 6, _ => cases hj; exact hr.cell (j := 6) rfl
    | 7, _ => cases hj; exact hr.cell (j := 7) rfl
  case c2 => exact flat_one _
  case c3 => unfold maxLen; omega
  case c4 => omega
  case c5 => exact hsz.out
  · intro v' w2 hown hgrow _
    go_wp2
    go_ret
    refine ⟨v', rfl, by rw [flat_append]; exact hown, ((Ch.alloc w _).mono (fun _ _ s => (s : False).elim)).trans (Ch.ofGrown hgrow)⟩
end Go.Proofs.YtcngfaggignmpaaGreatDoor

/-
  The top: an instruction that asks.
-/
namespace Go.Proofs.YtcngfaggignmpaaGreatDoor
open Go.RowKit

set_option maxRecDepth 100000 in
set_option maxHeartbeats 1000000 in
theorem askIn_any (a : Nat) (w : World) : Calls Tryz.prog 11 #[.int .u8 a] w fun e w' => e = .returned (inV ⟨21, a, 0, 0⟩) ∧ Ch No w w' := by
  unfold inV
  go_enter Tryz.func11, Tryz.ntmps11
  go_wp2_with fail
  refine bodyPost_ret (v := .agg #[.int .u8 21, .int .u8 a, .int .u8 0, .int .u8 0]) ?_ rfl ⟨rfl, Ch.alloc w _⟩
  simp [results, Tryz.results11, go_sem]
end Go.Proofs.YtcngfaggignmpaaGreatDoor

/-
  The instructions that the two images hold may be.
-/
namespace Go.Proofs.YtcngfaggignmpaaGreatDoor
open Go.RowKit

theorem form1 (W : World) : (Instr.index 334 (.agg formArr) (.int .u8 ((1 : Nat) : Int))).run Tryz.prog W = .ok (.agg #[.string ⟨#[115, 101, 116]⟩, .string ⟨#[114, 110]⟩]) W := by kernel_rfl
theorem form2 (W : World) : (Instr.index 334 (.agg formArr) (.int .u8 ((2 : Nat) : Int))).run Tryz.prog W = .ok (.agg #[.string ⟨#[109, 111, 118, 101]⟩, .string ⟨#[114, 114]⟩]) W := by kernel_rfl
theorem form3 (W : World) : (Instr.index 334 (.agg formArr) (.int .u8 ((3 : Nat) : Int))).run Tryz.prog W = .ok (.agg #[.string ⟨#[97, 100, 100]⟩, .string ⟨#[114, 114, 114]⟩]) W := by kernel_rfl
theorem form4 (W : World) : (Instr.index 334 (.agg formArr) (.int .u8 ((4 : Nat) : Int))).run Tryz.prog W = .ok (.agg #[.string ⟨#[115, 117, 98]⟩, .string ⟨#[114, 114, 114]⟩]) W := by kernel_rfl
theorem form16 (W : World) : (Instr.index 334 (.agg formArr) (.int .u8 ((16 : Nat) : Int))).run Tryz.prog W = .ok (.agg #[.string ⟨#[111, 116, 104, 101, 114]⟩, .string ⟨#[114, 114, 115]⟩]) W := by kernel_rfl
theorem form19 (W : World) : (Instr.index 334 (.agg formArr) (.int .u8 ((19 : Nat) : Int))).run Tryz.prog W = .ok (.agg #[.string ⟨#[103, 111]⟩, .string ⟨#[110]⟩]) W := by kernel_rfl
theorem form20 (W : World) : (Instr.index 334 (.agg formArr) (.int .u8 ((20 : Nat) : Int))).run Tryz.prog W = .ok (.agg #[.string ⟨#[116, 101, 108, 108]⟩, .string ⟨#[114]⟩]) W := by kernel_rfl
theorem form21 (W : World) : (Instr.index 334 (.agg formArr) (.int .u8 ((21 : Nat) : Int))).run Tryz.prog W = .ok (.agg #[.string ⟨#[97, 115, 107]⟩, .string ⟨#[119]⟩]) W := by kernel_rfl
theorem form22 (W : World) : (Instr.index 334 (.agg formArr) (.int .u8 ((22 : Nat) : Int))).run Tryz.prog W = .ok (.agg #[.string ⟨#[101, 110, 100]⟩, .string ⟨#[]⟩]) W := by kernel_rfl

theorem sgn (s : ByteArray) (fs : List Nat) (h : (s.size == fs.length && (List.range s.size).all (fun j => fs[j]? == some (s.get! j).toNat && (s.get! j).toNat < 128)) = true) :
    s.size = fs.length ∧ ∀ j (h : j < s.size), fs[j]? = some (s[j]'h).toNat ∧ (s[j]'h).toNat < 128 := by
  simp only [Bool.and_eq_true, beq_iff_eq, List.all_eq_true, List.mem_range, decide_eq_true_eq] at h
  refine ⟨h.1, fun j hj => ?_⟩
  have e : s.get! j = s[j]'hj := by
    simp [ByteArray.get!, getElem!_pos, hj]
    rfl
  have := h.2 j hj
  rw [e] at this
  exact this
theorem okSet (a b c : Nat) (ha : a < 8) (hb : b < 256) (hc : c < 256) : OkI ⟨1, a, b, c⟩ := by
  obtain ⟨h1, h2⟩ := sgn ⟨#[114, 110]⟩ [114, 110] (by decide)
  refine ⟨_, _, [114, 110], Nat.le_of_ble_eq_true rfl, ⟨by show a < 256; omega, hb, hc⟩, form1, h1, by decide, h2, ?_⟩
  simp [OkB, Sign, kb, klo, khi, valB]
  omega
theorem okMove (a b : Nat) (ha : a < 8) (hb : b < 8) : OkI ⟨2, a, b, 0⟩ := by
  obtain ⟨h1, h2⟩ := sgn ⟨#[114, 114]⟩ [114, 114] (by decide)
  refine ⟨_, _, [114, 114], Nat.le_of_ble_eq_true rfl, ⟨by show a < 256; omega, by show b < 256; omega, Nat.le_of_ble_eq_true rfl⟩, form2, h1, by decide, h2, ?_⟩
  simp [OkB, Sign, kb, klo, khi, valB]
  omega
theorem okAdd (a b c : Nat) (ha : a < 8) (hb : b < 8) (hc : c < 8) : OkI ⟨3, a, b, c⟩ := by
  obtain ⟨h1, h2⟩ := sgn ⟨#[114, 114, 114]⟩ [114, 114, 114] (by decide)
  refine ⟨_, _, [114, 114, 114], Nat.le_of_ble_eq_true rfl, ⟨by show a < 256; omega, by show b < 256; omega, by show c < 256; omega⟩, form3, h1, by decide, h2, ?_⟩
  simp [OkB, Sign, kb, klo, khi, valB]
  omega
theorem okSub (a b c : Nat) (ha : a < 8) (hb : b < 8) (hc : c < 8) : OkI ⟨4, a, b, c⟩ := by
  obtain ⟨h1, h2⟩ := sgn ⟨#[114, 114, 114]⟩ [114, 114, 114] (by decide)
  refine ⟨_, _, [114, 114, 114], Nat.le_of_ble_eq_true rfl, ⟨by show a < 256; omega, by show b < 256; omega, by show c < 256; omega⟩, form4, h1, by decide, h2, ?_⟩
  simp [OkB, Sign, kb, klo, khi, valB]
  omega
theorem okOther (a b c : Nat) (ha : a < 8) (hb : b < 8) (hc : c < 256) : OkI ⟨16, a, b, c⟩ := by
  obtain ⟨h1, h2⟩ := sgn ⟨#[114, 114, 115]⟩ [114, 114, 115] (by decide)
  refine ⟨_, _, [114, 114, 115], Nat.le_of_ble_eq_true rfl, ⟨by show a < 256; omega, by show b < 256; omega, hc⟩, form16, h1, by decide, h2, ?_⟩
  simp [OkB, Sign, kb, klo, khi, valB]
  omega
theorem okGo (a b : Nat) (ha : a < 256) (hb : b < 256) : OkI ⟨19, a, b, 0⟩ := by
  obtain ⟨h1, h2⟩ := sgn ⟨#[110]⟩ [110] (by decide)
  refine ⟨_, _, [110], Nat.le_of_ble_eq_true rfl, ⟨ha, hb, Nat.le_of_ble_eq_true rfl⟩, form19, h1, by decide, h2, ?_⟩
  simp [OkB, Sign, kb, klo, khi, valB]
  omega
theorem okTell (a : Nat) (ha : a < 8) : OkI ⟨20, a, 0, 0⟩ := by
  obtain ⟨h1, h2⟩ := sgn ⟨#[114]⟩ [114] (by decide)
  refine ⟨_, _, [114], Nat.le_of_ble_eq_true rfl, ⟨by show a < 256; omega, Nat.le_of_ble_eq_true rfl, Nat.le_of_ble_eq_true rfl⟩, form20, h1, by decide, h2, ?_⟩
  simp [OkB, Sign, kb, klo, khi, valB]
  omega
theorem okAsk (a : Nat) (h0 : 1 ≤ a) (ha : a < 21) : OkI ⟨21, a, 0, 0⟩ := by
  obtain ⟨h1, h2⟩ := sgn ⟨#[119]⟩ [119] (by decide)
  refine ⟨_, _, [119], Nat.le_of_ble_eq_true rfl, ⟨by show a < 256; omega, Nat.le_of_ble_eq_true rfl, Nat.le_of_ble_eq_true rfl⟩, form21, h1, by decide, h2, ?_⟩
  simp [OkB, Sign, kb, klo, khi, valB]
  omega
theorem okEnd : OkI ⟨22, 0, 0, 0⟩ := by
  obtain ⟨h1, h2⟩ := sgn ⟨#[]⟩ [] (by decide)
  refine ⟨_, _, [], Nat.le_of_ble_eq_true rfl, ⟨Nat.le_of_ble_eq_true rfl, Nat.le_of_ble_eq_true rfl, Nat.le_of_ble_eq_true rfl⟩, form22, h1, by decide, h2, ?_⟩
  simp [OkB]
theorem puts_ok (n : Nat) (hn : n < 256) : ∀ x ∈ putsC n, OkI x := by
  intro x hx
  simp [putsC] at hx
  rcases hx with rfl | rfl | rfl | rfl | rfl | rfl | rfl | rfl | rfl | rfl
  · exact okSet 4 0 n (by decide) (by decide) hn
  · exact okSet 5 0 1 (by decide) (by decide) (by decide)
  · exact okAdd 6 6 5 (by decide) (by decide) (by decide)
  · exact okSet 0 1 0 (by decide) (by decide) (by decide)
  · exact okMove 1 6 (by decide) (by decide)
  · exact okSet 3 0 0 (by decide) (by decide) (by decide)
  · exact okSub 3 3 5 (by decide) (by decide) (by decide)
  · exact okAsk 7 (by decide) (by decide)
  · exact okOther 6 4 249 (by decide) (by decide) (by decide)
  · exact okEnd
theorem gets_ok (n : Nat) (hn : n < 256) : ∀ x ∈ getsC n, OkI x := by
  intro x hx
  simp [getsC] at hx
  rcases hx with rfl | rfl | rfl | rfl | rfl | rfl | rfl | rfl | rfl | rfl
  · exact okSet 4 0 n (by decide) (by decide) hn
  · exact okSet 5 0 1 (by decide) (by decide) (by decide)
  · exact okAdd 6 6 5 (by decide) (by decide) (by decide)
  · exact okSet 0 1 0 (by decide) (by decide) (by decide)
  · exact okSet 3 0 0 (by decide) (by decide) (by decide)
  · exact okSub 3 3 5 (by decide) (by decide) (by decide)
  · exact okAsk 9 (by decide) (by decide)
  · exact okTell 1 (by decide)
  · exact okOther 6 4 249 (by decide) (by decide) (by decide)
  · exact okGo 0 9 (by decide) (by decide)
end Go.Proofs.YtcngfaggignmpaaGreatDoor
