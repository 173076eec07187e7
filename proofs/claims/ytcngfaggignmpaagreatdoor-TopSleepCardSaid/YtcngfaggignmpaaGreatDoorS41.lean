/-
  The top, part 41: Oks, NapLoad, NapHear.
-/
import Derived.Test.YtcngfaggignmpaaGreatDoorS24
import Derived.Test.YtcngfaggignmpaaGreatDoorS26
import Derived.Test.YtcngfaggignmpaaGreatDoorS40

/-
  The instructions that the two images hold may be.
-/
namespace Go.Proofs.YtcngfaggignmpaaGreatDoor
open Go.RowKit

theorem form1 (W : World) : (Instr.index 334 (.agg formArr) (.int .u8 ((1 : Nat) : Int))).run Tryz.prog W = .ok (.agg #[.string ⟨#[115, 101, 116]⟩, .string ⟨#[114, 110]⟩]) W := by kernel_rfl
theorem form2 (W : World) : (Instr.index 334 (.agg formArr) (.int .u8 ((2 : Nat) : Int))).run Tryz.prog W = .ok (.agg #[.string ⟨#[109, 111, 118, 101]⟩, .string ⟨#[114, 114]⟩]) W := by kernel_rfl
theorem form3 (W : World) : (Instr.index 334 (.agg formArr) (.int .u8 ((3 : Nat) : Int))).run Tryz.prog W = .ok (.agg #[.string ⟨#[97, 100, 100]⟩, .string ⟨#[114, 114, 114]⟩]) W := by kernel_rfl
theorem form4 (W : World) : (Instr.index 334 (.agg formArr) (.int .u8 ((4 : Nat) : Int))).run Tryz.prog W = .ok (.agg #[.string ⟨#[115, 117, 98]⟩, .string ⟨#[114, 114, 114]⟩]) W := by kernel_rfl
theorem form16 (W : World) : (Instr.index 334 (.agg formArr) (.int .u8 ((16 : Nat) : Int))).run Tryz.prog W = .ok (.agg #[.string ⟨#[111, 116, 104, 101, 114]⟩, .string ⟨#[114, 114, 115]⟩]) W := by kernel_rfl
theorem form19 (W : World) : (Instr.index 334 (.agg formArr) (.int .u8 ((19 : Nat) : Int))).run Tryz.prog W = .ok (.agg #[.string ⟨#[103, 111]⟩, .string ⟨#[110]⟩]) W := by kernel_rfl
theorem form20 (W : World) : (Instr.index 334 (.agg formArr) (.int .u8 ((20 : Nat) : Int))).run Tryz.prog W = .ok (.agg #[.string ⟨#[116, 101, 108, 108]⟩, .string ⟨#[114]⟩]) W := by kernel_rfl
theorem form21 (W : World) : (Instr.index 334 (.agg formArr) (.int .u8 ((21 : Nat) : Int))).run Tryz.prog W = .ok (.agg #[.string ⟨#[97, 115, 107]⟩, .string ⟨#[119]⟩]) W := by kernel_rfl
theorem form22 (W : World) : (Instr.index 334 (.agg formArr) (.int .u8 ((22 : Nat) : Int))).run Tryz.prog W = .ok (.agg #[.string ⟨#[101, 110, 100]⟩, .string ⟨#[]⟩]) W := by kernel_rfl

theorem sgn (s : ByteArray) (fs : List Nat) (h : (s.size == fs.length && (List.range s.size).all (fun j => fs[j]? == some (s.get! j).toNat && (s.get! j).toNat < 128)) = true) :
    s.size = fs.length ∧ ∀ j (h : j < s.size), fs[j]? = some (s[j]'h).toNat ∧ (s[j]'h).toNat < 128 := by
  simp only [Bool.and_eq_true, beq_iff_eq, List.all_eq_true, List.mem_range, decide_eq_true_eq] at h
  refine ⟨h.1, fun j hj => ?_⟩
  have e : s.get! j = s[j]'hj := by
    simp [ByteArray.get!, getElem!_pos, hj]
    rfl
  have := h.2 j hj
  rw [e] at this
  exact this
theorem okSet (a b c : Nat) (ha : a < 8) (hb : b < 256) (hc : c < 256) : OkI ⟨1, a, b, c⟩ := by
  obtain ⟨h1, h2⟩ := sgn ⟨#[114, 110]⟩ [114, 110] (by decide)
  refine ⟨_, _, [114, 110], Nat.le_of_ble_eq_true rfl, ⟨by show a < 256; omega, hb, hc⟩, form1, h1, by decide, h2, ?_⟩
  simp [OkB, Sign, kb, klo, khi, valB]
  omega
theorem okMove (a b : Nat) (ha : a < 8) (hb : b < 8) : OkI ⟨2, a, b, 0⟩ := by
  obtain ⟨h1, h2⟩ := sgn ⟨#[114, 114]⟩ [114, 114] (by decide)
  refine ⟨_, _, [114, 114], Nat.le_of_ble_eq_true rfl, ⟨by show a < 256; omega, by show b < 256; omega, Nat.le_of_ble_eq_true rfl⟩, form2, h1, by decide, h2, ?_⟩
  simp [OkB, Sign, kb, klo, khi, valB]
  omega
theorem okAdd (a b c : Nat) (ha : a < 8) (hb : b < 8) (hc : c < 8) : OkI ⟨3, a, b, c⟩ := by
  obtain ⟨h1, h2⟩ := sgn ⟨#[114, 114, 114]⟩ [114, 114, 114] (by decide)
  refine ⟨_, _, [114, 114, 114], Nat.le_of_ble_eq_true rfl, ⟨by show a < 256; omega, by show b < 256; omega, by show c < 256; omega⟩, form3, h1, by decide, h2, ?_⟩
  simp [OkB, Sign, kb, klo, khi, valB]
  omega
theorem okSub (a b c : Nat) (ha : a < 8) (hb : b < 8) (hc : c < 8) : OkI ⟨4, a, b, c⟩ := by
  obtain ⟨h1, h2⟩ := sgn ⟨#[114, 114, 114]⟩ [114, 114, 114] (by decide)
  refine ⟨_, _, [114, 114, 114], Nat.le_of_ble_eq_true rfl, ⟨by show a < 256; omega, by show b < 256; omega, by show c < 256; omega⟩, form4, h1, by decide, h2, ?_⟩
  simp [OkB, Sign, kb, klo, khi, valB]
  omega
theorem okOther (a b c : Nat) (ha : a < 8) (hb : b < 8) (hc : c < 256) : OkI ⟨16, a, b, c⟩ := by
  obtain ⟨h1, h2⟩ := sgn ⟨#[114, 114, 115]⟩ [114, 114, 115] (by decide)
  refine ⟨_, _, [114, 114, 115], Nat.le_of_ble_eq_true rfl, ⟨by show a < 256; omega, by show b < 256; omega, hc⟩, form16, h1, by decide, h2, ?_⟩
  simp [OkB, Sign, kb, klo, khi, valB]
  omega
theorem okGo (a b : Nat) (ha : a < 256) (hb : b < 256) : OkI ⟨19, a, b, 0⟩ := by
  obtain ⟨h1, h2⟩ := sgn ⟨#[110]⟩ [110] (by decide)
  refine ⟨_, _, [110], Nat.le_of_ble_eq_true rfl, ⟨ha, hb, Nat.le_of_ble_eq_true rfl⟩, form19, h1, by decide, h2, ?_⟩
  simp [OkB, Sign, kb, klo, khi, valB]
  omega
theorem okTell (a : Nat) (ha : a < 8) : OkI ⟨20, a, 0, 0⟩ := by
  obtain ⟨h1, h2⟩ := sgn ⟨#[114]⟩ [114] (by decide)
  refine ⟨_, _, [114], Nat.le_of_ble_eq_true rfl, ⟨by show a < 256; omega, Nat.le_of_ble_eq_true rfl, Nat.le_of_ble_eq_true rfl⟩, form20, h1, by decide, h2, ?_⟩
  simp [OkB, Sign, kb, klo, khi, valB]
  omega
theorem okAsk (a : Nat) (h0 : 1 ≤ a) (ha : a < 21) : OkI ⟨21, a, 0, 0⟩ := by
  obtain ⟨h1, h2⟩ := sgn ⟨#[119]⟩ [119] (by decide)
  refine ⟨_, _, [119], Nat.le_of_ble_eq_true rfl, ⟨by show a < 256; omega, Nat.le_of_ble_eq_true rfl, Nat.le_of_ble_eq_true rfl⟩, form21, h1, by decide, h2, ?_⟩
  simp [OkB, Sign, kb, klo, khi, valB]
  omega
theorem okEnd : OkI ⟨22, 0, 0, 0⟩ := by
  obtain ⟨h1, h2⟩ := sgn ⟨#[]⟩ [] (by decide)
  refine ⟨_, _, [], Nat.le_of_ble_eq_true rfl, ⟨Nat.le_of_ble_eq_true rfl, Nat.le_of_ble_eq_true rfl, Nat.le_of_ble_eq_true rfl⟩, form22, h1, by decide, h2, ?_⟩
  simp [OkB]
theorem puts_ok (n : Nat) (hn : n < 256) : ∀ x ∈ putsC n, OkI x := by
  intro x hx
  simp [putsC] at hx
  rcases hx with rfl | rfl | rfl | rfl | rfl | rfl | rfl | rfl | rfl | rfl
  · exact okSet 4 0 n (by decide) (by decide) hn
  · exact okSet 5 0 1 (by decide) (by decide) (by decide)
  · exact okAdd 6 6 5 (by decide) (by decide) (by decide)
  · exact okSet 0 1 0 (by decide) (by decide) (by decide)
  · exact okMove 1 6 (by decide) (by decide)
  · exact okSet 3 0 0 (by decide) (by decide) (by decide)
  · exact okSub 3 3 5 (by decide) (by decide) (by decide)
  · exact okAsk 7 (by decide) (by decide)
  · exact okOther 6 4 249 (by decide) (by decide) (by decide)
  · exact okEnd
theorem gets_ok (n : Nat) (hn : n < 256) : ∀ x ∈ getsC n, OkI x := by
  intro x hx
  simp [getsC] at hx
  rcases hx with rfl | rfl | rfl | rfl | rfl | rfl | rfl | rfl | rfl | rfl
  · exact okSet 4 0 n (by decide) (by decide) hn
  · exact okSet 5 0 1 (by decide) (by decide) (by decide)
  · exact okAdd 6 6 5 (by decide) (by decide) (by decide)
  · exact okSet 0 1 0 (by decide) (by decide) (by decide)
  · exact okSet 3 0 0 (by decide) (by decide) (by decide)
  · exact okSub 3 3 5 (by decide) (by decide) (by decide)
  · exact okAsk 9 (by decide) (by decide)
  · exact okTell 1 (by decide)
  · exact okOther 6 4 249 (by decide) (by decide) (by decide)
  · exact okGo 0 9 (by decide) (by decide)
end Go.Proofs.YtcngfaggignmpaaGreatDoor

/-
  A board with a row, and so many tasks that sleep; none has run yet.
-/
namespace Go.Proofs.YtcngfaggignmpaaGreatDoor
open Go.RowKit

theorem nap_ok (d i : Nat) (hd : d < 256) (hi : i < 256) : ∀ x ∈ napC d i, OkI x := by
  intro x hx
  simp [napC] at hx
  rcases hx with rfl | rfl | rfl | rfl | rfl | rfl
  · exact okSet 3 0 d (by decide) (by decide) hd
  · exact okAsk 2 (by decide) (by decide)
  · exact okSet 0 1 0 (by decide) (by decide) (by decide)
  · exact okSet 1 0 i (by decide) (by decide) hi
  · exact okAsk 7 (by decide) (by decide)
  · exact okEnd
theorem nap_quiet (d i : Nat) : ∀ x ∈ napC d i, x.op ≠ 20 := by
  intro x hx
  simp [napC] at hx
  rcases hx with rfl | rfl | rfl | rfl | rfl | rfl <;> simp

section
variable {R : Nat → Nat} {f : Nat → Int} {m : KM} {i r : Nat}
/-- A new task: the kernel's numbers fit. -/
theorem NI.made (h : NI R f [] m) (hi : i < 16) (hn : m.tk i = none) (hr : r = R i) (hlow : r < 32) :
    NI R f [] (m.task i r) ∧ (∀ j, (m.task i r).tk j = if j = i then some (tm0 r) else m.tk j) ∧ (m.task i r).row = m.row ∧ (m.task i r).most = m.most ∧ (∀ j, j ≠ i → (m.task i r).age j = m.age j ∧ (m.task i r).used j = m.used j) ∧ (m.task i r).used i = true := by
  obtain ⟨X, hX⟩ : ∃ X, X = (m.aged i).setT i (tm0 r) := ⟨_, rfl⟩
  have e : m.task i r = X.joins i (tm0 r) := by rw [hX]; rfl
  have xc : Cons X := by rw [hX]; exact h.cons
  have xtk : ∀ j, X.tk j = if j = i then some (tm0 r) else m.tk j := fun j => by
    rw [hX]
    by_cases ej : j = i
    · subst ej; rw [if_pos rfl]; exact upd_at _ _ _
    · rw [if_neg ej]; exact upd_ne _ _ ej
  have xrk : X.rk = m.rk := by rw [hX]; rfl
  have xwl : X.wl = m.wl := by rw [hX]; rfl
  have xsl : X.sl = m.sl := by rw [hX]; rfl
  have xrow : X.row = m.row := by rw [hX]; rfl
  have xmost : X.most = m.most := by rw [hX]; rfl
  have xslice : X.slice = m.slice := by rw [hX]; rfl
  have xage : X.age = upd m.age i 1 := by rw [hX]; rfl
  have xused : X.used = upd m.used i true := by rw [hX]; rfl
  clear hX
  obtain ⟨r1, r2, r3, r4, r5, r6, r7⟩ := joins_rest X i (tm0 r)
  have htk : ∀ j, (X.joins i (tm0 r)).tk j = if j = i then some (tm0 r) else m.tk j := fun j => by
    rw [joins_tk]
    by_cases ej : j = i
    · rw [if_pos ej, if_pos ej]; rfl
    · rw [if_neg ej, if_neg ej, xtk, if_neg ej]
  have hsl : (X.joins i (tm0 r)).sl = m.sl := by rw [r2, xsl]
  rw [e]
  refine ⟨⟨joins_cons xc hi hlow, by rw [r1, xwl]; exact h.wl, by rw [r5, xslice]; exact h.slice, fun j t ht => ?_, fun j t ht => ?_, fun j hj => ?_, by rw [hsl]; exact h.sl, by rw [hsl]; exact h.nod, fun j => ?_, fun j t ht hw => ?_, by rw [hsl]; exact h.pos, fun j t ht hw => ?_⟩, htk, by rw [r3, xrow], by rw [r4, xmost], fun j ej => ?_, ?_⟩
  · rw [htk] at ht
    rw [r6, r7, xage, xused]
    by_cases ej : j = i
    · subst ej; exact ⟨hi, upd_at _ _ _, upd_at _ _ _⟩
    · rw [if_neg ej] at ht
      rw [upd_ne _ _ ej, upd_ne _ _ ej]
      exact h.place j t ht
  · rw [htk] at ht
    by_cases ej : j = i
    · subst ej
      rw [if_pos rfl] at ht
      cases ht
      exact ⟨hr, by omega, rfl, by show (0 : Int) ≤ 0 ∧ (0 : Int) < 16; omega⟩
    · rw [if_neg ej] at ht
      exact h.task j t ht
  · rw [joins_rk, htk, xrk]
    by_cases ej : j = i
    · subst ej
      rw [if_pos rfl, if_pos rfl, ← hr]
      rfl
    · rw [if_neg ej, if_neg ej]; exact h.rk j hj
  · rw [hsl, htk, h.mem j]
    by_cases ej : j = i
    · subst ej
      rw [if_pos rfl, hn]
      constructor
      · rintro ⟨t, ht, _⟩; cases ht
      · rintro ⟨t, ht, hw⟩; cases ht; cases hw
    · rw [if_neg ej]
  · rw [htk] at ht
    by_cases ej : j = i
    · subst ej
      rw [if_pos rfl] at ht
      cases ht
      cases hw
    · rw [if_neg ej] at ht
      exact h.left j t ht hw
  · rw [htk] at ht
    by_cases ej : j = i
    · subst ej
      rw [if_pos rfl] at ht
      cases ht
      rfl
    · rw [if_neg ej] at ht
      exact h.rest j t ht hw
  · rw [r6, r7, xage, xused, upd_ne _ _ ej, upd_ne _ _ ej]
    exact ⟨rfl, rfl⟩
  · rw [r7, xused]
    exact upd_at _ _ _
theorem ni0 (s : Int) (most : Nat) (h1 : 1 ≤ s) (h2 : s ≤ 100) : NI R f [] (km0 s most) :=
  ⟨⟨fun r x _ hx => (by cases hx), fun r _ => List.nodup_nil, fun j _ => .inl rfl⟩, rfl, ⟨h1, h2⟩, fun i t ht => (by cases ht), fun i t ht => (by cases ht), fun i _ => rfl, trivial, List.nodup_nil, fun i => ⟨fun h => (by cases h), fun ⟨t, ht, _⟩ => (by cases ht)⟩, fun i t ht => (by cases ht), fun i h => (by cases h), fun i t ht => (by cases ht)⟩
end

/-- So many tasks are loaded; none has run. -/
structure LI (B T U : Nat) (R D : Nat → Nat) (k : Nat) (tb bx : Nat → Nat) (gs : Nat → CG) (m : KM) (sv : Nat → Value) (cs : Nat → CM) (an : Nat → Int) (os : List (Nat × Nat)) (clk : Nat) (w : World) : Prop where
  st : BS B T U tb bx gs m sv cs an os clk w
  ni : NI R (fun i => (D i : Int) - ((0 : Nat) : Int)) [] m
  most : m.most = 64
  row : m.row = []
  tk : ∀ j, m.tk j = if j < k then some (tm0 (R j)) else none
  free : ∀ j, k ≤ j → m.age j = 0 ∧ m.used j = false
  used : ∀ j, j < k → m.used j = true
  core : ∀ j, j < k → cs j = cm0 ∧ an j = 0 ∧ sv j = .slice none 0 0 ∧ (gs j).code = napC (D j) j
  live : ∀ j, Live os j ↔ j < k
def LS (B T U : Nat) (R D : Nat → Nat) (k : Nat) (w : World) : Prop := ∃ tb bx gs m sv cs an os clk, LI B T U R D k tb bx gs m sv cs an os clk w

section
variable {B T U k L : Nat} {R D : Nat → Nat} {tb bx : Nat → Nat} {gs : Nat → CG} {m : KM} {sv : Nat → Value} {cs : Nat → CM} {an : Nat → Int} {os : List (Nat × Nat)} {clk : Nat} {w w' : World}
theorem LS.no (h : LS B T U R D k w) (g : Ch No w w') : LS B T U R D k w' := by
  obtain ⟨tb, bx, gs, m, sv, cs, an, os, clk, h⟩ := h
  exact ⟨tb, bx, gs, m, sv, cs, an, os, clk, h.st.no g, h.ni, h.most, h.row, h.tk, h.free, h.used, h.core, h.live⟩
theorem LS.first {s : Int} (hs1 : 1 ≤ s) (hs2 : s ≤ 100) (h : BS B T U tb bx gs (km0 s 64) sv cs an [] 0 w) : LS B T U R D 0 w :=
  ⟨tb, bx, gs, _, sv, cs, an, [], 0, h, ni0 s 64 hs1 hs2, rfl, rfl, fun j => by rw [if_neg (by omega)]; rfl, fun j _ => ⟨rfl, rfl⟩, fun j hj => absurd hj (by omega), fun j hj => absurd hj (by omega), fun j => ⟨fun ⟨s, hs⟩ => (by cases hs), fun hj => absurd hj (by omega)⟩⟩
/-- One more is loaded. -/
theorem LS.load {b cap : Nat} (h : LS B T U R D k w) (hk : k < 16) (hR : R k < 32) (hD : D k ≤ 255) (hcode : Code49 b (napC (D k) k) w) :
    Calls Tryz.prog 10 #[.pointer (some ⟨B + 74, 0, none⟩), imV b 6 cap, .int .i64 (R k : Int)] w fun e w' => e = .returned (.tuple #[.int .u32 (256 + k), .int .i64 0]) ∧ LS B T U R D (k + 1) w' ∧ Ch (fun z => B ≤ z) w w' := by
  obtain ⟨tb, bx, gs, m, sv, cs, an, os, clk, h⟩ := h
  have hn : m.tk k = none := by rw [h.tk, if_neg (by omega)]
  obtain ⟨n1, tk1, rw1, mo1, au1, us1⟩ := h.ni.made hk hn rfl hR
  have hnl : ¬ Live os k := fun hl => by have := (h.live k).1 hl; omega
  refine (load_any (i := k) (r := R k) (b := b) (cap := cap) (l := napC (D k) k) h.st h.ni.cons hk hn (h.free k (Nat.le_refl _)).1 (h.free k (Nat.le_refl _)).2 h.used hR n1.calm hnl (Nat.le_of_ble_eq_true rfl) (Nat.le_of_ble_eq_true rfl) hcode (nap_ok (D k) k (by omega) (by omega))).mono ?_
  rintro e w' ⟨nb, b0, g0, rfl, hg0, hst, hch⟩
  refine ⟨rfl, ⟨_, _, _, _, _, _, _, _, _, hst, n1, mo1.trans h.most, rw1.trans h.row, fun j => ?_, fun j hj => ?_, fun j hj => ?_, fun j hj => ?_, fun j => ?_⟩, hch⟩
  · rw [tk1]
    by_cases e : j = k
    · subst e; rw [if_pos rfl, if_pos (by omega)]
    · rw [if_neg e, h.tk]
      by_cases e2 : j < k
      · rw [if_pos e2, if_pos (by omega)]
      · rw [if_neg e2, if_neg (by omega)]
  · obtain ⟨a1, a2⟩ := au1 j (by omega)
    rw [a1, a2]
    exact h.free j (by omega)
  · by_cases e : j = k
    · subst e; exact us1
    · rw [(au1 j e).2]; exact h.used j (by omega)
  · by_cases e : j = k
    · subst e; rw [upd_at, upd_at, upd_at, upd_at]; exact ⟨rfl, rfl, rfl, hg0⟩
    · rw [upd_ne _ _ e, upd_ne _ _ e, upd_ne _ _ e, upd_ne _ _ e]; exact h.core j (by omega)
  · constructor
    · rintro ⟨s, hs⟩
      rw [List.mem_append] at hs
      rcases hs with hs | hs
      · have := (h.live j).1 ⟨s, hs⟩; omega
      · simp at hs; omega
    · intro hj
      by_cases e : j = k
      · subst e; exact ⟨clk, by simp⟩
      · obtain ⟨s, hs⟩ := (h.live j).2 (by omega)
        exact ⟨s, List.mem_append_left _ hs⟩
/-- All are loaded. -/
theorem LS.start (h : LS B T U R D L w) (hL : L ≤ 12) (hD : ∀ i, i < L → D i ≤ 255) : ∃ tb bx gs, RW B T U tb bx gs 16 (napCodes D) (NP L R D 0) 72 w := by
  obtain ⟨tb, bx, gs, m, sv, cs, an, os, clk, h⟩ := h
  have tks : ∀ i t, m.tk i = some t → i < L ∧ t = tm0 (R i) := fun i t ht => by
    rw [h.tk] at ht
    by_cases e : i < L
    · rw [if_pos e] at ht; cases ht; exact ⟨e, rfl⟩
    · rw [if_neg e] at ht; cases ht
  refine ⟨tb, bx, gs, m, sv, cs, an, os, clk, RI.untold ⟨h.st, ⟨[], fun _ => 6, ⟨h.ni, h.most, ⟨hL, hD⟩, fun i hi => by rw [h.tk, if_neg (by omega)], fun i hi => ?_, by rw [h.row]; rfl, List.nodup_nil, fun i => ⟨fun hx => (by cases hx), fun ⟨hi, hs⟩ => ?_⟩, List.Pairwise.nil, .inl rfl⟩, ?_⟩, fun i t ht => ?_, fun i hi => ?_, fun i _ hl => ?_, fun i hl => ?_, fun i _ x hx => nap_quiet _ _ x hx⟩⟩
  · rw [h.tk, if_pos hi, (h.core i hi).1]
    exact .p0 rfl rfl rfl rfl rfl
  · rw [h.tk, if_pos hi, (h.core i hi).1] at hs
    have : (0 : Int) = 5 := hs
    omega
  · have := sumTo_le (f := fun _ => 6) (b := 6) L (fun _ _ => Nat.le_refl _)
    omega
  · obtain ⟨hi, rfl⟩ := tks i t ht
    exact ⟨(h.core i hi).2.1, by omega, (h.live i).2 hi⟩
  · rw [h.tk, if_pos ((h.live i).1 hi)]; rfl
  · rw [(h.core i ((h.live i).1 hl)).2.2.1]; rfl
  · exact (h.core i ((h.live i).1 hl)).2.2.2
end
end Go.Proofs.YtcngfaggignmpaaGreatDoor

/-
  Who was heard: a row of truth values; the board beside it; the end of all.
-/
namespace Go.Proofs.YtcngfaggignmpaaGreatDoor
open Go.RowKit

theorem info4 : (Tryz.prog.info? 4).map (fun i => (i.zero, i.size, i.bytes)) = some (some (.bool false), 1, 1) := by kernel_rfl
theorem mkBool (L : Nat) (hL : L ≤ 12) : ∃ Z : Array Value, Z.size = L ∧ (∀ j, j < L → Z[j]? = some (.bool false)) ∧
    ∀ w : World, (Instr.makeSlice 55 (.int .i64 (L : Int)) (.int .i64 (L : Int))).run Tryz.prog w = .ok (.slice (some ⟨w.heap.size, 0, none⟩) L L) (w.alloc (.cells Z 4)) := by
  obtain ⟨i0, hi, hz0, hz1, hz2⟩ := info_parts info4
  refine ⟨madeCells (Value.bool false).cells (L * 1), by simp [madeCells], fun j hj => ?_, fun w => ?_⟩
  · have hj' : j < L * 1 := by omega
    simp [madeCells, hj, Value.cells, Nat.mod_one]
  · have := run_make (P := Tryz.prog) w 55 4 i0 (.bool false) Tryz.underlying55 hi hz0 .i64 .i64 L L (by omega) (by omega) (by rw [hz2]; omega) (by omega)
    rw [hz1] at this
    exact this

/-- Of each one whether it was heard. -/
def Hd (hb L : Nat) (p : Nat → Bool) (w : World) : Prop := ∃ cs, Row hb 4 cs w ∧ cs.size = L ∧ ∀ j, j < L → cs[j]? = some (.bool (p j))
section
variable {hb L : Nat} {p q : Nat → Bool} {w w' : World} {S : Nat → Prop}
theorem Hd.keeps (h : Hd hb L p w) (g : Ch S w w') (hn : ¬ S hb) : Hd hb L p w' := by
  obtain ⟨cs, r, hs, hc⟩ := h
  exact ⟨cs, r.keeps g hn, hs, hc⟩
theorem Hd.congr (h : Hd hb L p w) (e : ∀ j, j < L → p j = q j) : Hd hb L q w := by
  obtain ⟨cs, r, hs, hc⟩ := h
  exact ⟨cs, r, hs, fun j hj => by rw [hc j hj, e j hj]⟩
theorem Hd.cell (h : Hd hb L p w) {j : Nat} (hj : j < L) : w.cell? ⟨hb, j, none⟩ = some (.bool (p j)) := by
  obtain ⟨cs, r, hs, hc⟩ := h
  exact r.cell (hc j hj)
theorem Hd.free (h : Hd hb L p w) (j : Nat) : w.frozen? ⟨hb, j, none⟩ = false := by
  obtain ⟨cs, r, hs, hc⟩ := h
  exact r.free j
theorem Hd.set (h : Hd hb L p w) {i : Nat} (hi : i < L) : Hd hb L (fun j => p j || j == i) (w.setCell ⟨hb, i, none⟩ (.bool true)) := by
  obtain ⟨cs, r, hs, hc⟩ := h
  refine ⟨_, r.set i (.bool true), by rw [Array.size_setIfInBounds]; exact hs, fun j hj => ?_⟩
  rw [Array.getElem?_setIfInBounds]
  by_cases e : i = j
  · subst e
    rw [if_pos rfl, if_pos (by omega)]
    simp
  · rw [if_neg e, hc j hj]
    have : (j == i) = false := by rw [beq_eq_false_iff_ne]; exact fun x => e x.symm
    simp [this]
theorem Hd.row (h : Hd hb L p w) : ∃ cs, Row hb 4 cs w := by obtain ⟨cs, r, _⟩ := h; exact ⟨cs, r⟩
end

section
variable {B T' U : Nat} {tb bx : Nat → Nat} {gs : Nat → CG} {tp : Nat} {code : Nat → List IN} {P : KM → (Nat → CM) → Nat → Prop} {L : Nat} {R D : Nat → Nat} {T u : Nat} {m : KM} {sv : Nat → Value} {cs : Nat → CM} {an : Nat → Int} {os : List (Nat × Nat)} {clk : Nat} {w w' : World} {hb : Nat} {c4 : Array Value}
theorem BS.beside (h : BS B T' U tb bx gs m sv cs an os clk w) (hh : U + 3 ≤ hb) (r : Row hb 4 c4 w) (g : Ch (fun k => k = hb) w w') : BS B T' U tb bx gs m sv cs an os clk w' := by
  have l1 := h.kern.lay1
  have l2 := h.kern.lay2
  refine ⟨h.board.keeps g (fun e => by omega), h.kern.keeps g (fun k e => by rw [e]; exact hh) (fun k cur ty e r' => ?_), g.keeps h.map (fun (e : B + 73 = hb) => by omega), h.one, h.two, h.low, fun i hi => (h.core i hi).apart g (fun k ty cur hk r' ht e => ?_), h.sep⟩
  · subst e
    have := r'.ty r
    subst this
    decide
  · subst e
    have := r'.ty r
    subst this
    rcases ht with e | e | e | e <;> exact absurd e (by decide)
theorem RS.beside (h : RS B T' U tb bx gs tp code P u w) (hh : U + 3 ≤ hb) (r : Row hb 4 c4 w) (g : Ch (fun k => k = hb) w w') : RS B T' U tb bx gs tp code P u w' := by
  obtain ⟨m, sv, cs, an, os, clk, h⟩ := h
  exact ⟨m, sv, cs, an, os, clk, h.st.beside hh r g, h.p, h.tan, h.live, h.own, h.cod, h.tell⟩
theorem RW.no (h : RW B T' U tb bx gs tp code P u w) (g : Ch No w w') : RW B T' U tb bx gs tp code P u w' := by
  obtain ⟨m, sv, cs, an, os, clk, h⟩ := h
  exact ⟨m, sv, cs, an, os, clk, h.st.no g, h.p, h.tan, h.live, h.own, h.cod, h.tell⟩
theorem NB.over {rows : List Nat} {κ : Nat → Nat} (h : NB L R D T m cs rows κ) (hT : 256 ≤ T) : ∀ i, m.tk i = none := fun i => by
  rcases Nat.lt_or_ge i L with hi | hi
  · cases e : m.tk i with
    | none => rfl
    | some t =>
      exfalso
      obtain ⟨k0, hk0⟩ : ∃ k0, k0 = κ i := ⟨_, rfl⟩
      have hp : Ph (D i) i T (cs i) t k0 := by have := h.ph i hi; rw [e] at this; rw [hk0]; exact this
      have hd := h.rng.2 i hi
      cases hp <;> omega
  · exact h.only i hi
theorem NB.all {rows : List Nat} {κ : Nat → Nat} (h : NB L R D T m cs rows κ) (hT : 256 ≤ T) : rows.length = L := by
  have hm : ∀ i, i ∈ rows ↔ i ∈ List.range L := fun i => by
    rw [List.mem_range, h.memr i, h.over hT i]
    exact ⟨fun x => x.1, fun x => ⟨x, trivial⟩⟩
  have := (List.perm_ext_iff_of_nodup h.nodr List.nodup_range).2 hm
  rw [this.length_eq, List.length_range]
/-- The end: nobody is there, and all was said. -/
theorem thingsRW (h : RW B T' U tb bx gs tp code (NP L R D T) u w) (hT : 256 ≤ T) :
    Calls Tryz.prog 13 #[.pointer (some ⟨B + 69, 0, none⟩)] w fun e w' => ∃ (g : Nat) (a : Option Addr) (cap : Nat), e = .returned (.slice (some ⟨g, 0, none⟩) 1 1) ∧ w.heap.size ≤ g ∧ (∃ cs, Row g 62 cs w' ∧ cs[6]? = some (.slice a L cap)) ∧ RW B T' U tb bx gs tp code (NP L R D T) u w' ∧ Ch No w w' := by
  obtain ⟨m, sv, cs, an, os, clk, h⟩ := h
  obtain ⟨rows, κ, hb, hu⟩ := h.p
  refine (things_any h.st.kern hb.ni.wl).mono ?_
  rintro e w' ⟨g, v, rfl, hg, hrow, hv, hch⟩
  obtain ⟨a, cap, rfl⟩ := hv.slice
  rw [hb.row, List.length_map, hb.all hT] at hrow
  exact ⟨g, a, cap, rfl, hg, hrow, RW.no ⟨m, sv, cs, an, os, clk, h⟩ hch, hch⟩
theorem tasksRW (h : RW B T' U tb bx gs tp code (NP L R D T) u w) (hT : 256 ≤ T) :
    Calls Tryz.prog 15 #[.pointer (some ⟨B + 69, 0, none⟩)] w fun e w' => ∃ (a : Option Addr), e = .returned (.slice a 0 0) ∧ Ch No w w' := by
  obtain ⟨m, sv, cs, an, os, clk, h⟩ := h
  obtain ⟨rows, κ, hb, hu⟩ := h.p
  refine (tasks_any h.st.kern).mono ?_
  rintro e w' ⟨v, rfl, ⟨a, rfl, _⟩, hch⟩
  have e0 : tl m 16 = [] := by
    unfold tl
    rw [List.filterMap_eq_nil_iff]
    intro i _
    rw [hb.over hT i]
    rfl
  rw [e0]
  exact ⟨a, rfl, hch⟩
end
end Go.Proofs.YtcngfaggignmpaaGreatDoor
