/-
  The top, part 42: Begin, Find, Forever, AskIn.
-/
import Derived.Test.YtcngfaggignmpaaGreatDoorS23
import Derived.Test.YtcngfaggignmpaaGreatDoorS28
import Derived.Test.YtcngfaggignmpaaGreatDoorS40

/-
  The start: a board with a row and two tasks; a tick of the board.
-/
namespace Go.Proofs.YtcngfaggignmpaaGreatDoor
open Go.RowKit

section
variable {R : Nat → Nat} {m : KM} {i r : Nat}
/-- A new task: the kernel's numbers fit. -/
theorem KI.made (h : KI R m) (hi : i < 16) (hn : m.tk i = none) (hr : r = R i) (hlow : r < 32) :
    KI R (m.task i r) ∧ (∀ j, (m.task i r).tk j = if j = i then some (tm0 r) else m.tk j) ∧ (m.task i r).row = m.row ∧ (m.task i r).most = m.most ∧ (∀ j, j ≠ i → (m.task i r).age j = m.age j ∧ (m.task i r).used j = m.used j) ∧ (m.task i r).used i = true := by
  obtain ⟨X, hX⟩ : ∃ X, X = (m.aged i).setT i (tm0 r) := ⟨_, rfl⟩
  have e : m.task i r = X.joins i (tm0 r) := by rw [hX]; rfl
  have xc : Cons X := by rw [hX]; exact h.cons
  have xtk : ∀ j, X.tk j = if j = i then some (tm0 r) else m.tk j := fun j => by
    rw [hX]
    by_cases ej : j = i
    · subst ej; rw [if_pos rfl]; exact upd_at _ _ _
    · rw [if_neg ej]; exact upd_ne _ _ ej
  have xrk : X.rk = m.rk := by rw [hX]; rfl
  have xwl : X.wl = m.wl := by rw [hX]; rfl
  have xsl : X.sl = m.sl := by rw [hX]; rfl
  have xrow : X.row = m.row := by rw [hX]; rfl
  have xmost : X.most = m.most := by rw [hX]; rfl
  have xslice : X.slice = m.slice := by rw [hX]; rfl
  have xage : X.age = upd m.age i 1 := by rw [hX]; rfl
  have xused : X.used = upd m.used i true := by rw [hX]; rfl
  clear hX
  obtain ⟨r1, r2, r3, r4, r5, r6, r7⟩ := joins_rest X i (tm0 r)
  have htk : ∀ j, (X.joins i (tm0 r)).tk j = if j = i then some (tm0 r) else m.tk j := fun j => by
    rw [joins_tk]
    by_cases ej : j = i
    · rw [if_pos ej, if_pos ej]; rfl
    · rw [if_neg ej, if_neg ej, xtk, if_neg ej]
  rw [e]
  refine ⟨⟨joins_cons xc hi hlow, by rw [r2, xsl]; exact h.sl, by rw [r5, xslice]; exact h.slice, fun j t ht => ?_, fun j t ht => ?_, fun j hj => ?_, fun j t ht hw => ?_, fun j q hq => ?_⟩, htk, by rw [r3, xrow], by rw [r4, xmost], fun j ej => ?_, ?_⟩
  · rw [htk] at ht
    rw [r6, r7, xage, xused]
    by_cases ej : j = i
    · subst ej; exact ⟨hi, upd_at _ _ _, upd_at _ _ _⟩
    · rw [if_neg ej] at ht
      rw [upd_ne _ _ ej, upd_ne _ _ ej]
      exact h.place j t ht
  · rw [htk] at ht
    rw [r5, xslice]
    have hs := h.slice
    by_cases ej : j = i
    · subst ej
      rw [if_pos rfl] at ht
      cases ht
      exact ⟨hr, by omega, rfl, by show (0 : Int) ≤ 0; omega, by show (0 : Int) ≤ 0 ∧ (0 : Int) < m.slice; omega, by show (0 : Int) ≤ 0 ∧ (0 : Int) < 16; omega⟩
    · rw [if_neg ej] at ht
      exact h.task j t ht
  · rw [joins_rk, htk, xrk]
    by_cases ej : j = i
    · subst ej
      rw [if_pos rfl, if_pos rfl, ← hr]
      rfl
    · rw [if_neg ej, if_neg ej]; exact h.rk j hj
  · rw [htk] at ht
    rw [r1, xwl]
    by_cases ej : j = i
    · subst ej
      rw [if_pos rfl] at ht
      cases ht
      cases hw
    · rw [if_neg ej] at ht
      exact h.on j t ht hw
  · rw [r1, xwl] at hq
    obtain ⟨t, ht, hw⟩ := h.wl j q hq
    refine ⟨t, ?_, hw⟩
    rw [htk, if_neg (fun ej => by subst ej; rw [hn] at ht; cases ht)]
    exact ht
  · rw [r6, r7, xage, xused, upd_ne _ _ ej, upd_ne _ _ ej]
    exact ⟨rfl, rfl⟩
  · rw [r7, xused]
    exact upd_at _ _ _
theorem ki0 (s : Int) (most : Nat) (h1 : 1 ≤ s) (h2 : s ≤ 100) : KI R (km0 s most) := by
  exact ⟨⟨fun r x _ hx => (by cases hx), fun r _ => List.nodup_nil, fun j _ => .inl rfl⟩, rfl, ⟨h1, h2⟩, fun i t ht => (by cases ht), fun i t ht => (by cases ht), fun i _ => rfl, fun i t ht => (by cases ht), fun i r e => (by cases e)⟩
end

section
variable {B T U : Nat} {tb bx : Nat → Nat} {gs : Nat → CG} {m : KM} {sv : Nat → Value} {cs : Nat → CM} {an : Nat → Int} {w : World}
/-- No cores yet. -/
theorem BS.first (h : KS B T U tb m w) (hb : BD (B + 74) (B + 69) (B + 73) w) (hm : w.heap[B + 73]? = some (.map #[] 0)) : BS B T U tb bx gs m sv cs an [] 0 w :=
  ⟨hb, h, hm, List.nodup_nil, List.nodup_nil, fun _ hx => (by cases hx), fun i ⟨s, hs⟩ => (by cases hs), fun i j ⟨s, hs⟩ => (by cases hs)⟩
end

/-- The codes of the two: the second one tells. -/
def codes2 (n : Nat) : Nat → List IN := fun i => if i = 1 then getsC n else putsC n
section
variable {n most : Nat} {R : Nat → Nat} {m : KM} {cs : Nat → CM} {u : Nat}
theorem J.one2 (h : J n most R m cs u) : OneStep (codes2 n) (J n most R) m cs u := by
  obtain ⟨i, t, r, l', k, x, hi, ht, hr, hl, hn, hp, hk, ha, hx, hc⟩ := h.one
  have hi2 : i < 2 := by
    obtain ⟨_, _, _, _, _, h, _⟩ := h
    rcases Nat.lt_or_ge i 2 with e | e
    · exact e
    · rw [h.only i e] at ht; cases ht
  refine ⟨i, t, r, l', k, x, hi, ht, hr, hl, hn, hp, hk, ha, ?_, hc⟩
  have hx' : (if i = 0 then putsC n else getsC n)[k]? = some x := hx
  unfold codes2
  have hc : i = 0 ∨ i = 1 := by omega
  rcases hc with rfl | rfl
  · exact hx'
  · exact hx'
theorem putsTell (n : Nat) : ∀ x ∈ putsC n, x.op ≠ 20 := by
  intro x hx
  simp [putsC] at hx
  rcases hx with rfl | rfl | rfl | rfl | rfl | rfl | rfl | rfl | rfl | rfl <;> simp
/-- Somebody runs, at all times. -/
theorem J.someone (h : J n most R m cs u) : ∃ (i : Nat) (t : TM) (r : Nat) (l' : List Int), i < 16 ∧ m.tk i = some t ∧ t.wait = false ∧ r < 32 ∧ m.ls r = (i : Int) :: l' ∧ ∀ j, r < j → j < 32 → m.ls j = [] := by
  obtain ⟨i, t, r, l', hi, ht, hw, hr, hl, hn, _⟩ := h.step
  exact ⟨i, t, r, l', by omega, ht, hw, hr, hl, hn⟩
end

section
variable {B T U : Nat} {tb bx : Nat → Nat} {gs : Nat → CG} {tp : Nat} {code : Nat → List IN} {m : KM} {sv : Nat → Value} {cs : Nat → CM} {an : Nat → Int} {os : List (Nat × Nat)} {clk : Nat} {w : World}
variable {n most : Nat} {R : Nat → Nat} {u : Nat}
theorem tick_tk (m : KM) (i : Nat) {t : TM} (h : KI R m) (ht : m.tk i = some t) (hw : t.wait = false) (j : Nat) : ∀ t', (m.tick i t).tk j = some t' → ∃ t0, m.tk j = some t0 ∧ t0.ans = t'.ans := fun t' e => by
  obtain ⟨_, h2, ⟨x, h3⟩, _⟩ := h.tick ht hw
  by_cases ej : j = i
  · subst ej
    rw [h3] at e
    cases e
    exact ⟨t, ht, rfl⟩
  · rw [h2 j ej] at e
    exact ⟨t', e, rfl⟩
/-- A tick of the board. -/
theorem tickRS (h : RS B T U tb bx gs tp code (J n most R) u w) :
    Calls Tryz.prog 14 #[.pointer (some ⟨B + 74, 0, none⟩)] w fun e w' => e = .returned (.int .i64 0) ∧ RS B T U tb bx gs tp code (J n most R) u w' ∧ Ch (fun k => B ≤ k) w w' := by
  obtain ⟨m, sv, cs, an, os, clk, h⟩ := h
  obtain ⟨i, t, r, l', hi, ht, hw, hr, hl, hn⟩ := h.p.someone
  have hki : KI R m := by obtain ⟨_, _, _, _, _, h, _⟩ := h.p; exact h.ki
  obtain ⟨hj, hleft⟩ := h.p.tick ht hw
  have hki2 : KI R (m.tick i t) := by obtain ⟨_, _, _, _, _, h, _⟩ := hj; exact h.ki
  have ok := hki.task i t ht
  have hsl := hki.slice
  have hran := ok.ran
  refine (bTick_any h.st.board h.st.kern hki.cons hi ht hr hl hn (by have := ok.rank; have := ok.low; omega) (by omega) hki.sl (fun j u _ e => hleft j u e) hki2.calm).mono ?_
  rintro e w' ⟨rfl, hk, hch⟩
  refine ⟨rfl, ⟨m.tick i t, sv, cs, an, os, clk, h.st.kern' hch hk, hj, fun j t' e => ?_, fun j hl => ?_, h.own, h.cod, h.tell⟩, hch.mono (fun k _ s => ?_)⟩
  · obtain ⟨t0, e0, e1⟩ := tick_tk m i hki ht hw j t' e
    have := h.tan j t0 e0
    rw [e1] at this
    exact this
  · have := h.live j hl
    obtain ⟨_, h2, ⟨x, h3⟩, _⟩ := hki.tick ht hw
    by_cases ej : j = i
    · subst ej; rw [h3]; rfl
    · rw [h2 j ej]; exact this
  · have l1 := h.st.kern.lay1
    have l2 := h.st.kern.lay2
    rcases s with ⟨s, _, _⟩ | ⟨s, _⟩
    · exact s
    · show B ≤ k
      omega
/-- The ranks of the two. -/
def rk2 (p g : Nat) : Nat → Nat := fun i => if i = 0 then p else g
/-- The board at the start. -/
theorem RS.start {s : Int} {p g nb0 nb1 b0 b1 : Nat} {g0 g1 : CG} (h1 : 1 ≤ s) (h2 : s ≤ 100) (hp : p < 32) (hg : g < 32) (hn : 1 ≤ n ∧ n ≤ 50 ∧ 1 ≤ most ∧ most ≤ 64) (e0 : g0.code = putsC n) (e1 : g1.code = getsC n)
    (h : BS B T U (tb2 (tb2 tb (km0 s most) 0 nb0) ((km0 s most).task 0 p) 1 nb1) (upd (upd bx 0 b0) 1 b1) (upd (upd gs 0 g0) 1 g1) (((km0 s most).task 0 p).task 1 g) (upd (upd sv 0 (.slice none 0 0)) 1 (.slice none 0 0)) (upd (upd cs 0 cm0) 1 cm0) (upd (upd an 0 0) 1 0) (([] ++ [(0, 0)]) ++ [(1, 0 + 1)]) (0 + 1 + 1) w) :
    RS B T U (tb2 (tb2 tb (km0 s most) 0 nb0) ((km0 s most).task 0 p) 1 nb1) (upd (upd bx 0 b0) 1 b1) (upd (upd gs 0 g0) 1 g1) 1 (codes2 n) (J n most (rk2 p g)) (14 * n + 5) w := by
  obtain ⟨k1, t1, r1, m1, a1, u1⟩ := (ki0 (R := rk2 p g) s most h1 h2).made (i := 0) (r := p) (by decide) rfl rfl hp
  obtain ⟨k2, t2, r2, m2, a2, u2⟩ := k1.made (i := 1) (r := g) (by decide) (by rw [t1]; rfl) rfl hg
  have tk0 : (((km0 s most).task 0 p).task 1 g).tk 0 = some (tm0 p) := by rw [t2, if_neg (by decide), t1, if_pos rfl]
  have tk1 : (((km0 s most).task 0 p).task 1 g).tk 1 = some (tm0 g) := by rw [t2, if_pos rfl]
  have tkn : ∀ i, 2 ≤ i → (((km0 s most).task 0 p).task 1 g).tk i = none := fun i hi => by rw [t2, if_neg (by omega), t1, if_neg (by omega)]; rfl
  have c0 : upd (upd cs 0 cm0) 1 cm0 0 = cm0 := by rw [upd_ne _ _ (by decide), upd_at]
  have c1 : upd (upd cs 0 cm0) 1 cm0 1 = cm0 := by rw [upd_at]
  have hl : ∀ i, Live (([] ++ [(0, 0)]) ++ [(1, 0 + 1)]) i → i = 0 ∨ i = 1 := fun i ⟨s, hs⟩ => by
    simp at hs
    rcases hs with ⟨rfl, _⟩ | ⟨rfl, _⟩
    · exact .inl rfl
    · exact .inr rfl
  refine ⟨_, _, _, _, _, _, h, ?_, fun i t ht => ?_, fun i hi => ?_, fun i hi hv => ?_, fun i hi => ?_, fun i hi x hx => ?_⟩
  · exact J.start k2 (m2.trans m1) tkn tk0 tk1 rfl rfl rfl rfl (r2.trans r1) (by rw [c0]; rfl) (by rw [c1]; rfl) (by rw [c0]; rfl) (by rw [c1]; rfl) (by rw [c0]; rfl) (by rw [c1]; rfl) (by rw [c1]; rfl) hn
  · rcases Nat.lt_or_ge i 2 with hlt | hge
    · have hc : i = 0 ∨ i = 1 := by omega
      rcases hc with rfl | rfl
      · rw [tk0] at ht
        cases ht
        exact ⟨by rw [upd_ne _ _ (by decide), upd_at]; rfl, by decide, 0, by simp⟩
      · rw [tk1] at ht
        cases ht
        exact ⟨by rw [upd_at]; rfl, by decide, 1, by simp⟩
    · rw [tkn i hge] at ht; cases ht
  · rcases hl i hi with rfl | rfl
    · rw [tk0]; rfl
    · rw [tk1]; rfl
  · rcases hl i hv with rfl | rfl
    · rw [upd_ne _ _ (by decide), upd_at]; rfl
    · exact absurd rfl hi
  · rcases hl i hi with rfl | rfl
    · rw [upd_ne _ _ (by decide), upd_at, e0]; rfl
    · rw [upd_at, e1]; rfl
  · unfold codes2 at hx
    rw [if_neg hi] at hx
    exact putsTell n x hx
end
end Go.Proofs.YtcngfaggignmpaaGreatDoor

/-
  The board: the core of a task, as it is now; what it said.
-/
namespace Go.Proofs.YtcngfaggignmpaaGreatDoor
open Go.RowKit

section
variable {w : World}
set_option maxRecDepth 100000 in
set_option maxHeartbeats 1000000 in
theorem isTask_any (i k hb : Nat) (st : Int) (t : TM) (b : Bool) (hb2 : ((256 + (i : Int)) == 256 + (k : Int)) = b) (hc : w.cell? ⟨hb, 0, none⟩ = some (.int .u32 (256 + (k : Int)))) :
    Calls Tryz.prog 86 #[.agg #[.int .u32 (256 + i), .int .u8 st, .bool false, .int .i64 t.rank, .int .i64 t.rank, .int .u8 t.what, .int .u32 t.hh, .int .u32 t.v, .int .u32 t.mm, .int .i64 t.wt, .int .i64 t.left, .int .i64 t.ans, .int .i64 t.last, .int .u32 t.val], .pointer (some ⟨hb, 0, none⟩)] w
      fun e w' => e = .returned (.bool b) ∧ Ch No w w' := by
  have hc2 : (w.alloc (.cells #[.int .u32 (256 + i), .int .u8 st, .bool false, .int .i64 t.rank, .int .i64 t.rank, .int .u8 t.what, .int .u32 t.hh, .int .u32 t.v, .int .u32 t.mm, .int .i64 t.wt, .int .i64 t.left, .int .i64 t.ans, .int .i64 t.last, .int .u32 t.val] 125)).cell? ⟨hb, 0, none⟩ = some (.int .u32 (256 + (k : Int))) := by
    rw [World.cell?_alloc_lt _ _ _ (World.block_lt_of_cell? w _ hc)]
    exact hc
  clear hc
  go_enter Tryz.func86, Tryz.ntmps86
  go_wp2_with fail
  go_ret
  exact ⟨rfl, Ch.alloc w _⟩
set_option maxRecDepth 100000 in
set_option maxHeartbeats 1000000 in
theorem indexTask_any (base hb k : Nat) (v : Value) (l : List (Nat × TM)) (hl : l.length ≤ 16) (h : TSl base v l w) (hm : ∃ t, (k, t) ∈ l) (hc : w.cell? ⟨hb, 0, none⟩ = some (.int .u32 (256 + (k : Int)))) :
    Calls Tryz.prog 149 #[v, .func (.func 86) #[] #[.pointer (some ⟨hb, 0, none⟩)]] w fun e w' => (∃ j : Nat, e = .returned (.int .i64 j)) ∧ Ch No w w' := by
  have H := Lib.hid h
  have HM := Lib.hid hm
  obtain ⟨a, rfl, _⟩ := h
  have HHC : Hid (∀ W, Ch No w W → W.cell? ⟨hb, 0, none⟩ = some (.int .u32 (256 + (k : Int)))) := Lib.hid (fun W c => by
    have := c.block hb (World.block_lt_of_cell? w _ hc) (fun x => x)
    unfold World.cell? at hc ⊢
    rw [this]
    exact hc)
  clear hm hc
  generalize hL : l.length = L at hl H ⊢
  have HLL := Lib.hid hL
  clear hL
  go_enter Tryz.func149, Tryz.ntmps149
  go_wp2_with fail
  go_loopw [5, 8] (fun _ i wr => ∃ j : Nat, j ≤ L ∧ i = .int .i64 (j : Int) ∧ Ch No w wr ∧ ∀ t, (k, t) ∉ l.take j) (fun _ i _ => L - (intOf i).toNat)
  case atStart => exact ⟨0, by omega, rfl, Ch.refl _ _, fun t ht => by simp at ht⟩
  case round =>
    obtain ⟨j, hj, rfl, hch, hno⟩ := hrel
    by_cases hlt : j < L
    · obtain ⟨x, hx⟩ : ∃ x, l[j]? = some x := ⟨_, List.getElem?_eq_getElem (by have := HLL.out; omega)⟩
      obtain ⟨i, t⟩ := x
      obtain ⟨a2, ea, hcells⟩ := H.out.keeps hch (fun _ _ _ x => x)
      obtain ⟨gt, hgt, ea2, cc, rr, hcc⟩ := hcells j (i, t) hx
      have eta : a = some ⟨gt, 0, none⟩ := by
        have := (Value.slice.inj ea).1
        rw [this]
        exact ea2
      subst eta
      obtain ⟨st, hst⟩ : ∃ st : Int, st = if t.wait then 2 else 1 := ⟨_, rfl⟩
      have q0 : wr.cell? ⟨gt, j * 14, none⟩ = some (.int .u32 (256 + i)) := rr.cell (hcc 0 _ rfl)
      have q1 : wr.cell? ⟨gt, j * 14 + 1, none⟩ = some (.int .u8 st) := by rw [hst]; exact rr.cell (hcc 1 _ rfl)
      have q2 : wr.cell? ⟨gt, j * 14 + 2, none⟩ = some (.bool false) := rr.cell (hcc 2 _ rfl)
      have q3 : wr.cell? ⟨gt, j * 14 + 3, none⟩ = some (.int .i64 t.rank) := rr.cell (hcc 3 _ rfl)
      have q4 : wr.cell? ⟨gt, j * 14 + 4, none⟩ = some (.int .i64 t.rank) := rr.cell (hcc 4 _ rfl)
      have q5 : wr.cell? ⟨gt, j * 14 + 5, none⟩ = some (.int .u8 t.what) := rr.cell (hcc 5 _ rfl)
      have q6 : wr.cell? ⟨gt, j * 14 + 6, none⟩ = some (.int .u32 t.hh) := rr.cell (hcc 6 _ rfl)
      have q7 : wr.cell? ⟨gt, j * 14 + 7, none⟩ = some (.int .u32 t.v) := rr.cell (hcc 7 _ rfl)
      have q8 : wr.cell? ⟨gt, j * 14 + 8, none⟩ = some (.int .u32 t.mm) := rr.cell (hcc 8 _ rfl)
      have q9 : wr.cell? ⟨gt, j * 14 + 9, none⟩ = some (.int .i64 t.wt) := rr.cell (hcc 9 _ rfl)
      have q10 : wr.cell? ⟨gt, j * 14 + 10, none⟩ = some (.int .i64 t.left) := rr.cell (hcc 10 _ rfl)
      have q11 : wr.cell? ⟨gt, j * 14 + 11, none⟩ = some (.int .i64 t.ans) := rr.cell (hcc 11 _ rfl)
      have q12 : wr.cell? ⟨gt, j * 14 + 12, none⟩ = some (.int .i64 t.last) := rr.cell (hcc 12 _ rfl)
      have q13 : wr.cell? ⟨gt, j * 14 + 13, none⟩ = some (.int .u32 t.val) := rr.cell (hcc 13 _ rfl)
      have HCH := Lib.hid hch
      have HNO := Lib.hid hno
      have HTK : Hid (l.take (j + 1) = l.take j ++ [(i, t)]) := Lib.hid (by rw [List.take_add_one, hx]; rfl)
      have HCC := Lib.hid (HHC.out wr hch)
      clear hch hno hx hcells rr hcc hst ea ea2
      by_cases hik : i = k
      · subst hik
        go_wp2_with fail
        refine (isTask_any i i hb st t true (by simp) HCC.out).mono ?_; rintro e w1 ⟨rfl, hch1⟩
        have HD := Lib.hid (HCH.out.trans hch1)
        clear hch1 q0 q1 q2 q3 q4 q5 q6 q7 q8 q9 q10 q11 q12 q13
        go_wp2_with fail
        go_ret
        exact ⟨⟨j, rfl⟩, HD.out⟩
      · go_wp2_with fail
        refine (isTask_any i k hb st t false (by rw [beq_eq_false_iff_ne]; omega) HCC.out).mono ?_; rintro e w1 ⟨rfl, hch1⟩
        have HD := Lib.hid (HCH.out.trans hch1)
        clear hch1 q0 q1 q2 q3 q4 q5 q6 q7 q8 q9 q10 q11 q12 q13
        go_wp2_with fail
        go_roundw
        case rel =>
          refine ⟨j + 1, by omega, by go_num, HD.out, fun t' ht' => ?_⟩
          rw [HTK.out, List.mem_append] at ht'
          rcases ht' with ht' | ht'
          · exact HNO.out t' ht'
          · simp at ht'; exact hik ht'.1.symm
        case measure => simp [intOf]; omega
    · exfalso
      obtain ⟨t, ht⟩ := HM.out
      refine hno t ?_
      rw [List.take_of_length_le (by have := HLL.out; omega)]
      exact ht
set_option maxHeartbeats 1000000 in
theorem hasTask_any (base hb k : Nat) (v : Value) (l : List (Nat × TM)) (hl : l.length ≤ 16) (h : TSl base v l w) (hm : ∃ t, (k, t) ∈ l) (hc : w.cell? ⟨hb, 0, none⟩ = some (.int .u32 (256 + (k : Int)))) :
    Calls Tryz.prog 85 #[v, .func (.func 86) #[] #[.pointer (some ⟨hb, 0, none⟩)]] w fun e w' => e = .returned (.bool true) ∧ Ch No w w' := by
  have HI := Lib.hid (indexTask_any base hb k v l hl h hm hc)
  clear h hm hc
  go_enter Tryz.func85, Tryz.ntmps85
  go_wp2_with fail
  refine HI.out.mono ?_; rintro e w1 ⟨⟨j, rfl⟩, hch⟩
  have HD := Lib.hid hch
  clear hch
  go_wp2_with fail
  go_ret
  exact ⟨rfl, HD.out⟩
end
section
variable {B T U : Nat} {tb bx : Nat → Nat} {gs : Nat → CG} {tp : Nat} {code : Nat → List IN} {P : KM → (Nat → CM) → Nat → Prop} {u : Nat} {m : KM} {sv : Nat → Value} {cs : Nat → CM} {an : Nat → Int} {os : List (Nat × Nat)} {clk : Nat} {w : World} {k : Nat} {t : TM}
set_option maxRecDepth 100000 in
set_option maxHeartbeats 4000000 in
theorem find41_any (h : RI B T U tb bx gs tp code P u m sv cs an os clk w) (ht : m.tk k = some t) :
    Calls Tryz.prog 41 #[.pointer (some ⟨B + 74, 0, none⟩), .int .u32 (256 + k)] w fun e w' => e = .returned (.tuple #[.pointer (some ⟨bx k, 0, none⟩), .int .i64 0]) ∧ RI B T U tb bx gs tp code P u m sv cs an os clk w' ∧ Ch (fun z => B ≤ z) w w' := by
  have hmf : ∀ (fn : Fn) (first cap : Array Value) (w : World), (Instr.makeFunc fn first cap).run Tryz.prog w = .ok (.func fn first cap) w := fun _ _ _ _ => rfl
  obtain ⟨W0, hW0⟩ : ∃ W0, W0 = w.alloc (.cells #[.int .u32 (256 + (k : Int))] 34) := ⟨_, rfl⟩
  have r0 : Row w.heap.size 34 #[.int .u32 (256 + (k : Int))] W0 := by rw [hW0]; exact Row.new w 34 _
  have c0 : Ch No w W0 := by rw [hW0]; exact Ch.alloc w _
  obtain ⟨ha, hk16, hli⟩ := h.tan k t ht
  have hmem : ∃ t, (k, t) ∈ tl m 16 := ⟨t, (tl_mem m 16 k t).2 ⟨hk16, ht⟩⟩
  have hfz : ∀ j, Fz B bx gs os j → j < w.heap.size := fun j e => by
    rcases e with e | ⟨i, hi, e | e⟩
    · rw [e]; exact lt_of_blk h.st.map
    · rw [e]; exact (h.st.core i hi).box.lt
    · rw [e]; exact (h.st.core i hi).core.core.lt
  have H0 := Lib.hid (h.no c0)
  have R0 := Lib.hid r0
  have C0 := Lib.hid c0
  have HW := Lib.hid hW0
  have HF := Lib.hid hfz
  have HM := Lib.hid hmem
  clear h r0 c0 hW0 hfz hmem ha ht
  go_enter Tryz.func41, Tryz.ntmps41
  go_wp2_with fail
  rw [← HW.out]
  refine (bThere_any H0.out.st.board).mono ?_; rintro e w1 ⟨rfl, rfl⟩
  go_wp2_with fail
  refine H0.out.told.mono ?_; rintro e w2 ⟨rfl, h2, hch2⟩
  have r2 := R0.out.keeps hch2 (fun e => by have := HF.out _ e; omega)
  have cK := h2.st.board.cK
  have H2 := Lib.hid h2
  have R2 := Lib.hid r2
  have C2 : Hid (Ch (fun z => B ≤ z) w w2) := Lib.hid ((C0.out.mono (fun _ _ e => e.elim)).trans (hch2.mono (fun _ _ e => H0.out.st.fz e)))
  clear h2 r2 hch2
  go_wp2_with fail
  refine (tasks_any H2.out.st.kern).mono ?_; rintro e w3 ⟨tv, rfl, hts, hch3⟩
  have H3 := Lib.hid (H2.out.no hch3)
  have R3 := Lib.hid (R2.out.keeps hch3 (fun x => x))
  have C3 := Lib.hid (C2.out.trans (hch3.mono (T := fun z => B ≤ z) (fun _ _ e => e.elim)))
  have HTS := Lib.hid hts
  clear hts hch3 cK
  go_wp2_with fail
  refine (hasTask_any _ w.heap.size k tv (tl m 16) (tl_len m 16) HTS.out HM.out (R3.out.cell (j := 0) rfl)).mono ?_; rintro e w4 ⟨rfl, hch4⟩
  have h4 := H3.out.no hch4
  have r4 := R3.out.keeps hch4 (fun x => x)
  have cM := h4.st.board.cMap
  have q0 := r4.cell (j := 0) rfl
  have hlook := h4.st.look hli
  have hlook1 : (Instr.lookup 79 (.map (some (B + 73))) (.int .u32 (256 + (k : Int))) false).run Tryz.prog w4.drew = .ok (.pointer (some ⟨bx k, 0, none⟩)) w4.drew := (h4.st.drewN 1).look hli
  have hlookN : ∀ n, (Instr.lookup 79 (.map (some (B + 73))) (.int .u32 (256 + (k : Int))) false).run Tryz.prog (w4.drewN n) = .ok (.pointer (some ⟨bx k, 0, none⟩)) (w4.drewN n) := fun n => (h4.st.drewN n).look hli
  have H4 := Lib.hid h4
  have C4 := Lib.hid (C3.out.trans (hch4.mono (T := fun z => B ≤ z) (fun _ _ e => e.elim)))
  clear h4 r4 hch4
  go_wp2_with fail
  go_quiet (fail)
  clear hlook hlook1 hlookN
  go_wp2_with fail
  go_ret2
  exact ⟨rfl, H4.out.no (Ch.drewN _ _), C4.out.trans (Ch.drewN _ _)⟩
set_option maxRecDepth 100000 in
set_option maxHeartbeats 1000000 in
theorem console18_any {l : List UInt8} (h : RI B T U tb bx gs tp code P u m sv cs an os clk w) (ht : m.tk k = some t) (hl : (cs k).says = l.map fun b => (b.toNat : Int)) :
    Calls Tryz.prog 18 #[.pointer (some ⟨B + 74, 0, none⟩), .int .u32 (256 + k)] w fun e w' => e = .returned (.tuple #[.string ⟨l.toArray⟩, .int .i64 0]) ∧ Ch (fun z => B ≤ z) w w' := by
  have HI := Lib.hid (find41_any h ht)
  obtain ⟨_, _, hli⟩ := h.tan k t ht
  have HL := Lib.hid hl
  clear h ht hl
  go_enter Tryz.func18, Tryz.ntmps18
  go_wp2_with fail
  refine HI.out.mono ?_; rintro e w1 ⟨rfl, h1, hch⟩
  have hcs := h1.st.core k hli
  have b0 := hcs.box.cell (j := 0) rfl
  have HC := Lib.hid hcs.core
  have HCH := Lib.hid hch
  clear h1 hch hcs
  go_wp2_with fail
  refine (console_any HC.out HL.out).mono ?_; rintro e w2 ⟨rfl, rfl⟩
  go_wp2_with fail
  go_ret2
  exact ⟨rfl, HCH.out⟩
end
end Go.Proofs.YtcngfaggignmpaaGreatDoor

/-
  The top: two instructions more.
-/
namespace Go.Proofs.YtcngfaggignmpaaGreatDoor
open Go.RowKit

theorem flat_append : ∀ (l m : List IN), flat (l ++ m) = flat l ++ flat m
  | [], _ => rfl
  | x :: l, m => by
    show inCells x ++ flat (l ++ m) = (inCells x ++ flat l) ++ flat m
    rw [flat_append l m, List.append_assoc]
set_option maxHeartbeats 2000000 in
theorem forever_any (w : World) (base : Nat) (v : Value) (l : List IN) (hl : l.length < 1000) (hb : base ≤ w.heap.size) (h : w.ownsRow base 49 4 v l.length (flat l)) :
    Calls Tryz.prog 40 #[v] w fun e w' => ∃ v', e = .returned v' ∧ w'.ownsRow base 49 4 v' (l.length + 2) (flat (l ++ [⟨1, 3, 0, 0⟩, ⟨4, 3, 3, 5⟩])) ∧ Ch (fun k => v.ownBlock = some k) w w' := by
  obtain ⟨i0, hi, hz0, hz1, hz2⟩ := info_parts info49
  have hsz : Hid (base ≤ (w.alloc (.cells #[.int .u8 1, .int .u8 3, .int .u8 0, .int .u8 0, .int .u8 4, .int .u8 3, .int .u8 3, .int .u8 5] 49)).heap.size) := Lib.hid (Nat.le_trans hb (Ch.alloc (S := No) w _).size)
  have H := Lib.hid h
  clear h
  go_enter Tryz.func40, Tryz.ntmps40
  go_wp2_with (first
    | (at_builtin; refine wpList_append_own _ rfl _ _ 52 rfl base 49 i0 (.agg #[.int .u8 0, .int .u8 0, .int .u8 0, .int .u8 0]) 4 4 Tryz.underlying52 hi hz0 hz1 hz2 rfl (by decide) v l.length (flat l) rfl (World.ownsRow.alloc (w := w) H.out _) ⟨w.heap.size, 0, none⟩ 2 2 (flat [⟨1, 3, 0, 0⟩, ⟨4, 3, 3, 5⟩]) rfl rfl ?c1 ?c2 ?c3 ?c4 ?c5 ?_))
  case c1 =>
    intro j u hj
    have hr : Row w.heap.size 49 #[.int .u8 1, .int .u8 3, .int .u8 0, .int .u8 0, .int .u8 4, .int .u8 3, .int .u8 3, .int .u8 5] (w.alloc (.cells #[.int .u8 1, .int .u8 3, .int .u8 0, .int .u8 0, .int .u8 4, .int .u8 3, .int .u8 3, .int .u8 5] 49)) := Row.new w 49 _
    have hj8 : j < 8 := (List.getElem?_eq_some_iff.1 hj).1
    match j, hj8 with
    | 0, _ => cases hj; exact hr.cell (j := 0) rfl
    | 1, _ => cases hj; exact hr.cell (j := 1) rfl
    | 2, _ => cases hj; exact hr.cell (j := 2) rfl
    | 3, _ => cases hj; exact hr.cell (j := 3) rfl
    | 4, _ => cases hj; exact hr.cell (j := 4) rfl
    | 5, _ => cases hj; exact hr.cell (j := 5) rfl
    | 6, _ => cases hj; exact hr.cell (j := 6) rfl
    | 7, _ => cases hj; exact hr.cell (j := 7) rfl
  case c2 => exact flat_one _
  case c3 => unfold maxLen; omega
  case c4 => omega
  case c5 => exact hsz.out
  · intro v' w2 hown hgrow _
    go_wp2
    go_ret
    refine ⟨v', rfl, by rw [flat_append]; exact hown, ((Ch.alloc w _).mono (fun _ _ s => (s : False).elim)).trans (Ch.ofGrown hgrow)⟩
end Go.Proofs.YtcngfaggignmpaaGreatDoor

/-
  The top: an instruction that asks.
-/
namespace Go.Proofs.YtcngfaggignmpaaGreatDoor
open Go.RowKit

set_option maxRecDepth 100000 in
set_option maxHeartbeats 1000000 in
theorem askIn_any (a : Nat) (w : World) : Calls Tryz.prog 11 #[.int .u8 a] w fun e w' => e = .returned (inV ⟨21, a, 0, 0⟩) ∧ Ch No w w' := by
  unfold inV
  go_enter Tryz.func11, Tryz.ntmps11
  go_wp2_with fail
  refine bodyPost_ret (v := .agg #[.int .u8 21, .int .u8 a, .int .u8 0, .int .u8 0]) ?_ rfl ⟨rfl, Ch.alloc w _⟩
  simp [results, Tryz.results11, go_sem]
end Go.Proofs.YtcngfaggignmpaaGreatDoor
