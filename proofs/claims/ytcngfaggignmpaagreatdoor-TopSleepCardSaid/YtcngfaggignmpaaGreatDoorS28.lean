/-
  The top, part 28: Asks, Run.
-/
import Derived.Test.YtcngfaggignmpaaGreatDoorS25
import Derived.Test.YtcngfaggignmpaaGreatDoorS27

/-
  What is asked of a core, and of the kernel, whichever.
-/
namespace Go.Proofs.YtcngfaggignmpaaGreatDoor
open Go.RowKit

section
variable {B T U : Nat} {tb : Nat → Nat} {m m' : KM} {w : World} {i r : Nat} {t : TM} {R : Nat → Nat} {a : Value} {g : CG} {sv : Value} {c : CM}
/-- The kernel's answer, whichever. -/
theorem ask_out {l' : List Int} (h : KS B T U tb m w) (hk : KI R m) (ht : m.tk i = some t) (hw : t.wait = false) (hr : r < 32) (hl : m.ls r = (i : Int) :: l') (hn : ∀ j, r < j → j < 32 → m.ls j = []) (ho : AskOut m i t a m') :
    Calls Tryz.prog 34 #[.pointer (some ⟨B + 69, 0, none⟩), a] w fun e w' => (∃ b, e = .returned (.tuple #[.bool b, .int .i64 0])) ∧ KS B T U tb m' w' ∧ Ch (Sk B T U w) w w' := by
  have hp := hk.place i t ht
  have ok := hk.task i t ht
  have hon : t.on = false := by rw [ok.on]; exact hw
  have hrk : t.rank < 32 := by have := ok.rank; have := ok.low; omega
  cases ho with
  | ok what v mm x l h1 h2 h3 h4 h5 =>
    exact (ask_ok h hk.cons hp.1 ht hr hl hn hrk hon hw h5 ⟨.none hk.sl, fun _ _ _ => .none hk.sl⟩ h1 (by decide) (by decide) h2 h3 h4).mono (fun e w' q => ⟨⟨_, q.1⟩, q.2⟩)
  | wait what v mm h1 h2 h3 h4 =>
    exact (ask_wait h hk.cons hp.1 ht hr hl hn hrk h1 h2 h3 h4).mono (fun e w' q => ⟨⟨_, q.1⟩, q.2⟩)
  | fin h4 =>
    exact (ask_end h hk.cons hp.1 ht hr hl hn hp.2.1 hp.2.2 hon (.none hk.sl) h4).mono (fun e w' q => ⟨⟨_, q.1⟩, q.2⟩)
theorem Qa.shape {x : IN} (h : Qa c x a) : ∃ wh hh v mm wt : Int, a = askV wh hh v mm wt := by
  rcases h with ⟨w, _, e⟩ | ⟨_, e⟩
  · exact ⟨_, _, _, _, _, e⟩
  · exact ⟨_, _, _, _, _, e⟩
/-- A core that asks. -/
theorem stepAsks_any {k : Nat} {x : IN} (h : CO g sv c w) (hp : c.pc = (k : Int)) (hk : k < 900) (hx : g.code[k]? = some x) (ha : c.asked = false) (q : Qa c x a) :
    Calls Tryz.prog 32 #[.pointer (some ⟨g.b, 0, none⟩)] w fun e w' => e = .returned (.tuple #[.bool true, a, .int .i64 0]) ∧ CO g sv { c with pc := (k : Int) + 1, asked := true } w' ∧ Ch (fun k => k = g.b) w w' := by
  rcases q with ⟨n, rfl, rfl⟩ | ⟨rfl, rfl⟩
  · exact cask_any k n hp (by omega) hx ha h
  · exact cend_any k hp (by omega) hx ha h
end

/-- A step of the machine: of whom, by which instruction, and what comes of it. P: what holds, and how many steps there are yet. -/
def OneStep (code : Nat → List IN) (P : KM → (Nat → CM) → Nat → Prop) (m : KM) (cs : Nat → CM) (u : Nat) : Prop :=
  ∃ (i : Nat) (t : TM) (r : Nat) (l' : List Int) (k : Nat) (x : IN), i < 16 ∧ m.tk i = some t ∧ r < 32 ∧ m.ls r = (i : Int) :: l' ∧ (∀ j, r < j → j < 32 → m.ls j = []) ∧
    (cs i).pc = (k : Int) ∧ k < 900 ∧ (cs i).asked = false ∧ (code i)[k]? = some x ∧
    ((∃ c', Sp (cs i) x c' ∧ P m (upd cs i c') (u - 1)) ∨
     (∃ a m', Qa (cs i) x a ∧ (∀ (B T U : Nat) (tb : Nat → Nat) (w : World), KS B T U tb m w → Calls Tryz.prog 34 #[.pointer (some ⟨B + 69, 0, none⟩), a] w fun e w' => (∃ b n, e = .returned (.tuple #[.bool b, .int .i64 n])) ∧ KS B T U tb m' w' ∧ Ch (Sk B T U w) w w') ∧
        Tellable m m' cs i ∧ (∀ j, (m'.tk j).isSome = true → (m.tk j).isSome = true) ∧ P m' (fun j => toldC (m'.tk j) (upd cs i { cs i with pc := (k : Int) + 1, asked := true } j) (ansOf (m.tk j))) (u - 1)))
/-- The codes of the two. -/
def codes (n : Nat) : Nat → List IN := fun i => if i = 0 then putsC n else getsC n
theorem J.one {n most : Nat} {R : Nat → Nat} {m : KM} {cs : Nat → CM} {u : Nat} (h : J n most R m cs u) : OneStep (codes n) (J n most R) m cs u := by
  have hki : KI R m := by obtain ⟨_, _, _, _, _, h, _⟩ := h; exact h.ki
  obtain ⟨i, t, r, l', hi, ht, hw, hr, hl, hn, k, x, hp, hk, ha, hx, hc⟩ := h.step
  refine ⟨i, t, r, l', k, x, by omega, ht, hr, hl, hn, hp, hk, ha, hx, ?_⟩
  rcases hc with ⟨c', h1, h2⟩ | ⟨a, m', h1, h2, h3, h4⟩
  · exact .inl ⟨c', h1, h2⟩
  · refine .inr ⟨a, m', h1, fun B T U tb w hks => (ask_out hks hki ht hw hr hl hn h2).mono (fun e w' q => ⟨⟨q.1.choose, 0, q.1.choose_spec⟩, q.2⟩), h3, fun j hj => ?_, h4⟩
    cases e : m'.tk j with
    | none => rw [e] at hj; cases hj
    | some t' =>
      obtain ⟨t0, e0, _⟩ := h3 j t' e
      rw [e0]
      rfl
end Go.Proofs.YtcngfaggignmpaaGreatDoor

/-
  The board: it runs so many instructions.
-/
namespace Go.Proofs.YtcngfaggignmpaaGreatDoor
open Go.RowKit

/-- What holds of a board between two steps. -/
structure RI (B T U : Nat) (tb bx : Nat → Nat) (gs : Nat → CG) (tp : Nat) (code : Nat → List IN) (P : KM → (Nat → CM) → Nat → Prop) (u : Nat) (m : KM) (sv : Nat → Value) (cs : Nat → CM) (an : Nat → Int) (os : List (Nat × Nat)) (clk : Nat) (w : World) : Prop where
  st : BS B T U tb bx gs m sv cs an os clk w
  p : P m cs u
  tan : ∀ i t, m.tk i = some t → an i = t.ans ∧ i < 16 ∧ Live os i
  live : ∀ i, Live os i → (m.tk i).isSome = true
  own : ∀ i, i ≠ tp → Live os i → (sv i).ownBlock = none
  cod : ∀ i, Live os i → (gs i).code = code i
  tell : ∀ i, i ≠ tp → ∀ x ∈ code i, x.op ≠ 20
/-- .. and somewhere. -/
def RS (B T U : Nat) (tb bx : Nat → Nat) (gs : Nat → CG) (tp : Nat) (code : Nat → List IN) (P : KM → (Nat → CM) → Nat → Prop) (u : Nat) (w : World) : Prop :=
  ∃ m sv cs an os clk, RI B T U tb bx gs tp code P u m sv cs an os clk w

section
variable {B T U : Nat} {tb bx : Nat → Nat} {gs : Nat → CG} {tp : Nat} {code : Nat → List IN} {P : KM → (Nat → CM) → Nat → Prop} {u : Nat} {m m' : KM} {sv : Nat → Value} {cs : Nat → CM} {an : Nat → Int} {os : List (Nat × Nat)} {clk : Nat} {w w' : World} {i : Nat}
theorem RI.no (h : RI B T U tb bx gs tp code P u m sv cs an os clk w) (g : Ch No w w') : RI B T U tb bx gs tp code P u m sv cs an os clk w' := ⟨h.st.no g, h.p, h.tan, h.live, h.own, h.cod, h.tell⟩
theorem filter_live {os : List (Nat × Nat)} {m : KM} (h : ∀ i, Live os i → (m.tk i).isSome = true) : os.filter (fun x => (m.tk x.1).isSome) = os := by
  rw [List.filter_eq_self]
  intro x hx
  exact h x.1 ⟨x.2, hx⟩
theorem BS.fz (h : BS B T U tb bx gs m sv cs an os clk w) {j : Nat} (e : Fz B bx gs os j) : B ≤ j := by
  have l1 := h.kern.lay1
  have l2 := h.kern.lay2
  rcases e with e | ⟨i, hi, e⟩
  · omega
  · have := (h.core i hi).hi
    omega
/-- Nobody was told anything since: the board's told turns nothing. -/
theorem RI.told (h : RI B T U tb bx gs tp code P u m sv cs an os clk w) :
    Calls Tryz.prog 30 #[.pointer (some ⟨B + 74, 0, none⟩)] w fun e w' => e = .returned (.tuple #[]) ∧ RI B T U tb bx gs tp code P u m sv cs an os clk w' ∧ Ch (Fz B bx gs os) w w' := by
  refine (told_any h.st (fun i t ht => (h.tan i t ht).2) (fun i t ht hlt => by rw [(h.tan i t ht).1] at hlt; omega)).mono ?_
  rintro e w' ⟨rfl, hb, hch⟩
  have e1 : (fun i => toldC (m.tk i) (cs i) (an i)) = cs := by
    funext i
    cases e : m.tk i with
    | none => rfl
    | some t =>
      show (if an i < t.ans then _ else cs i) = cs i
      rw [if_neg (by rw [(h.tan i t e).1]; omega)]
  have e2 : (fun i => toldA (m.tk i) (an i)) = an := by
    funext i
    cases e : m.tk i with
    | none => rfl
    | some t =>
      show (if an i < t.ans then _ else an i) = an i
      rw [if_neg (by rw [(h.tan i t e).1]; omega)]
  rw [e1, e2, filter_live h.live] at hb
  exact ⟨rfl, ⟨hb, h.p, h.tan, h.live, h.own, h.cod, h.tell⟩, hch⟩
/-- Behind what the kernel answered: whoever was told has it. -/
theorem RI.after (h : RI B T U tb bx gs tp code P u m sv cs an os clk w) {cs1 : Nat → CM} {i : Nat} {u' : Nat} (hb : BS B T U tb bx gs m' sv cs1 an os clk w') (hcs : ∀ j, j ≠ i → cs1 j = cs j) (hasked : (cs1 i).asked = true)
    (ht : Tellable m m' cs i) (hp : P m' (fun j => toldC (m'.tk j) (cs1 j) (ansOf (m.tk j))) u') :
    Calls Tryz.prog 30 #[.pointer (some ⟨B + 74, 0, none⟩)] w' fun e w'' => e = .returned (.tuple #[]) ∧ RS B T U tb bx gs tp code P u' w'' ∧ Ch (fun k => B ≤ k) w' w'' := by
  have han : ∀ j t', m'.tk j = some t' → ∃ t0, m.tk j = some t0 ∧ an j = t0.ans := fun j t' e => by
    obtain ⟨t0, e0, _⟩ := ht j t' e
    exact ⟨t0, e0, (h.tan j t0 e0).1⟩
  refine (told_any hb (fun j t' e => ?_) (fun j t' e hlt => ?_)).mono ?_
  · obtain ⟨t0, e0, _⟩ := ht j t' e
    exact (h.tan j t0 e0).2
  · obtain ⟨t0, e0, hle, hask, hlast⟩ := ht j t' e
    refine ⟨?_, hlast⟩
    by_cases ej : j = i
    · subst ej; exact hasked
    · rw [hcs j ej]
      exact hask (by rw [← (h.tan j t0 e0).1]; exact hlt) ej
  · rintro e w'' ⟨rfl, hb2, hch⟩
    have e1 : (fun j => toldC (m'.tk j) (cs1 j) (an j)) = (fun j => toldC (m'.tk j) (cs1 j) (ansOf (m.tk j))) := by
      funext j
      cases e : m'.tk j with
      | none => rfl
      | some t' =>
        obtain ⟨t0, e0, ea⟩ := han j t' e
        rw [e0, ea]
        rfl
    rw [e1] at hb2
    refine ⟨rfl, ⟨m', sv, _, _, _, clk, hb2, hp, fun j t' e => ?_, fun j hj => ?_, fun j hj hl => ?_, fun j hl => ?_, h.tell⟩, hch.mono (fun _ _ e => hb.fz e)⟩
    · obtain ⟨t0, e0, hle, _⟩ := ht j t' e
      obtain ⟨ea, hj, s, hs⟩ := h.tan j t0 e0
      refine ⟨?_, hj, s, List.mem_filter.2 ⟨hs, by rw [e]; rfl⟩⟩
      rw [e]
      show (if an j < t'.ans then t'.ans else an j) = t'.ans
      by_cases hlt : an j < t'.ans
      · rw [if_pos hlt]
      · rw [if_neg hlt]; omega
    · obtain ⟨s, hs⟩ := hj
      exact (List.mem_filter.1 hs).2
    · obtain ⟨s, hs⟩ := hl
      exact h.own j hj ⟨s, (List.mem_filter.1 hs).1⟩
    · obtain ⟨s, hs⟩ := hl
      exact h.cod j ⟨s, (List.mem_filter.1 hs).1⟩

set_option maxRecDepth 100000 in
set_option maxHeartbeats 4000000 in
theorem run_any (hstep : ∀ m cs u, P m cs u → OneStep code P m cs u) (c : Nat) (hc : c ≤ 1000000) (h : RS B T U tb bx gs tp code P u w) :
    Calls Tryz.prog 12 #[.pointer (some ⟨B + 74, 0, none⟩), .int .i64 c] w fun e w' => e = .returned (.tuple #[.int .i64 c, .int .i64 0]) ∧ RS B T U tb bx gs tp code P (u - c) w' ∧ Ch (fun k => B ≤ k) w w' := by
  obtain ⟨m, sv, cs, an, os, clk, h⟩ := h
  have H := Lib.hid h
  have HS := Lib.hid hstep
  have d1 : decide ((c : Int) < 0) = false := by rw [decide_eq_false_iff_not]; omega
  have d2 : decide ((1000000 : Int) < (c : Int)) = false := by rw [decide_eq_false_iff_not]; omega
  clear h hstep
  go_enter Tryz.func12, Tryz.ntmps12
  go_wp2_with fail
  refine (bThere_any H.out.st.board).mono ?_; rintro e w0 ⟨rfl, rfl⟩
  go_wp2_with fail
  refine H.out.told.mono ?_; rintro e w1 ⟨rfl, hri, hch⟩
  have HR1 : Hid (RS B T U tb bx gs tp code P (u - 0) w1) := Lib.hid ⟨m, sv, cs, an, os, clk, hri⟩
  have HC1 : Hid (Ch (fun k => B ≤ k) w w1) := Lib.hid (hch.mono (fun _ _ e => H.out.st.fz e))
  clear hri hch
  go_wp2_with fail
  go_loopw [26] (fun i wr => ∃ j : Nat, j ≤ c ∧ i = .int .i64 (j : Int) ∧ RS B T U tb bx gs tp code P (u - j) wr ∧ Ch (fun k => B ≤ k) w wr) (fun i _ => c - (intOf i).toNat)
  case atStart => exact ⟨0, by omega, rfl, HR1.out, HC1.out⟩
  case round =>
    obtain ⟨j, hj, rfl, hrs, hch⟩ := hrel
    by_cases hlt : j < c
    · obtain ⟨m, sv, cs, an, os, clk, h⟩ := hrs
      obtain ⟨i, t, r, l', k, x, hi, ht, hr, hl, hn, hp, hk, ha, hx, hcase⟩ := HS.out m cs (u - j) h.p
      obtain ⟨hai, hi16, hli⟩ := h.tan i t ht
      have cK := h.st.board.cK
      have HR := Lib.hid (runs_any h.st.kern hi ht hr hl hn)
      have HH := Lib.hid h
      have HCH := Lib.hid hch
      have HCASE := Lib.hid hcase
      have HP := Lib.hid hp
      have HX := Lib.hid hx
      have HA := Lib.hid ha
      have HT := Lib.hid ht
      clear h hch hcase hp hx ha ht hr hl hn hai hi16
      go_wp2_with fail
      refine HR.out.mono ?_; rintro e w2 ⟨rfl, hch2⟩
      have h2 := HH.out.no hch2
      have HC2 : Hid (Ch (fun k => B ≤ k) w w2) := Lib.hid (HCH.out.trans (hch2.mono (fun _ _ e => e.elim)))
      have cM := h2.st.board.cMap
      have hlook := h2.st.look hli
      have hcs := h2.st.core i hli
      have b0 := hcs.box.cell (j := 0) rfl
      have H2 := Lib.hid h2
      have HCS := Lib.hid hcs
      clear h2 hch2 hcs cK
      go_wp2_with fail
      have hlo := HCS.out.lo.2
      have hroom := H2.out.st.kern.room
      have hgo : Goes (gs i) (cs i) k x w2 := ⟨HP.out, hk, by rw [H2.out.cod i hli]; exact HX.out, HA.out, hlo⟩
      rcases HCASE.out with ⟨c', hsp, hpn⟩ | ⟨a, m', hqa, hask, htell, hsome, hpn⟩
      · -- nothing is asked
        refine (quiet_any HCS.out.core hgo hsp).mono ?_; rintro e w3 ⟨s', hz, rfl, hco3, hch3⟩
        have hz2 : s' = sv i ∨ ∀ q, Live os q → q ≠ i → (sv q).ownBlock = none := by
          by_cases etp : i = tp
          · exact .inr (fun q hq hqi => H2.out.own q (fun e => hqi (e.trans etp.symm)) hq)
          · exact .inl (hz (H2.out.tell i etp x (List.mem_of_getElem? HX.out)))
        have hst3 := H2.out.st.step hli hch3 hco3 hz2
        have hri3 : RI B T U tb bx gs tp code P (u - (j + 1)) m (upd sv i s') (upd cs i c') an os clk w3 := by
          refine ⟨hst3, by rw [← Nat.sub_sub]; exact hpn, H2.out.tan, H2.out.live, fun q hq hl => ?_, H2.out.cod, H2.out.tell⟩
          by_cases e : q = i
          · subst e
            rw [upd_at]
            rw [hz (H2.out.tell q hq x (List.mem_of_getElem? HX.out))]
            exact H2.out.own q hq hl
          · rw [upd_ne _ _ e]; exact H2.out.own q hq hl
        have hb := HCS.out.hi
        have hc3 : Ch (fun k => B ≤ k) w w3 := HC2.out.trans (hch3.mono (fun q _ e => by
          have l1 := H2.out.st.kern.lay1
          have l2 := H2.out.st.kern.lay2
          rcases e with e | e
          · omega
          · have := (HCS.out.core.own5 e).1
            have := HCS.out.lo.1
            omega))
        have HRI3 := Lib.hid hri3
        have HC3 := Lib.hid hc3
        clear hz hz2 hst3 hri3 hc3 hco3 hch3 hgo hsp hpn hlook b0 cM
        unfold askV
        go_wp2_with fail
        go_roundw
        case rel => exact ⟨j + 1, by omega, by go_num, ⟨m, _, _, an, os, clk, HRI3.out.no (Ch.alloc _ _)⟩, HC3.out.trans (Ch.alloc _ _)⟩
        case measure => simp [intOf]; omega
      · -- something is asked
        obtain ⟨wh, hh, v, mm, wt, rfl⟩ := hqa.shape
        refine (stepAsks_any HCS.out.core HP.out hk (by rw [H2.out.cod i hli]; exact HX.out) HA.out hqa).mono ?_; rintro e w3 ⟨rfl, hco3, hch3⟩
        have hst3 := H2.out.st.step hli (hch3.mono (fun _ _ e => .inl e)) hco3 (.inl rfl)
        rw [upd_self] at hst3
        have hb := HCS.out.hi
        have hc3 : Ch (fun k => B ≤ k) w w3 := HC2.out.trans (hch3.mono (fun q _ e => by
          have l1 := H2.out.st.kern.lay1
          have l2 := H2.out.st.kern.lay2
          omega))
        have gx : Ch No w3 (w3.alloc (.cells #[.int .u8 wh, .int .u32 hh, .int .u32 v, .int .u32 mm, .int .i64 wt] 112)) := Ch.alloc _ _
        have rx := Row.new w3 112 #[.int .u8 wh, .int .u32 hh, .int .u32 v, .int .u32 mm, .int .i64 wt]
        have hst4 := hst3.no gx
        obtain ⟨W4, hW4⟩ : ∃ W4, W4 = w3.alloc (.cells #[.int .u8 wh, .int .u32 hh, .int .u32 v, .int .u32 mm, .int .i64 wt] 112) := ⟨_, rfl⟩
        have hroom3 := hst3.kern.room
        rw [← hW4] at gx rx hst4
        have HST4 := Lib.hid hst4
        have HRX := Lib.hid rx
        have HC4 : Hid (Ch (fun k => B ≤ k) w W4) := Lib.hid (hc3.trans (gx.mono (fun _ _ e => e.elim)))
        have HW4 := Lib.hid hW4
        have HASKK := Lib.hid hask
        have HTELL := Lib.hid htell
        have HPN := Lib.hid hpn
        clear hst3 hc3 gx rx hst4 hW4 hask htell hpn hco3 hch3 hgo hlook b0 cM hqa hsome
        unfold askV
        go_wp2_with fail
        rw [← HW4.out]
        have cK := HST4.out.board.cK
        have a0 := HRX.out.cell (j := 0) rfl
        have a1 := HRX.out.cell (j := 1) rfl
        have a2 := HRX.out.cell (j := 2) rfl
        have a3 := HRX.out.cell (j := 3) rfl
        have a4 := HRX.out.cell (j := 4) rfl
        obtain ⟨XB, hXB⟩ : ∃ XB, XB = w3.heap.size := ⟨_, rfl⟩
        rw [← hXB] at a0 a1 a2 a3 a4 ⊢
        have HRX' : Hid (Row XB 112 #[.int .u8 wh, .int .u32 hh, .int .u32 v, .int .u32 mm, .int .i64 wt] W4) := Lib.hid (by rw [hXB]; exact HRX.out)
        have HXB : Hid (U + 3 ≤ XB) := Lib.hid (by rw [hXB]; exact hroom3)
        clear hXB
        have HASK2 : Hid (∀ W, Ch No W4 W → Calls Tryz.prog 34 #[.pointer (some ⟨B + 69, 0, none⟩), .agg #[.int .u8 wh, .int .u32 hh, .int .u32 v, .int .u32 mm, .int .i64 wt]] W fun e w' => (∃ b n, e = .returned (.tuple #[.bool b, .int .i64 n])) ∧ BS B T U tb bx gs m' sv (upd cs i { cs i with pc := (k : Int) + 1, asked := true }) an os clk w' ∧ Ch (fun q => B ≤ q) w w' ∧ Row XB 112 #[.int .u8 wh, .int .u32 hh, .int .u32 v, .int .u32 mm, .int .i64 wt] w') :=
          Lib.hid (fun W cW => (HASKK.out B T U tb W (HST4.out.kern.no cW)).mono (fun e w' q => by
            obtain ⟨q1, q2, q3⟩ := q
            have hW := HST4.out.no cW
            refine ⟨q1, hW.kern' q3 q2, (HC4.out.trans (cW.mono (fun _ _ e => e.elim))).trans' q3 (fun z hz s => ?_), (HRX'.out.keeps cW (fun x => x)).keeps q3 (skNot HXB.out (by decide) (HRX'.out.keeps cW (fun x => x)))⟩
            rcases s with ⟨s, _, _⟩ | ⟨s, _⟩
            · exact s
            · have l1 := HST4.out.kern.lay1
              have l2 := HST4.out.kern.lay2
              omega))
        go_region_held3 (fun wx => wx.cell? ⟨B + 74, 17, none⟩ = some (.pointer (some ⟨B + 69, 0, none⟩)) ∧ wx.cell? ⟨XB, 0, none⟩ = some (.int .u8 wh) ∧ wx.cell? ⟨XB, 1, none⟩ = some (.int .u32 hh) ∧ wx.cell? ⟨XB, 2, none⟩ = some (.int .u32 v) ∧ wx.cell? ⟨XB, 3, none⟩ = some (.int .u32 mm) ∧ wx.cell? ⟨XB, 4, none⟩ = some (.int .i64 wt)) (first | exact ⟨by assumption, by assumption, by assumption, by assumption, by assumption, by assumption⟩) (first
          | (go_at_call 34; refine (HASK2.out _ (Ch.drewN W4 1)).mono ?_; rintro e w5 ⟨⟨b, n, rfl⟩, hst5, hc5, hr5⟩; have HST5 := Lib.hid hst5; have HC5 := Lib.hid hc5; have k0 := hst5.board.cK; have k1 := hr5.cell (j := 0) (v := .int .u8 wh) rfl; have k2 := hr5.cell (j := 1) (v := .int .u32 hh) rfl; have k3 := hr5.cell (j := 2) (v := .int .u32 v) rfl; have k4 := hr5.cell (j := 3) (v := .int .u32 mm) rfl; have k5 := hr5.cell (j := 4) (v := .int .i64 wt) rfl; clear hst5 hc5 hr5))
        go_wp2_with fail
        refine (H2.out.after (i := i) HST5.out (fun q hq => upd_ne _ _ hq) (by rw [upd_at]) HTELL.out HPN.out).mono ?_; rintro e w6 ⟨rfl, hrs6, hch6⟩
        have HRS6 : Hid (RS B T U tb bx gs tp code P (u - (j + 1)) w6) := Lib.hid (by rw [← Nat.sub_sub]; exact hrs6)
        have HC6 := Lib.hid (HC5.out.trans hch6)
        clear hrs6 hch6 k0 k1 k2 k3 k4 k5 cK a0 a1 a2 a3 a4
        go_wp2_with fail
        go_roundw
        case rel => exact ⟨j + 1, by omega, by go_num, HRS6.out, HC6.out⟩
        case measure => simp [intOf]; omega
    · obtain rfl : j = c := by omega
      have HRS := Lib.hid hrs
      have HCH := Lib.hid hch
      clear hrs hch
      go_wp2_with fail
      go_ret2
      exact ⟨rfl, HRS.out, HCH.out⟩
end
end Go.Proofs.YtcngfaggignmpaaGreatDoor
