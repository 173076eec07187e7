/-
  The top, part 39: NapRun, NapRow, NapSee.
-/
import Derived.Test.YtcngfaggignmpaaGreatDoorS03
import Derived.Test.YtcngfaggignmpaaGreatDoorS06
import Derived.Test.YtcngfaggignmpaaGreatDoorS25
import Derived.Test.YtcngfaggignmpaaGreatDoorS28
import Derived.Test.YtcngfaggignmpaaGreatDoorS38

/-
  The board: it runs till nobody does.
-/
namespace Go.Proofs.YtcngfaggignmpaaGreatDoor
open Go.RowKit Go.ChangeMaps Go.MapKept

/-- Blocks that the board's calls may turn: no row of truth values, but for the kernel's own. -/
def Bn (B U : Nat) (w : World) : Nat → Prop := fun k => B ≤ k ∧ (k < U + 3 ∨ ∀ cs, ¬ Row k 4 cs w)
theorem Bn.back {B U : Nat} {w w1 : World} (h : Ch (Bn B U w) w w1) {k : Nat} (_hk : k < w.heap.size) (s : Bn B U w1 k) : Bn B U w k := by
  refine ⟨s.1, ?_⟩
  rcases s.2 with s | s
  · exact .inl s
  · by_cases hlt : k < U + 3
    · exact .inl hlt
    · refine .inr (fun cs r => ?_)
      by_cases hb : Bn B U w k
      · rcases hb.2 with e | e
        · omega
        · exact e cs r
      · exact s cs (r.keeps h hb)
theorem Ch.tb {B U : Nat} {w w1 w2 : World} (h : Ch (Bn B U w) w w1) (g : Ch (Bn B U w1) w1 w2) : Ch (Bn B U w) w w2 := h.trans' g (fun _ hk s => Bn.back h hk s)
theorem KS.bn {B T U : Nat} {tb : Nat → Nat} {m : KM} {w : World} (h : KS B T U tb m w) {k : Nat} (s : Sk B T U w k) : Bn B U w k := by
  have l1 := h.lay1
  have l2 := h.lay2
  rcases s with ⟨a, b, _⟩ | ⟨a, ty, cs, r, ht⟩
  · exact ⟨a, .inl b⟩
  · refine ⟨by omega, .inr (fun cs' r' => ?_)⟩
    have := r.ty r'
    subst this
    rcases ht with e | e <;> exact absurd e (by decide)
/-- What holds of a board whose cores are not told yet what their tasks were answered. -/
structure RV (B T U : Nat) (tb bx : Nat → Nat) (gs : Nat → CG) (tp : Nat) (code : Nat → List IN) (P : KM → (Nat → CM) → Nat → Prop) (u : Nat) (m : KM) (sv : Nat → Value) (cs : Nat → CM) (an : Nat → Int) (os : List (Nat × Nat)) (clk : Nat) (w : World) : Prop where
  st : BS B T U tb bx gs m sv cs an os clk w
  p : P m (fun i => toldC (m.tk i) (cs i) (an i)) u
  tan : ∀ i t, m.tk i = some t → an i ≤ t.ans ∧ (an i < t.ans → (cs i).asked = true ∧ 0 ≤ t.last ∧ t.last < 16) ∧ i < 16 ∧ Live os i
  live : ∀ i, Live os i → (m.tk i).isSome = true
  own : ∀ i, i ≠ tp → Live os i → (sv i).ownBlock = none
  cod : ∀ i, Live os i → (gs i).code = code i
  tell : ∀ i, i ≠ tp → ∀ x ∈ code i, x.op ≠ 20
/-- .. and somewhere. -/
def RW (B T U : Nat) (tb bx : Nat → Nat) (gs : Nat → CG) (tp : Nat) (code : Nat → List IN) (P : KM → (Nat → CM) → Nat → Prop) (u : Nat) (w : World) : Prop :=
  ∃ m sv cs an os clk, RV B T U tb bx gs tp code P u m sv cs an os clk w

section
variable {B T U : Nat} {tb bx : Nat → Nat} {gs : Nat → CG} {tp : Nat} {code : Nat → List IN} {P Q : KM → (Nat → CM) → Nat → Prop} {u : Nat} {m m' : KM} {sv : Nat → Value} {cs : Nat → CM} {an : Nat → Int} {os : List (Nat × Nat)} {clk : Nat} {w w' : World} {i : Nat}
theorem RI.imp (h : RI B T U tb bx gs tp code P u m sv cs an os clk w) {u' : Nat} (g : P m cs u → Q m cs u') : RI B T U tb bx gs tp code Q u' m sv cs an os clk w := ⟨h.st, g h.p, h.tan, h.live, h.own, h.cod, h.tell⟩
theorem BS.fzb (h : BS B T U tb bx gs m sv cs an os clk w) {k : Nat} (e : Fz B bx gs os k) : Bn B U w k := by
  have l1 := h.kern.lay1
  have l2 := h.kern.lay2
  rcases e with rfl | ⟨i, hi, rfl | rfl⟩
  · exact ⟨by omega, .inl (by omega)⟩
  · have hc := h.core i hi
    have := hc.hi
    refine ⟨by omega, .inr (fun cs r => absurd (hc.box.ty r) (by decide))⟩
  · have hc := h.core i hi
    have := hc.hi
    refine ⟨by omega, .inr (fun cs r => absurd (hc.core.core.ty r) (by decide))⟩
theorem BS.stepb (h : BS B T U tb bx gs m sv cs an os clk w) (hi : Live os i) {k : Nat} (e : k = (gs i).b ∨ (sv i).ownBlock = some k) : Bn B U w k := by
  have l1 := h.kern.lay1
  have l2 := h.kern.lay2
  have hc := h.core i hi
  have h1 := hc.hi
  have h2 := hc.lo.1
  rcases e with rfl | e
  · exact ⟨by omega, .inr (fun cs r => absurd (hc.core.core.ty r) (by decide))⟩
  · obtain ⟨a, cur, r⟩ := hc.core.own5 e
    exact ⟨by omega, .inr (fun cs r' => absurd (r.ty r') (by decide))⟩
/-- The cores are told. -/
theorem RV.told (h : RV B T U tb bx gs tp code P u m sv cs an os clk w) :
    Calls Tryz.prog 30 #[.pointer (some ⟨B + 74, 0, none⟩)] w fun e w' => e = .returned (.tuple #[]) ∧ RS B T U tb bx gs tp code P u w' ∧ Ch (Bn B U w) w w' := by
  refine (told_any h.st (fun i t ht => (h.tan i t ht).2.2) (fun i t ht hlt => (h.tan i t ht).2.1 hlt)).mono ?_
  rintro e w' ⟨rfl, hb, hch⟩
  rw [filter_live h.live] at hb
  refine ⟨rfl, ⟨m, sv, _, _, os, clk, hb, h.p, fun i t ht => ⟨?_, (h.tan i t ht).2.2⟩, h.live, h.own, h.cod, h.tell⟩, hch.mono (fun _ _ e => h.st.fzb e)⟩
  show toldA (m.tk i) (an i) = t.ans
  rw [ht]
  show (if an i < t.ans then t.ans else an i) = t.ans
  have := (h.tan i t ht).1
  by_cases hlt : an i < t.ans
  · rw [if_pos hlt]
  · rw [if_neg hlt]; omega
theorem RI.untold (h : RI B T U tb bx gs tp code P u m sv cs an os clk w) : RV B T U tb bx gs tp code P u m sv cs an os clk w := by
  have e1 : (fun i => toldC (m.tk i) (cs i) (an i)) = cs := by
    funext i
    cases e : m.tk i with
    | none => rfl
    | some t =>
      show (if an i < t.ans then _ else cs i) = cs i
      rw [if_neg (by rw [(h.tan i t e).1]; omega)]
  refine ⟨h.st, by rw [e1]; exact h.p, fun i t ht => ?_, h.live, h.own, h.cod, h.tell⟩
  obtain ⟨a, b⟩ := h.tan i t ht
  exact ⟨by omega, fun hlt => by omega, b⟩
theorem zeroCore (w : World) : (zeroValue 107).run Tryz.prog w = .ok (.pointer none) w := by kernel_rfl
theorem BS.look0 (h : BS B T U tb bx gs m sv cs an os clk w) : (Instr.lookup 79 (.map (some (B + 73))) (.int .u32 0) false).run Tryz.prog w = .ok (.pointer none) w := by
  rcases findNow_spec (d := .int .u32) (k := .int .u32 0) (by simp [IsKey]) (entA bx os).toList 0 (entA_keys bx os) with ⟨h1, h2⟩ | ⟨j, e, h1, h2, h3⟩
  · exact run_look1_none Tryz.underlying79 Tryz.underlying34 w (B + 73) _ clk 0 _ h.map (zeroCore w) h1
  · exfalso
    unfold entA at h2
    rw [List.getElem?_map] at h2
    cases e2 : os[j]? with
    | none => rw [e2] at h2; simp at h2
    | some x =>
      rw [e2] at h2
      simp at h2
      subst h2
      simp [entC] at h3
      omega

/-- Behind what the kernel answered: whoever was told has it. -/
theorem RI.after4 (h : RI B T U tb bx gs tp code P u m sv cs an os clk w) {cs1 : Nat → CM} {i : Nat} {u' : Nat} (hb : BS B T U tb bx gs m' sv cs1 an os clk w') (hcs : ∀ j, j ≠ i → cs1 j = cs j) (hasked : (cs1 i).asked = true)
    (ht : Tellable m m' cs i) (hp : P m' (fun j => toldC (m'.tk j) (cs1 j) (ansOf (m.tk j))) u') :
    Calls Tryz.prog 30 #[.pointer (some ⟨B + 74, 0, none⟩)] w' fun e w'' => e = .returned (.tuple #[]) ∧ RS B T U tb bx gs tp code P u' w'' ∧ Ch (Bn B U w') w' w'' := by
  have han : ∀ j t', m'.tk j = some t' → ∃ t0, m.tk j = some t0 ∧ an j = t0.ans := fun j t' e => by
    obtain ⟨t0, e0, _⟩ := ht j t' e
    exact ⟨t0, e0, (h.tan j t0 e0).1⟩
  refine (told_any hb (fun j t' e => ?_) (fun j t' e hlt => ?_)).mono ?_
  · obtain ⟨t0, e0, _⟩ := ht j t' e
    exact (h.tan j t0 e0).2
  · obtain ⟨t0, e0, hle, hask, hlast⟩ := ht j t' e
    refine ⟨?_, hlast⟩
    by_cases ej : j = i
    · subst ej; exact hasked
    · rw [hcs j ej]
      exact hask (by rw [← (h.tan j t0 e0).1]; exact hlt) ej
  · rintro e w'' ⟨rfl, hb2, hch⟩
    have e1 : (fun j => toldC (m'.tk j) (cs1 j) (an j)) = (fun j => toldC (m'.tk j) (cs1 j) (ansOf (m.tk j))) := by
      funext j
      cases e : m'.tk j with
      | none => rfl
      | some t' =>
        obtain ⟨t0, e0, ea⟩ := han j t' e
        rw [e0, ea]
        rfl
    rw [e1] at hb2
    refine ⟨rfl, ⟨m', sv, _, _, _, clk, hb2, hp, fun j t' e => ?_, fun j hj => ?_, fun j hj hl => ?_, fun j hl => ?_, h.tell⟩, hch.mono (fun _ _ e => hb.fzb e)⟩
    · obtain ⟨t0, e0, hle, _⟩ := ht j t' e
      obtain ⟨ea, hj, s, hs⟩ := h.tan j t0 e0
      refine ⟨?_, hj, s, List.mem_filter.2 ⟨hs, by rw [e]; rfl⟩⟩
      rw [e]
      show (if an j < t'.ans then t'.ans else an j) = t'.ans
      by_cases hlt : an j < t'.ans
      · rw [if_pos hlt]
      · rw [if_neg hlt]; omega
    · obtain ⟨s, hs⟩ := hj
      exact (List.mem_filter.1 hs).2
    · obtain ⟨s, hs⟩ := hl
      exact h.own j hj ⟨s, (List.mem_filter.1 hs).1⟩
    · obtain ⟨s, hs⟩ := hl
      exact h.cod j ⟨s, (List.mem_filter.1 hs).1⟩

set_option maxRecDepth 100000 in
set_option maxHeartbeats 4000000 in
theorem run_rest (hstep : ∀ m cs u, P m cs u → Still m ∨ (0 < u ∧ OneStep code P m cs u)) (c : Nat) (huc : u < c) (hc : c ≤ 1000000) (h : RW B T U tb bx gs tp code P u w) :
    Calls Tryz.prog 12 #[.pointer (some ⟨B + 74, 0, none⟩), .int .i64 c] w fun e w' => ∃ d : Nat, d ≤ u ∧ e = .returned (.tuple #[.int .i64 d, .int .i64 0]) ∧ RS B T U tb bx gs tp code (fun m cs u => P m cs u ∧ Still m) (u - d) w' ∧ Ch (Bn B U w) w w' := by
  obtain ⟨m, sv, cs, an, os, clk, h⟩ := h
  have H := Lib.hid h
  have HS := Lib.hid hstep
  have d1 : decide ((c : Int) < 0) = false := by rw [decide_eq_false_iff_not]; omega
  have d2 : decide ((1000000 : Int) < (c : Int)) = false := by rw [decide_eq_false_iff_not]; omega
  clear h hstep
  go_enter Tryz.func12, Tryz.ntmps12
  go_wp2_with fail
  refine (bThere_any H.out.st.board).mono ?_; rintro e w0 ⟨rfl, rfl⟩
  go_wp2_with fail
  refine H.out.told.mono ?_; rintro e w1 ⟨rfl, hri, hch⟩
  have HR1 : Hid (RS B T U tb bx gs tp code P (u - 0) w1) := Lib.hid hri
  have HC1 : Hid (Ch (Bn B U w) w w1) := Lib.hid hch
  clear hri hch
  go_wp2_with fail
  go_loopw [26] (fun i wr => ∃ j : Nat, j ≤ u ∧ i = .int .i64 (j : Int) ∧ RS B T U tb bx gs tp code P (u - j) wr ∧ Ch (Bn B U w) w wr) (fun i _ => c - (intOf i).toNat)
  case atStart => exact ⟨0, by omega, rfl, HR1.out, HC1.out⟩
  case round =>
    obtain ⟨j, hj, rfl, hrs, hch⟩ := hrel
    have hlt : j < c := by omega
    · obtain ⟨m, sv, cs, an, os, clk, h⟩ := hrs
      rcases HS.out m cs (u - j) h.p with hstill | ⟨hpos, hone⟩
      · have cK := h.st.board.cK
        have HR := Lib.hid (runs_none h.st.kern hstill.2)
        have HH := Lib.hid (h.imp (Q := fun m cs u => P m cs u ∧ Still m) (fun hp => ⟨hp, hstill⟩))
        have HCH := Lib.hid hch
        clear h hch hstill
        go_wp2_with fail
        refine HR.out.mono ?_; rintro e w2 ⟨rfl, hch2⟩
        have h2 := HH.out.no hch2
        have HC2 : Hid (Ch (Bn B U w) w w2) := Lib.hid (HCH.out.trans (hch2.mono (fun _ _ e => e.elim)))
        have cM := h2.st.board.cMap
        have hlook := h2.st.look0
        have H2 := Lib.hid h2
        clear h2 hch2 cK
        go_wp2_with fail
        go_ret2
        exact ⟨j, hj, rfl, ⟨m, sv, cs, an, os, clk, H2.out⟩, HC2.out⟩
      obtain ⟨i, t, r, l', k, x, hi, ht, hr, hl, hn, hp, hk, ha, hx, hcase⟩ := hone
      obtain ⟨hai, hi16, hli⟩ := h.tan i t ht
      have cK := h.st.board.cK
      have HR := Lib.hid (runs_any h.st.kern hi ht hr hl hn)
      have HH := Lib.hid h
      have HCH := Lib.hid hch
      have HCASE := Lib.hid hcase
      have HP := Lib.hid hp
      have HX := Lib.hid hx
      have HA := Lib.hid ha
      have HT := Lib.hid ht
      clear h hch hcase hp hx ha ht hr hl hn hai hi16
      go_wp2_with fail
      refine HR.out.mono ?_; rintro e w2 ⟨rfl, hch2⟩
      have h2 := HH.out.no hch2
      have HC2 : Hid (Ch (Bn B U w) w w2) := Lib.hid (HCH.out.trans (hch2.mono (fun _ _ e => e.elim)))
      have cM := h2.st.board.cMap
      have hlook := h2.st.look hli
      have hcs := h2.st.core i hli
      have b0 := hcs.box.cell (j := 0) rfl
      have H2 := Lib.hid h2
      have HCS := Lib.hid hcs
      clear h2 hch2 hcs cK
      go_wp2_with fail
      have hlo := HCS.out.lo.2
      have hroom := H2.out.st.kern.room
      have hgo : Goes (gs i) (cs i) k x w2 := ⟨HP.out, hk, by rw [H2.out.cod i hli]; exact HX.out, HA.out, hlo⟩
      rcases HCASE.out with ⟨c', hsp, hpn⟩ | ⟨a, m', hqa, hask, htell, hsome, hpn⟩
      · -- nothing is asked
        refine (quiet_any HCS.out.core hgo hsp).mono ?_; rintro e w3 ⟨s', hz, rfl, hco3, hch3⟩
        have hz2 : s' = sv i ∨ ∀ q, Live os q → q ≠ i → (sv q).ownBlock = none := by
          by_cases etp : i = tp
          · exact .inr (fun q hq hqi => H2.out.own q (fun e => hqi (e.trans etp.symm)) hq)
          · exact .inl (hz (H2.out.tell i etp x (List.mem_of_getElem? HX.out)))
        have hst3 := H2.out.st.step hli hch3 hco3 hz2
        have hri3 : RI B T U tb bx gs tp code P (u - (j + 1)) m (upd sv i s') (upd cs i c') an os clk w3 := by
          refine ⟨hst3, by rw [← Nat.sub_sub]; exact hpn, H2.out.tan, H2.out.live, fun q hq hl => ?_, H2.out.cod, H2.out.tell⟩
          by_cases e : q = i
          · subst e
            rw [upd_at]
            rw [hz (H2.out.tell q hq x (List.mem_of_getElem? HX.out))]
            exact H2.out.own q hq hl
          · rw [upd_ne _ _ e]; exact H2.out.own q hq hl
        have hb := HCS.out.hi
        have hc3 : Ch (Bn B U w) w w3 := HC2.out.tb (hch3.mono (fun q _ e => H2.out.st.stepb hli e))
        have HRI3 := Lib.hid hri3
        have HC3 := Lib.hid hc3
        clear hz hz2 hst3 hri3 hc3 hco3 hch3 hgo hsp hpn hlook b0 cM
        unfold askV
        go_wp2_with fail
        go_roundw
        case rel => exact ⟨j + 1, by omega, by go_num, ⟨m, _, _, an, os, clk, HRI3.out.no (Ch.alloc _ _)⟩, HC3.out.trans (Ch.alloc _ _)⟩
        case measure => simp [intOf]; omega
      · -- something is asked
        obtain ⟨wh, hh, v, mm, wt, rfl⟩ := hqa.shape
        refine (stepAsks_any HCS.out.core HP.out hk (by rw [H2.out.cod i hli]; exact HX.out) HA.out hqa).mono ?_; rintro e w3 ⟨rfl, hco3, hch3⟩
        have hst3 := H2.out.st.step hli (hch3.mono (fun _ _ e => .inl e)) hco3 (.inl rfl)
        rw [upd_self] at hst3
        have hb := HCS.out.hi
        have hc3 : Ch (Bn B U w) w w3 := HC2.out.tb (hch3.mono (fun q _ e => H2.out.st.stepb hli (.inl e)))
        have gx : Ch No w3 (w3.alloc (.cells #[.int .u8 wh, .int .u32 hh, .int .u32 v, .int .u32 mm, .int .i64 wt] 112)) := Ch.alloc _ _
        have rx := Row.new w3 112 #[.int .u8 wh, .int .u32 hh, .int .u32 v, .int .u32 mm, .int .i64 wt]
        have hst4 := hst3.no gx
        obtain ⟨W4, hW4⟩ : ∃ W4, W4 = w3.alloc (.cells #[.int .u8 wh, .int .u32 hh, .int .u32 v, .int .u32 mm, .int .i64 wt] 112) := ⟨_, rfl⟩
        have hroom3 := hst3.kern.room
        rw [← hW4] at gx rx hst4
        have HST4 := Lib.hid hst4
        have HRX := Lib.hid rx
        have HC4 : Hid (Ch (Bn B U w) w W4) := Lib.hid (hc3.trans (gx.mono (fun _ _ e => e.elim)))
        have HW4 := Lib.hid hW4
        have HASKK := Lib.hid hask
        have HTELL := Lib.hid htell
        have HPN := Lib.hid hpn
        clear hst3 hc3 gx rx hst4 hW4 hask htell hpn hco3 hch3 hgo hlook b0 cM hqa hsome
        unfold askV
        go_wp2_with fail
        rw [← HW4.out]
        have cK := HST4.out.board.cK
        have a0 := HRX.out.cell (j := 0) rfl
        have a1 := HRX.out.cell (j := 1) rfl
        have a2 := HRX.out.cell (j := 2) rfl
        have a3 := HRX.out.cell (j := 3) rfl
        have a4 := HRX.out.cell (j := 4) rfl
        obtain ⟨XB, hXB⟩ : ∃ XB, XB = w3.heap.size := ⟨_, rfl⟩
        rw [← hXB] at a0 a1 a2 a3 a4 ⊢
        have HRX' : Hid (Row XB 112 #[.int .u8 wh, .int .u32 hh, .int .u32 v, .int .u32 mm, .int .i64 wt] W4) := Lib.hid (by rw [hXB]; exact HRX.out)
        have HXB : Hid (U + 3 ≤ XB) := Lib.hid (by rw [hXB]; exact hroom3)
        clear hXB
        have HASK2 : Hid (∀ W, Ch No W4 W → Calls Tryz.prog 34 #[.pointer (some ⟨B + 69, 0, none⟩), .agg #[.int .u8 wh, .int .u32 hh, .int .u32 v, .int .u32 mm, .int .i64 wt]] W fun e w' => (∃ b n, e = .returned (.tuple #[.bool b, .int .i64 n])) ∧ BS B T U tb bx gs m' sv (upd cs i { cs i with pc := (k : Int) + 1, asked := true }) an os clk w' ∧ Ch (Bn B U w) w w' ∧ Row XB 112 #[.int .u8 wh, .int .u32 hh, .int .u32 v, .int .u32 mm, .int .i64 wt] w') :=
          Lib.hid (fun W cW => (HASKK.out B T U tb W (HST4.out.kern.no cW)).mono (fun e w' q => by
            obtain ⟨q1, q2, q3⟩ := q
            have hW := HST4.out.no cW
            refine ⟨q1, hW.kern' q3 q2, (HC4.out.trans (cW.mono (fun _ _ e => e.elim))).tb (q3.mono (fun _ _ s => hW.kern.bn s)), (HRX'.out.keeps cW (fun x => x)).keeps q3 (skNot HXB.out (by decide) (HRX'.out.keeps cW (fun x => x)))⟩))
        go_region_held3 (fun wx => wx.cell? ⟨B + 74, 17, none⟩ = some (.pointer (some ⟨B + 69, 0, none⟩)) ∧ wx.cell? ⟨XB, 0, none⟩ = some (.int .u8 wh) ∧ wx.cell? ⟨XB, 1, none⟩ = some (.int .u32 hh) ∧ wx.cell? ⟨XB, 2, none⟩ = some (.int .u32 v) ∧ wx.cell? ⟨XB, 3, none⟩ = some (.int .u32 mm) ∧ wx.cell? ⟨XB, 4, none⟩ = some (.int .i64 wt)) (first | exact ⟨by assumption, by assumption, by assumption, by assumption, by assumption, by assumption⟩) (first
          | (go_at_call 34; refine (HASK2.out _ (Ch.drewN W4 1)).mono ?_; rintro e w5 ⟨⟨b, n, rfl⟩, hst5, hc5, hr5⟩; have HST5 := Lib.hid hst5; have HC5 := Lib.hid hc5; have k0 := hst5.board.cK; have k1 := hr5.cell (j := 0) (v := .int .u8 wh) rfl; have k2 := hr5.cell (j := 1) (v := .int .u32 hh) rfl; have k3 := hr5.cell (j := 2) (v := .int .u32 v) rfl; have k4 := hr5.cell (j := 3) (v := .int .u32 mm) rfl; have k5 := hr5.cell (j := 4) (v := .int .i64 wt) rfl; clear hst5 hc5 hr5))
        go_wp2_with fail
        refine (H2.out.after4 (i := i) HST5.out (fun q hq => upd_ne _ _ hq) (by rw [upd_at]) HTELL.out HPN.out).mono ?_; rintro e w6 ⟨rfl, hrs6, hch6⟩
        have HRS6 : Hid (RS B T U tb bx gs tp code P (u - (j + 1)) w6) := Lib.hid (by rw [← Nat.sub_sub]; exact hrs6)
        have HC6 := Lib.hid (HC5.out.tb hch6)
        clear hrs6 hch6 k0 k1 k2 k3 k4 k5 cK a0 a1 a2 a3 a4
        go_wp2_with fail
        go_roundw
        case rel => exact ⟨j + 1, by omega, by go_num, HRS6.out, HC6.out⟩
        case measure => simp [intOf]; omega
end
end Go.Proofs.YtcngfaggignmpaaGreatDoor

/-
  Queues: the list of all.
-/
namespace Go.Proofs.YtcngfaggignmpaaGreatDoor
open Go.RowKit

theorem info34 : (Tryz.prog.info? 34).map (fun i => (i.zero, i.size, i.bytes)) = some (some (.int .u32 0), 1, 4) := by kernel_rfl
/-- A slice of numbers of 32 bits that was made since base, and holds l. -/
def U32s (base : Nat) (v : Value) (l : List Int) (w : World) : Prop := w.ownsRow base 34 1 v l.length (l.map (Value.int .u32))
theorem U32s.slice {base : Nat} {v : Value} {l : List Int} {w : World} (h : U32s base v l w) : ∃ a cap, v = .slice a l.length cap := by
  rcases h.2 with ⟨e, h0⟩ | ⟨g, cap, cur, e, _⟩
  · exact ⟨none, 0, by rw [e, h0]⟩
  · exact ⟨_, _, e⟩
theorem U32s.cells {base : Nat} {v : Value} {l : List Int} {w : World} (h : U32s base v l w) (hl : l ≠ []) :
    ∃ g cap, v = .slice (some ⟨g, 0, none⟩) l.length cap ∧ base ≤ g ∧ ∃ cs, Row g 34 cs w ∧ ∀ (i : Nat) x, l[i]? = some x → cs[i]? = some (.int .u32 x) := by
  rcases h.2 with ⟨e, h0⟩ | ⟨g, cap, cur, e, hb, hg, hn, hm, hs, ht⟩
  · exact absurd (List.eq_nil_of_length_eq_zero h0) hl
  · refine ⟨g, cap, e, hb, cur, hg, fun i x hi => ?_⟩
    have hil : i < l.length := (List.getElem?_eq_some_iff.1 hi).1
    have h1 : (cur.toList.take (l.length * 1))[i]? = some (.int .u32 x) := by rw [ht, List.getElem?_map, hi]; rfl
    rw [List.getElem?_take_of_lt (by omega)] at h1
    simpa using h1

set_option maxHeartbeats 2000000 in
theorem quList_any (w : World) (b most : Nat) (l : List Int) (h : QU b most l w) :
    Calls Tryz.prog 75 #[.pointer (some ⟨b, 0, none⟩)] w fun e w' => ∃ v, e = .returned v ∧ U32s w.heap.size v l w' ∧ Ch No w w' := by
  obtain ⟨i0, hi, hz0, hz1, hz2⟩ := info_parts info34
  obtain ⟨f, t, cs, h⟩ := h
  have H := Lib.hid h
  have c2 := h.row.cell h.cn
  have hm := h.room
  have hm1 := h.most1
  clear h
  go_enter Tryz.func75, Tryz.ntmps75
  go_wp2_with fail
  go_loopw [2, 3, 11] (fun v _ i wr => ∃ k : Nat, k ≤ l.length ∧ i = .int .i64 (k : Int) ∧ wr.ownsRow w.heap.size 34 1 v k ((l.take k).map (Value.int .u32)) ∧ Ch No w wr) (fun _ _ i _ => l.length - (intOf i).toNat)
  case atStart => exact ⟨0, by omega, rfl, World.ownsRow_nil _ _ _ _, Ch.refl _ _⟩
  case round =>
    obtain ⟨k, hk, rfl, hown, hch⟩ := hrel
    by_cases hlt : k < l.length
    · obtain ⟨y, hy⟩ : ∃ y, l[k]? = some y := ⟨_, List.getElem?_eq_getElem hlt⟩
      have hr := H.out.keeps hch (fun x => x)
      have cb := hr.row.cell (hr.has k y hy)
      have HT : Hid ((l.take (k + 1)).map (Value.int .u32) = (l.take k).map (Value.int .u32) ++ [.int .u32 y]) := Lib.hid (by rw [List.take_add_one, hy]; simp)
      have HH := Lib.hid hr
      have HC := Lib.hid hch
      have hsz := hch.size
      clear hr hy hch
      go_wp2_with fail
      refine (quAt_any _ b most f t cs l k (by omega) HH.out).mono ?_; rintro e1 w1 ⟨rfl, q2, rfl⟩
      go_wp2_with (first
        | (at_builtin; refine wpList_append_own _ rfl _ _ 60 rfl w.heap.size 34 i0 (.int .u32 0) 1 4 Tryz.underlying60 hi hz0 hz1 hz2 rfl (by decide) _ _ _ rfl (World.ownsRow.alloc (w := wr.drewN q2) hown _) ⟨wr.heap.size, 0, none⟩ 1 1 [.int .u32 y] rfl rfl ?c1 ?c2 ?c3 ?c4 ?c5 ?_))
      case c1 =>
        intro j u hj
        match j, hj with
        | 0, hj => simp at hj; subst hj; exact (Row.new (wr.drewN q2) 34 #[.int .u32 y]).cell (j := 0) rfl
      case c2 => intro u hu; simp at hu; subst hu; rfl
      case c3 => unfold maxLen; omega
      case c4 => omega
      case c5 => simp; omega
      · intro v' w2 hown' hgrow _
        have hg2 : Ch No w w2 := ((HC.out.trans (Ch.drewN wr q2)).trans (Ch.alloc _ _)).grownOwn hgrow (own_ge hown)
        clear hown hgrow
        go_wp2
        go_roundw
        case rel => exact ⟨k + 1, by omega, by go_num, by rw [HT.out, List.map_take]; exact hown', hg2⟩
        case measure => simp [intOf]; omega
    · obtain rfl : k = l.length := by omega
      rw [List.take_length] at hown
      go_wp2_with fail
      go_ret
      exact ⟨_, rfl, hown, hch⟩
end Go.Proofs.YtcngfaggignmpaaGreatDoor

/-
  A row as a thing: as it is seen.
-/
namespace Go.Proofs.YtcngfaggignmpaaGreatDoor
open Go.RowKit

theorem U32s.low {base base' : Nat} {v : Value} {l : List Int} {w : World} (h : U32s base v l w) (hb : base' ≤ base) : U32s base' v l w := by
  refine ⟨h.1, ?_⟩
  rcases h.2 with h0 | ⟨g, cap, cur, e, hg, r⟩
  · exact .inl h0
  · exact .inr ⟨g, cap, cur, e, Nat.le_trans hb hg, r⟩
theorem U32s.keeps {base : Nat} {v : Value} {l : List Int} {w w' : World} {S : Nat → Prop} (h : U32s base v l w) (c : Ch S w w') (hn : ∀ k, base ≤ k → ¬ S k) : U32s base v l w' := by
  refine ⟨h.1, ?_⟩
  rcases h.2 with h0 | ⟨g, cap, cur, rfl, hb, hg, r⟩
  · exact .inl h0
  · exact .inr ⟨g, cap, cur, rfl, hb, c.keeps hg (hn g hb), r⟩
/-- A row as it is seen, but for its handle and who waits. -/
def seenV (h : Int) (most : Nat) (v : Value) : Value := .agg #[.int .u32 h, .int .u8 3, .int .u32 most, .int .u32 0, .int .u32 0, .int .u32 0, v, .slice none 0 0, .int .i64 0, .slice none 0 0]

theorem assert_144 (p : Addr) (w : World) : (Instr.typeAssert (.iface 155 (.pointer (some p))) 141 144 true).run Tryz.prog w = .ok (.tuple #[.pointer none, .bool false]) w := by kernel_rfl
theorem assert_149 (p : Addr) (w : World) : (Instr.typeAssert (.iface 155 (.pointer (some p))) 141 149 true).run Tryz.prog w = .ok (.tuple #[.pointer none, .bool false]) w := by kernel_rfl
theorem assert_155 (p : Addr) (w : World) : (Instr.typeAssert (.iface 155 (.pointer (some p))) 141 155 true).run Tryz.prog w = .ok (.tuple #[.pointer (some p), .bool true]) w := by kernel_rfl

theorem sets10 (a0 a1 a2 a3 a4 a5 a6 a7 a8 a9 v0 v1 v2 v3 v4 v5 v6 v7 v8 v9 : Value) : (((((((((((#[a0, a1, a2, a3, a4, a5, a6, a7, a8, a9] : Array Value).setIfInBounds 0 v0).setIfInBounds 1 v1).setIfInBounds 2 v2).setIfInBounds 3 v3).setIfInBounds 4 v4).setIfInBounds 5 v5).setIfInBounds 6 v6).setIfInBounds 7 v7).setIfInBounds 8 v8).setIfInBounds 9 v9) = #[v0, v1, v2, v3, v4, v5, v6, v7, v8, v9] := by simp

set_option maxRecDepth 100000 in
set_option maxHeartbeats 4000000 in
theorem see_any (w : World) (b most : Nat) (l : List Int) (h : TH b most l w) :
    Calls Tryz.prog 35 #[.pointer (some ⟨b, 0, none⟩)] w fun e w' => ∃ v, e = .returned (seenV 0 most v) ∧ U32s w.heap.size v l w' ∧ Ch No w w' := by
  have q1 := assert_144
  have q2 := assert_149
  have q3 := assert_155
  have H := Lib.hid h
  have hlt := h.head.lt
  have hlt2 := h.kind.lt
  have c0 := h.head.cell (j := 0) rfl
  have c1 := h.head.cell (j := 1) rfl
  have c2 := h.head.cell (j := 2) rfl
  have c3 := h.head.cell (j := 3) rfl
  have c4 := h.kind.cell (j := 0) rfl
  clear h
  go_enter Tryz.func35, Tryz.ntmps35
  go_wp2_with fail
  refine (thThere_any _ b most l (H.out.no (Ch.alloc w _))).mono ?_; rintro e w1 ⟨rfl, rfl⟩
  go_wp2_with fail
  refine (quList_any _ (b + 1) most l (H.out.queue.keeps (S := No) ((Ch.alloc w _).trans (Ch.alloc _ _)) (fun x => x))).mono ?_; rintro e w1 ⟨v, rfl, hu, hch⟩
  obtain ⟨a, cap, rfl⟩ := hu.slice
  have r0 := ((Row.new w 62 #[.int .u32 0, .int .u8 0, .int .u32 0, .int .u32 0, .int .u32 0, .int .u32 0, .slice none 0 0, .slice none 0 0, .int .i64 0, .slice none 0 0]).alloc (.cells #[.int .u32 0, .int .u8 3, .int .u32 most, .int .u32 0, .int .u32 0, .int .u32 0, .slice none 0 0, .slice none 0 0, .int .i64 0, .slice none 0 0] 62)).keeps hch (fun x => x)
  have r1 := (Row.new (w.alloc (.cells #[.int .u32 0, .int .u8 0, .int .u32 0, .int .u32 0, .int .u32 0, .int .u32 0, .slice none 0 0, .slice none 0 0, .int .i64 0, .slice none 0 0] 62)) 62 #[.int .u32 0, .int .u8 3, .int .u32 most, .int .u32 0, .int .u32 0, .int .u32 0, .slice none 0 0, .slice none 0 0, .int .i64 0, .slice none 0 0]).keeps hch (fun x => x)
  rw [World.size_alloc] at r1
  have a0 := r0.cell (j := 0) rfl
  have b0 := r1.cell (j := 0) rfl
  have f0 := r0.free 0
  have a1 := r0.cell (j := 1) rfl
  have b1 := r1.cell (j := 1) rfl
  have f1 := r0.free 1
  have a2 := r0.cell (j := 2) rfl
  have b2 := r1.cell (j := 2) rfl
  have f2 := r0.free 2
  have a3 := r0.cell (j := 3) rfl
  have b3 := r1.cell (j := 3) rfl
  have f3 := r0.free 3
  have a4 := r0.cell (j := 4) rfl
  have b4 := r1.cell (j := 4) rfl
  have f4 := r0.free 4
  have a5 := r0.cell (j := 5) rfl
  have b5 := r1.cell (j := 5) rfl
  have f5 := r0.free 5
  have a6 := r0.cell (j := 6) rfl
  have b6 := r1.cell (j := 6) rfl
  have f6 := r0.free 6
  have a7 := r0.cell (j := 7) rfl
  have b7 := r1.cell (j := 7) rfl
  have f7 := r0.free 7
  have a8 := r0.cell (j := 8) rfl
  have b8 := r1.cell (j := 8) rfl
  have f8 := r0.free 8
  have a9 := r0.cell (j := 9) rfl
  have b9 := r1.cell (j := 9) rfl
  have f9 := r0.free 9
  have g6 := r1.free 6
  have HU := Lib.hid hu
  have HCH := Lib.hid (((Ch.alloc (S := No) w _).trans (Ch.alloc _ _)).trans hch)
  have HR0 := Lib.hid r0
  clear hu hch r0 r1
  go_wp2_with fail
  have rr := ((((((((((HR0.out.other (q := w.heap.size + 1) (by omega) 6 (.slice a l.length cap)).set 0 (.int .u32 0)).set 1 (.int .u8 3)).set 2 (.int .u32 most)).set 3 (.int .u32 0)).set 4 (.int .u32 0)).set 5 (.int .u32 0)).set 6 (.slice a l.length cap)).set 7 (.slice none 0 0)).set 8 (.int .i64 0)).set 9 (.slice none 0 0)
  rw [sets10] at rr
  have cc := ((((((((((Ch.setCell (S := fun k => k = w.heap.size ∨ k = w.heap.size + 1) w1 (w.heap.size + 1) 6 (.slice a l.length cap) (.inr rfl)).trans (Ch.setCell _ w.heap.size 0 (.int .u32 0) (.inl rfl))).trans (Ch.setCell _ w.heap.size 1 (.int .u8 3) (.inl rfl))).trans (Ch.setCell _ w.heap.size 2 (.int .u32 most) (.inl rfl))).trans (Ch.setCell _ w.heap.size 3 (.int .u32 0) (.inl rfl))).trans (Ch.setCell _ w.heap.size 4 (.int .u32 0) (.inl rfl))).trans (Ch.setCell _ w.heap.size 5 (.int .u32 0) (.inl rfl))).trans (Ch.setCell _ w.heap.size 6 (.slice a l.length cap) (.inl rfl))).trans (Ch.setCell _ w.heap.size 7 (.slice none 0 0) (.inl rfl))).trans (Ch.setCell _ w.heap.size 8 (.int .i64 0) (.inl rfl))).trans (Ch.setCell _ w.heap.size 9 (.slice none 0 0) (.inl rfl))
  have z0 := rr.cell (j := 0) rfl
  have z1 := rr.cell (j := 1) rfl
  have z2 := rr.cell (j := 2) rfl
  have z3 := rr.cell (j := 3) rfl
  have z4 := rr.cell (j := 4) rfl
  have z5 := rr.cell (j := 5) rfl
  have z6 := rr.cell (j := 6) rfl
  have z7 := rr.cell (j := 7) rfl
  have z8 := rr.cell (j := 8) rfl
  have z9 := rr.cell (j := 9) rfl
  refine bodyPost_ret (v := seenV 0 most (.slice a l.length cap)) (by simp [results, Tryz.f35, go_sem, seenV, z0, z1, z2, z3, z4, z5, z6, z7, z8, z9]) rfl ?_
  refine ⟨_, rfl, (HU.out.keeps cc (fun k hk e => ?_)).low (by simp; omega), HCH.out.trans' cc (fun k hk e => by omega)⟩
  simp at hk
  omega
end Go.Proofs.YtcngfaggignmpaaGreatDoor
