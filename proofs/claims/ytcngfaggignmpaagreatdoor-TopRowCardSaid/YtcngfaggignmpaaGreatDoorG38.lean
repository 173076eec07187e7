/-
  The top, part 38: Load, Asks.
-/
import Derived.Test.YtcngfaggignmpaaGreatDoorG33
import Derived.Test.YtcngfaggignmpaaGreatDoorG37

/-
  The board: a task of an image.
-/
namespace Go.Proofs.YtcngfaggignmpaaGreatDoor
open Go.RowKit Go.ChangeMaps Go.MapKept

section
variable {B T U : Nat} {tb bx : Nat → Nat} {gs : Nat → CG} {m : KM} {sv : Nat → Value} {cs : Nat → CM} {an : Nat → Int} {os : List (Nat × Nat)} {clk : Nat} {w w' : World} {i : Nat}
/-- A core more. -/
theorem BS.grow (h : BS B T U tb bx gs m sv cs an os clk w) (g : Ch (fun k => k = B + 73) w w') {b0 : Nat} {g0 : CG} {s0 : Value} {c0 : CM} {a0 : Int}
    (hm : w'.heap[B + 73]? = some (.map ((entA bx os).push ⟨.int .u32 (256 + (i : Int)), .pointer (some ⟨b0, 0, none⟩), clk⟩) (clk + 1))) (hi : i < 16) (hn : ¬ Live os i)
    (hc : CS U (fun _ => b0) (fun _ => g0) (fun _ => s0) (fun _ => c0) (fun _ => a0) i w) (hs : s0.ownBlock = none) (hsep : ∀ j, Live os j → bx j ≠ b0 ∧ (gs j).b ≠ g0.b) :
    BS B T U tb (upd bx i b0) (upd gs i g0) m (upd sv i s0) (upd cs i c0) (upd an i a0) (os ++ [(i, clk)]) (clk + 1) w' := by
  have l1 := h.kern.lay1
  have l2 := h.kern.lay2
  have no : ∀ k ty cur, Row k ty cur w → ¬ (k = B + 73) := fun k ty cur r e => by
    subst e
    exact map_noRow h.map ty cur r
  have hne : ∀ j, Live os j → j ≠ i := fun j hj e => hn (e ▸ hj)
  have hlive : ∀ j, Live (os ++ [(i, clk)]) j → Live os j ∨ j = i := fun j hj => by
    obtain ⟨s, hs⟩ := hj
    rw [List.mem_append] at hs
    rcases hs with hs | hs
    · exact .inl ⟨s, hs⟩
    · simp at hs; exact .inr hs.1
  have k := h.kern
  refine ⟨h.board.keeps g (fun (e : B + 74 = B + 73) => by omega), ?_, ?_, ?_, ?_, fun x hx => ?_, fun j hj => ?_, fun a b ha hb hab => ?_⟩
  · refine ⟨k.lay1, k.lay2, k.lay3, k.lay4, ?_, k.th.keeps g (fun (e : B + 70 = B + 73) => by omega), k.oh.keeps g (fun (e : B + 71 = B + 73) => by omega), k.ready.keeps g (fun k e hb => by simp only [Rqb] at hb; omega), k.sleeps.keeps g (fun (e : B + 65 = B + 73) => by omega) (fun k cs hk r => no k _ _ r), k.alarms.keeps g (fun (e : B + 66 = B + 73) => by omega) (fun (e : B + 66 + 2 = B + 73) => by omega),
      k.thing.keeps g (fun (e : U + 2 = B + 73) => by omega), k.obj.keeps g (fun (e : T = B + 73) => by omega) (fun (e : T + 1 = B + 73) => by omega) (fun (e : T + 2 = B + 73) => by omega), k.wait.keeps g (fun (e : U = B + 73) => by omega) (fun (e : U + 1 = B + 73) => by omega) (fun k cs _ r => no k _ _ r), fun i t hi ht => (k.task i t hi ht).keeps g (no _ _ _ (k.task i t hi ht))⟩
    obtain ⟨c, r, kb⟩ := k.kern
    exact ⟨c, r.keeps g (fun (e : B + 69 = B + 73) => by omega), kb⟩
  · have e : entA (upd bx i b0) (os ++ [(i, clk)]) = (entA bx os).push ⟨.int .u32 (256 + (i : Int)), .pointer (some ⟨b0, 0, none⟩), clk⟩ := by
      unfold entA
      rw [List.map_append]
      have e1 : os.map (entC (upd bx i b0)) = os.map (entC bx) := List.map_congr_left (fun x hx => by
        unfold entC
        rw [upd_ne _ _ (hne x.1 ⟨x.2, hx⟩)])
      rw [e1]
      simp [entC, upd_at]
    rw [e]
    exact hm
  · rw [List.map_append, List.nodup_append]
    refine ⟨h.one, by simp, fun a ha b hb e => ?_⟩
    simp at hb
    subst hb
    obtain ⟨x, hx, rfl⟩ := List.mem_map.1 ha
    exact hne x.1 ⟨x.2, hx⟩ e
  · rw [List.map_append, List.nodup_append]
    refine ⟨h.two, by simp, fun a ha b hb e => ?_⟩
    simp at hb
    subst hb
    obtain ⟨x, hx, rfl⟩ := List.mem_map.1 ha
    have := (h.low x hx).2
    omega
  · rw [List.mem_append] at hx
    rcases hx with hx | hx
    · have := h.low x hx; exact ⟨this.1, by omega⟩
    · simp at hx; subst hx; exact ⟨hi, by simp⟩
  · have ap : ∀ {bx gs sv cs an j}, CS U bx gs sv cs an j w → CS U bx gs sv cs an j w' := fun x => x.apart g (fun k ty cur _ r _ => no k ty cur r)
    rcases hlive j hj with hl | rfl
    · have x := ap (h.core j hl)
      have e := hne j hl
      refine ⟨?_, ?_, ?_, ?_⟩
      · rw [upd_ne _ _ e, upd_ne _ _ e, upd_ne _ _ e]; exact x.box
      · rw [upd_ne _ _ e, upd_ne _ _ e, upd_ne _ _ e]; exact x.core
      · rw [upd_ne _ _ e]; exact x.lo
      · rw [upd_ne _ _ e, upd_ne _ _ e]; exact x.hi
    · have x := ap hc
      refine ⟨?_, ?_, ?_, ?_⟩
      · rw [upd_at, upd_at, upd_at]; exact x.box
      · rw [upd_at, upd_at, upd_at]; exact x.core
      · rw [upd_at]; exact x.lo
      · rw [upd_at, upd_at]; exact x.hi
  · rcases hlive a ha with la | rfl
    · rcases hlive b hb with lb | rfl
      · rw [upd_ne _ _ (hne a la), upd_ne _ _ (hne b lb), upd_ne _ _ (hne a la), upd_ne _ _ (hne b lb), upd_ne _ _ (hne a la), upd_ne _ _ (hne b lb)]
        exact h.sep a b la lb hab
      · rw [upd_ne _ _ (hne a la), upd_at, upd_ne _ _ (hne a la), upd_at, upd_ne _ _ (hne a la), upd_at]
        exact ⟨(hsep a la).1, (hsep a la).2, .inr hs⟩
    · rcases hlive b hb with lb | rfl
      · rw [upd_ne _ _ (hne b lb), upd_at, upd_ne _ _ (hne b lb), upd_at, upd_ne _ _ (hne b lb), upd_at]
        exact ⟨fun e => (hsep b lb).1 e.symm, fun e => (hsep b lb).2 e.symm, .inl hs⟩
      · exact absurd rfl hab
/-- The kernel has a task more. -/
theorem BS.kern2 (h : BS B T U tb bx gs m sv cs an os clk w) (g : Ch (Sk B T U w) w w') {m' : KM} {tb' : Nat → Nat} (k : KS B T U tb' m' w') : BS B T U tb' bx gs m' sv cs an os clk w' := by
  have l1 := h.kern.lay1
  have l2 := h.kern.lay2
  have n81 : ¬ Sk B T U w (B + 74) := fun s => by
    obtain ⟨c, r, _⟩ := h.board
    rcases s with ⟨_, _, e⟩ | ⟨_, c', r'⟩
    · omega
    · exact absurd (r.ty r') (by decide)
  have nmap : ¬ Sk B T U w (B + 73) := fun s => by
    rcases s with ⟨_, _, e⟩ | ⟨_, c', r'⟩
    · omega
    · exact map_noRow h.map _ _ r'
  exact ⟨h.board.keeps g n81, k, g.keeps h.map nmap, h.one, h.two, h.low, fun i hi => (h.core i hi).apart g (fun k ty cur hk r ht => skNot hk (by rcases ht with rfl | rfl | rfl | rfl <;> decide) r), h.sep⟩

set_option maxRecDepth 100000 in
set_option maxHeartbeats 4000000 in
theorem load_any {r b cap : Nat} {l : List IN} (h : BS B T U tb bx gs m sv cs an os clk w) (hc : Cons m) (hi : i < 16) (hn : m.tk i = none) (hag : m.age i = 0) (hus : m.used i = false) (hall : ∀ j, j < i → m.used j = true) (hr : r < 32) (hcalm : Calm (m.task i r)) (hnl : ¬ Live os i)
    (hl : l.length ≤ 1000) (h1 : 1 ≤ l.length) (hcode : Code49 b l w) (hok : ∀ x ∈ l, OkI x) :
    Calls Tryz.prog 10 #[.pointer (some ⟨B + 74, 0, none⟩), imV b l.length cap, .int .i64 r] w fun e w' => ∃ (nb b0 : Nat) (g0 : CG), e = .returned (.tuple #[.int .u32 (256 + i), .int .i64 0]) ∧ g0.code = l ∧
      BS B T U (tb2 tb m i nb) (upd bx i b0) (upd gs i g0) (m.task i r) (upd sv i (.slice none 0 0)) (upd cs i cm0) (upd an i 0) (os ++ [(i, clk)]) (clk + 1) w' ∧ Ch (fun k => B ≤ k) w w' := by
  obtain ⟨W0, hW0⟩ : ∃ W0, W0 = w.alloc (.cells #[.int .i64 0, .slice none 0 0, .slice (some ⟨b, 0, none⟩) l.length cap] 54) := ⟨_, rfl⟩
  have r0 : Row w.heap.size 54 #[.int .i64 0, .slice none 0 0, .slice (some ⟨b, 0, none⟩) l.length cap] W0 := by rw [hW0]; exact Row.new w 54 _
  have c0 : Ch No w W0 := by rw [hW0]; exact Ch.alloc w _
  have hN := coreNew_any W0 b cap l hl h1 (hcode.keeps c0 (fun x => x)) hok
  have H0 := Lib.hid (h.no c0)
  have HCO := Lib.hid hc
  have HN := Lib.hid hn
  have HAG := Lib.hid hag
  have HUS := Lib.hid hus
  have HALL := Lib.hid hall
  have HCALM := Lib.hid hcalm
  have HNL := Lib.hid hnl
  have HNEW := Lib.hid hN
  have R0 := Lib.hid r0
  have C0 := Lib.hid c0
  have HW := Lib.hid hW0
  clear h hc hn hag hus hall hcalm hnl hN r0 c0 hW0 hcode hok
  unfold imV at HNEW ⊢
  go_enter Tryz.func10, Tryz.ntmps10
  go_wp2_with fail
  rw [← HW.out]
  refine (bThere_any H0.out.board).mono ?_; rintro e w1 ⟨rfl, rfl⟩
  have q0 := R0.out.cell (j := 0) rfl
  have q1 := R0.out.cell (j := 1) rfl
  have q2 := R0.out.cell (j := 2) rfl
  go_wp2_with fail
  refine HNEW.out.mono ?_; rintro e w2 ⟨g0, rfl, hg0, hlo, hb0, hcb0, hco, hch⟩
  have HG0 := Lib.hid hg0
  have HLO := Lib.hid hlo
  have H2 := Lib.hid (H0.out.no hch)
  have HCO2 := Lib.hid hco
  have HC2 := Lib.hid (C0.out.trans hch)
  have HS02 := Lib.hid hch.size
  have cK := H2.out.board.cK
  clear hg0 hlo hco hch q0 q1 q2
  go_wp2_with fail
  refine (task_any H2.out.kern HCO.out hi HN.out HAG.out HUS.out HALL.out hr HCALM.out).mono ?_; rintro e w3 ⟨nb, rfl, hk3, hch3⟩
  have hst3 := H2.out.kern2 hch3 hk3
  have hroom := H0.out.kern.room
  have hs2 := HC2.out.size
  have cM := hst3.board.cMap
  have hlo2 : g0.lo = w2.heap.size := HLO.out
  have hW02 : W0.heap.size ≤ w2.heap.size := by
    have := HS02.out
    exact this
  have hco3 : CO g0 (.slice none 0 0) cm0 w3 := HCO2.out.keeps hch3 (skNot (by omega) (by decide) HCO2.out.core) (by
    obtain ⟨c49, r49⟩ := HCO2.out.code49
    exact skNot (by omega) (by decide) r49) (fun q hq => by simp [Value.ownBlock] at hq)
  have hco4 := hco3.no (Ch.alloc w3 (.cells #[.pointer (some ⟨g0.b, 0, none⟩), .int .i64 0] 109))
  have hst4 := hst3.no (Ch.alloc w3 (.cells #[.pointer (some ⟨g0.b, 0, none⟩), .int .i64 0] 109))
  have r4 := Row.new w3 109 #[.pointer (some ⟨g0.b, 0, none⟩), .int .i64 0]
  have z4 : (w3.alloc (.cells #[.pointer (some ⟨g0.b, 0, none⟩), .int .i64 0] 109)).heap.size = w3.heap.size + 1 := Array.size_push _
  have pp := run_put_at (P := Tryz.prog) Tryz.underlying79 Tryz.underlying34 (256 + (i : Int)) (.pointer (some ⟨w3.heap.size, 0, none⟩)) hst4.map (by
    rcases entA_find bx os i with ⟨hf, _⟩ | ⟨j, s, _, hj⟩
    · exact hf
    · exact absurd ⟨s, List.mem_of_getElem? hj⟩ HNL.out)
  obtain ⟨W4, hW4⟩ : ∃ W4, W4 = w3.alloc (.cells #[.pointer (some ⟨g0.b, 0, none⟩), .int .i64 0] 109) := ⟨_, rfl⟩
  obtain ⟨W5, hW5⟩ : ∃ W5, W5 = putMap W4 (B + 73) ((entA bx os).push ⟨.int .u32 (256 + (i : Int)), .pointer (some ⟨w3.heap.size, 0, none⟩), clk⟩) (clk + 1) := ⟨_, rfl⟩
  have g4 : Ch No w3 W4 := by rw [hW4]; exact Ch.alloc _ _
  rw [← hW4] at hco4 hst4 r4 z4
  have m5 : W5.heap[B + 73]? = some (.map ((entA bx os).push ⟨.int .u32 (256 + (i : Int)), .pointer (some ⟨w3.heap.size, 0, none⟩), clk⟩) (clk + 1)) := by rw [hW5]; exact putMap_at (lt_of_blk hst4.map)
  have g5 : Ch (fun k => k = B + 73) W4 W5 := by rw [hW5]; exact putMap_ch
  rw [← hW4, ← hW5] at pp
  rw [hW4] at pp
  have hs3 := hch3.size
  have hfin := hst4.grow (i := i) g5 m5 hi HNL.out ⟨r4, hco4, ⟨by omega, by omega⟩, ⟨by omega, by omega, by omega⟩⟩ rfl (fun j hj => ⟨fun e => by
      have := (hst3.core j hj).box.lt
      omega, fun e => by
      have := (H0.out.core j hj).core.core.lt
      omega⟩)
  have HFIN := Lib.hid hfin
  have HCF : Hid (Ch (fun k => B ≤ k) w W5) := Lib.hid ((((HC2.out.mono (fun _ _ e => e.elim)).trans' hch3 (fun z hz s => by
      have l1 := H0.out.kern.lay1
      have l2 := H0.out.kern.lay2
      rcases s with ⟨s, _, _⟩ | ⟨s, _⟩
      · exact s
      · show B ≤ z
        omega)).trans (g4.mono (fun _ _ e => e.elim))).trans (g5.mono (fun z _ e => by show B ≤ z; omega)))
  clear hst3 hco3 hco4 hst4 r4 z4 hW4 hW5 g4 m5 g5 hfin hk3 hch3 cK
  go_wp2_with fail
  go_ret2
  exact ⟨nb, w3.heap.size, g0, rfl, HG0.out, HFIN.out, HCF.out⟩
end
end Go.Proofs.YtcngfaggignmpaaGreatDoor

/-
  What is asked of a core, and of the kernel, whichever.
-/
namespace Go.Proofs.YtcngfaggignmpaaGreatDoor
open Go.RowKit

section
variable {B T U : Nat} {tb : Nat → Nat} {m m' : KM} {w : World} {i r : Nat} {t : TM} {R : Nat → Nat} {a : Value} {g : CG} {sv : Value} {c : CM}
/-- The kernel's answer, whichever. -/
theorem ask_out {l' : List Int} (h : KS B T U tb m w) (hk : KI R m) (ht : m.tk i = some t) (hw : t.wait = false) (hr : r < 32) (hl : m.ls r = (i : Int) :: l') (hn : ∀ j, r < j → j < 32 → m.ls j = []) (ho : AskOut m i t a m') :
    Calls Tryz.prog 34 #[.pointer (some ⟨B + 69, 0, none⟩), a] w fun e w' => (∃ b, e = .returned (.tuple #[.bool b, .int .i64 0])) ∧ KS B T U tb m' w' ∧ Ch (Sk B T U w) w w' := by
  have hp := hk.place i t ht
  have ok := hk.task i t ht
  have hon : t.on = false := by rw [ok.on]; exact hw
  have hrk : t.rank < 32 := by have := ok.rank; have := ok.low; omega
  cases ho with
  | ok what v mm x l h1 h2 h3 h4 h5 =>
    exact (ask_ok h hk.cons hp.1 ht hr hl hn hrk hon hw h5 hk.sl h1 (by decide) (by decide) h2 h3 h4).mono (fun e w' q => ⟨⟨_, q.1⟩, q.2⟩)
  | wait what v mm h1 h2 h3 h4 =>
    exact (ask_wait h hk.cons hp.1 ht hr hl hn hrk h1 h2 h3 h4).mono (fun e w' q => ⟨⟨_, q.1⟩, q.2⟩)
  | fin h4 =>
    exact (ask_end h hk.cons hp.1 ht hr hl hn hp.2.1 hp.2.2 hon hk.sl h4).mono (fun e w' q => ⟨⟨_, q.1⟩, q.2⟩)
theorem Qa.shape {x : IN} (h : Qa c x a) : ∃ wh hh v mm wt : Int, a = askV wh hh v mm wt := by
  rcases h with ⟨w, _, e⟩ | ⟨_, e⟩
  · exact ⟨_, _, _, _, _, e⟩
  · exact ⟨_, _, _, _, _, e⟩
/-- A core that asks. -/
theorem stepAsks_any {k : Nat} {x : IN} (h : CO g sv c w) (hp : c.pc = (k : Int)) (hk : k < 900) (hx : g.code[k]? = some x) (ha : c.asked = false) (q : Qa c x a) :
    Calls Tryz.prog 32 #[.pointer (some ⟨g.b, 0, none⟩)] w fun e w' => e = .returned (.tuple #[.bool true, a, .int .i64 0]) ∧ CO g sv { c with pc := (k : Int) + 1, asked := true } w' ∧ Ch (fun k => k = g.b) w w' := by
  rcases q with ⟨n, rfl, rfl⟩ | ⟨rfl, rfl⟩
  · exact cask_any k n hp (by omega) hx ha h
  · exact cend_any k hp (by omega) hx ha h
end

/-- A step of the machine: of whom, by which instruction, and what comes of it. P: what holds, and how many steps there are yet. -/
def OneStep (code : Nat → List IN) (P : KM → (Nat → CM) → Nat → Prop) (m : KM) (cs : Nat → CM) (u : Nat) : Prop :=
  ∃ (i : Nat) (t : TM) (r : Nat) (l' : List Int) (k : Nat) (x : IN), i < 16 ∧ m.tk i = some t ∧ r < 32 ∧ m.ls r = (i : Int) :: l' ∧ (∀ j, r < j → j < 32 → m.ls j = []) ∧
    (cs i).pc = (k : Int) ∧ k < 900 ∧ (cs i).asked = false ∧ (code i)[k]? = some x ∧
    ((∃ c', Sp (cs i) x c' ∧ P m (upd cs i c') (u - 1)) ∨
     (∃ a m', Qa (cs i) x a ∧ (∀ (B T U : Nat) (tb : Nat → Nat) (w : World), KS B T U tb m w → Calls Tryz.prog 34 #[.pointer (some ⟨B + 69, 0, none⟩), a] w fun e w' => (∃ b n, e = .returned (.tuple #[.bool b, .int .i64 n])) ∧ KS B T U tb m' w' ∧ Ch (Sk B T U w) w w') ∧
        Tellable m m' cs i ∧ (∀ j, (m'.tk j).isSome = true → (m.tk j).isSome = true) ∧ P m' (fun j => toldC (m'.tk j) (upd cs i { cs i with pc := (k : Int) + 1, asked := true } j) (ansOf (m.tk j))) (u - 1)))
/-- The codes of the two. -/
def codes (n : Nat) : Nat → List IN := fun i => if i = 0 then putsC n else getsC n
theorem J.one {n most : Nat} {R : Nat → Nat} {m : KM} {cs : Nat → CM} {u : Nat} (h : J n most R m cs u) : OneStep (codes n) (J n most R) m cs u := by
  have hki : KI R m := by obtain ⟨_, _, _, _, _, h, _⟩ := h; exact h.ki
  obtain ⟨i, t, r, l', hi, ht, hw, hr, hl, hn, k, x, hp, hk, ha, hx, hc⟩ := h.step
  refine ⟨i, t, r, l', k, x, by omega, ht, hr, hl, hn, hp, hk, ha, hx, ?_⟩
  rcases hc with ⟨c', h1, h2⟩ | ⟨a, m', h1, h2, h3, h4⟩
  · exact .inl ⟨c', h1, h2⟩
  · refine .inr ⟨a, m', h1, fun B T U tb w hks => (ask_out hks hki ht hw hr hl hn h2).mono (fun e w' q => ⟨⟨q.1.choose, 0, q.1.choose_spec⟩, q.2⟩), h3, fun j hj => ?_, h4⟩
    cases e : m'.tk j with
    | none => rw [e] at hj; cases hj
    | some t' =>
      obtain ⟨t0, e0, _⟩ := h3 j t' e
      rw [e0]
      rfl
end Go.Proofs.YtcngfaggignmpaaGreatDoor
