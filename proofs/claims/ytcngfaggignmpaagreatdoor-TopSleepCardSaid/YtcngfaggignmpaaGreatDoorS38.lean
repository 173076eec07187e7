/-
  The top, part 38: NapOne, NapFirst, NapRest.
-/
import Derived.Test.YtcngfaggignmpaaGreatDoorS07
import Derived.Test.YtcngfaggignmpaaGreatDoorS15
import Derived.Test.YtcngfaggignmpaaGreatDoorS28
import Derived.Test.YtcngfaggignmpaaGreatDoorS35
import Derived.Test.YtcngfaggignmpaaGreatDoorS36
import Derived.Test.YtcngfaggignmpaaGreatDoorS37
import Derived.ControlIn

/-
  Tasks that sleep: what each one asks, the kernel makes of it what the plain machine says.
-/
namespace Go.Proofs.YtcngfaggignmpaaGreatDoor
open Go.RowKit

section
variable {B T U : Nat} {tb : Nat → Nat} {m m' : KM} {w : World} {i r : Nat} {t : TM} {R : Nat → Nat} {f : Nat → Int} {a : Value}
theorem NI.ahead (h : NI R f [] m) (k : Nat) : 0 ≤ ahead m.sl k ∧ ahead m.sl k ≤ 1099511627776 := by
  have := h.sl.aheads (M := 255) m.sl 0 (by omega) (by omega) (fun q hq => by
    have hm : q.1 ∈ m.sl.map (·.1) := List.mem_map.2 ⟨q, hq, rfl⟩
    obtain ⟨t, ht, hw⟩ := (h.mem q.1).1 (by rw [List.nil_append]; exact hm)
    exact (h.left q.1 t ht hw).2.2.1) k
  omega
theorem NI.sleepers (h : NI R f [] m) : ∀ x ∈ m.sl, 0 ≤ x.2 ∧ x.2 ≤ 1073741824 := fun q hq => by
  have h1 := h.sl.rng m.sl 0 (by omega) q hq
  have hm : q.1 ∈ m.sl.map (·.1) := List.mem_map.2 ⟨q, hq, rfl⟩
  obtain ⟨t, ht, hw⟩ := (h.mem q.1).1 (by rw [List.nil_append]; exact hm)
  have := (h.left q.1 t ht hw).2.2.1
  omega
theorem nask_out {l' : List Int} (h : KS B T U tb m w) (hk : NI R f [] m) (ht : m.tk i = some t) (hw : t.wait = false) (hans : 0 ≤ t.ans ∧ t.ans < 1000000000) (hr : r < 32) (hl : m.ls r = (i : Int) :: l') (hn : ∀ j, r < j → j < 32 → m.ls j = []) (ho : NAsk m i t a m') :
    Calls Tryz.prog 34 #[.pointer (some ⟨B + 69, 0, none⟩), a] w fun e w' => (∃ b n, e = .returned (.tuple #[.bool b, .int .i64 n])) ∧ KS B T U tb m' w' ∧ Ch (Sk B T U w) w w' := by
  obtain ⟨hi, hag, hus⟩ := hk.place i t ht
  obtain ⟨hrank, hlow, hon, hlast⟩ := hk.task i t ht
  have hrk : t.rank < 32 := by omega
  have haw := hk.awake ht hw
  cases ho with
  | nap hh v mm d h1 h2 h3 =>
    exact (ask_nap h hk.cons hi ht hr hl hn ⟨h1, h2⟩ haw hk.slen (fun k _ => hk.ahead k) h3).mono (fun e w' q => ⟨⟨_, _, q.1⟩, q.2⟩)
  | now hh v mm h3 =>
    exact (ask_now h hk.cons hi ht hr hl hn hrk hon hw hans haw h3).mono (fun e w' q => ⟨⟨_, _, q.1⟩, q.2⟩)
  | put v mm wt x l h1 h2 h3 =>
    have hs : (({ m with row := l } : KM).setT i (KM.told t 0 x)).serves = ({ m with row := l } : KM).setT i (KM.told t 0 x) := KM.serves_none (show m.wl = none from hk.wl)
    have hsv : Svd (({ m with row := l } : KM).setT i (KM.told t 0 x)) := .inl (show m.wl = none from hk.wl)
    have haws : Awake m i ∧ ∀ j r, m.wl = some (j, r) → Awake m j := ⟨haw, fun j r e => by rw [hk.wl] at e; cases e⟩
    by_cases h0 : wt = 0
    · subst h0
      have := ask_zero (what := 7) (mm := mm) h hk.cons hi ht hr hl hn hrk hon hw hans haws (.inl rfl) h1 hsv (by rw [hs]; exact h3)
      rw [hs] at this
      exact this.mono (fun e w' q => ⟨⟨_, _, q.1⟩, q.2⟩)
    · have := ask_ok (what := 7) (mm := mm) (wt := wt) h hk.cons hi ht hr hl hn hrk hon hw hans haws (.inl rfl) (by rw [beq_eq_false_iff_ne]; exact h0) (by rw [decide_eq_false_iff_not]; omega) h1 hsv (by rw [hs]; exact h3)
      rw [hs] at this
      exact this.mono (fun e w' q => ⟨⟨_, _, q.1⟩, q.2⟩)
  | fin h3 =>
    exact (ask_end h hk.cons hi ht hr hl hn hag hus hon haw h3).mono (fun e w' q => ⟨⟨_, _, q.1⟩, q.2⟩)
end

section
variable {L : Nat} {R D : Nat → Nat} {T : Nat} {m : KM} {cs : Nat → CM} {rows : List Nat} {κ : Nat → Nat} {u i : Nat} {t : TM}
theorem NB.ans (h : NB L R D T m cs rows κ) (ht : m.tk i = some t) : 0 ≤ t.ans ∧ t.ans ≤ 2 := by
  obtain ⟨k0, hk0⟩ : ∃ k0, k0 = κ i := ⟨_, rfl⟩
  have hp : Ph (D i) i T (cs i) t k0 := by have := h.ph i (h.lt ht); rw [ht] at this; rw [hk0]; exact this
  cases hp <;> omega
theorem NB.kap (h : NB L R D T m cs rows κ) (ht : m.tk i = some t) : κ i ≤ 6 := by
  obtain ⟨k0, hk0⟩ : ∃ k0, k0 = κ i := ⟨_, rfl⟩
  have hp : Ph (D i) i T (cs i) t k0 := by have := h.ph i (h.lt ht); rw [ht] at this; rw [hk0]; exact this
  rw [← hk0]
  cases hp <;> omega
/-- The codes of all. -/
def napCodes (D : Nat → Nat) : Nat → List IN := fun i => napC (D i) i
/-- Nobody runs. -/
def Still (m : KM) : Prop := (∀ i t, m.tk i = some t → t.wait = true) ∧ ∀ r, r < 32 → m.ls r = []
theorem NP.one (h : NP L R D T m cs u) : Still m ∨ (0 < u ∧ OneStep (napCodes D) (NP L R D T) m cs u) := by
  have h' := h
  obtain ⟨rows, κ, hb, hu⟩ := h'
  rcases h.step with hs | ⟨h0, i, t, r, l', hi, ht, hw, hr, hl, hn, k, x, hp, hk, ha, hx, hc⟩
  · exact .inl ⟨hs, hb.ni.calmly hs⟩
  · have hans := hb.ans ht
    refine .inr ⟨h0, i, t, r, l', k, x, hi, ht, hr, hl, hn, hp, hk, ha, hx, ?_⟩
    rcases hc with ⟨c', h1, h2⟩ | ⟨a, m', h1, h2, h3, h4, h5⟩
    · exact .inl ⟨c', h1, h2⟩
    · exact .inr ⟨a, m', h1, fun B T' U tb w hks => nask_out hks hb.ni ht hw (by omega) hr hl hn h2, h3, h4, h5⟩
end
end Go.Proofs.YtcngfaggignmpaaGreatDoor

/-
  The queue of those who may run: nobody does.
-/
namespace Go.Proofs.YtcngfaggignmpaaGreatDoor
open Go.RowKit Go.Shelf
attribute [local go_sem] Oper.semAt_some

theorem word_zero {c : Int} (hc : w32 c) (h : ∀ j, j < 32 → wb c j = false) : c = 0 := by
  obtain ⟨x, hx, rfl⟩ := w32_nat hc
  have hz : x = 0 := by
    refine Nat.eq_of_testBit_eq (fun i => ?_)
    rw [Nat.zero_testBit]
    rcases Nat.lt_or_ge i 32 with hi | hi
    · have := h i hi
      unfold wb at this
      rwa [Int.toNat_natCast] at this
    · exact Nat.testBit_lt_two_pow (Nat.lt_of_lt_of_le hx (Nat.pow_le_pow_right (show 2 > 0 by decide) hi))
  subst hz
  rfl
set_option maxHeartbeats 1000000 in
theorem ladFirst_none (w : World) : Calls Tryz.prog 99 #[.int .u32 0] w fun e w' => e = .returned (.tuple #[.int .i64 0, .bool false]) ∧ w = w' := by
  have HL : Hid (Lib.bitLen ((0 : Int)).toNat = 0) := Lib.hid (by decide)
  go_enter Tryz.func99, Tryz.ntmps99
  go_wp2_with fail
  refine (len32_any _ 0 (by omega) (by omega)).mono ?_; rintro e w1 ⟨rfl, rfl⟩
  rw [HL.out]
  go_wp2_with fail
  go_ret2
  exact ⟨rfl, rfl⟩

set_option maxRecDepth 100000 in
set_option maxHeartbeats 4000000 in
theorem rqFirst_none (w : World) (q : Nat) (ls : Nat → List Int) (rk : Nat → Int) (h : RQ q ls rk w) (hn : ∀ j, j < 32 → ls j = []) :
    Calls Tryz.prog 60 #[.pointer (some ⟨q, 0, none⟩)] w fun e w' => e = .returned (.tuple #[.int .i64 0, .bool false]) ∧ Ch No w w' := by
  have HR := Lib.hid h
  obtain ⟨t, has, cs, h1⟩ := h.row
  have c1 := ((h1.row.alloc (.cells #[.int .i64 0] 3)).alloc (.cells #[.bool false] 4)).cell h1.word
  obtain rfl : has = 0 := word_zero h1.w32 (fun j hj => by rw [h1.bits j hj, hn j hj]; rfl)
  clear h h1 hn
  go_enter Tryz.func60, Tryz.ntmps60
  go_wp2_with fail
  refine (rqThere_any _ q ls rk (HR.out.keeps (S := No) ((Ch.alloc w _).trans (Ch.alloc _ _)) (fun _ s => s.elim))).mono ?_; rintro e w1 ⟨rfl, rfl⟩
  go_wp2_with fail
  refine (ladFirst_none _).mono ?_; rintro e w1 ⟨rfl, rfl⟩
  go_wp2_with fail
  have a1 := (Row.new w 3 #[.int .i64 0]).alloc (.cells #[.bool false] 4)
  have a2 := Row.new (w.alloc (.cells #[.int .i64 0] 3)) 4 #[.bool false]
  rw [World.size_alloc] at a2
  have k1 := a1.cell (j := 0) (v := .int .i64 0) rfl
  have k2 := a2.cell (j := 0) (v := .bool false) rfl
  refine bodyPost_ret (v := .tuple #[.int .i64 0, .bool false]) (by simp [results, Tryz.f60, go_sem, k1, k2]) rfl ?_
  exact ⟨rfl, (Ch.alloc _ _).trans (Ch.alloc _ _)⟩
end Go.Proofs.YtcngfaggignmpaaGreatDoor

/-
  The kernel: a tick goes by, where nobody runs.
-/
namespace Go.Proofs.YtcngfaggignmpaaGreatDoor
open Go.RowKit

namespace KM
/-- A tick less, for those of the first places. -/
def olderTo (m : KM) (k : Nat) : KM := { m with tk := fun i => if i < k then (m.tk i).map older else m.tk i }
theorem olderTo_at (m : KM) (k : Nat) {t : TM} (h : m.tk k = some t) : (m.olderTo k).setT k (older t) = m.olderTo (k + 1) := by
  unfold olderTo setT
  congr 1
  funext i
  unfold upd
  by_cases e : i = k
  · subst e; simp [h]
  · by_cases e2 : i < k
    · simp [e, e2, show i < k + 1 by omega]
    · simp [e, e2, show ¬ i < k + 1 by omega]
theorem olderTo_none (m : KM) (k : Nat) (h : m.tk k = none) : m.olderTo k = m.olderTo (k + 1) := by
  unfold olderTo
  congr 1
  funext i
  by_cases e : i = k
  · subst e; simp [h]
  · by_cases e2 : i < k
    · simp [e2, show i < k + 1 by omega]
    · simp [e2, show ¬ i < k + 1 by omega]
theorem olderTo_same (m : KM) (k : Nat) {t : TM} (h : m.tk k = some t) (hl : ¬ 0 < t.left) : m.olderTo k = m.olderTo (k + 1) := by
  have eo : older t = t := by unfold older; rw [if_neg hl]
  unfold olderTo
  congr 1
  funext i
  by_cases e : i = k
  · subst e; simp [h]; exact eo.symm
  · by_cases e2 : i < k
    · simp [e2, show i < k + 1 by omega]
    · simp [e2, show ¬ i < k + 1 by omega]
theorem olderTo_zero (m : KM) : m.olderTo 0 = m := by
  unfold olderTo
  simp
end KM

section
variable {B T U : Nat} {tb : Nat → Nat} {m : KM} {w : World}
set_option maxRecDepth 100000 in
set_option maxHeartbeats 1000000 in
theorem runs_none (h : KS B T U tb m w) (hn : ∀ r, r < 32 → m.ls r = []) : Calls Tryz.prog 31 #[.pointer (some ⟨B + 69, 0, none⟩)] w fun e w' => e = .returned (.int .u32 0) ∧ Ch No w w' := by
  have H := Lib.hid h
  have c1 := h.cReady
  have HN := Lib.hid hn
  clear h hn
  go_enter Tryz.func31, Tryz.ntmps31
  go_wp2_with fail
  refine (kThere_any H.out).mono ?_; rintro e w1 ⟨rfl, rfl⟩
  go_wp2_with fail
  refine (rqFirst_none _ B m.ls m.rk H.out.ready HN.out).mono ?_; rintro e w1 ⟨rfl, hch⟩
  go_wp2_with fail
  go_ret
  exact ⟨rfl, hch⟩
theorem dlTick_all {b c : Nat} {l : List (Nat × Int)} (hl : l.length ≤ 64) (h : DL b c l w) (hb : ∀ x ∈ l, 0 ≤ x.2 ∧ x.2 ≤ 1073741824) :
    Calls Tryz.prog 82 #[.pointer (some ⟨b, 0, none⟩)] w fun e w' => ∃ (v : Value) (k : Nat), e = .returned v ∧ k ≤ l.length ∧ (∀ x ∈ (dec l).take k, x.2 = 0) ∧ (∀ x, (dec l)[k]? = some x → x.2 ≠ 0) ∧
      Ints w.heap.size v (((dec l).take k).map (fun x => (x.1 : Int))) w' ∧ DL b c ((dec l).drop k) w' ∧ Ch (Sd b c w) w w' := by
  by_cases hne : l = []
  · subst hne
    refine (dlTick_none w b c h).mono ?_
    rintro e w' ⟨rfl, rfl⟩
    exact ⟨_, 0, rfl, Nat.le_refl _, fun x hx => by simp [dec] at hx, fun x hx => by simp [dec] at hx, World.ownsRow_nil _ _ _ _, h, Ch.refl _ _⟩
  · exact dlTick_any hl h hb hne
theorem Ints.keepsKern {base : Nat} {v : Value} {l : List Int} {w' : World} (h : Ints base v l w) (c : Ch (Sk B T U w) w w') (hb : U + 3 ≤ base) : Ints base v l w' :=
  own_keeps h c (fun k hk => by
    obtain ⟨h1, cur, r⟩ := own_ty3 h hk
    exact skNot (by omega) (by decide) r)
theorem left_cells (U i : Nat) (t : TM) (n : Int) : (tcells i t U).setIfInBounds 10 (.int .i64 n) = tcells i { t with left := n } U := by
  simp [tcells]
theorem WakesOk.at : ∀ (p : List Nat) (m : KM) (j i : Nat), WakesOk m p → p[j]? = some i →
    (∃ t, (m.wakes (p.take j)).tk i = some t ∧ i < 16 ∧ t.what = 2 ∧ t.rank < 32 ∧ t.on = false ∧ Awake (m.wakes (p.take j)) i ∧ (0 ≤ t.ans ∧ t.ans < 1000000000) ∧ Cons (m.wakes (p.take j)) ∧ (m.wakes (p.take j)).wake i = (m.wakes (p.take j)).answers i t 0 0) ∧
      Calm ((m.wakes (p.take j)).wake i) ∧ m.wakes (p.take (j + 1)) = (m.wakes (p.take j)).wake i
  | [], m, j, i, _, h => by simp at h
  | x :: p, m, 0, i, hw, h => by
    simp at h
    subst h
    exact ⟨hw.1, hw.2.1, rfl⟩
  | x :: p, m, j + 1, i, hw, h => WakesOk.at p (m.wake x) j i hw.2.2 (by simpa using h)

set_option maxRecDepth 100000 in
set_option maxHeartbeats 4000000 in
theorem tick0_any (h : KS B T U tb m w) (hn : ∀ r, r < 32 → m.ls r = []) (hlen : m.sl.length ≤ 16) (hsl : ∀ x ∈ m.sl, 0 ≤ x.2 ∧ x.2 ≤ 1073741824) (hcalm : Calm m) (htask : ∀ i t, m.tk i = some t → i < 16 ∧ 0 ≤ t.left ∧ t.left ≤ 1000)
    (hgo : ∀ k, k ≤ m.sl.length → (∀ x ∈ (dec m.sl).take k, x.2 = 0) → (∀ x, (dec m.sl)[k]? = some x → x.2 ≠ 0) → WakesOk (m.tick0 ((dec m.sl).drop k)) (((dec m.sl).take k).map (·.1))) :
    Calls Tryz.prog 39 #[.pointer (some ⟨B + 69, 0, none⟩)] w fun e w' => e = .returned (.int .i64 0) ∧ ∃ k, k ≤ m.sl.length ∧ (∀ x ∈ (dec m.sl).take k, x.2 = 0) ∧ (∀ x, (dec m.sl)[k]? = some x → x.2 ≠ 0) ∧
      KS B T U tb ((m.tick0 ((dec m.sl).drop k)).wakes (((dec m.sl).take k).map (·.1))) w' ∧ Ch (Sk B T U w) w w' := by
  have H := Lib.hid h
  have HN := Lib.hid hn
  have HSL := Lib.hid hsl
  have HCALM := Lib.hid hcalm
  have HTASK := Lib.hid htask
  have HGO := Lib.hid hgo
  have c1 := h.cNow
  have f1 := h.kFree 1
  have hk1 := h.onTick ((m.now + 1) % 4294967296)
  have d1 := hk1.1.cReady
  have HK1 := Lib.hid hk1
  clear h hn hsl hcalm htask hgo hk1
  go_enter Tryz.func39, Tryz.ntmps39
  go_wp2_with fail
  refine (kThere_any H.out).mono ?_; rintro e w1 ⟨rfl, rfl⟩
  go_wp2_with fail
  refine (rqFirst_none _ B m.ls m.rk HK1.out.1.ready HN.out).mono ?_; rintro e w2 ⟨rfl, hch2⟩
  have HK2 := Lib.hid (HK1.out.1.no hch2)
  have HC2 := Lib.hid (HK1.out.2.tr (Ch.ofNo B T U hch2))
  clear hch2 c1 f1 d1
  go_wp2_with fail
  refine (anew_any HK2.out (show Calm { m with now := (m.now + 1) % 4294967296 } from HCALM.out)).mono ?_; rintro e w5 ⟨rfl, hch5⟩
  have HK5 := Lib.hid (HK2.out.no hch5)
  have HC5 := Lib.hid (HC2.out.tr (Ch.ofNo B T U hch5))
  have s1 := HK5.out.cSleeps
  clear hch5
  go_wp2_with fail
  refine (dlTick_all (l := m.sl) (by omega) HK5.out.sleeps HSL.out).mono ?_; rintro e w6 ⟨v, k0, rfl, hk0, hz, hnz, hint, hdl, hch6⟩
  obtain ⟨a, cap, rfl⟩ := hint.slice
  have hk6 := HK5.out.sleeps' hch6 hdl
  have HINT := Lib.hid hint
  have HK6 := Lib.hid hk6
  have HZ := Lib.hid hz
  have HNZ := Lib.hid hnz
  have HC6 := Lib.hid (HC5.out.tr hk6.2)
  have hroom : U + 3 ≤ w5.heap.size := HK5.out.wait.2.2.1
  clear s1 hint hdl hch6 hk6 hz hnz
  obtain ⟨m6, hm6⟩ : ∃ m6 : KM, m6 = { m with now := (m.now + 1) % 4294967296, sl := (dec m.sl).drop k0 } := ⟨_, rfl⟩
  have HK6' : Hid (KS B T U tb m6 w6) := Lib.hid (by rw [hm6]; exact HK6.out.1)
  have HM6 := Lib.hid hm6
  clear HK6 hm6
  have HFIN : Hid (m6.olderTo 16 = m.tick0 ((dec m.sl).drop k0)) := Lib.hid (by
    rw [HM6.out]
    unfold KM.olderTo KM.tick0
    congr 1
    funext i
    by_cases e : i < 16
    · simp [e]
    · have hi : m.tk i = none := by
        cases e2 : m.tk i with
        | none => rfl
        | some t => exact absurd (HTASK.out i t e2).1 e
      simp [e, hi])
  have HTK : Hid (∀ i, m6.tk i = m.tk i) := Lib.hid (fun i => by rw [HM6.out])
  obtain ⟨P, hP⟩ : ∃ P, P = ((dec m.sl).take k0).map (·.1) := ⟨_, rfl⟩
  have hPi : ((dec m.sl).take k0).map (fun x => (x.1 : Int)) = P.map (fun i : Nat => (i : Int)) := by rw [hP, List.map_map]; rfl
  have HWK : Hid (WakesOk (m6.olderTo 16) P) := Lib.hid (by rw [HFIN.out, hP]; exact HGO.out k0 hk0 HZ.out HNZ.out)
  rw [hPi] at HINT
  have hlP : (((dec m.sl).take k0).map (fun x => (x.1 : Int))).length = P.length := by rw [hPi, List.length_map]
  rw [hlP]
  have HP := Lib.hid hP
  clear hP hPi hlP
  go_wp2_with (first | (refine wpList_load_mid rfl 90 _ rfl (B + 69) 4 rfl (tarr tb m6) _ HK6'.out.tRange Tryz.underlying90 rfl (by rw [info90]; simp [tarr]) ?_))
  go_loopw [7, 73] (fun _ iv wx => ∃ k : Nat, k ≤ 16 ∧ iv = .int .i64 (k : Int) ∧ KS B T U tb (m6.olderTo k) wx ∧ Ch (Sk B T U w) w wx ∧ Ints w5.heap.size (.slice a P.length cap) (P.map (fun i : Nat => (i : Int))) wx) (fun _ iv _ => 16 - (intOf iv).toNat)
  case atStart => exact ⟨0, by omega, rfl, by rw [KM.olderTo_zero]; exact HK6'.out, HC6.out, by have := HINT.out; rwa [List.length_map] at this⟩
  case round =>
    obtain ⟨k, hk, rfl, hks, hch, hint⟩ := hrel
    by_cases hlt : k < 16
    · have hidx := tarr_index tb m6 k hlt
      have hk1 : 0 ≤ (k : Int) ∧ (k : Int) < 16 := by omega
      have HKS := Lib.hid hks
      have HCH := Lib.hid hch
      have HINT2 := Lib.hid hint
      clear hks hch hint
      cases htk : m6.tk k with
      | none =>
        have hp : tptr tb m6 k = none := by unfold tptr; rw [htk]; rfl
        rw [hp] at hidx
        have HE := Lib.hid (KM.olderTo_none m6 k htk)
        clear hp htk
        go_wp2_with fail
        go_roundw
        case rel => exact ⟨k + 1, by omega, by go_num, by rw [← HE.out]; exact HKS.out, HCH.out, HINT2.out⟩
        case measure => simp [intOf]; omega
      | some u =>
        have hp : tptr tb m6 k = some ⟨tb k, 0, none⟩ := by unfold tptr; rw [htk]; rfl
        rw [hp] at hidx
        have htk2 : (m6.olderTo k).tk k = some u := by
          show (if k < k then _ else m6.tk k) = _
          rw [if_neg (by omega)]; exact htk
        have hrow := HKS.out.task k u hlt htk2
        have q1 : wr.cell? ⟨tb k, 10, none⟩ = some (.int .i64 u.left) := hrow.cell (j := 10) rfl
        have q3 := hrow.free 10
        have hb := HTASK.out k u (by rw [← HTK.out]; exact htk)
        by_cases hpos : 0 < u.left
        · have q2 : decide (0 < u.left) = true := by rw [decide_eq_true_iff]; exact hpos
          have hw64 : wrap64 (u.left - 1) = u.left - 1 := by unfold wrap64; omega
          have hnew : Row (tb k) 127 (tcells k (KM.older u) U) (wr.setCell ⟨tb k, 10, none⟩ (.int .i64 (u.left - 1))) := by
            have := hrow.set 10 (.int .i64 (u.left - 1))
            rw [left_cells] at this
            unfold KM.older
            rw [if_pos hpos]
            exact this
          have hk2 := HKS.out.task' (Ch.set1 wr (tb k) 10 (.int .i64 (u.left - 1))) hlt htk2 hnew
          rw [KM.olderTo_at m6 k htk] at hk2
          have HK2 := Lib.hid hk2
          have HI2 := Lib.hid (own_keeps HINT2.out (Ch.set1 wr (tb k) 10 (.int .i64 (u.left - 1))) (fun q hq e => by
            obtain ⟨_, cur, r⟩ := own_ty3 HINT2.out hq
            rw [e] at r
            exact absurd (r.ty hrow) (by decide)))
          have HC2 := Lib.hid (HCH.out.tr HK2.out.2)
          clear hp htk htk2 hrow hnew hk2
          go_wp2_with fail
          go_roundw
          case rel => exact ⟨k + 1, by omega, by go_num, HK2.out.1, HC2.out, HI2.out⟩
          case measure => simp [intOf]; omega
        · have q2 : decide (0 < u.left) = false := by rw [decide_eq_false_iff_not]; exact hpos
          have HE := Lib.hid (KM.olderTo_same m6 k htk hpos)
          clear hp htk htk2 hrow
          go_wp2_with fail
          go_roundw
          case rel => exact ⟨k + 1, by omega, by go_num, by rw [← HE.out]; exact HKS.out, HCH.out, HINT2.out⟩
          case measure => simp [intOf]; omega
    · have hk16 : k = 16 := by omega
      have hd16 : decide ((k : Int) < 16) = false := by rw [decide_eq_false_iff_not]; omega
      rw [hk16] at hks
      have HKS := Lib.hid hks
      have HCH := Lib.hid hch
      have HINT2 := Lib.hid hint
      clear hks hch hint hk hlt hk16
      go_wp2_with fail
      go_loopw [9, 10, 98] (fun _ _ iv wx => ∃ j : Nat, j ≤ P.length ∧ iv = .int .i64 (j : Int) ∧ KS B T U tb ((m6.olderTo 16).wakes (P.take j)) wx ∧ Ch (Sk B T U w) w wx ∧ Ints w5.heap.size (.slice a P.length cap) (P.map (fun i : Nat => (i : Int))) wx) (fun _ _ iv _ => P.length - (intOf iv).toNat)
      case atStart => exact ⟨0, by omega, rfl, by simpa [KM.wakes] using HKS.out, HCH.out, HINT2.out⟩
      case round =>
        obtain ⟨j, hj, rfl, hks, hch, hint⟩ := hrel
        have HKS := Lib.hid hks
        have HCH := Lib.hid hch
        have HINT2 := Lib.hid hint
        clear hks hch
        have hPl : P.length ≤ 16 := by
          rw [HP.out, List.length_map, List.length_take, dec_len]
          omega
        by_cases hlt : j < P.length
        · obtain ⟨i, hi⟩ : ∃ i, P[j]? = some i := ⟨_, List.getElem?_eq_getElem hlt⟩
          obtain ⟨⟨t, ht, hi16, hwh, hrk, hon, haw, han, hco, hwe⟩, hcl, hnext⟩ := WakesOk.at P _ j i HWK.out hi
          obtain ⟨g, cap2, e, hb, cs2, hrow, hget⟩ := hint.cells (fun e => by have := congrArg List.length e; simp at this; rw [this] at hlt; simp at hlt)
          rw [List.length_map] at e
          cases e
          have d1 := hrow.cell (hget j (i : Int) (by rw [List.getElem?_map, hi]; rfl))
          have d2 := HKS.out.cTask hi16 ht
          have d3 : wr.cell? ⟨tb i, 5, none⟩ = some (.int .u8 t.what) := HKS.out.tCell hi16 ht (j := 5) rfl
          rw [hwh] at d3
          have hi1 : 0 ≤ (i : Int) ∧ (i : Int) < 16 := by omega
          have HANS := Lib.hid (answers_any 0 0 HKS.out hco hi16 ht hrk (fun e => by rw [hon] at e; cases e) haw han)
          rw [← hwe, ← hnext] at HANS
          rw [← hnext] at hcl
          have HCL := Lib.hid hcl
          clear hint hrow hget hwe hnext hcl hco haw ht
          go_wp2_with fail
          refine HANS.out.mono ?_; rintro e w7 ⟨rfl, hk7, hch7⟩
          have HK7 := Lib.hid hk7
          have HC7 := Lib.hid (HCH.out.tr hch7)
          have HI7 := Lib.hid (HINT2.out.keepsKern hch7 hroom)
          clear hk7 hch7 d1 d2 d3
          go_wp2_with fail
          refine (anew_any HK7.out HCL.out).mono ?_; rintro e w8 ⟨rfl, hch8⟩
          have HK8 := Lib.hid (HK7.out.no hch8)
          have HC8 := Lib.hid (HC7.out.tr (Ch.ofNo B T U hch8))
          have HI8 := Lib.hid (own_keeps HI7.out hch8 (fun _ _ x => x))
          clear hch8
          go_wp2_with fail
          go_roundw
          case rel => exact ⟨j + 1, by omega, by go_num, HK8.out, HC8.out, HI8.out⟩
          case measure => simp [intOf]; omega
        · obtain rfl : j = P.length := by omega
          have HKF : Hid (KS B T U tb ((m.tick0 ((dec m.sl).drop k0)).wakes (((dec m.sl).take k0).map (·.1))) wr) := Lib.hid (by
            have := HKS.out
            rw [List.take_length, HFIN.out, HP.out] at this
            exact this)
          have s2 := HKF.out.cAlarms
          clear hint
          go_wp2_with fail
          refine (alTick_none _ (B + 66) HKF.out.alarms).mono ?_; rintro e w7 ⟨rfl, rfl⟩
          go_wp2_with fail
          go_loopw [12, 13, 127] (fun _ _ iv wx => iv = .int .i64 0 ∧ wx = wr) (fun _ _ _ _ => 0)
          case atStart => exact ⟨rfl, rfl⟩
          case round =>
            obtain ⟨rfl, hwx⟩ := hrel
            subst hwx
            go_wp2_with fail
            go_ret
            exact ⟨rfl, k0, hk0, HZ.out, HNZ.out, HKF.out, HCH.out⟩
end
end Go.Proofs.YtcngfaggignmpaaGreatDoor
