/-
  The top, part 16: Kin, TaskNew.
-/
import Derived.Test.YtcngfaggignmpaaGreatDoorS09
import Derived.Test.YtcngfaggignmpaaGreatDoorS15

/-
  The kernel's numbers fit together: who may run stands in the row of its rank, who waits is the one who waits. Plain.
-/
namespace Go.Proofs.YtcngfaggignmpaaGreatDoor
open Go.RowKit

/-- Of which rank a task stands among those who may run, and 1; 0: it does not. -/
def rkOf (r : Nat) : Option TM → Int
  | none => 0
  | some t => if t.wait then 0 else (r : Int) + 1
/-- A task is as it may be. -/
structure TOk (r : Nat) (slice : Int) (t : TM) : Prop where
  rank : t.rank = r
  low : r < 32
  on : t.on = t.wait
  left : t.left ≤ 0
  ran : 0 ≤ t.ran ∧ t.ran < slice
  last : 0 ≤ t.last ∧ t.last < 16
/-- The kernel's numbers fit; R: the ranks. -/
structure KI (R : Nat → Nat) (m : KM) : Prop where
  cons : Cons m
  sl : m.sl = []
  slice : 1 ≤ m.slice ∧ m.slice ≤ 100
  place : ∀ i t, m.tk i = some t → i < 16 ∧ m.age i = 1 ∧ m.used i = true
  task : ∀ i t, m.tk i = some t → TOk (R i) m.slice t
  rk : ∀ i, i < 256 → m.rk i = rkOf (R i) (m.tk i)
  on : ∀ i t, m.tk i = some t → t.wait = true → (t.what = 7 ∨ t.what = 9) ∧ m.wl = some (i, R i)
  wl : ∀ i r, m.wl = some (i, r) → ∃ t, m.tk i = some t ∧ t.wait = true

theorem top_row (ls : Nat → List Int) : ∀ n, (∃ r, r < n ∧ ls r ≠ []) → ∃ r, r < n ∧ ls r ≠ [] ∧ ∀ j, r < j → j < n → ls j = []
  | 0, ⟨_, h, _⟩ => absurd h (by omega)
  | n + 1, ⟨r, h, e⟩ => by
    by_cases hn : ls n = []
    · have hr : r < n := by
        rcases Nat.lt_or_ge r n with h1 | h1
        · exact h1
        · have : r = n := by omega
          subst this
          exact absurd hn e
      obtain ⟨q, a, b, c⟩ := top_row ls n ⟨r, hr, e⟩
      refine ⟨q, by omega, b, fun j h1 h2 => ?_⟩
      rcases Nat.lt_or_ge j n with h3 | h3
      · exact c j h1 h3
      · have : j = n := by omega
        subst this
        exact hn
    · exact ⟨n, by omega, hn, fun j h1 h2 => by omega⟩

section
variable {R : Nat → Nat} {m : KM} {i : Nat} {t : TM}
theorem KI.runs (h : KI R m) (hx : ∃ i t, m.tk i = some t ∧ t.wait = false) :
    ∃ i t r l', i < 16 ∧ m.tk i = some t ∧ t.wait = false ∧ r < 32 ∧ r = R i ∧ m.ls r = (i : Int) :: l' ∧ ∀ j, r < j → j < 32 → m.ls j = [] := by
  obtain ⟨i, t, ht, hw⟩ := hx
  have hi := (h.place i t ht).1
  have hrk := h.rk i (by omega)
  rw [ht] at hrk
  simp [rkOf, hw] at hrk
  have hlow := (h.task i t ht).low
  have hmem : (i : Int) ∈ m.ls (R i) := by
    rcases h.cons.inq i (by omega) with h0 | ⟨q, hq, e, hm⟩
    · omega
    · have : q = R i := by omega
      rw [← this]
      exact hm
  obtain ⟨r, hr, hne, hup⟩ := top_row m.ls 32 ⟨R i, hlow, fun e => by rw [e] at hmem; cases hmem⟩
  obtain ⟨x, l', hl⟩ : ∃ x l', m.ls r = x :: l' := List.exists_cons_of_ne_nil hne
  obtain ⟨j, hj, rfl, hjr⟩ := h.cons.mem r x hr (by rw [hl]; simp)
  have hk := h.rk j (by omega)
  cases e : m.tk j with
  | none => rw [e] at hk; simp [rkOf] at hk; omega
  | some u =>
    rw [e] at hk
    cases ew : u.wait
    · simp [rkOf, ew] at hk
      exact ⟨j, u, r, l', hj, e, ew, hr, by omega, hl, hup⟩
    · simp [rkOf, ew] at hk
      omega
theorem KI.calm (h : KI R m) : Calm m := fun i t _ ht => by
  have k := h.task i t ht
  refine ⟨by have := k.rank; have := k.low; omega, fun ho => ?_⟩
  rcases (h.on i t ht (by rw [← k.on]; exact ho)).1 with e | e <;> rw [e] <;> rfl
theorem KI.row (h : KI R m) (l : List Int) : KI R { m with row := l } := ⟨h.cons, h.sl, h.slice, h.place, h.task, h.rk, h.on, h.wl⟩
theorem KI.now (h : KI R m) (n : Int) : KI R { m with now := n } := ⟨h.cons, h.sl, h.slice, h.place, h.task, h.rk, h.on, h.wl⟩
theorem KI.clear (h : KI R m) (ht : m.tk i = some t) (hw : t.wait = false) (r : Nat) : m.wl ≠ some (i, r) := fun e => by
  obtain ⟨u, hu, hw2⟩ := h.wl i r e
  rw [ht] at hu
  cases hu
  rw [hw] at hw2
  cases hw2
/-- A task turns, and waits, or does not, as before. -/
theorem KI.turn (h : KI R m) (ht : m.tk i = some t) {t' : TM} (ok : TOk (R i) m.slice t') (hw : t'.wait = t.wait) (hwh : t'.what = t.what) : KI R (m.setT i t') := by
  have at_i : (m.setT i t').tk i = some t' := upd_at _ _ _
  have at_j : ∀ j, j ≠ i → (m.setT i t').tk j = m.tk j := fun j e => upd_ne _ _ e
  refine ⟨h.cons, h.sl, h.slice, fun j u hu => ?_, fun j u hu => ?_, fun j hj => ?_, fun j u hu hwu => ?_, fun j r e => ?_⟩
  · by_cases e : j = i
    · subst e; exact h.place j t ht
    · rw [at_j j e] at hu; exact h.place j u hu
  · by_cases e : j = i
    · subst e; rw [at_i] at hu; cases hu; exact ok
    · rw [at_j j e] at hu; exact h.task j u hu
  · by_cases e : j = i
    · subst e
      rw [at_i, show (m.setT j t').rk = m.rk from rfl, h.rk j hj, ht]
      simp [rkOf, hw]
    · rw [at_j j e]; exact h.rk j hj
  · by_cases e : j = i
    · subst e
      rw [at_i] at hu
      cases hu
      rw [hwh]
      exact h.on j t ht (by rw [← hw]; exact hwu)
    · rw [at_j j e] at hu; exact h.on j u hu hwu
  · obtain ⟨u, hu, hwu⟩ := h.wl j r e
    by_cases e2 : j = i
    · subst e2
      rw [ht] at hu
      cases hu
      exact ⟨t', at_i, by rw [hw]; exact hwu⟩
    · exact ⟨u, by rw [at_j j e2]; exact hu, hwu⟩
theorem TOk.told {r : Nat} {s : Int} (h : TOk r s t) (e v : Int) (he : 0 ≤ e ∧ e < 16 := by decide) : TOk r s (KM.told t e v) := ⟨h.rank, h.low, h.on, h.left, h.ran, he⟩
theorem KI.told (h : KI R m) (ht : m.tk i = some t) (e v : Int) (he : 0 ≤ e ∧ e < 16 := by decide) : KI R (m.setT i (KM.told t e v)) := h.turn ht ((h.task i t ht).told e v he) rfl rfl

/-- What 'joins' leaves. -/
theorem joins_cons (hc : Cons m) (hi : i < 16) (hr : t.rank < 32) : Cons (m.joins i t) := Cons.put (Cons.rm hc (by omega)) hi hr (KM.rm_rk _ _)
theorem joins_rk (m : KM) (i : Nat) (t : TM) (j : Nat) : (m.joins i t).rk j = if j = i then (t.rank : Int) + 1 else m.rk j := by
  show upd (m.rm i).rk i _ j = _
  by_cases e : j = i
  · subst e; rw [if_pos rfl]; exact upd_at _ _ _
  · rw [if_neg e, upd_ne _ _ e]; exact KM.rm_rk_ne _ e
theorem joins_tk (m : KM) (i : Nat) (t : TM) (j : Nat) : (m.joins i t).tk j = if j = i then some { t with ran := 0 } else m.tk j := by
  show upd (m.rm i).tk i _ j = _
  by_cases e : j = i
  · subst e; rw [if_pos rfl]; exact upd_at _ _ _
  · rw [if_neg e, upd_ne _ _ e, KM.rm_tk]
theorem joins_rest (m : KM) (i : Nat) (t : TM) : (m.joins i t).wl = m.wl ∧ (m.joins i t).sl = m.sl ∧ (m.joins i t).row = m.row ∧ (m.joins i t).most = m.most ∧ (m.joins i t).slice = m.slice ∧ (m.joins i t).age = m.age ∧ (m.joins i t).used = m.used :=
  ⟨KM.rm_wl _ _, KM.rm_sl _ _, KM.rm_row _ _, KM.rm_most _ _, KM.rm_slice _ _, KM.rm_age _ _, KM.rm_used _ _⟩
/-- A task that does not wait joins. -/
theorem KI.joins (h : KI R m) (ht : m.tk i = some t) (hw : t.wait = false) {t' : TM} (h1 : t'.rank = R i) (h2 : t'.on = false) (h3 : t'.left ≤ 0) (h4 : t'.wait = false) (h5 : 0 ≤ t'.last ∧ t'.last < 16) : KI R (m.joins i t') := by
  obtain ⟨r1, r2, r3, r4, r5, r6, r7⟩ := joins_rest m i t'
  have hi := (h.place i t ht).1
  have hl := (h.task i t ht).low
  have hs := h.slice
  have hcl := h.clear ht hw
  refine ⟨joins_cons h.cons hi (by omega), by rw [r2]; exact h.sl, by rw [r5]; exact h.slice, fun j u hu => ?_, fun j u hu => ?_, fun j hj => ?_, fun j u hu hwu => ?_, fun j r e => ?_⟩
  · rw [r6, r7]
    rw [joins_tk] at hu
    split at hu
    · rename_i e; subst e; exact h.place j t ht
    · exact h.place j u hu
  · rw [r5]
    rw [joins_tk] at hu
    split at hu
    · rename_i e; subst e; cases hu; exact ⟨h1, hl, by show t'.on = t'.wait; rw [h2, h4], h3, by show (0 : Int) ≤ 0 ∧ (0 : Int) < m.slice; omega, h5⟩
    · exact h.task j u hu
  · rw [joins_rk, joins_tk]
    split
    · rename_i e; subst e; simp [rkOf, h4, h1]
    · exact h.rk j hj
  · rw [r1]
    rw [joins_tk] at hu
    split at hu
    · cases hu; rw [show ({ t' with ran := 0 } : TM).wait = t'.wait from rfl, h4] at hwu; cases hwu
    · exact h.on j u hu hwu
  · rw [r1] at e
    have hne : j ≠ i := fun e2 => by subst e2; exact hcl r e
    obtain ⟨u, hu, hwu⟩ := h.wl j r e
    exact ⟨u, by rw [joins_tk, if_neg hne]; exact hu, hwu⟩

/-- A tick goes by. -/
theorem KI.tick (h : KI R m) (ht : m.tk i = some t) (hw : t.wait = false) :
    KI R (m.tick i t) ∧ (∀ j, j ≠ i → (m.tick i t).tk j = m.tk j) ∧ (∃ n, (m.tick i t).tk i = some { t with ran := n }) ∧ (m.tick i t).row = m.row ∧ (m.tick i t).most = m.most ∧ (m.tick i t).wl = m.wl := by
  have ok := h.task i t ht
  have ho : t.on = false := by rw [ok.on]; exact hw
  have hr := ok.ran
  unfold KM.tick
  by_cases hs : m.slice ≤ t.ran + 1
  · simp only
    rw [if_pos (by exact hs)]
    -- the task stands as it is, then joins
    have k1 : KI R ({ m with now := (m.now + 1) % 4294967296 } : KM) := h.now _
    have e : ∀ X : KM, (X.setT i { t with ran := t.ran + 1 }).joins i { t with ran := t.ran + 1 } = X.joins i { t with ran := t.ran + 1 } := fun X => by
      unfold KM.joins
      have : ∀ Y : KM, (Y.setT i { t with ran := t.ran + 1 }).rm i = (Y.rm i).setT i { t with ran := t.ran + 1 } := fun Y => by
        unfold KM.rm KM.setT
        simp only
        split <;> rfl
      rw [this]
      unfold KM.put KM.setT
      simp only
      congr 1
      funext k
      unfold upd
      split <;> rfl
    rw [e]
    have k2 := k1.joins (i := i) (t := t) (t' := { t with ran := t.ran + 1 }) ht hw ok.rank ho ok.left hw ok.last
    obtain ⟨r1, r2, r3, r4, r5, r6, r7⟩ := joins_rest ({ m with now := (m.now + 1) % 4294967296 } : KM) i { t with ran := t.ran + 1 }
    exact ⟨k2, fun j e2 => by rw [joins_tk, if_neg e2], ⟨0, by rw [joins_tk, if_pos rfl]⟩, r3, r4, r1⟩
  · simp only
    rw [if_neg (by exact hs)]
    have k1 : KI R ({ m with now := (m.now + 1) % 4294967296 } : KM) := h.now _
    refine ⟨k1.turn (i := i) (t := t) (t' := { t with ran := t.ran + 1 }) ht ⟨ok.rank, ok.low, ok.on, ok.left, ?_, ok.last⟩ rfl rfl, fun j e2 => upd_ne _ _ e2, ⟨_, upd_at _ _ _⟩, rfl, rfl, rfl⟩
    show 0 ≤ t.ran + 1 ∧ t.ran + 1 < m.slice
    omega

/-- Answered, that waited. -/
def KM.done (t : TM) (e v : Int) : TM := { KM.freed (KM.told t e v) with ran := 0 }
theorem stops_cons (hc : Cons m) (hi : i < 256) (t : TM) : Cons (m.stops i t) := by
  have : Cons (m.noWait t.on) := hc
  exact Cons.rm this hi
theorem stops_rk (m : KM) (i : Nat) (t : TM) (j : Nat) : (m.stops i t).rk j = if j = i then 0 else m.rk j := by
  show ((m.noWait t.on).rm i).rk j = _
  by_cases e : j = i
  · subst e; rw [if_pos rfl]; exact KM.rm_rk _ _
  · rw [if_neg e]; exact KM.rm_rk_ne _ e
theorem stops_tk (m : KM) (i : Nat) (t : TM) (j : Nat) : (m.stops i t).tk j = if j = i then some (KM.cut t) else m.tk j := by
  show upd ((m.noWait t.on).rm i).tk i _ j = _
  by_cases e : j = i
  · subst e; rw [if_pos rfl]; exact upd_at _ _ _
  · rw [if_neg e, upd_ne _ _ e, KM.rm_tk]; rfl
theorem stops_rest (m : KM) (i : Nat) (t : TM) : (m.stops i t).wl = (m.noWait t.on).wl ∧ (m.stops i t).sl = m.sl ∧ (m.stops i t).row = m.row ∧ (m.stops i t).most = m.most ∧ (m.stops i t).slice = m.slice :=
  ⟨KM.rm_wl _ _, KM.rm_sl _ _, KM.rm_row _ _, KM.rm_most _ _, KM.rm_slice _ _⟩
theorem KI.answers (h : KI R m) (ht : m.tk i = some t) (hw : t.wait = true) (e v : Int) (he : 0 ≤ e ∧ e < 16 := by decide) :
    KI R (m.answers i t e v) ∧ (∀ j, (m.answers i t e v).tk j = if j = i then some (KM.done t e v) else m.tk j) ∧ (m.answers i t e v).wl = none ∧ (m.answers i t e v).row = m.row ∧ (m.answers i t e v).most = m.most := by
  have ok := h.task i t ht
  have hon : t.on = true := by rw [ok.on]; exact hw
  have hi := (h.place i t ht).1
  have hl := ok.low
  have hrank := ok.rank
  have hs := h.slice
  obtain ⟨X, hX⟩ : ∃ X, X = ((m.setT i (KM.told t e v)).stops i (KM.told t e v)).setT i (KM.freed (KM.told t e v)) := ⟨_, rfl⟩
  have ea : m.answers i t e v = X.joins i (KM.freed (KM.told t e v)) := by unfold KM.answers; rw [if_pos hw, hX]
  obtain ⟨q1, q2, q3, q4, q5⟩ := stops_rest (m.setT i (KM.told t e v)) i (KM.told t e v)
  have xc : Cons X := by rw [hX]; exact stops_cons (m := m.setT i (KM.told t e v)) h.cons (by omega) _
  have xrk : ∀ j, X.rk j = if j = i then 0 else m.rk j := fun j => by rw [hX]; exact stops_rk (m.setT i (KM.told t e v)) i _ j
  have xtk : ∀ j, j ≠ i → X.tk j = m.tk j := fun j e2 => by
    rw [hX]
    show upd ((m.setT i (KM.told t e v)).stops i (KM.told t e v)).tk i _ j = _
    rw [upd_ne _ _ e2, stops_tk, if_neg e2]
    exact upd_ne _ _ e2
  have xwl : X.wl = none := by
    rw [hX]
    show ((m.setT i (KM.told t e v)).stops i (KM.told t e v)).wl = none
    rw [q1]
    unfold KM.noWait
    rw [show (KM.told t e v).on = true from hon]
    rfl
  have xsl : X.sl = m.sl := by rw [hX]; exact q2
  have xrow : X.row = m.row := by rw [hX]; exact q3
  have xmost : X.most = m.most := by rw [hX]; exact q4
  have xslice : X.slice = m.slice := by rw [hX]; exact q5
  have xage : X.age = m.age := by rw [hX]; exact KM.rm_age _ _
  have xused : X.used = m.used := by rw [hX]; exact KM.rm_used _ _
  clear hX
  obtain ⟨r1, r2, r3, r4, r5, r6, r7⟩ := joins_rest X i (KM.freed (KM.told t e v))
  have htk : ∀ j, (m.answers i t e v).tk j = if j = i then some (KM.done t e v) else m.tk j := fun j => by
    rw [ea, joins_tk]
    by_cases e2 : j = i
    · rw [if_pos e2, if_pos e2]; rfl
    · rw [if_neg e2, if_neg e2]; exact xtk j e2
  refine ⟨⟨by rw [ea]; exact joins_cons xc hi (by show t.rank < 32; omega), by rw [ea, r2, xsl]; exact h.sl, by rw [ea, r5, xslice]; exact hs, fun j u hu => ?_, fun j u hu => ?_, fun j hj => ?_, fun j u hu hwu => ?_, fun j r e3 => ?_⟩, htk, by rw [ea, r1]; exact xwl, by rw [ea, r3]; exact xrow, by rw [ea, r4]; exact xmost⟩
  · rw [htk] at hu
    rw [ea, r6, r7, xage, xused]
    split at hu
    · rename_i e2; subst e2; exact h.place j t ht
    · exact h.place j u hu
  · rw [htk] at hu
    rw [ea, r5, xslice]
    split at hu
    · rename_i e2; subst e2; cases hu; exact ⟨hrank, hl, rfl, by show (0 : Int) ≤ 0; omega, by show (0 : Int) ≤ 0 ∧ (0 : Int) < m.slice; omega, he⟩
    · exact h.task j u hu
  · rw [htk, ea, joins_rk, xrk]
    split
    · rename_i e2; subst e2; show ((t.rank : Nat) : Int) + 1 = _; simp [rkOf, KM.done, KM.freed, hrank]
    · exact h.rk j hj
  · rw [htk] at hu
    split at hu
    · cases hu; cases hwu
    · rename_i e2
      have w1 := (h.on j u hu hwu).2
      have w2 := (h.on i t ht hw).2
      rw [w1] at w2
      cases w2
      exact absurd rfl e2
  · rw [ea, r1, xwl] at e3
    cases e3

/-- A task waits for the row. -/
theorem KI.waits (h : KI R m) (ht : m.tk i = some t) (hwl : m.wl = none) {what hh v mm : Int} (hwh : what = 7 ∨ what = 9) :
    KI R (m.waits i t what hh v mm) ∧ (∀ j, (m.waits i t what hh v mm).tk j = if j = i then some (KM.asks t what hh v mm) else m.tk j) ∧ (m.waits i t what hh v mm).wl = some (i, R i) ∧ (m.waits i t what hh v mm).row = m.row ∧ (m.waits i t what hh v mm).most = m.most := by
  have ok := h.task i t ht
  have hrank := ok.rank
  have hi := (h.place i t ht).1
  have htk : ∀ j, (m.waits i t what hh v mm).tk j = if j = i then some (KM.asks t what hh v mm) else m.tk j := fun j => by
    show upd (m.rm i).tk i _ j = _
    by_cases e : j = i
    · subst e; rw [if_pos rfl]; exact upd_at _ _ _
    · rw [if_neg e, upd_ne _ _ e, KM.rm_tk]
  have hrk : ∀ j, (m.waits i t what hh v mm).rk j = if j = i then 0 else m.rk j := fun j => by
    show (m.rm i).rk j = _
    by_cases e : j = i
    · subst e; rw [if_pos rfl]; exact KM.rm_rk _ _
    · rw [if_neg e]; exact KM.rm_rk_ne _ e
  have hwl2 : (m.waits i t what hh v mm).wl = some (i, R i) := by show some (i, t.rank) = _; rw [hrank]
  have hsl : (m.waits i t what hh v mm).slice = m.slice := KM.rm_slice _ _
  refine ⟨⟨Cons.rm h.cons (by omega), (KM.rm_sl _ _).trans h.sl, by rw [hsl]; exact h.slice, fun j u hu => ?_, fun j u hu => ?_, fun j hj => ?_, fun j u hu hwu => ?_, fun j r e => ?_⟩, htk, hwl2, KM.rm_row _ _, KM.rm_most _ _⟩
  · rw [show (m.waits i t what hh v mm).age = m.age from KM.rm_age _ _, show (m.waits i t what hh v mm).used = m.used from KM.rm_used _ _]
    rw [htk] at hu
    split at hu
    · rename_i e; subst e; exact h.place j t ht
    · exact h.place j u hu
  · rw [hsl]
    rw [htk] at hu
    split at hu
    · rename_i e; subst e; cases hu; exact ⟨hrank, ok.low, rfl, by show (-1 : Int) ≤ 0; omega, ok.ran, ok.last⟩
    · exact h.task j u hu
  · rw [hrk, htk]
    split
    · simp [rkOf, KM.asks]
    · exact h.rk j hj
  · rw [hwl2]
    rw [htk] at hu
    split at hu
    · rename_i e; subst e; cases hu; exact ⟨hwh, rfl⟩
    · have := (h.on j u hu hwu).2
      rw [hwl] at this
      cases this
  · rw [hwl2] at e
    cases e
    exact ⟨_, by rw [htk, if_pos rfl], rfl⟩

/-- A task that does not wait is no more. -/
theorem KI.ends (h : KI R m) (ht : m.tk i = some t) (hw : t.wait = false) :
    KI R (m.ends i t) ∧ (∀ j, (m.ends i t).tk j = if j = i then none else m.tk j) ∧ (m.ends i t).wl = m.wl ∧ (m.ends i t).row = m.row ∧ (m.ends i t).most = m.most := by
  have ok := h.task i t ht
  have hi := (h.place i t ht).1
  have hon : t.on = false := by rw [ok.on]; exact hw
  obtain ⟨q1, q2, q3, q4, q5⟩ := stops_rest m i t
  have hwl : (m.stops i t).wl = m.wl := by rw [q1]; unfold KM.noWait; rw [hon]; rfl
  have htk : ∀ j, (m.ends i t).tk j = if j = i then none else m.tk j := fun j => by
    show upd (m.stops i t).tk i none j = _
    by_cases e : j = i
    · subst e; rw [if_pos rfl]; exact upd_at _ _ _
    · rw [if_neg e, upd_ne _ _ e, stops_tk, if_neg e]
  have hcl := h.clear ht hw
  refine ⟨⟨stops_cons h.cons (by omega) t, q2.trans h.sl, by show 1 ≤ (m.stops i t).slice ∧ (m.stops i t).slice ≤ 100; rw [q5]; exact h.slice, fun j u hu => ?_, fun j u hu => ?_, fun j hj => ?_, fun j u hu hwu => ?_, fun j r e => ?_⟩, htk, hwl, q3, q4⟩
  · rw [htk] at hu
    split at hu
    · cases hu
    · rename_i e
      obtain ⟨a, b, c⟩ := h.place j u hu
      exact ⟨a, by rw [show (m.ends i t).age = (m.stops i t).age from rfl, KM.stops_age]; exact b, by rw [show (m.ends i t).used j = upd (m.stops i t).used i false j from rfl, upd_ne _ _ e, KM.stops_used]; exact c⟩
  · rw [htk] at hu
    split at hu
    · cases hu
    · rw [show (m.ends i t).slice = (m.stops i t).slice from rfl, q5]; exact h.task j u hu
  · rw [htk, show (m.ends i t).rk = (m.stops i t).rk from rfl, stops_rk]
    split
    · rfl
    · exact h.rk j hj
  · rw [htk] at hu
    rw [show (m.ends i t).wl = (m.stops i t).wl from rfl, hwl]
    split at hu
    · cases hu
    · exact h.on j u hu hwu
  · rw [show (m.ends i t).wl = (m.stops i t).wl from rfl, hwl] at e
    have hne : j ≠ i := fun e2 => by subst e2; exact hcl r e
    obtain ⟨u, hu, hwu⟩ := h.wl j r e
    exact ⟨u, by rw [htk, if_neg hne]; exact hu, hwu⟩
end
end Go.Proofs.YtcngfaggignmpaaGreatDoor

/-
  The kernel: a new task.
-/
namespace Go.Proofs.YtcngfaggignmpaaGreatDoor
open Go.RowKit

/-- A new task of a rank. -/
def tm0 (r : Nat) : TM := ⟨r, false, 0, 0, 0, 0, 0, 0, 0, 0, 0, false, 0⟩
/-- Where the tasks lie, with a new one. -/
def tb2 (tb : Nat → Nat) (m : KM) (i nb : Nat) : Nat → Nat := fun j => if j = i then nb else if (m.tk j).isSome then tb j else nb + 1 + j
namespace KM
def aged (m : KM) (i : Nat) : KM := { m with age := upd m.age i 1, used := upd m.used i true }
/-- A new task. -/
def task (m : KM) (i r : Nat) : KM := ((m.aged i).setT i (tm0 r)).joins i (tm0 r)
end KM

section
variable {B T U : Nat} {tb : Nat → Nat} {m : KM} {w : World} {i r : Nat}
theorem KS.room (h : KS B T U tb m w) : U + 3 ≤ w.heap.size := h.wait.2.2.1
theorem KS.made (h : KS B T U tb m w) (hi : i < 16) (hn : m.tk i = none) (t0 : TM) :
    KS B T U (tb2 tb m i w.heap.size) (m.setT i t0) ((w.alloc (.cells (tcells i t0 U) 127)).setCell ⟨B + 69, 4 + i, none⟩ (.pointer (some ⟨w.heap.size, 0, none⟩))) ∧
      Ch (Sk B T U w) w ((w.alloc (.cells (tcells i t0 U) 127)).setCell ⟨B + 69, 4 + i, none⟩ (.pointer (some ⟨w.heap.size, 0, none⟩))) := by
  have hroom := h.room
  have l1 := h.lay1
  have l2 := h.lay2
  have g1 : Ch No w (w.alloc (.cells (tcells i t0 U) 127)) := Ch.alloc w _
  have h1 := h.no g1
  have rn := Row.new w 127 (tcells i t0 U)
  have hl : ∀ j u, j < 16 → m.tk j = some u → tb j < w.heap.size := fun j u hj hu => (h.task j u hj hu).lt
  obtain ⟨W1, hW1⟩ : ∃ W1, W1 = w.alloc (.cells (tcells i t0 U) 127) := ⟨_, rfl⟩
  rw [← hW1] at g1 h1 rn ⊢
  obtain ⟨nb, hnb⟩ : ∃ nb, nb = w.heap.size := ⟨_, rfl⟩
  rw [← hnb] at rn hl hroom ⊢
  have g2 := Ch.set1 W1 (B + 69) (4 + i) (.pointer (some ⟨nb, 0, none⟩))
  have e1 : ∀ j, j ≠ i → (m.setT i t0).tk j = m.tk j := fun j e => upd_ne _ _ e
  have e2 : (m.setT i t0).tk i = some t0 := upd_at _ _ _
  have b1 : ∀ j u, j ≠ i → m.tk j = some u → tb2 tb m i nb j = tb j := fun j u e hu => by unfold tb2; rw [if_neg e, hu]; rfl
  have b2 : tb2 tb m i nb i = nb := by unfold tb2; rw [if_pos rfl]
  have no : ∀ k, k ≠ (B + 69) → ¬ (k = (B + 69)) := fun k hk s => hk s
  have hw : ∀ j, j < 16 → U + 3 ≤ tb2 tb m i nb j := fun j hj => by
    unfold tb2
    split
    · exact hroom
    · split
      · exact h.lay3 j hj
      · omega
  refine ⟨⟨h.lay1, h.lay2, hw, fun j k hj hk e => ?_, ?_, h1.th.keeps g2 (no _ (by omega)), h1.oh.keeps g2 (no _ (by omega)), h1.ready.keeps g2 (fun k s hb => by simp only [Rqb] at hb; omega), h1.sleeps.keeps g2 (no _ (by omega)) (fun k cs hk _ => no k (by omega)), h1.alarms.keeps g2 (no _ (by omega)) (no _ (by omega)),
    h1.thing.keeps g2 (no _ (by omega)), h1.obj.keeps g2 (no _ (by omega)) (no _ (by omega)) (no _ (by omega)), h1.wait.keeps g2 (no _ (by omega)) (no _ (by omega)) (fun k cs hk _ => no k (by omega)), fun j u hj hu => ?_⟩, (g1.mono (fun _ _ e => e.elim)).trans (g2.mono (fun k _ e => .inl (by omega)))⟩
  · -- injective
    unfold tb2 at e
    by_cases ej : j = i
    · rw [if_pos ej] at e
      by_cases ek : k = i
      · rw [ej, ek]
      · rw [if_neg ek] at e
        cases hk2 : m.tk k with
        | none => rw [hk2] at e; simp at e; omega
        | some u => rw [hk2] at e; simp at e; have := hl k u hk hk2; omega
    · rw [if_neg ej] at e
      by_cases ek : k = i
      · rw [if_pos ek] at e
        cases hj2 : m.tk j with
        | none => rw [hj2] at e; simp at e; omega
        | some u => rw [hj2] at e; simp at e; have := hl j u hj hj2; omega
      · rw [if_neg ek] at e
        cases hj2 : m.tk j with
        | none =>
          rw [hj2] at e
          cases hk2 : m.tk k with
          | none => rw [hk2] at e; simp at e; omega
          | some u => rw [hk2] at e; simp at e; have := hl k u hk hk2; omega
        | some v =>
          rw [hj2] at e
          cases hk2 : m.tk k with
          | none => rw [hk2] at e; simp at e; have := hl j v hj hj2; omega
          | some u => rw [hk2] at e; simp at e; exact h.lay4 j k hj hk e
  · obtain ⟨cs, r, k⟩ := h1.kern
    have hs := k.size
    have e : ∀ (j : Nat), j ≠ 4 + i → (cs.setIfInBounds (4 + i) (.pointer (some ⟨nb, 0, none⟩)))[j]? = cs[j]? := fun j hj => by rw [set_get (by omega), if_neg (fun e => hj e.symm)]
    refine ⟨_, r.set (4 + i) _, ⟨by simp [hs], ?_, ?_, ?_, ?_, fun j hj => ?_, fun j hj => ?_, ?_, ?_, ?_⟩⟩
    · rw [e 0 (by omega)]; exact k.slice
    · rw [e 1 (by omega)]; exact k.now
    · rw [e 2 (by omega)]; exact k.th
    · rw [e 3 (by omega)]; exact k.oh
    · by_cases ej : j = i
      · subst ej
        rw [set_get (by omega), if_pos rfl]
        unfold tptr
        rw [e2, b2]
        rfl
      · rw [e _ (by omega), k.task j hj]
        unfold tptr
        rw [e1 j ej]
        cases hu : m.tk j with
        | none => rfl
        | some u => rw [b1 j u ej hu]
    · rw [e _ (by omega)]; exact k.thing j hj
    · rw [e _ (by omega)]; exact k.ready
    · rw [e _ (by omega)]; exact k.sleeps
    · rw [e _ (by omega)]; exact k.alarms
  · by_cases ej : j = i
    · subst ej
      rw [e2] at hu
      cases hu
      rw [b2]
      exact rn.keeps g2 (no _ (by omega))
    · rw [e1 j ej] at hu
      rw [b1 j u ej hu]
      exact (h1.task j u hj hu).keeps g2 (no _ (by have := h.lay3 j hj; omega))

set_option maxRecDepth 100000 in
set_option maxHeartbeats 4000000 in
theorem task_any (h : KS B T U tb m w) (hc : Cons m) (hi : i < 16) (hn : m.tk i = none) (hag : m.age i = 0) (hus : m.used i = false) (hall : ∀ j, j < i → m.used j = true) (hr : r < 32) (hcalm : Calm (m.task i r)) :
    Calls Tryz.prog 29 #[.pointer (some ⟨B + 69, 0, none⟩), .int .i64 r] w fun e w' => ∃ nb, e = .returned (.tuple #[.int .u32 (256 + i), .int .i64 0]) ∧ KS B T U (tb2 tb m i nb) (m.task i r) w' ∧ Ch (Sk B T U w) w w' := by
  have H := Lib.hid h
  have HCO := Lib.hid hc
  have HN := Lib.hid hn
  have HAG := Lib.hid hag
  have HUS := Lib.hid hus
  have HALL := Lib.hid hall
  have HCALM := Lib.hid hcalm
  have hi1 : 0 ≤ (i : Int) ∧ (i : Int) < 16 := by omega
  have d1 : decide ((r : Int) < 0) = false := by rw [decide_eq_false_iff_not]; omega
  have d2 : decide ((31 : Int) < (r : Int)) = false := by rw [decide_eq_false_iff_not]; omega
  have c0 := h.cTh
  clear h hc hn hag hus hall hcalm
  go_enter_defers Tryz.func29, Tryz.ntmps29
  go_wp2_with fail
  refine (kThere_any H.out).mono ?_; rintro e w1 ⟨rfl, rfl⟩
  go_wp2_with fail
  have hm := handMake_any w (B + 70) 16 m.age m.used i 0 (by omega) hi (by decide) (by decide) HAG.out HUS.out HALL.out H.out.th
  rw [show (256 * ((0 : Int) + 1) + (i : Int)) = 256 + i by omega, show (0 : Int) + 1 = 1 by omega] at hm
  refine hm.mono ?_; rintro e w2 ⟨rfl, hth, hch⟩
  have hk2 := H.out.th' hch hth
  have HK2 : Hid (KS B T U tb (m.aged i) w2) := Lib.hid hk2.1
  have HC2 := Lib.hid hk2.2
  clear hm hth hch hk2 c0
  have c0 := HK2.out.cTh
  go_wp2_with fail
  have hp := handPlace_any w2 (B + 70) 16 (m.aged i).age (m.aged i).used i 1 (by omega) (by decide) (by decide) (upd_at _ _ _) (upd_at _ _ _) HK2.out.th
  rw [show (256 * (1 : Int) + (i : Int)) = 256 + i by omega] at hp
  refine hp.mono ?_; rintro e w3 ⟨rfl, hch⟩
  have HK3 := Lib.hid (HK2.out.no hch)
  have HC3 := Lib.hid (HC2.out.tr (Ch.ofNo B T U hch))
  have hk4 := HK3.out.made hi (show (m.aged i).tk i = none from HN.out) (tm0 r)
  have HK4 := Lib.hid hk4.1
  have HC4 := Lib.hid (HC3.out.tr hk4.2)
  have f1 : (w3.alloc (.cells (tcells i (tm0 r) U) 127)).frozen? ⟨B + 69, 4 + i, none⟩ = false := (HK3.out.no (Ch.alloc _ _)).kFree _
  have c1 : (w3.alloc (.cells (tcells i (tm0 r) U) 127)).cell? ⟨B + 69, 4 + i, none⟩ = some (.pointer none) := by
    obtain ⟨cs, q, k⟩ := (HK3.out.no (Ch.alloc w3 (.cells (tcells i (tm0 r) U) 127))).kern
    have := k.task i hi
    unfold tptr at this
    rw [show (m.aged i).tk i = none from HN.out] at this
    exact q.cell this
  clear hp hch hk4 c0
  unfold tcells tm0 at f1 c1
  simp only [Bool.false_eq_true, if_false] at f1 c1
  go_wp2_with fail
  have hk4 := HK4.out
  have hc4 := HC4.out
  obtain ⟨W5, hW5⟩ : ∃ W5, W5 = (w3.alloc (.cells (tcells i (tm0 r) U) 127)).setCell ⟨B + 69, 4 + i, none⟩ (.pointer (some ⟨w3.heap.size, 0, none⟩)) := ⟨_, rfl⟩
  rw [← hW5] at hk4 hc4
  unfold tcells tm0 at hW5
  simp only [Bool.false_eq_true, if_false] at hW5
  rw [← hW5]
  have HK5 := Lib.hid hk4
  have HC5 := Lib.hid hc4
  clear hW5 hk4 hc4 HK4 HC4 f1 c1
  refine (joins_any HK5.out (show Cons ((m.aged i).setT i (tm0 r)) from HCO.out) hi (t := tm0 r) (upd_at _ _ _) hr).mono ?_; rintro e w6 ⟨rfl, hk6, hch6⟩
  have HK6 : Hid (KS B T U (tb2 tb m i w3.heap.size) (m.task i r) w6) := Lib.hid hk6
  have HC6 := Lib.hid (HC5.out.tr hch6)
  clear hk6 hch6
  go_wp2_with fail
  refine leaves_cons (f := 57) (args := #[.pointer (some ⟨B + 69, 0, none⟩)]) (by simp) (by simp [go_sem]) ?_
  refine (anew_deferred .returning HK6.out HCALM.out).mono ?_
  rintro e u' w9 ⟨rfl, rfl, hch9⟩
  exact ⟨.tuple #[.int .u32 (256 + i), .int .i64 0], by simp [results, Tryz.f29, go_sem], _, rfl, HK6.out.no hch9, HC6.out.tr (Ch.ofNo B T U hch9)⟩
end
end Go.Proofs.YtcngfaggignmpaaGreatDoor
