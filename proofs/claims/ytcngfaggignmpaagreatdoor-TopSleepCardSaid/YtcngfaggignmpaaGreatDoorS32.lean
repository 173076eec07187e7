/-
  The top, part 32: NapKin, NapLeft.
-/
import Derived.Test.YtcngfaggignmpaaGreatDoorS16
import Derived.Test.YtcngfaggignmpaaGreatDoorS24
import Derived.Test.YtcngfaggignmpaaGreatDoorS31
import Derived.ControlIn
import Derived.Deep.RegionHeld3

/-
  The kernel's numbers fit together, where tasks sleep, and nobody waits for the row. Plain.
-/
namespace Go.Proofs.YtcngfaggignmpaaGreatDoor
open Go.RowKit

namespace KM
/-- A task that sleeps. -/
def nap (t : TM) (hh v mm d : Int) : TM := { t with wait := true, what := 2, hh := hh, v := v, mm := mm, wt := d, left := d, on := false }
def naps (m : KM) (i : Nat) (t : TM) (hh v mm d : Int) : KM := { ((m.rm i).setT i (nap t hh v mm d)) with sl := dput i d 0 m.sl }
/-- A tick less. -/
def older (t : TM) : TM := if 0 < t.left then { t with left := t.left - 1 } else t
/-- A tick goes by where nobody runs; l: who sleeps on. -/
def tick0 (m : KM) (l : List (Nat × Int)) : KM := { m with now := (m.now + 1) % 4294967296, tk := fun i => (m.tk i).map older, sl := l }
/-- One is woken. -/
def wake (m : KM) (i : Nat) : KM := match m.tk i with
  | none => m
  | some t => m.answers i t 0 0
def wakes (m : KM) : List Nat → KM
  | [] => m
  | i :: l => (m.wake i).wakes l
end KM

/-- The kernel's numbers fit; R: the ranks; f: how many ticks are left; p: who is being woken. -/
structure NI (R : Nat → Nat) (f : Nat → Int) (p : List Nat) (m : KM) : Prop where
  cons : Cons m
  wl : m.wl = none
  slice : 1 ≤ m.slice ∧ m.slice ≤ 100
  place : ∀ i t, m.tk i = some t → i < 16 ∧ m.age i = 1 ∧ m.used i = true
  task : ∀ i t, m.tk i = some t → t.rank = R i ∧ R i < 32 ∧ t.on = false ∧ 0 ≤ t.last ∧ t.last < 16
  rk : ∀ i, i < 256 → m.rk i = rkOf (R i) (m.tk i)
  sl : SLok f 0 m.sl
  nod : (p ++ m.sl.map (·.1)).Nodup
  mem : ∀ i, i ∈ p ++ m.sl.map (·.1) ↔ ∃ t, m.tk i = some t ∧ t.wait = true
  left : ∀ i t, m.tk i = some t → t.wait = true → t.left = f i ∧ 0 ≤ f i ∧ f i ≤ 255 ∧ t.what = 2
  pos : ∀ i, i ∈ m.sl.map (·.1) → 1 ≤ f i
  rest : ∀ i t, m.tk i = some t → t.wait = false → t.left = 0

theorem nodup_leN (n : Nat) (l : List Nat) (h : l.Nodup) (hm : ∀ x ∈ l, x < n) : l.length ≤ n := by
  have h1 : (l.map (fun i : Nat => (i : Int))).Nodup := List.pairwise_map.2 (h.imp (fun hne e => hne (by omega)))
  have := nodup_le n _ h1 (fun x hx => by
    obtain ⟨j, hj, e⟩ := List.mem_map.1 hx
    exact ⟨j, hm j hj, e.symm⟩)
  rwa [List.length_map] at this

section
variable {R : Nat → Nat} {f : Nat → Int} {p : List Nat} {m : KM} {i : Nat} {t : TM}
theorem NI.inls (h : NI R f p m) (ht : m.tk i = some t) (hw : t.wait = false) : (i : Int) ∈ m.ls (R i) := by
  have hi := (h.place i t ht).1
  have hrk := h.rk i (by omega)
  rw [ht] at hrk
  simp [rkOf, hw] at hrk
  rcases h.cons.inq i (by omega) with h0 | ⟨q, hq, e, hm⟩
  · omega
  · have : q = R i := by omega
    rw [← this]
    exact hm
theorem NI.ofls (h : NI R f p m) {r : Nat} {x : Int} (hr : r < 32) (hx : x ∈ m.ls r) : ∃ (j : Nat) (u : TM), x = (j : Int) ∧ j < 16 ∧ m.tk j = some u ∧ u.wait = false ∧ r = R j := by
  obtain ⟨j, hj, rfl, hjr⟩ := h.cons.mem r x hr hx
  have hk := h.rk j (by omega)
  cases e : m.tk j with
  | none => rw [e] at hk; simp [rkOf] at hk; omega
  | some u =>
    rw [e] at hk
    cases ew : u.wait
    · simp [rkOf, ew] at hk
      exact ⟨j, u, rfl, hj, e, ew, by omega⟩
    · simp [rkOf, ew] at hk
      omega
theorem NI.runs (h : NI R f p m) (hx : ∃ i t, m.tk i = some t ∧ t.wait = false) :
    ∃ i t r l', i < 16 ∧ m.tk i = some t ∧ t.wait = false ∧ r < 32 ∧ r = R i ∧ m.ls r = (i : Int) :: l' ∧ ∀ j, r < j → j < 32 → m.ls j = [] := by
  obtain ⟨i, t, ht, hw⟩ := hx
  have hmem := h.inls ht hw
  obtain ⟨r, hr, hne, hup⟩ := top_row m.ls 32 ⟨R i, (h.task i t ht).2.1, fun e => by rw [e] at hmem; cases hmem⟩
  obtain ⟨x, l', hl⟩ : ∃ x l', m.ls r = x :: l' := List.exists_cons_of_ne_nil hne
  obtain ⟨j, u, rfl, hj, hu, huw, hrj⟩ := h.ofls hr (x := x) (by rw [hl]; simp)
  exact ⟨j, u, r, l', hj, hu, huw, hr, hrj, hl, hup⟩
theorem NI.calmly (h : NI R f p m) (hx : ∀ i t, m.tk i = some t → t.wait = true) : ∀ r, r < 32 → m.ls r = [] := fun r hr => by
  cases e : m.ls r with
  | nil => rfl
  | cons x l =>
    obtain ⟨j, u, _, _, hu, huw, _⟩ := h.ofls hr (x := x) (by rw [e]; simp)
    rw [hx j u hu] at huw
    cases huw
theorem NI.top (h : NI R f p m) {r : Nat} (hn : ∀ j, r < j → j < 32 → m.ls j = []) (ht : m.tk i = some t) (hw : t.wait = false) : R i ≤ r := by
  have h1 := h.inls ht hw
  have h2 := (h.task i t ht).2.1
  rcases Nat.lt_or_ge r (R i) with h3 | h3
  · rw [hn _ h3 h2] at h1; cases h1
  · exact h3
theorem NI.calm (h : NI R f p m) : Calm m := fun i t _ ht => by
  obtain ⟨h1, h2, h3, _⟩ := h.task i t ht
  exact ⟨by omega, fun e => by rw [h3] at e; cases e⟩
theorem NI.slen (h : NI R f p m) : m.sl.length ≤ 16 := by
  have h1 := (List.nodup_append.1 h.nod).2.1
  have := nodup_leN 16 _ h1 (fun x hx => by
    obtain ⟨t, ht, _⟩ := (h.mem x).1 (List.mem_append_right _ hx)
    exact (h.place x t ht).1)
  rwa [List.length_map] at this
theorem NI.out (h : NI R f p m) (ht : m.tk i = some t) (hw : t.wait = false) : i ∉ m.sl.map (·.1) := fun hx => by
  obtain ⟨u, hu, hw2⟩ := (h.mem i).1 (List.mem_append_right _ hx)
  rw [ht] at hu
  cases hu
  rw [hw] at hw2
  cases hw2
theorem awake_of (h : m.sl.length ≤ 16) (ho : i ∉ m.sl.map (·.1)) : Awake m i := ⟨by omega, fun x hx e => ho (List.mem_map.2 ⟨x, hx, e⟩)⟩
theorem NI.awake (h : NI R f p m) (ht : m.tk i = some t) (hw : t.wait = false) : Awake m i := awake_of h.slen (h.out ht hw)
theorem NI.row (h : NI R f p m) (l : List Int) : NI R f p { m with row := l } := ⟨h.cons, h.wl, h.slice, h.place, h.task, h.rk, h.sl, h.nod, h.mem, h.left, h.pos, h.rest⟩
/-- A task that does not sleep turns. -/
theorem NI.turn (h : NI R f p m) (ht : m.tk i = some t) (hw : t.wait = false) {t' : TM} (h1 : t'.rank = R i) (h2 : t'.on = false) (h3 : 0 ≤ t'.last ∧ t'.last < 16) (h4 : t'.wait = false) (h5 : t'.left = 0) : NI R f p (m.setT i t') := by
  have at_i : (m.setT i t').tk i = some t' := upd_at _ _ _
  have at_j : ∀ j, j ≠ i → (m.setT i t').tk j = m.tk j := fun j e => upd_ne _ _ e
  refine ⟨h.cons, h.wl, h.slice, fun j u hu => ?_, fun j u hu => ?_, fun j hj => ?_, h.sl, h.nod, fun j => ?_, fun j u hu hwu => ?_, h.pos, fun j u hu hwu => ?_⟩
  · by_cases e : j = i
    · subst e; exact h.place j t ht
    · rw [at_j j e] at hu; exact h.place j u hu
  · by_cases e : j = i
    · subst e; rw [at_i] at hu; cases hu; exact ⟨h1, (h.task j t ht).2.1, h2, h3⟩
    · rw [at_j j e] at hu; exact h.task j u hu
  · by_cases e : j = i
    · subst e
      rw [at_i, show (m.setT j t').rk = m.rk from rfl, h.rk j hj, ht]
      simp [rkOf, hw, h4]
    · rw [at_j j e]; exact h.rk j hj
  · rw [show (m.setT i t').sl = m.sl from rfl, h.mem j]
    by_cases e : j = i
    · subst e
      rw [at_i, ht]
      simp [hw, h4]
    · rw [at_j j e]
  · by_cases e : j = i
    · subst e; rw [at_i] at hu; cases hu; rw [h4] at hwu; cases hwu
    · rw [at_j j e] at hu; exact h.left j u hu hwu
  · by_cases e : j = i
    · subst e; rw [at_i] at hu; cases hu; exact h5
    · rw [at_j j e] at hu; exact h.rest j u hu hwu
theorem NI.told (h : NI R f p m) (ht : m.tk i = some t) (hw : t.wait = false) (e v : Int) (he : 0 ≤ e ∧ e < 16 := by decide) : NI R f p (m.setT i (KM.told t e v)) :=
  h.turn ht hw (h.task i t ht).1 (h.task i t ht).2.2.1 he hw (h.rest i t ht hw)
/-- A task that does not sleep is no more. -/
theorem NI.ends (h : NI R f p m) (ht : m.tk i = some t) (hw : t.wait = false) :
    NI R f p (m.ends i t) ∧ (∀ j, (m.ends i t).tk j = if j = i then none else m.tk j) ∧ (m.ends i t).row = m.row ∧ (m.ends i t).most = m.most := by
  have hi := (h.place i t ht).1
  have hon := (h.task i t ht).2.2.1
  obtain ⟨q1, q2, q3, q4, q5⟩ := stops_rest m i t
  have hwl : (m.stops i t).wl = m.wl := by rw [q1]; unfold KM.noWait; rw [hon]; rfl
  have htk : ∀ j, (m.ends i t).tk j = if j = i then none else m.tk j := fun j => by
    show upd (m.stops i t).tk i none j = _
    by_cases e : j = i
    · subst e; rw [if_pos rfl]; exact upd_at _ _ _
    · rw [if_neg e, upd_ne _ _ e, stops_tk, if_neg e]
  have hsl : (m.ends i t).sl = m.sl := q2
  refine ⟨⟨stops_cons h.cons (by omega) t, by show (m.stops i t).wl = none; rw [hwl]; exact h.wl, by show 1 ≤ (m.stops i t).slice ∧ (m.stops i t).slice ≤ 100; rw [q5]; exact h.slice, fun j u hu => ?_, fun j u hu => ?_, fun j hj => ?_, by rw [hsl]; exact h.sl, by rw [hsl]; exact h.nod, fun j => ?_, fun j u hu hwu => ?_, by rw [hsl]; exact h.pos, fun j u hu hwu => ?_⟩, htk, q3, q4⟩
  · rw [htk] at hu
    split at hu
    · cases hu
    · rename_i e
      obtain ⟨a, b, c⟩ := h.place j u hu
      exact ⟨a, by rw [show (m.ends i t).age = (m.stops i t).age from rfl, KM.stops_age]; exact b, by rw [show (m.ends i t).used j = upd (m.stops i t).used i false j from rfl, upd_ne _ _ e, KM.stops_used]; exact c⟩
  · rw [htk] at hu
    split at hu
    · cases hu
    · exact h.task j u hu
  · rw [htk, show (m.ends i t).rk = (m.stops i t).rk from rfl, stops_rk]
    split
    · rfl
    · exact h.rk j hj
  · rw [hsl, htk, h.mem j]
    split
    · rename_i e; subst e; rw [ht]; simp [hw]
    · exact Iff.rfl
  · rw [htk] at hu
    split at hu
    · cases hu
    · exact h.left j u hu hwu
  · rw [htk] at hu
    split at hu
    · cases hu
    · exact h.rest j u hu hwu
/-- A task sleeps. -/
theorem NI.naps (h : NI R f [] m) (ht : m.tk i = some t) (hw : t.wait = false) (hh v mm : Int) {d : Int} (hd : f i = d) (h1 : 1 ≤ d) (h2 : d ≤ 255) :
    NI R f [] (m.naps i t hh v mm d) ∧ (∀ j, (m.naps i t hh v mm d).tk j = if j = i then some (KM.nap t hh v mm d) else m.tk j) ∧ (m.naps i t hh v mm d).row = m.row ∧ (m.naps i t hh v mm d).most = m.most := by
  have hi := (h.place i t ht).1
  have hok := h.task i t ht
  have ho := h.out ht hw
  have htk : ∀ j, (m.naps i t hh v mm d).tk j = if j = i then some (KM.nap t hh v mm d) else m.tk j := fun j => by
    show upd (m.rm i).tk i _ j = _
    by_cases e : j = i
    · subst e; rw [if_pos rfl]; exact upd_at _ _ _
    · rw [if_neg e, upd_ne _ _ e, KM.rm_tk]
  have hrk : ∀ j, (m.naps i t hh v mm d).rk j = if j = i then 0 else m.rk j := fun j => by
    show (m.rm i).rk j = _
    by_cases e : j = i
    · subst e; rw [if_pos rfl]; exact KM.rm_rk _ _
    · rw [if_neg e]; exact KM.rm_rk_ne _ e
  have hsl : (m.naps i t hh v mm d).sl = dput i d 0 m.sl := rfl
  have hp := dput_who i d m.sl 0
  refine ⟨⟨Cons.rm h.cons (by omega), (KM.rm_wl _ _).trans h.wl, by rw [show (m.naps i t hh v mm d).slice = m.slice from KM.rm_slice _ _]; exact h.slice, fun j u hu => ?_, fun j u hu => ?_, fun j hj => ?_, ?_, ?_, fun j => ?_, fun j u hu hwu => ?_, fun j hj => ?_, fun j u hu hwu => ?_⟩, htk, KM.rm_row _ _, KM.rm_most _ _⟩
  · rw [show (m.naps i t hh v mm d).age = m.age from KM.rm_age _ _, show (m.naps i t hh v mm d).used = m.used from KM.rm_used _ _]
    rw [htk] at hu
    split at hu
    · rename_i e; subst e; exact h.place j t ht
    · exact h.place j u hu
  · rw [htk] at hu
    split at hu
    · rename_i e; subst e; cases hu; exact ⟨hok.1, hok.2.1, rfl, hok.2.2.2⟩
    · exact h.task j u hu
  · rw [hrk, htk]
    split
    · simp [rkOf, KM.nap]
    · exact h.rk j hj
  · rw [hsl]; exact SLok.put hd m.sl 0 h.sl (by omega)
  · rw [hsl, List.nil_append, hp.nodup_iff, List.nodup_cons]
    exact ⟨ho, h.nod⟩
  · rw [hsl, List.nil_append, hp.mem_iff, List.mem_cons, htk]
    by_cases e : j = i
    · subst e; simp [KM.nap]
    · rw [if_neg e, ← h.mem j]; simp [e]
  · rw [htk] at hu
    split at hu
    · rename_i e; subst e; cases hu; exact ⟨hd.symm, by omega, by omega, rfl⟩
    · exact h.left j u hu hwu
  · rw [hsl, hp.mem_iff, List.mem_cons] at hj
    rcases hj with rfl | hj
    · omega
    · exact h.pos j hj
  · rw [htk] at hu
    split at hu
    · cases hu; cases hwu
    · exact h.rest j u hu hwu

/-- One that sleeps is woken. -/
theorem NI.wake (h : NI R f (i :: p) m) :
    ∃ t, m.tk i = some t ∧ t.wait = true ∧ t.what = 2 ∧ Awake m i ∧ m.wake i = m.answers i t 0 0 ∧ NI R f p (m.wake i) ∧ (∀ j, (m.wake i).tk j = if j = i then some (KM.done t 0 0) else m.tk j) ∧ (m.wake i).row = m.row ∧ (m.wake i).most = m.most := by
  obtain ⟨t, ht, hw⟩ := (h.mem i).1 (by simp)
  have ok := h.task i t ht
  have hi := (h.place i t ht).1
  have hnod := h.nod
  rw [List.cons_append, List.nodup_cons] at hnod
  have ew : m.wake i = m.answers i t 0 0 := by unfold KM.wake; rw [ht]
  obtain ⟨X, hX⟩ : ∃ X, X = ((m.setT i (KM.told t 0 0)).stops i (KM.told t 0 0)).setT i (KM.freed (KM.told t 0 0)) := ⟨_, rfl⟩
  have ea : m.answers i t 0 0 = X.joins i (KM.freed (KM.told t 0 0)) := by unfold KM.answers; rw [if_pos hw, hX]
  obtain ⟨q1, q2, q3, q4, q5⟩ := stops_rest (m.setT i (KM.told t 0 0)) i (KM.told t 0 0)
  have xc : Cons X := by rw [hX]; exact stops_cons (m := m.setT i (KM.told t 0 0)) h.cons (by omega) _
  have xrk : ∀ j, X.rk j = if j = i then 0 else m.rk j := fun j => by rw [hX]; exact stops_rk (m.setT i (KM.told t 0 0)) i _ j
  have xtk : ∀ j, j ≠ i → X.tk j = m.tk j := fun j e2 => by
    rw [hX]
    show upd ((m.setT i (KM.told t 0 0)).stops i (KM.told t 0 0)).tk i _ j = _
    rw [upd_ne _ _ e2, stops_tk, if_neg e2]
    exact upd_ne _ _ e2
  have xwl : X.wl = none := by
    rw [hX]
    show ((m.setT i (KM.told t 0 0)).stops i (KM.told t 0 0)).wl = none
    rw [q1]
    unfold KM.noWait
    rw [show (KM.told t 0 0).on = false from ok.2.2.1]
    exact h.wl
  have xsl : X.sl = m.sl := by rw [hX]; exact q2
  have xrow : X.row = m.row := by rw [hX]; exact q3
  have xmost : X.most = m.most := by rw [hX]; exact q4
  have xslice : X.slice = m.slice := by rw [hX]; exact q5
  have xage : X.age = m.age := by rw [hX]; exact KM.rm_age _ _
  have xused : X.used = m.used := by rw [hX]; exact KM.rm_used _ _
  clear hX
  obtain ⟨r1, r2, r3, r4, r5, r6, r7⟩ := joins_rest X i (KM.freed (KM.told t 0 0))
  have htk : ∀ j, (m.answers i t 0 0).tk j = if j = i then some (KM.done t 0 0) else m.tk j := fun j => by
    rw [ea, joins_tk]
    by_cases e2 : j = i
    · rw [if_pos e2, if_pos e2]; rfl
    · rw [if_neg e2, if_neg e2]; exact xtk j e2
  have hsl : (m.answers i t 0 0).sl = m.sl := by rw [ea, r2, xsl]
  rw [ew]
  refine ⟨t, ht, hw, (h.left i t ht hw).2.2.2, awake_of h.slen (fun hx => hnod.1 (List.mem_append_right _ hx)), rfl, ⟨by rw [ea]; exact joins_cons xc hi (by show t.rank < 32; omega), by rw [ea, r1]; exact xwl, by rw [ea, r5, xslice]; exact h.slice, fun j u hu => ?_, fun j u hu => ?_, fun j hj => ?_, by rw [hsl]; exact h.sl, by rw [hsl]; exact hnod.2, fun j => ?_, fun j u hu hwu => ?_, by rw [hsl]; exact h.pos, fun j u hu hwu => ?_⟩, htk, by rw [ea, r3]; exact xrow, by rw [ea, r4]; exact xmost⟩
  · rw [htk] at hu
    rw [ea, r6, r7, xage, xused]
    split at hu
    · rename_i e2; subst e2; exact h.place j t ht
    · exact h.place j u hu
  · rw [htk] at hu
    split at hu
    · rename_i e2; subst e2; cases hu; exact ⟨ok.1, ok.2.1, rfl, by show (0 : Int) ≤ 0 ∧ (0 : Int) < 16; omega⟩
    · exact h.task j u hu
  · rw [htk, ea, joins_rk, xrk]
    split
    · rename_i e2; subst e2; show ((t.rank : Nat) : Int) + 1 = _; simp [rkOf, KM.done, KM.freed, ok.1]
    · exact h.rk j hj
  · rw [hsl, htk]
    have hj := h.mem j
    rw [List.cons_append, List.mem_cons] at hj
    by_cases e : j = i
    · subst e
      rw [if_pos rfl]
      constructor
      · intro hx; exact absurd hx hnod.1
      · rintro ⟨u, hu, hwu⟩; cases hu; cases hwu
    · rw [if_neg e, ← hj]
      simp [e]
  · rw [htk] at hu
    split at hu
    · cases hu; cases hwu
    · exact h.left j u hu hwu
  · rw [htk] at hu
    split at hu
    · cases hu; rfl
    · exact h.rest j u hu hwu

/-- A tick goes by: some are to be woken. -/
theorem NI.tick0 (h : NI R f [] m) {k : Nat} (hz : ∀ x ∈ (dec m.sl).take k, x.2 = 0) (hnz : ∀ x, (dec m.sl)[k]? = some x → x.2 ≠ 0) :
    NI R (fun i => f i - 1) (((dec m.sl).take k).map (·.1)) (m.tick0 ((dec m.sl).drop k)) ∧ ∀ i ∈ ((dec m.sl).take k).map (·.1), f i = 1 := by
  have hd := h.sl.dec (fun q hq => h.pos q.1 (List.mem_map.2 ⟨q, hq, rfl⟩))
  obtain ⟨d1, d2⟩ := hd.pop _ k hz
  have hsl : (m.tick0 ((dec m.sl).drop k)).sl = (dec m.sl).drop k := rfl
  have happ : ((dec m.sl).take k).map (·.1) ++ ((dec m.sl).drop k).map (·.1) = m.sl.map (·.1) := by rw [← List.map_append, List.take_append_drop, dec_who]
  have hin : ∀ j u, m.tk j = some u → u.wait = true → 1 ≤ f j := fun j u hu hwu => h.pos j (by have := (h.mem j).2 ⟨u, hu, hwu⟩; rwa [List.nil_append] at this)
  have hold : ∀ j u', (m.tick0 ((dec m.sl).drop k)).tk j = some u' → ∃ u, m.tk j = some u ∧ u' = KM.older u := fun j u' hu => by
    rw [show (m.tick0 ((dec m.sl).drop k)).tk j = (m.tk j).map KM.older from rfl] at hu
    cases e : m.tk j with
    | none => rw [e] at hu; cases hu
    | some u => rw [e] at hu; cases hu; exact ⟨u, rfl, rfl⟩
  have fl : ∀ u, (KM.older u).rank = u.rank ∧ (KM.older u).on = u.on ∧ (KM.older u).last = u.last ∧ (KM.older u).wait = u.wait ∧ (KM.older u).what = u.what := fun u => by
    unfold KM.older
    split <;> exact ⟨rfl, rfl, rfl, rfl, rfl⟩
  refine ⟨⟨h.cons, h.wl, h.slice, fun j u' hu => ?_, fun j u' hu => ?_, fun j hj => ?_, by rw [hsl]; exact d2, by rw [hsl, happ]; have := h.nod; rwa [List.nil_append] at this, fun j => ?_, fun j u' hu hwu => ?_, fun j hj => ?_, fun j u' hu hwu => ?_⟩, fun j hj => ?_⟩
  · obtain ⟨u, hu1, rfl⟩ := hold j u' hu
    exact h.place j u hu1
  · obtain ⟨u, hu1, rfl⟩ := hold j u' hu
    rw [(fl u).1, (fl u).2.1, (fl u).2.2.1]
    exact h.task j u hu1
  · rw [show (m.tick0 ((dec m.sl).drop k)).rk = m.rk from rfl, show (m.tick0 ((dec m.sl).drop k)).tk j = (m.tk j).map KM.older from rfl, h.rk j hj]
    cases e : m.tk j with
    | none => rfl
    | some u => simp [rkOf, (fl u).2.2.2.1]
  · rw [hsl, happ]
    have := h.mem j
    rw [List.nil_append] at this
    rw [this, show (m.tick0 ((dec m.sl).drop k)).tk j = (m.tk j).map KM.older from rfl]
    cases e : m.tk j with
    | none => simp
    | some u => simp [(fl u).2.2.2.1]
  · obtain ⟨u, hu1, rfl⟩ := hold j u' hu
    rw [(fl u).2.2.2.1] at hwu
    have hf := hin j u hu1 hwu
    obtain ⟨a, b, c, d⟩ := h.left j u hu1 hwu
    refine ⟨?_, by omega, by omega, by rw [(fl u).2.2.2.2]; exact d⟩
    unfold KM.older
    rw [if_pos (by omega)]
    show u.left - 1 = f j - 1
    omega
  · rw [hsl] at hj
    obtain ⟨q, hq, rfl⟩ := List.mem_map.1 hj
    refine d2.head (fun x hx => ?_) q hq
    rw [List.getElem?_drop] at hx
    exact hnz x hx
  · obtain ⟨u, hu1, rfl⟩ := hold j u' hu
    rw [(fl u).2.2.2.1] at hwu
    have := h.rest j u hu1 hwu
    unfold KM.older
    rw [if_neg (by omega)]
    exact this
  · obtain ⟨q, hq, rfl⟩ := List.mem_map.1 hj
    have h1 : f q.1 - 1 = 0 := d1 q hq
    omega
end
end Go.Proofs.YtcngfaggignmpaaGreatDoor

/-
  Alarms: none is left.
-/
namespace Go.Proofs.YtcngfaggignmpaaGreatDoor
open Go.RowKit Go.Shelf
attribute [local go_sem] Oper.semAt_some

theorem row_grown {p : Nat} {t : TypeId} {cs : Array Value} {A B : World} {row : Option Nat} (h : Row p t cs A) (hg : A.grownBy B row) (hr : ∀ r, row = some r → ∃ o : Obj, A.heap[r]? = some o ∧ o.isCells = false) : Row p t cs B :=
  (grownBy_keeps_cells hg hr h rfl).trans h

set_option maxRecDepth 100000 in
set_option maxHeartbeats 4000000 in
theorem dlLeft_none (w : World) (b : Nat) (x : Int) (h : DN b w) :
    Calls Tryz.prog 81 #[.pointer (some ⟨b, 0, none⟩), .int .i64 x] w fun e w' => e = .returned (.tuple #[.int .i64 0, .int .i64 1]) ∧ Ch No w w' := by
  obtain ⟨W0, hW0⟩ : ∃ W0, W0 = (((w.alloc (.cells #[.pointer (some ⟨b, 0, none⟩)] 93)).alloc (.cells #[.int .i64 x] 3)).alloc (.cells #[.int .i64 0] 2)).alloc (.cells #[.int .i64 0] 31) := ⟨_, rfl⟩
  have HW := Lib.hid hW0
  have c0 : Ch No w W0 := by rw [hW0]; exact (((Ch.alloc w _).trans (Ch.alloc _ _)).trans (Ch.alloc _ _)).trans (Ch.alloc _ _)
  have hd := h.no c0
  have r2 : Row w.heap.size 93 #[.pointer (some ⟨b, 0, none⟩)] W0 := by rw [hW0]; exact (((Row.new w 93 _).alloc _).alloc _).alloc _
  have r4 : Row (w.heap.size + 2) 2 #[.int .i64 0] W0 := by
    have := (Row.new ((w.alloc (.cells #[.pointer (some ⟨b, 0, none⟩)] 93)).alloc (.cells #[.int .i64 x] 3)) 2 #[.int .i64 0]).alloc (.cells #[.int .i64 0] 31)
    rw [World.size_alloc, World.size_alloc] at this
    rw [hW0]; exact this
  have r5 : Row (w.heap.size + 3) 31 #[.int .i64 0] W0 := by
    have := Row.new (((w.alloc (.cells #[.pointer (some ⟨b, 0, none⟩)] 93)).alloc (.cells #[.int .i64 x] 3)).alloc (.cells #[.int .i64 0] 2)) 31 #[.int .i64 0]
    rw [World.size_alloc, World.size_alloc, World.size_alloc] at this
    rw [hW0]; exact this
  have q2 := r2.cell (j := 0) rfl
  have hs : W0.heap.size = w.heap.size + 4 := by rw [hW0]; simp
  have HD := Lib.hid hd
  have C0 := Lib.hid c0
  have R4 := Lib.hid r4
  have R5 := Lib.hid r5
  clear h hW0 c0 hd r2 r4 r5
  refine (callsIn_wide (n := 3)).1 ?_
  refine callsIn_of_wp_marks Tryz.func81 rfl trivial ?_ rfl
  simp only [Tryz.ntmps81, List.size_toArray, List.length_cons, List.length_nil, Nat.reduceAdd, Nat.reduceSub, Array.replicate_succ, Array.replicate_zero, List.push_toArray, List.append_toArray, List.nil_append, List.cons_append]
  gi_wp2_with fail
  rw [← HW.out]
  refine ⟨trivial, (callsIn_wide.2 (dlThere_any _ b 0 [] (HD.out.dl 0))).mono ?_⟩; rintro e w1 ⟨rfl, rfl⟩
  gi_wp2_with fail
  refine ⟨trivial, (callsIn_wide.2 (sleepers_any _ b)).mono ?_⟩; rintro e w3 ⟨rfl, rfl⟩
  gi_wp2_with fail
  have aB := Row.new W0 93 #[.pointer (some ⟨b, 0, none⟩)]
  rw [hs] at aB
  obtain ⟨W1, hW1⟩ : ∃ W1, W1 = W0.alloc (.cells #[.pointer (some ⟨b, 0, none⟩)] 93) := ⟨_, rfl⟩
  have c1 : Ch No W0 W1 := by rw [hW1]; exact Ch.alloc _ _
  rw [← hW1] at aB ⊢
  have hB0 : Below w.heap.size w W1 := (C0.out.trans c1).toBelow (fun k e => e.elim) (Nat.le_refl _)
  have hs1 : W1.heap.size = w.heap.size + 5 := by rw [hW1]; simp [hs]
  have k4 := R4.out.keeps c1 (fun x => x)
  have k5 := R5.out.keeps c1 (fun x => x)
  have hd1 := HD.out.no c1
  clear hW1 q2
  refine wpIn_rangeFunc_ownF rfl (by omega) (gf := 179) (lb := #[.pointer (some ⟨w.heap.size + 4, 0, none⟩)]) rfl trivial (enters_of Tryz.func179 (by kernel_rfl) rfl)
    (naps_stops 2 (by omega) b 0 _ [] W1 (by decide) (fun k _ => by simp [ahead]) (hd1.dl 0) aB) KD.trans (fun W l o o' _ ho hc _ => KD.putObj W l o o' ho hc) (Below.refl _ _) (fun _ => rfl)
    (fun pre W => (Row (w.heap.size + 2) 2 #[.int .i64 0] W ∧ Row (w.heap.size + 3) 31 #[.int .i64 0] W) ∧ Below w.heap.size w W)
    (fun c pre W => False ∧ Below w.heap.size w W)
    (OwnFrom.and (fun s A B row hs hg hr => ⟨row_grown hs.1 hg (fun r e => (hr r e).2), row_grown hs.2 hg (fun r e => (hr r e).2)⟩) (ownFrom_below (Nat.le_refl _) (by omega)))
    (fun c => OwnFrom.and (fun s A B row hs hg hr => hs) (ownFrom_below (Nat.le_refl _) (by omega)))
    ⟨⟨k4, k5⟩, hB0⟩
    (fun y => { tmps := #[(.pointer (some ⟨b, 0, none⟩)), (.int .i64 x), (.pointer (some ⟨w.heap.size, 0, none⟩)), (.pointer (some ⟨w.heap.size + 1, 0, none⟩)), (.pointer (some ⟨w.heap.size + 1 + 1, 0, none⟩)), (.pointer (some ⟨w.heap.size + 1 + 1 + 1, 0, none⟩)), (.int .i64 y.1), (.int .i64 y.2), (.pointer (some ⟨b, 0, none⟩)), (.bool true), (.bool false), (.pointer (some ⟨b, 0, none⟩)), (.func (.func 179) #[] #[.pointer (some ⟨w.heap.size + 4, 0, none⟩)]), (.int .i64 y.1), (.int .i64 y.2), undef, undef, undef, undef, undef, undef, undef, undef, undef, undef, undef], defers := [] }) ?assign ?body ?done ?stop
  case assign =>
    intro l x W K hK
    gi_wp2
    exact hK
  case body =>
    rintro l0 pre y W _ hlt
    simp at hlt
  case done =>
    rintro D ys W hD rfl ⟨⟨h1, h2⟩, hB⟩ hK
    have q4 := h1.cell (j := 0) (v := .int .i64 0) rfl
    have q5 := h2.cell (j := 0) (v := .int .i64 0) rfl
    have f4 := h1.free 0
    have f5 := h2.free 0
    have H1 := Lib.hid h1
    have H2 := Lib.hid h2
    have HK := Lib.hid hK
    have HB := Lib.hid hB
    clear h1 h2 hK hB
    gi_wp2_with fail
    rw [hs1] at hD
    have e4 := (H1.out.set 0 (.int .i64 0)).other (q := w.heap.size + 3) (by omega) 0 (.int .i64 1)
    have e5 := (H2.out.other (q := w.heap.size + 2) (by omega) 0 (.int .i64 0)).set 0 (.int .i64 1)
    have hB2 := (HB.out.setCell (p := ⟨w.heap.size + 2, 0, none⟩) (by simp) (.int .i64 0)).setCell (p := ⟨w.heap.size + 3, 0, none⟩) (by simp) (.int .i64 1)
    have hK2 : ((W.setCell ⟨w.heap.size + 2, 0, none⟩ (.int .i64 0)).setCell ⟨w.heap.size + 3, 0, none⟩ (.int .i64 1)).heap[D]? = some (.deferred (some [])) := by
      rw [Below.heap_setCell _ _ _ _ (by show D ≠ w.heap.size + 3; omega), Below.heap_setCell _ _ _ _ (by show D ≠ w.heap.size + 2; omega)]
      exact HK.out
    obtain ⟨W9, hW9⟩ : ∃ W9, W9 = (W.setCell ⟨w.heap.size + 2, 0, none⟩ (.int .i64 0)).setCell ⟨w.heap.size + 3, 0, none⟩ (.int .i64 1) := ⟨_, rfl⟩
    rw [← hW9] at e4 e5 hB2 hK2
    refine ⟨by simp, .inl ⟨_, _, rfl, run_takeDeferred (by rw [← hW9]; exact hK2), ?_⟩⟩
    rw [← hW9]
    have k1 := cell_kept (e4.cell (j := 0) (v := .int .i64 0) rfl) (grownBy_putObj' _ D (.deferred none)) (fun r e => by cases e; exact ⟨_, hK2, rfl⟩)
    have k2 := cell_kept (e5.cell (j := 0) (v := .int .i64 1) rfl) (grownBy_putObj' _ D (.deferred none)) (fun r e => by cases e; exact ⟨_, hK2, rfl⟩)
    refine ⟨.tuple #[.int .i64 0, .int .i64 1], ?_, rfl, Ch.below (hB2.trans (belowK_b (w := w) (Nat.le_refl _) W9 D _ _ (by omega) hK2 rfl rfl))⟩
    simp [results, Tryz.f81, go_sem, k1, k2]
  case stop =>
    rintro D c pre W hD hpre ⟨hF, hB⟩ hK
    exact hF.elim

set_option maxHeartbeats 1000000 in
theorem alLeft_none (w : World) (b : Nat) (x : Int) (h : AL b w) : Calls Tryz.prog 38 #[.pointer (some ⟨b + 2, 0, none⟩), .int .i64 x] w fun e w' => e = .returned (.int .i64 0) ∧ Ch No w w' := by
  have H := Lib.hid h
  have c1 := h.2.cell (j := 0) rfl
  clear h
  go_enter Tryz.func38, Tryz.ntmps38
  go_wp2_with fail
  refine (alThere_any _ b H.out).mono ?_; rintro e w1 ⟨rfl, rfl⟩
  go_wp2_with fail
  refine (dlLeft_none _ b x H.out.1).mono ?_; rintro e w1 ⟨rfl, hch⟩
  go_wp2_with fail
  go_ret
  exact ⟨rfl, hch⟩
end Go.Proofs.YtcngfaggignmpaaGreatDoor
