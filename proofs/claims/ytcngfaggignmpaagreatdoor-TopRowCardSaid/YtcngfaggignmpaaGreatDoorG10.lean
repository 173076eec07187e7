/-
  The top, part 10: Ks.
-/
import Derived.Test.YtcngfaggignmpaaGreatDoorG08
import Derived.Test.YtcngfaggignmpaaGreatDoorG09

/-
  The kernel in memory: which block holds what; how it turns where one part turns.
-/
namespace Go.Proofs.YtcngfaggignmpaaGreatDoor
open Go.RowKit

/-- A task's cells. -/
def tcells (i : Nat) (t : TM) (U : Nat) : Array Value :=
  #[.int .u32 (256 + i), .int .u8 (if t.wait then 2 else 1), .bool false, .int .i64 t.rank, .int .i64 t.rank, .int .u8 t.what, .int .u32 t.hh, .int .u32 t.v, .int .u32 t.mm, .int .i64 t.wt,
    .int .i64 t.left, .int .i64 t.ans, .int .i64 t.last, .int .u32 t.val, .pointer (if t.on then some ⟨U + 2, 0, none⟩ else none), .int .i64 t.ran]
/-- Where a task lies, if there is one. -/
def tptr (tb : Nat → Nat) (m : KM) (i : Nat) : Option Addr := (m.tk i).map (fun _ => ⟨tb i, 0, none⟩)
/-- The kernel's own cells. -/
structure KB (B U : Nat) (tb : Nat → Nat) (m : KM) (cs : Array Value) : Prop where
  size : cs.size = 55
  slice : cs[0]? = some (.int .i64 m.slice)
  now : cs[1]? = some (.int .u32 m.now)
  th : cs[2]? = some (.pointer (some ⟨B + 70, 0, none⟩))
  oh : cs[3]? = some (.pointer (some ⟨B + 71, 0, none⟩))
  task : ∀ i, i < 16 → cs[4 + i]? = some (.pointer (tptr tb m i))
  thing : ∀ i, i < 32 → cs[20 + i]? = some (.pointer (if i = 0 then some ⟨U + 2, 0, none⟩ else none))
  ready : cs[52]? = some (.pointer (some ⟨B, 0, none⟩))
  sleeps : cs[53]? = some (.pointer (some ⟨B + 65, 0, none⟩))
  alarms : cs[54]? = some (.pointer (some ⟨B + 68, 0, none⟩))
def oage : Nat → Int := fun k => if k = 0 then 1 else 0
def oused : Nat → Bool := fun k => k == 0
/-- The kernel in memory. -/
structure KS (B T U : Nat) (tb : Nat → Nat) (m : KM) (w : World) : Prop where
  lay1 : B + 75 ≤ T
  lay2 : T + 3 ≤ U
  lay3 : ∀ i, i < 16 → U + 3 ≤ tb i
  lay4 : ∀ i j, i < 16 → j < 16 → tb i = tb j → i = j
  kern : ∃ cs, Row (B + 69) 96 cs w ∧ KB B U tb m cs
  th : HT (B + 70) 16 m.age m.used w
  oh : HT (B + 71) 32 oage oused w
  ready : RQ B m.ls m.rk w
  sleeps : DL (B + 65) (U + 3) m.sl w
  alarms : AL (B + 66) w
  thing : Row (U + 2) 102 #[.int .u32 256, .int .u8 3, .int .u32 m.most, .int .u32 0, .pointer (some ⟨T, 0, none⟩), .pointer (some ⟨U + 1, 0, none⟩)] w
  obj : TH T m.most m.row w
  wait : WQ U (U + 3) m.wl w
  task : ∀ i t, i < 16 → m.tk i = some t → Row (tb i) 127 (tcells i t U) w

/-- The blocks that the kernel's calls turn. -/
def Sk (B T U : Nat) (w : World) : Nat → Prop := fun k => (B ≤ k ∧ k < U + 3 ∧ (k < B + 72 ∨ T ≤ k)) ∨ (U + 3 ≤ k ∧ ∃ cs, Row k 127 cs w)
theorem Sk.back {B T U : Nat} {w w1 : World} (h : Ch (Sk B T U w) w w1) {k : Nat} (hk : k < w.heap.size) (s : Sk B T U w1 k) : Sk B T U w k := by
  by_cases hs : Sk B T U w k
  · exact hs
  · rcases s with s | ⟨hl, cs, r⟩
    · exact .inl s
    · exact .inr ⟨hl, cs, by have := h.block k hk hs; exact this.symm.trans r⟩
theorem Ch.tr {B T U : Nat} {w w1 w2 : World} (h : Ch (Sk B T U w) w w1) (g : Ch (Sk B T U w1) w1 w2) : Ch (Sk B T U w) w w2 :=
  h.trans' g (fun _ hk s => Sk.back h hk s)

section
variable {B T U : Nat} {tb : Nat → Nat} {m : KM} {w w' : World} {S : Nat → Prop}
/-- All stays where none of its blocks turns. -/
theorem KS.keeps (h : KS B T U tb m w) (g : Ch S w w') (h1 : ∀ k, S k → U + 3 ≤ k) (h2 : ∀ k cs t, S k → Row k t cs w → t ≠ 127 ∧ t ≠ 182 ∧ t ≠ 289) : KS B T U tb m w' := by
  have l1 := h.lay1
  have l2 := h.lay2
  have no : ∀ k, k < U + 3 → ¬ S k := fun k hk s => by have := h1 k s; omega
  refine ⟨h.lay1, h.lay2, h.lay3, h.lay4, ?_, h.th.keeps g (no _ (by omega)), h.oh.keeps g (no _ (by omega)), h.ready.keeps g (fun k s hb => no k (by simp only [Rqb] at hb; omega) s), ?_, h.alarms.keeps g (no _ (by omega)) (no _ (by omega)),
    h.thing.keeps g (no _ (by omega)), h.obj.keeps g (no _ (by omega)) (no _ (by omega)) (no _ (by omega)), h.wait.keeps g (no _ (by omega)) (no _ (by omega)) (fun k cs _ r s => (h2 k cs _ s r).2.1 rfl), fun i t hi ht => ?_⟩
  · obtain ⟨cs, r, k⟩ := h.kern
    exact ⟨cs, r.keeps g (no _ (by omega)), k⟩
  · exact h.sleeps.keeps g (no _ (by omega)) (fun k cs _ r s => (h2 k cs _ s r).2.2 rfl)
  · exact (h.task i t hi ht).keeps g (fun s => (h2 _ _ _ s (h.task i t hi ht)).1 rfl)
theorem KS.no (h : KS B T U tb m w) (g : Ch No w w') : KS B T U tb m w' := h.keeps g (fun _ s => s.elim) (fun _ _ _ s => s.elim)
theorem KS.drewN (h : KS B T U tb m w) (n : Nat) : KS B T U tb m (w.drewN n) := h.no (Ch.drewN w n)
theorem Ch.ofNo (B T U : Nat) (g : Ch No w w') : Ch (Sk B T U w) w w' := g.mono (fun _ _ s => s.elim)

theorem KS.tneq (h : KS B T U tb m w) {i : Nat} {t : TM} (hi : i < 16) (ht : m.tk i = some t) {k : Nat} {ty : TypeId} {cs : Array Value} (r : Row k ty cs w) (hn : ty ≠ 127) : k ≠ tb i := r.ne (h.task i t hi ht) hn

/-- Those who may run turn. -/
theorem KS.ready' (h : KS B T U tb m w) (g : Ch (Rqb B) w w') {ls : Nat → List Int} {rk : Nat → Int} (hr : RQ B ls rk w') : KS B T U tb { m with ls := ls, rk := rk } w' ∧ Ch (Sk B T U w) w w' := by
  have l1 := h.lay1
  have l2 := h.lay2
  have no : ∀ k, ¬ (B ≤ k ∧ k < B + 65) → ¬ Rqb B k := fun k hk s => hk s
  exact ⟨⟨h.lay1,
    h.lay2,
    h.lay3,
    h.lay4,
    by obtain ⟨cs, r, k⟩ := h.kern; exact ⟨cs, r.keeps g (no _ (by omega)), ⟨k.size, k.slice, k.now, k.th, k.oh, k.task, k.thing, k.ready, k.sleeps, k.alarms⟩⟩,
    h.th.keeps g (no _ (by omega)),
    h.oh.keeps g (no _ (by omega)),
    hr,
    h.sleeps.keeps g (no _ (by omega)) (fun k cs hk _ => no k (by omega)),
    h.alarms.keeps g (no _ (by omega)) (no _ (by omega)),
    h.thing.keeps g (no _ (by omega)),
    h.obj.keeps g (no _ (by omega)) (no _ (by omega)) (no _ (by omega)),
    h.wait.keeps g (no _ (by omega)) (no _ (by omega)) (fun k cs hk _ => no k (by omega)),
    fun i t hi ht => (h.task i t hi ht).keeps g (no _ (by have := h.lay3 i hi; omega))⟩, g.mono (fun k _ s => .inl (by simp only [Rqb] at s; omega))⟩
/-- Who waits turns. -/
theorem KS.wait' (h : KS B T U tb m w) (g : Ch (fun k => k = U) w w') {o : Option (Nat × Nat)} (hr : WQ U (U + 3) o w') : KS B T U tb { m with wl := o } w' ∧ Ch (Sk B T U w) w w' := by
  have l1 := h.lay1
  have l2 := h.lay2
  have no : ∀ k, k ≠ U → ¬ (k = U) := fun k hk s => hk s
  exact ⟨⟨h.lay1,
    h.lay2,
    h.lay3,
    h.lay4,
    by obtain ⟨cs, r, k⟩ := h.kern; exact ⟨cs, r.keeps g (no _ (by omega)), ⟨k.size, k.slice, k.now, k.th, k.oh, k.task, k.thing, k.ready, k.sleeps, k.alarms⟩⟩,
    h.th.keeps g (no _ (by omega)),
    h.oh.keeps g (no _ (by omega)),
    h.ready.keeps g (fun k s hb => no k (by simp only [Rqb] at hb; omega) s),
    h.sleeps.keeps g (no _ (by omega)) (fun k cs hk _ => no k (by omega)),
    h.alarms.keeps g (no _ (by omega)) (no _ (by omega)),
    h.thing.keeps g (no _ (by omega)),
    h.obj.keeps g (no _ (by omega)) (no _ (by omega)) (no _ (by omega)),
    hr,
    fun i t hi ht => (h.task i t hi ht).keeps g (no _ (by have := h.lay3 i hi; omega))⟩, g.mono (fun k _ s => .inl (by omega))⟩
/-- What is in the row turns. -/
theorem KS.obj' (h : KS B T U tb m w) (g : Ch (fun k => k = T + 1) w w') {l : List Int} (hr : TH T m.most l w') : KS B T U tb { m with row := l } w' ∧ Ch (Sk B T U w) w w' := by
  have l1 := h.lay1
  have l2 := h.lay2
  have no : ∀ k, k ≠ (T + 1) → ¬ (k = (T + 1)) := fun k hk s => hk s
  exact ⟨⟨h.lay1,
    h.lay2,
    h.lay3,
    h.lay4,
    by obtain ⟨cs, r, k⟩ := h.kern; exact ⟨cs, r.keeps g (no _ (by omega)), ⟨k.size, k.slice, k.now, k.th, k.oh, k.task, k.thing, k.ready, k.sleeps, k.alarms⟩⟩,
    h.th.keeps g (no _ (by omega)),
    h.oh.keeps g (no _ (by omega)),
    h.ready.keeps g (fun k s hb => no k (by simp only [Rqb] at hb; omega) s),
    h.sleeps.keeps g (no _ (by omega)) (fun k cs hk _ => no k (by omega)),
    h.alarms.keeps g (no _ (by omega)) (no _ (by omega)),
    h.thing.keeps g (no _ (by omega)),
    hr,
    h.wait.keeps g (no _ (by omega)) (no _ (by omega)) (fun k cs hk _ => no k (by omega)),
    fun i t hi ht => (h.task i t hi ht).keeps g (no _ (by have := h.lay3 i hi; omega))⟩, g.mono (fun k _ s => .inl (by omega))⟩
/-- The handles of tasks turn. -/
theorem KS.th' (h : KS B T U tb m w) (g : Ch (fun k => k = B + 70) w w') {age : Nat → Int} {used : Nat → Bool} (hr : HT (B + 70) 16 age used w') : KS B T U tb { m with age := age, used := used } w' ∧ Ch (Sk B T U w) w w' := by
  have l1 := h.lay1
  have l2 := h.lay2
  have no : ∀ k, k ≠ (B + 70) → ¬ (k = (B + 70)) := fun k hk s => hk s
  exact ⟨⟨h.lay1,
    h.lay2,
    h.lay3,
    h.lay4,
    by obtain ⟨cs, r, k⟩ := h.kern; exact ⟨cs, r.keeps g (no _ (by omega)), ⟨k.size, k.slice, k.now, k.th, k.oh, k.task, k.thing, k.ready, k.sleeps, k.alarms⟩⟩,
    hr,
    h.oh.keeps g (no _ (by omega)),
    h.ready.keeps g (fun k s hb => no k (by simp only [Rqb] at hb; omega) s),
    h.sleeps.keeps g (no _ (by omega)) (fun k cs hk _ => no k (by omega)),
    h.alarms.keeps g (no _ (by omega)) (no _ (by omega)),
    h.thing.keeps g (no _ (by omega)),
    h.obj.keeps g (no _ (by omega)) (no _ (by omega)) (no _ (by omega)),
    h.wait.keeps g (no _ (by omega)) (no _ (by omega)) (fun k cs hk _ => no k (by omega)),
    fun i t hi ht => (h.task i t hi ht).keeps g (no _ (by have := h.lay3 i hi; omega))⟩, g.mono (fun k _ s => .inl (by omega))⟩
/-- A task turns. -/
theorem KS.task' {i : Nat} (h : KS B T U tb m w) (g : Ch (fun k => k = tb i) w w') {t t' : TM} (hi : i < 16) (ht : m.tk i = some t) (hr : Row (tb i) 127 (tcells i t' U) w') : KS B T U tb (m.setT i t') w' ∧ Ch (Sk B T U w) w w' := by
  have l1 := h.lay1
  have l2 := h.lay2
  have l3 := h.lay3 i hi
  have hp : ∀ j, tptr tb m j = tptr tb (m.setT i t') j := fun j => by
    unfold tptr KM.setT
    by_cases e : j = i
    · subst e; simp [upd_at, ht]
    · simp [upd_ne _ _ e]
  have no : ∀ k, k < U + 3 → ¬ (k = tb i) := fun k hk s => by omega
  exact ⟨⟨h.lay1,
    h.lay2,
    h.lay3,
    h.lay4,
    by obtain ⟨cs, r, k⟩ := h.kern; exact ⟨cs, r.keeps g (no _ (by omega)), ⟨k.size, k.slice, k.now, k.th, k.oh, fun j hj => by rw [k.task j hj, hp j], k.thing, k.ready, k.sleeps, k.alarms⟩⟩,
    h.th.keeps g (no _ (by omega)),
    h.oh.keeps g (no _ (by omega)),
    h.ready.keeps g (fun k s hb => no k (by simp only [Rqb] at hb; omega) s),
    h.sleeps.keeps g (no _ (by omega)) (fun k cs _ r => r.ne (h.task i t hi ht) (by decide)),
    h.alarms.keeps g (no _ (by omega)) (no _ (by omega)),
    h.thing.keeps g (no _ (by omega)),
    h.obj.keeps g (no _ (by omega)) (no _ (by omega)) (no _ (by omega)),
    h.wait.keeps g (no _ (by omega)) (no _ (by omega)) (fun k cs _ r => r.ne (h.task i t hi ht) (by decide)),
    fun j u hj hu => by
      by_cases e : j = i
      · subst e
        rw [show (m.setT j t').tk j = some t' from upd_at _ _ _] at hu
        cases hu
        exact hr
      · rw [show (m.setT i t').tk j = m.tk j from upd_ne _ _ e] at hu
        exact (h.task j u hj hu).keeps g (fun e2 => e (h.lay4 j i hj hi e2))⟩, g.mono (fun k _ s => .inr ⟨by omega, tcells i t U, by rw [s]; exact h.task i t hi ht⟩)⟩
/-- The kernel's own cells turn: the tick, or a task that is no more. -/
theorem KS.kern' (h : KS B T U tb m w) (g : Ch (fun k => k = B + 69) w w') {now : Int} {tk : Nat → Option TM} {cs : Array Value} (hsub : ∀ j u, tk j = some u → m.tk j = some u) (hr : Row (B + 69) 96 cs w') (hk : KB B U tb { m with now := now, tk := tk } cs) : KS B T U tb { m with now := now, tk := tk } w' ∧ Ch (Sk B T U w) w w' := by
  have l1 := h.lay1
  have l2 := h.lay2
  have no : ∀ k, k ≠ (B + 69) → ¬ (k = (B + 69)) := fun k hk s => hk s
  exact ⟨⟨h.lay1,
    h.lay2,
    h.lay3,
    h.lay4,
    ⟨_, hr, hk⟩,
    h.th.keeps g (no _ (by omega)),
    h.oh.keeps g (no _ (by omega)),
    h.ready.keeps g (fun k s hb => no k (by simp only [Rqb] at hb; omega) s),
    h.sleeps.keeps g (no _ (by omega)) (fun k cs hk _ => no k (by omega)),
    h.alarms.keeps g (no _ (by omega)) (no _ (by omega)),
    h.thing.keeps g (no _ (by omega)),
    h.obj.keeps g (no _ (by omega)) (no _ (by omega)) (no _ (by omega)),
    h.wait.keeps g (no _ (by omega)) (no _ (by omega)) (fun k cs hk _ => no k (by omega)),
    fun j u hj hu => (h.task j u hj (hsub j u hu)).keeps g (no _ (by have := h.lay3 j hj; omega))⟩, g.mono (fun k _ s => .inl (by omega))⟩

theorem KS.cReady (h : KS B T U tb m w) : w.cell? ⟨B + 69, 52, none⟩ = some (.pointer (some ⟨B, 0, none⟩)) := by obtain ⟨cs, r, k⟩ := h.kern; exact r.cell k.ready
theorem KS.cSleeps (h : KS B T U tb m w) : w.cell? ⟨B + 69, 53, none⟩ = some (.pointer (some ⟨B + 65, 0, none⟩)) := by obtain ⟨cs, r, k⟩ := h.kern; exact r.cell k.sleeps
theorem KS.cAlarms (h : KS B T U tb m w) : w.cell? ⟨B + 69, 54, none⟩ = some (.pointer (some ⟨B + 68, 0, none⟩)) := by obtain ⟨cs, r, k⟩ := h.kern; exact r.cell k.alarms
theorem KS.cTh (h : KS B T U tb m w) : w.cell? ⟨B + 69, 2, none⟩ = some (.pointer (some ⟨B + 70, 0, none⟩)) := by obtain ⟨cs, r, k⟩ := h.kern; exact r.cell k.th
theorem KS.cOh (h : KS B T U tb m w) : w.cell? ⟨B + 69, 3, none⟩ = some (.pointer (some ⟨B + 71, 0, none⟩)) := by obtain ⟨cs, r, k⟩ := h.kern; exact r.cell k.oh
theorem KS.cNow (h : KS B T U tb m w) : w.cell? ⟨B + 69, 1, none⟩ = some (.int .u32 m.now) := by obtain ⟨cs, r, k⟩ := h.kern; exact r.cell k.now
theorem KS.cSlice (h : KS B T U tb m w) : w.cell? ⟨B + 69, 0, none⟩ = some (.int .i64 m.slice) := by obtain ⟨cs, r, k⟩ := h.kern; exact r.cell k.slice
theorem KS.cThing (h : KS B T U tb m w) : w.cell? ⟨B + 69, 20, none⟩ = some (.pointer (some ⟨U + 2, 0, none⟩)) := by obtain ⟨cs, r, k⟩ := h.kern; exact r.cell (k.thing 0 (by omega))
theorem KS.cTask (h : KS B T U tb m w) {i : Nat} {t : TM} (hi : i < 16) (ht : m.tk i = some t) : w.cell? ⟨B + 69, 4 + i, none⟩ = some (.pointer (some ⟨tb i, 0, none⟩)) := by
  obtain ⟨cs, r, k⟩ := h.kern
  have := k.task i hi
  unfold tptr at this
  rw [ht] at this
  exact r.cell this
theorem KS.tCell (h : KS B T U tb m w) {i : Nat} {t : TM} (hi : i < 16) (ht : m.tk i = some t) {j : Nat} {v : Value} (hj : (tcells i t U)[j]? = some v) : w.cell? ⟨tb i, j, none⟩ = some v := (h.task i t hi ht).cell hj
theorem KS.tFree (h : KS B T U tb m w) {i : Nat} {t : TM} (hi : i < 16) (ht : m.tk i = some t) (j : Nat) : w.frozen? ⟨tb i, j, none⟩ = false := (h.task i t hi ht).free j
theorem KS.kFree (h : KS B T U tb m w) (j : Nat) : w.frozen? ⟨B + 69, j, none⟩ = false := by obtain ⟨cs, r, k⟩ := h.kern; exact r.free j
end
end Go.Proofs.YtcngfaggignmpaaGreatDoor
