/-
  The top, part 37: NapPlay, NapTick.
-/
import Derived.Test.YtcngfaggignmpaaGreatDoorS32

/-
  Tasks that sleep so many ticks, and then say so, as plain numbers: where each one stands, and what a step makes of them.
-/
namespace Go.Proofs.YtcngfaggignmpaaGreatDoor
open Go.RowKit

def napC (d i : Nat) : List IN := [⟨1, 3, 0, d⟩, ⟨21, 2, 0, 0⟩, ⟨1, 0, 1, 0⟩, ⟨1, 1, 0, i⟩, ⟨21, 7, 0, 0⟩, ⟨22, 0, 0, 0⟩]
/-- Where a task stands; how many instructions there are yet. -/
inductive Ph (d i T : Nat) (c : CM) (t : TM) : Nat → Prop
  | p0 (h : c.pc = 0) (hw : t.wait = false) (ha : c.asked = false) (hT : T = 0) (hn : t.ans = 0) : Ph d i T c t 6
  | p1 (h : c.pc = 1) (hw : t.wait = false) (ha : c.asked = false) (hT : T = 0) (hn : t.ans = 0) (h3 : c.r 3 = d) : Ph d i T c t 5
  | sl (h : c.pc = 2) (hw : t.wait = true) (ha : c.asked = true) (hT : T < d) (hn : t.ans = 0) (h3 : c.r 3 = d) : Ph d i T c t 0
  | p2 (h : c.pc = 2) (hw : t.wait = false) (ha : c.asked = false) (hT : T = d) (hn : t.ans = 1) (h3 : c.r 3 = d) : Ph d i T c t 4
  | p3 (h : c.pc = 3) (hw : t.wait = false) (ha : c.asked = false) (hT : T = d) (hn : t.ans = 1) (h3 : c.r 3 = d) (h0 : c.r 0 = 256) : Ph d i T c t 3
  | p4 (h : c.pc = 4) (hw : t.wait = false) (ha : c.asked = false) (hT : T = d) (hn : t.ans = 1) (h3 : c.r 3 = d) (h0 : c.r 0 = 256) (h1 : c.r 1 = i) : Ph d i T c t 2
  | p5 (h : c.pc = 5) (hw : t.wait = false) (ha : c.asked = false) (hT : T = d) (hn : t.ans = 2) : Ph d i T c t 1
def PhO (d i T : Nat) (c : CM) (o : Option TM) (k : Nat) : Prop := match o with
  | none => d ≤ T
  | some t => Ph d i T c t k
/-- It said so. -/
def saidO (c : CM) (o : Option TM) : Prop := match o with
  | none => True
  | some _ => c.pc = 5
/-- Who is heard ahead of whom. -/
def Ord (R D : Nat → Nat) (v w : Nat) : Prop := D v < D w ∨ D v = D w ∧ (D v = 0 ∨ R w ≤ R v)
def sumTo (f : Nat → Nat) : Nat → Nat
  | 0 => 0
  | n + 1 => sumTo f n + f n
theorem sumTo_congr {f g : Nat → Nat} : ∀ n, (∀ j, j < n → f j = g j) → sumTo f n = sumTo g n
  | 0, _ => rfl
  | n + 1, h => by
    show sumTo f n + f n = sumTo g n + g n
    rw [sumTo_congr n (fun j hj => h j (by omega)), h n (by omega)]
theorem sumTo_le {f : Nat → Nat} {b : Nat} : ∀ n, (∀ j, j < n → f j ≤ b) → sumTo f n ≤ b * n
  | 0, _ => by simp [sumTo]
  | n + 1, h => by
    have h1 := sumTo_le n (fun j hj => h j (by omega))
    have h2 := h n (by omega)
    show sumTo f n + f n ≤ b * (n + 1)
    rw [Nat.mul_succ]
    omega
theorem sumTo_upd {f : Nat → Nat} {i k : Nat} (hk : k + 1 ≤ f i) : ∀ n, i < n → sumTo (upd f i k) n + 1 ≤ sumTo f n
  | 0, h => absurd h (by omega)
  | n + 1, h => by
    show sumTo (upd f i k) n + upd f i k n + 1 ≤ sumTo f n + f n
    by_cases e : i = n
    · subst e
      rw [upd_at, sumTo_congr (g := f) i (fun j hj => upd_ne _ _ (by omega))]
      omega
    · rw [upd_ne _ _ (fun x => e x.symm)]
      have := sumTo_upd hk n (by omega)
      omega

/-- What the kernel makes of what i asks. -/
inductive NAsk (m : KM) (i : Nat) (t : TM) : Value → KM → Prop
  | nap (hh v mm d : Int) (h1 : 1 ≤ d) (h2 : d ≤ 255) (h3 : Calm (m.naps i t hh v mm d)) : NAsk m i t (askV 2 hh v mm d) (m.naps i t hh v mm d)
  | now (hh v mm : Int) (h3 : Calm (m.setT i (KM.told t 0 0))) : NAsk m i t (askV 2 hh v mm 0) (m.setT i (KM.told t 0 0))
  | put (v mm wt x : Int) (l : List Int) (h1 : tryR m.most m.row 7 v = some (x, l)) (h2 : 0 ≤ wt ∧ wt ≤ 255) (h3 : Calm (({ m with row := l } : KM).setT i (KM.told t 0 x))) :
      NAsk m i t (askV 7 256 v mm wt) (({ m with row := l } : KM).setT i (KM.told t 0 x))
  | fin (h3 : Calm (m.ends i t)) : NAsk m i t (askV 20 0 0 0 0) (m.ends i t)

/-- All of them, and what was heard. -/
structure NB (L : Nat) (R D : Nat → Nat) (T : Nat) (m : KM) (cs : Nat → CM) (rows : List Nat) (κ : Nat → Nat) : Prop where
  ni : NI R (fun i => (D i : Int) - T) [] m
  most : m.most = 64
  rng : L ≤ 12 ∧ ∀ i, i < L → D i ≤ 255
  only : ∀ i, L ≤ i → m.tk i = none
  ph : ∀ i, i < L → PhO (D i) i T (cs i) (m.tk i) (κ i)
  row : m.row = rows.map (fun i : Nat => (i : Int))
  nodr : rows.Nodup
  memr : ∀ i, i ∈ rows ↔ i < L ∧ saidO (cs i) (m.tk i)
  ord : rows.Pairwise (Ord R D)
  top : T = 0 ∨ ∀ v ∈ rows, D v = T → ∀ j t, m.tk j = some t → t.wait = false → R j ≤ R v
def NP (L : Nat) (R D : Nat → Nat) (T : Nat) (m : KM) (cs : Nat → CM) (u : Nat) : Prop := ∃ rows κ, NB L R D T m cs rows κ ∧ sumTo κ L ≤ u

section
variable {L : Nat} {R D : Nat → Nat} {T : Nat} {m m' : KM} {cs cs' : Nat → CM} {rows : List Nat} {κ : Nat → Nat} {u i k' : Nat} {t : TM}
theorem NB.lt (h : NB L R D T m cs rows κ) (ht : m.tk i = some t) : i < L := by
  rcases Nat.lt_or_ge i L with e | e
  · exact e
  · rw [h.only i e] at ht; cases ht
/-- Nothing more was said. -/
theorem NB.same (h : NB L R D T m cs rows κ) (ht : m.tk i = some t) (hw : t.wait = false) (n : NI R (fun j => (D j : Int) - T) [] m') (hmost : m'.most = m.most) (hrow : m'.row = m.row)
    (htk : ∀ j, j ≠ i → m'.tk j = m.tk j) (hcs : ∀ j, j ≠ i → cs' j = cs j) (ph : PhO (D i) i T (cs' i) (m'.tk i) k') (hs : saidO (cs' i) (m'.tk i) ↔ saidO (cs i) (m.tk i)) : NB L R D T m' cs' rows (upd κ i k') := by
  have hi := h.lt ht
  refine ⟨n, hmost.trans h.most, h.rng, fun j hj => (htk j (by omega)).trans (h.only j hj), fun j hj => ?_, hrow.trans h.row, h.nodr, fun j => ?_, h.ord, ?_⟩
  · by_cases e : j = i
    · subst e; rw [upd_at]; exact ph
    · rw [upd_ne _ _ e, hcs j e, htk j e]; exact h.ph j hj
  · rw [h.memr j]
    by_cases e : j = i
    · subst e; rw [hs]
    · rw [hcs j e, htk j e]
  · rcases h.top with h0 | h0
    · exact .inl h0
    · refine .inr (fun v hv hd j q hq hqw => ?_)
      by_cases e : j = i
      · subst e; exact h0 v hv hd j t ht hw
      · rw [htk j e] at hq; exact h0 v hv hd j q hq hqw
theorem NB.said_le (h : NB L R D T m cs rows κ) {v : Nat} (hv : v ∈ rows) : v < L ∧ D v ≤ T := by
  obtain ⟨hl, hs⟩ := (h.memr v).1 hv
  have hp := h.ph v hl
  refine ⟨hl, ?_⟩
  cases e : m.tk v with
  | none => rw [e] at hp; exact hp
  | some t =>
    rw [e] at hp hs
    have hs5 : (cs v).pc = 5 := hs
    obtain ⟨k0, hk0⟩ : ∃ k0, k0 = κ v := ⟨_, rfl⟩
    have hp' : Ph (D v) v T (cs v) t k0 := by rw [hk0]; exact hp
    cases hp' <;> omega
/-- One more said so. -/
theorem NB.more (h : NB L R D T m cs rows κ) (ht : m.tk i = some t) (hw : t.wait = false) (hd : T = D i) (hno : i ∉ rows) (htop : ∀ j q, m.tk j = some q → q.wait = false → R j ≤ R i)
    (n : NI R (fun j => (D j : Int) - T) [] m') (hmost : m'.most = m.most) (hrow : m'.row = m.row ++ [(i : Int)])
    (htk : ∀ j, j ≠ i → m'.tk j = m.tk j) (hcs : ∀ j, j ≠ i → cs' j = cs j) (ph : PhO (D i) i T (cs' i) (m'.tk i) k') (hs : saidO (cs' i) (m'.tk i)) : NB L R D T m' cs' (rows ++ [i]) (upd κ i k') := by
  have hi := h.lt ht
  refine ⟨n, hmost.trans h.most, h.rng, fun j hj => (htk j (by omega)).trans (h.only j hj), fun j hj => ?_, by rw [hrow, h.row, List.map_append]; rfl, ?_, fun j => ?_, ?_, ?_⟩
  · by_cases e : j = i
    · subst e; rw [upd_at]; exact ph
    · rw [upd_ne _ _ e, hcs j e, htk j e]; exact h.ph j hj
  · rw [List.nodup_append]
    refine ⟨h.nodr, by simp, fun a ha b hb e => ?_⟩
    rw [List.mem_singleton] at hb
    subst hb
    subst e
    exact hno ha
  · rw [List.mem_append, List.mem_singleton, h.memr j]
    by_cases e : j = i
    · subst e
      simp [hi, hs]
    · rw [hcs j e, htk j e]
      simp [e]
  · rw [List.pairwise_append]
    refine ⟨h.ord, by simp, fun a ha b hb => ?_⟩
    rw [List.mem_singleton] at hb
    subst hb
    have ha2 := (h.said_le ha).2
    by_cases e : D a < D b
    · exact .inl e
    · refine .inr ⟨by omega, ?_⟩
      rcases h.top with h0 | h0
      · exact .inl (by omega)
      · exact .inr (h0 a ha (by omega) b t ht hw)
  · rcases h.top with h0 | h0
    · exact .inl h0
    · refine .inr (fun v hv hdv j q hq hqw => ?_)
      rw [List.mem_append, List.mem_singleton] at hv
      rcases hv with hv | rfl
      · by_cases e : j = i
        · subst e; exact h0 v hv hdv j t ht hw
        · rw [htk j e] at hq; exact h0 v hv hdv j q hq hqw
      · by_cases e : j = v
        · subst e; exact Nat.le_refl _
        · rw [htk j e] at hq; exact htop j q hq hqw

theorem tell_one {m m' : KM} {cs : Nat → CM} {i : Nat} {R : Nat → Nat} {f : Nat → Int} {p : List Nat} (k : NI R f p m') (htk : ∀ j, j ≠ i → m'.tk j = m.tk j) {t : TM} (ht : m.tk i = some t) (hi : ∀ t', m'.tk i = some t' → t.ans ≤ t'.ans) : Tellable m m' cs i := fun j t' e => by
  obtain ⟨_, _, _, hl⟩ := k.task j t' e
  by_cases ej : j = i
  · subst ej
    exact ⟨t, ht, hi t' e, fun _ x => absurd rfl x, hl⟩
  · rw [htk j ej] at e
    exact ⟨t', e, Int.le_refl _, fun x => absurd x (by omega), hl⟩
theorem some_one {m m' : KM} {i : Nat} {t : TM} (ht : m.tk i = some t) (htk : ∀ j, j ≠ i → m'.tk j = m.tk j) : ∀ j, (m'.tk j).isSome = true → (m.tk j).isSome = true := fun j hj => by
  by_cases e : j = i
  · subst e; rw [ht]; rfl
  · rw [htk j e] at hj; exact hj

/-- What the running one's instruction is, and what comes of it. -/
def NTail (L : Nat) (R D : Nat → Nat) (T : Nat) (m : KM) (cs : Nat → CM) (u i : Nat) (t : TM) : Prop :=
  ∃ (k : Nat) (x : IN), (cs i).pc = (k : Int) ∧ k < 900 ∧ (cs i).asked = false ∧ (napC (D i) i)[k]? = some x ∧
    ((∃ c', Sp (cs i) x c' ∧ NP L R D T m (upd cs i c') (u - 1)) ∨
     (∃ a m', Qa (cs i) x a ∧ NAsk m i t a m' ∧ Tellable m m' cs i ∧ (∀ j, (m'.tk j).isSome = true → (m.tk j).isSome = true) ∧
        NP L R D T m' (fun j => toldC (m'.tk j) (upd cs i { cs i with pc := (k : Int) + 1, asked := true } j) (ansOf (m.tk j))) (u - 1)))

theorem w32_of {d : Nat} (h : d ≤ 255) : wrap32 ((d : Nat) : Int) = d := by unfold wrap32; omega
theorem NB.tail (h : NB L R D T m cs rows κ) (ht : m.tk i = some t) (hw : t.wait = false) (htop : ∀ j q, m.tk j = some q → q.wait = false → R j ≤ R i) (hu : sumTo κ L ≤ u) : 0 < u ∧ NTail L R D T m cs u i t := by
  have hi := h.lt ht
  have hL := h.rng.1
  have hD := h.rng.2 i hi
  have hp : Ph (D i) i T (cs i) t (κ i) := by have := h.ph i hi; rw [ht] at this; exact this
  have at_c : ∀ c', upd cs i c' i = c' := fun c' => upd_at _ _ _
  have ne_c : ∀ c' j, j ≠ i → upd cs i c' j = cs j := fun c' j e => upd_ne _ _ e
  have sum : ∀ k', k' + 1 ≤ κ i → 0 < u ∧ sumTo (upd κ i k') L ≤ u - 1 := fun k' hk => by
    have := sumTo_upd hk L hi
    omega
  obtain ⟨k0, hk0⟩ : ∃ k0, k0 = κ i := ⟨_, rfl⟩
  rw [← hk0] at hp sum
  cases hp with
  | p0 h0 _ ha hT hn =>
    obtain ⟨u0, us⟩ := sum 5 (by omega)
    refine ⟨u0, 0, _, h0, by decide, ha, rfl, .inl ⟨_, .set 3 (D i) (by decide) (by omega), rows, upd κ i 5, h.same ht hw h.ni rfl rfl (fun _ _ => rfl) (fun j e => ne_c _ j e) ?_ ?_, us⟩⟩
    · rw [ht, at_c]
      exact .p1 (by show (cs i).pc + 1 = 1; omega) hw ha hT hn (by simp [CM.setR, upd])
    · rw [ht, at_c]
      show ((cs i).pc + 1 = 5) ↔ ((cs i).pc = 5)
      omega
  | p1 h0 _ ha hT hn h3 =>
    obtain ⟨c1, hc1⟩ : ∃ c1, c1 = { cs i with pc := ((1 : Nat) : Int) + 1, asked := true } := ⟨_, rfl⟩
    have q1 : c1.pc = 2 := by rw [hc1]; rfl
    have q2 : c1.asked = true := by rw [hc1]
    have q3 : c1.r 3 = D i := by rw [hc1]; exact h3
    have hqa : Qa (cs i) ⟨21, 2, 0, 0⟩ (askV 2 ((cs i).r 0) ((cs i).r 1) ((cs i).r 2) (D i)) := .inl ⟨2, rfl, by rw [h3, w32_of hD]; rfl⟩
    by_cases hd : D i = 0
    · obtain ⟨u0, us⟩ := sum 4 (by omega)
      have n1 := h.ni.told ht hw 0 0
      have tki : (m.setT i (KM.told t 0 0)).tk i = some (KM.told t 0 0) := upd_at _ _ _
      have tkj : ∀ j, j ≠ i → (m.setT i (KM.told t 0 0)).tk j = m.tk j := fun j e => upd_ne _ _ e
      refine ⟨u0, 1, _, h0, by decide, ha, rfl, .inr ⟨_, m.setT i (KM.told t 0 0), hqa, ?_, tell_one n1 tkj ht (fun t' e => by rw [tki] at e; cases e; show t.ans ≤ t.ans + 1; omega), some_one ht tkj, rows, upd κ i 4, ?_, us⟩⟩
      · rw [hd]; exact .now _ _ _ n1.calm
      · rw [← hc1]
        refine h.same ht hw n1 rfl rfl tkj (fun j e => ?_) ?_ ?_
        · show toldC _ (upd cs i c1 j) _ = _
          rw [ne_c _ j e, tkj j e]; exact told_same _ _
        · show PhO _ _ _ (toldC _ (upd cs i c1 i) _) _ _
          rw [tki, at_c, ht, told_told]
          exact .p2 q1 hw rfl (by omega) (by show t.ans + 1 = 1; omega) (by simp [CM.told, upd, q3])
        · show saidO (toldC _ (upd cs i c1 i) _) _ ↔ _
          rw [tki, at_c, ht, told_told]
          show (c1.pc = 5) ↔ ((cs i).pc = 5)
          omega
    · obtain ⟨u0, us⟩ := sum 0 (by omega)
      obtain ⟨n1, tk1, rw1, mo1⟩ := h.ni.naps ht hw ((cs i).r 0) ((cs i).r 1) ((cs i).r 2) (d := D i) (by show (D i : Int) - T = D i; omega) (by omega) (by omega)
      obtain ⟨m1, hm1⟩ : ∃ m1, m1 = m.naps i t ((cs i).r 0) ((cs i).r 1) ((cs i).r 2) (D i) := ⟨_, rfl⟩
      have hask : NAsk m i t (askV 2 ((cs i).r 0) ((cs i).r 1) ((cs i).r 2) (D i)) m1 := by rw [hm1]; exact .nap _ _ _ _ (by omega) (by omega) n1.calm
      rw [← hm1] at n1 tk1 rw1 mo1
      have tki : m1.tk i = some (KM.nap t ((cs i).r 0) ((cs i).r 1) ((cs i).r 2) (D i)) := by rw [tk1, if_pos rfl]
      have tkj : ∀ j, j ≠ i → m1.tk j = m.tk j := fun j e => by rw [tk1, if_neg e]
      have tsame : toldC (some (KM.nap t ((cs i).r 0) ((cs i).r 1) ((cs i).r 2) (D i))) c1 (ansOf (some t)) = c1 := by
        show (if t.ans < t.ans then _ else c1) = c1
        rw [if_neg (by omega)]
      refine ⟨u0, 1, _, h0, by decide, ha, rfl, .inr ⟨_, m1, hqa, hask, tell_one n1 tkj ht (fun t' e => by rw [tki] at e; cases e; exact Int.le_refl _), some_one ht tkj, rows, upd κ i 0, ?_, us⟩⟩
      rw [← hc1]
      refine h.same ht hw n1 mo1 rw1 tkj (fun j e => ?_) ?_ ?_
      · show toldC _ (upd cs i c1 j) _ = _
        rw [ne_c _ j e, tkj j e]; exact told_same _ _
      · show PhO _ _ _ (toldC _ (upd cs i c1 i) _) _ _
        rw [tki, at_c, ht, tsame]
        exact .sl q1 rfl q2 (by omega) hn q3
      · show saidO (toldC _ (upd cs i c1 i) _) _ ↔ _
        rw [tki, at_c, ht, tsame]
        show (c1.pc = 5) ↔ ((cs i).pc = 5)
        omega
  | sl _ hw2 => rw [hw] at hw2; cases hw2
  | p2 h0 _ ha hT hn h3 =>
    obtain ⟨u0, us⟩ := sum 3 (by omega)
    refine ⟨u0, 2, _, h0, by decide, ha, rfl, .inl ⟨_, .high, rows, upd κ i 3, h.same ht hw h.ni rfl rfl (fun _ _ => rfl) (fun j e => ne_c _ j e) ?_ ?_, us⟩⟩
    · rw [ht, at_c]
      exact .p3 (by show (cs i).pc + 1 = 3; omega) hw ha hT hn (by simp [CM.setR, upd, h3]) (by simp [CM.setR, upd])
    · rw [ht, at_c]
      show ((cs i).pc + 1 = 5) ↔ ((cs i).pc = 5)
      omega
  | p3 h0 _ ha hT hn h3 hr0 =>
    obtain ⟨u0, us⟩ := sum 2 (by omega)
    refine ⟨u0, 3, _, h0, by decide, ha, rfl, .inl ⟨_, .set 1 i (by decide) (by omega), rows, upd κ i 2, h.same ht hw h.ni rfl rfl (fun _ _ => rfl) (fun j e => ne_c _ j e) ?_ ?_, us⟩⟩
    · rw [ht, at_c]
      exact .p4 (by show (cs i).pc + 1 = 4; omega) hw ha hT hn (by simp [CM.setR, upd, h3]) (by simp [CM.setR, upd, hr0]) (by simp [CM.setR, upd])
    · rw [ht, at_c]
      show ((cs i).pc + 1 = 5) ↔ ((cs i).pc = 5)
      omega
  | p4 h0 _ ha hT hn h3 hr0 hr1 =>
    obtain ⟨u0, us⟩ := sum 1 (by omega)
    obtain ⟨c1, hc1⟩ : ∃ c1, c1 = { cs i with pc := ((4 : Nat) : Int) + 1, asked := true } := ⟨_, rfl⟩
    have q1 : c1.pc = 5 := by rw [hc1]; rfl
    have hno : i ∉ rows := fun hx => by
      have := ((h.memr i).1 hx).2
      rw [ht] at this
      have h5 : (cs i).pc = 5 := this
      omega
    have hrl : rows.length ≤ 12 := nodup_leN 12 rows h.nodr (fun x hx => by have := (h.said_le hx).1; omega)
    have hlen : m.row.length < m.most := by rw [h.row, List.length_map, h.most]; omega
    have hqa : Qa (cs i) ⟨21, 7, 0, 0⟩ (askV 7 256 i ((cs i).r 2) (D i)) := .inl ⟨7, rfl, by rw [h3, w32_of hD, hr0, hr1]; rfl⟩
    have n1 := (h.ni.row (m.row ++ [(i : Int)])).told (i := i) (t := t) ht hw 0 0
    have hask : NAsk m i t (askV 7 256 i ((cs i).r 2) (D i)) (({ m with row := m.row ++ [(i : Int)] } : KM).setT i (KM.told t 0 0)) := .put _ _ _ _ _ (try_put hlen) (by omega) n1.calm
    obtain ⟨m1, hm1⟩ : ∃ m1, m1 = ({ m with row := m.row ++ [(i : Int)] } : KM).setT i (KM.told t 0 0) := ⟨_, rfl⟩
    rw [← hm1] at hask n1
    have tki : m1.tk i = some (KM.told t 0 0) := by rw [hm1]; exact upd_at _ _ _
    have tkj : ∀ j, j ≠ i → m1.tk j = m.tk j := fun j e => by rw [hm1]; exact upd_ne _ _ e
    refine ⟨u0, 4, _, h0, by decide, ha, rfl, .inr ⟨_, m1, hqa, hask, tell_one n1 tkj ht (fun t' e => by rw [tki] at e; cases e; show t.ans ≤ t.ans + 1; omega), some_one ht tkj, rows ++ [i], upd κ i 1, ?_, us⟩⟩
    rw [← hc1]
    refine h.more ht hw hT hno htop n1 (by rw [hm1]; rfl) (by rw [hm1]; rfl) tkj (fun j e => ?_) ?_ ?_
    · show toldC _ (upd cs i c1 j) _ = _
      rw [ne_c _ j e, tkj j e]; exact told_same _ _
    · show PhO _ _ _ (toldC _ (upd cs i c1 i) _) _ _
      rw [tki, at_c, ht, told_told]
      exact .p5 q1 hw rfl hT (by show t.ans + 1 = 2; omega)
    · show saidO (toldC _ (upd cs i c1 i) _) _
      rw [tki, at_c, ht, told_told]
      exact q1
  | p5 h0 _ ha hT hn =>
    obtain ⟨u0, us⟩ := sum 0 (by omega)
    obtain ⟨n1, tk1, rw1, mo1⟩ := h.ni.ends ht hw
    have tki : (m.ends i t).tk i = none := by rw [tk1, if_pos rfl]
    have tkj : ∀ j, j ≠ i → (m.ends i t).tk j = m.tk j := fun j e => by rw [tk1, if_neg e]
    obtain ⟨c1, hc1⟩ : ∃ c1, c1 = { cs i with pc := ((5 : Nat) : Int) + 1, asked := true } := ⟨_, rfl⟩
    refine ⟨u0, 5, _, h0, by decide, ha, rfl, .inr ⟨_, m.ends i t, .inr ⟨rfl, rfl⟩, .fin n1.calm, tell_one n1 tkj ht (fun t' e => by rw [tki] at e; cases e), some_one ht tkj, rows, upd κ i 0, ?_, us⟩⟩
    rw [← hc1]
    refine h.same ht hw n1 mo1 rw1 tkj (fun j e => ?_) ?_ ?_
    · show toldC _ (upd cs i c1 j) _ = _
      rw [ne_c _ j e, tkj j e]; exact told_same _ _
    · show PhO _ _ _ (toldC _ (upd cs i c1 i) _) _ _
      rw [tki]
      show D i ≤ T
      omega
    · show saidO (toldC _ (upd cs i c1 i) _) _ ↔ _
      rw [tki, ht]
      show True ↔ ((cs i).pc = 5)
      simp [h0]
/-- Nobody runs, or one makes a step. -/
theorem NP.step (h : NP L R D T m cs u) : (∀ i t, m.tk i = some t → t.wait = true) ∨ (0 < u ∧ ∃ (i : Nat) (t : TM) (r : Nat) (l' : List Int), i < 16 ∧ m.tk i = some t ∧ t.wait = false ∧ r < 32 ∧ m.ls r = (i : Int) :: l' ∧ (∀ j, r < j → j < 32 → m.ls j = []) ∧ NTail L R D T m cs u i t) := by
  obtain ⟨rows, κ, hb, hu⟩ := h
  by_cases hx : ∃ i t, m.tk i = some t ∧ t.wait = false
  · obtain ⟨i, t, r, l', hi, ht, hw, hr, hri, hl, hn⟩ := hb.ni.runs hx
    obtain ⟨h1, h2⟩ := hb.tail ht hw (fun j q hq hqw => by rw [← hri]; exact hb.ni.top hn hq hqw) hu
    exact .inr ⟨h1, i, t, r, l', hi, ht, hw, hr, hl, hn, h2⟩
  · refine .inl (fun i t ht => ?_)
    cases e : t.wait
    · exact absurd ⟨i, t, ht, e⟩ hx
    · rfl

/-- Where nobody runs: who was heard. -/
theorem NB.still (h : NB L R D T m cs rows κ) (hr : ∀ i t, m.tk i = some t → t.wait = true) : ∀ i, i ∈ rows ↔ i < L ∧ D i ≤ T := fun i => by
  constructor
  · exact h.said_le
  · rintro ⟨hl, hd⟩
    refine (h.memr i).2 ⟨hl, ?_⟩
    have hp := h.ph i hl
    cases e : m.tk i with
    | none => trivial
    | some t =>
      rw [e] at hp
      obtain ⟨k0, hk0⟩ : ∃ k0, k0 = κ i := ⟨_, rfl⟩
      have hp' : Ph (D i) i T (cs i) t k0 := by rw [hk0]; exact hp
      have hw := hr i t e
      cases hp' with
      | sl a b c d _ _ => omega
      | p0 _ hw2 => rw [hw] at hw2; cases hw2
      | p1 _ hw2 => rw [hw] at hw2; cases hw2
      | p2 _ hw2 => rw [hw] at hw2; cases hw2
      | p3 _ hw2 => rw [hw] at hw2; cases hw2
      | p4 _ hw2 => rw [hw] at hw2; cases hw2
      | p5 _ hw2 => rw [hw] at hw2; cases hw2
end
end Go.Proofs.YtcngfaggignmpaaGreatDoor

/-
  Tasks that sleep: a tick goes by, where nobody runs. Plain.
-/
namespace Go.Proofs.YtcngfaggignmpaaGreatDoor
open Go.RowKit

/-- What each one's waking wants, one after the other. -/
def WakesOk : KM → List Nat → Prop
  | _, [] => True
  | m, i :: p => (∃ t, m.tk i = some t ∧ i < 16 ∧ t.what = 2 ∧ t.rank < 32 ∧ t.on = false ∧ Awake m i ∧ (0 ≤ t.ans ∧ t.ans < 1000000000) ∧ Cons m ∧ m.wake i = m.answers i t 0 0) ∧ Calm (m.wake i) ∧ WakesOk (m.wake i) p
theorem wakes_ni {R : Nat → Nat} {f : Nat → Int} : ∀ (p : List Nat) (m : KM), NI R f p m → (∀ i, i ∈ p → ∀ t, m.tk i = some t → t.ans = 0) →
    NI R f [] (m.wakes p) ∧ (∀ j, (m.wakes p).tk j = if j ∈ p then (m.tk j).map (fun t => KM.done t 0 0) else m.tk j) ∧ (m.wakes p).row = m.row ∧ (m.wakes p).most = m.most ∧ WakesOk m p
  | [], m, h, _ => ⟨h, fun j => by simp [KM.wakes], rfl, rfl, trivial⟩
  | i :: p, m, h, ha => by
    obtain ⟨t, ht, hw, hwh, haw, he, n1, tk1, rw1, mo1⟩ := h.wake
    have ok := h.task i t ht
    have hno : i ∉ p := fun hx => by
      have := h.nod
      rw [List.cons_append, List.nodup_cons] at this
      exact this.1 (List.mem_append_left _ hx)
    have h0 := ha i (by simp) t ht
    obtain ⟨n2, tk2, rw2, mo2, ok2⟩ := wakes_ni p (m.wake i) n1 (fun j hj u hu => by
      have hne : j ≠ i := fun e => by subst e; exact hno hj
      rw [tk1, if_neg hne] at hu
      exact ha j (List.mem_cons_of_mem _ hj) u hu)
    refine ⟨n2, fun j => ?_, rw2.trans rw1, mo2.trans mo1, ⟨t, ht, (h.place i t ht).1, hwh, by omega, ok.2.2.1, haw, by omega, h.cons, he⟩, n1.calm, ok2⟩
    show ((m.wake i).wakes p).tk j = _
    rw [tk2]
    by_cases e : j = i
    · subst e
      rw [if_neg hno, if_pos (by simp), tk1, if_pos rfl, ht]
      rfl
    · rw [tk1, if_neg e]
      simp [e]

/-- How many instructions there are yet, behind a tick. -/
def kap (m : KM) (j : Nat) : Nat := match m.tk j with
  | none => 0
  | some t => if t.wait then 0 else 4
theorem kap_le (m : KM) (j : Nat) : kap m j ≤ 4 := by
  unfold kap
  split
  · omega
  · split <;> omega

section
variable {L : Nat} {R D : Nat → Nat} {T : Nat} {m : KM} {cs : Nat → CM} {rows : List Nat} {κ : Nat → Nat}
theorem NB.tick (h : NB L R D T m cs rows κ) (hr : ∀ i t, m.tk i = some t → t.wait = true) {k : Nat} (hz : ∀ x ∈ (dec m.sl).take k, x.2 = 0) (hnz : ∀ x, (dec m.sl)[k]? = some x → x.2 ≠ 0) :
    ∃ m', m' = (m.tick0 ((dec m.sl).drop k)).wakes (((dec m.sl).take k).map (·.1)) ∧ WakesOk (m.tick0 ((dec m.sl).drop k)) (((dec m.sl).take k).map (·.1)) ∧
      NB L R D (T + 1) m' (fun j => toldC (m'.tk j) (cs j) (ansOf (m.tk j))) rows (kap m') ∧
      (∀ j t', m'.tk j = some t' → ∃ t0, m.tk j = some t0 ∧ t0.ans ≤ t'.ans ∧ (t0.ans < t'.ans → (cs j).asked = true) ∧ 0 ≤ t'.last ∧ t'.last < 16) ∧ ∀ j, (m'.tk j).isSome = (m.tk j).isSome := by
  obtain ⟨n0, f0⟩ := h.ni.tick0 hz hnz
  obtain ⟨p, hp⟩ : ∃ p, p = ((dec m.sl).take k).map (·.1) := ⟨_, rfl⟩
  obtain ⟨m0, hm0⟩ : ∃ m0, m0 = m.tick0 ((dec m.sl).drop k) := ⟨_, rfl⟩
  have tk0 : ∀ j, m0.tk j = (m.tk j).map KM.older := fun j => by rw [hm0]; rfl
  have row0 : m0.row = m.row := by rw [hm0]; rfl
  have most0 : m0.most = m.most := by rw [hm0]; rfl
  rw [← hp, ← hm0] at n0 ⊢
  rw [← hp] at f0
  have fe : (fun i => (fun i => (D i : Int) - T) i - 1) = (fun i => (D i : Int) - ((T + 1 : Nat) : Int)) := by
    funext i
    simp only
    omega
  rw [fe] at n0
  -- each one sleeps
  have asleep : ∀ j t, m.tk j = some t → j < L ∧ (cs j).pc = 2 ∧ (cs j).asked = true ∧ T < D j ∧ t.ans = 0 ∧ (cs j).r 3 = D j ∧ t.wait = true := fun j t ht => by
    have hl := h.lt ht
    have hw := hr j t ht
    obtain ⟨k0, hk0⟩ : ∃ k0, k0 = κ j := ⟨_, rfl⟩
    have hph : Ph (D j) j T (cs j) t k0 := by have := h.ph j hl; rw [ht] at this; rw [hk0]; exact this
    cases hph with
    | sl a b c d e f => exact ⟨hl, a, c, d, e, f, hw⟩
    | p0 _ hw2 => rw [hw] at hw2; cases hw2
    | p1 _ hw2 => rw [hw] at hw2; cases hw2
    | p2 _ hw2 => rw [hw] at hw2; cases hw2
    | p3 _ hw2 => rw [hw] at hw2; cases hw2
    | p4 _ hw2 => rw [hw] at hw2; cases hw2
    | p5 _ hw2 => rw [hw] at hw2; cases hw2
  have oans : ∀ t, (KM.older t).ans = t.ans := fun t => by unfold KM.older; split <;> rfl
  have owait : ∀ t, (KM.older t).wait = t.wait := fun t => by unfold KM.older; split <;> rfl
  obtain ⟨n1, tk1, rw1, mo1, wk⟩ := wakes_ni p m0 n0 (fun i hi t ht => by
    rw [tk0] at ht
    cases e : m.tk i with
    | none => rw [e] at ht; cases ht
    | some u =>
      rw [e] at ht
      cases ht
      rw [oans]
      exact (asleep i u e).2.2.2.2.1)
  obtain ⟨m1, hm1⟩ : ∃ m1, m1 = m0.wakes p := ⟨_, rfl⟩
  rw [← hm1] at n1 tk1 rw1 mo1
  have tkn : ∀ j, m.tk j = none → m1.tk j = none := fun j e => by rw [tk1, tk0, e]; split <;> rfl
  have tks : ∀ j t, m.tk j = some t → (j ∈ p ∧ T + 1 = D j ∧ m1.tk j = some (KM.done (KM.older t) 0 0)) ∨ (j ∉ p ∧ T + 1 < D j ∧ m1.tk j = some (KM.older t)) := fun j t e => by
    by_cases hj : j ∈ p
    · refine .inl ⟨hj, ?_, by rw [tk1, if_pos hj, tk0, e]; rfl⟩
      have h1 : (D j : Int) - T = 1 := f0 j hj
      omega
    · have e1 : m1.tk j = some (KM.older t) := by rw [tk1, if_neg hj, tk0, e]; rfl
      refine .inr ⟨hj, ?_, e1⟩
      have hw1 : (KM.older t).wait = true := by rw [owait]; exact (asleep j t e).2.2.2.2.2.2
      have hin := (n1.mem j).2 ⟨_, e1, hw1⟩
      rw [List.nil_append] at hin
      have h1 : 1 ≤ (D j : Int) - ((T + 1 : Nat) : Int) := n1.pos j hin
      omega
  refine ⟨m1, hm1, wk, ⟨n1, mo1.trans (most0.trans h.most), h.rng, fun j hj => tkn j (h.only j hj), fun j hj => ?_, (rw1.trans row0).trans h.row, h.nodr, fun j => ?_, h.ord, .inr (fun v hv hd => ?_)⟩, fun j t' e => ?_, fun j => ?_⟩
  · cases e : m.tk j with
    | none =>
      have hph : D j ≤ T := by have := h.ph j hj; rw [e] at this; exact this
      rw [tkn j e]
      show D j ≤ T + 1
      omega
    | some t =>
      obtain ⟨_, a1, a2, a3, a4, a5, a6⟩ := asleep j t e
      rcases tks j t e with ⟨b1, b2, b3⟩ | ⟨b1, b2, b3⟩
      · have ek : kap m1 j = 4 := by unfold kap; rw [b3]; rfl
        rw [ek, b3]
        show Ph (D j) j (T + 1) (toldC (some (KM.done (KM.older t) 0 0)) (cs j) (ansOf (some t))) (KM.done (KM.older t) 0 0) 4
        have et : toldC (some (KM.done (KM.older t) 0 0)) (cs j) (ansOf (some t)) = (cs j).told 0 0 := by
          show (if t.ans < (KM.older t).ans + 1 then _ else cs j) = _
          rw [oans, if_pos (by omega)]
          rfl
        rw [et]
        exact .p2 a1 rfl rfl b2 (by show (KM.older t).ans + 1 = 1; rw [oans]; omega) (by simp [CM.told, upd, a5])
      · have ek : kap m1 j = 0 := by unfold kap; rw [b3]; show (if (KM.older t).wait then 0 else 4) = 0; rw [owait, a6]; rfl
        rw [ek, b3]
        show Ph (D j) j (T + 1) (toldC (some (KM.older t)) (cs j) (ansOf (some t))) (KM.older t) 0
        have et : toldC (some (KM.older t)) (cs j) (ansOf (some t)) = cs j := by
          show (if t.ans < (KM.older t).ans then _ else cs j) = _
          rw [oans, if_neg (by omega)]
        rw [et]
        exact .sl a1 (by rw [owait]; exact a6) a2 b2 (by rw [oans]; exact a4) a5
  · rw [h.memr j]
    cases e : m.tk j with
    | none => rw [tkn j e]; exact Iff.rfl
    | some t =>
      obtain ⟨_, a1, _⟩ := asleep j t e
      have key : ∀ o : TM, (toldC (some o) (cs j) (ansOf (some t))).pc = (cs j).pc := fun o => by
        show (if t.ans < o.ans then _ else cs j).pc = _
        split <;> rfl
      rcases tks j t e with ⟨_, _, b3⟩ | ⟨_, _, b3⟩
      · rw [b3]
        show _ ∧ (cs j).pc = 5 ↔ _ ∧ (toldC (some _) (cs j) (ansOf (some t))).pc = 5
        rw [key]
      · rw [b3]
        show _ ∧ (cs j).pc = 5 ↔ _ ∧ (toldC (some _) (cs j) (ansOf (some t))).pc = 5
        rw [key]
  · have := (h.said_le hv).2
    omega
  · cases e0 : m.tk j with
    | none => rw [tkn j e0] at e; cases e
    | some t =>
      obtain ⟨_, _, a2, _, a4, _⟩ := asleep j t e0
      refine ⟨t, rfl, ?_, fun _ => a2, (n1.task j t' e).2.2.2⟩
      rcases tks j t e0 with ⟨_, _, b3⟩ | ⟨_, _, b3⟩
      · rw [b3] at e
        cases e
        show t.ans ≤ (KM.older t).ans + 1
        rw [oans]; omega
      · rw [b3] at e
        cases e
        rw [oans]
        exact Int.le_refl _
  · cases e0 : m.tk j with
    | none => rw [tkn j e0]
    | some t =>
      rcases tks j t e0 with ⟨_, _, b3⟩ | ⟨_, _, b3⟩ <;> rw [b3] <;> rfl
end
end Go.Proofs.YtcngfaggignmpaaGreatDoor
