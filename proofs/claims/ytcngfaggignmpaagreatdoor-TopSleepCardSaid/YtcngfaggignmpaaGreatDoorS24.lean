/-
  The top, part 24: Play.
-/
import Derived.Test.YtcngfaggignmpaaGreatDoorS16
import Derived.Test.YtcngfaggignmpaaGreatDoorS19

/-
  Two tasks, one that puts and one that gets, as plain numbers: where each stands, and what a step makes of them.
-/
namespace Go.Proofs.YtcngfaggignmpaaGreatDoor
open Go.RowKit

def putsC (n : Nat) : List IN := [⟨1, 4, 0, n⟩, ⟨1, 5, 0, 1⟩, ⟨3, 6, 6, 5⟩, ⟨1, 0, 1, 0⟩, ⟨2, 1, 6, 0⟩, ⟨1, 3, 0, 0⟩, ⟨4, 3, 3, 5⟩, ⟨21, 7, 0, 0⟩, ⟨16, 6, 4, 249⟩, ⟨22, 0, 0, 0⟩]
def getsC (n : Nat) : List IN := [⟨1, 4, 0, n⟩, ⟨1, 5, 0, 1⟩, ⟨3, 6, 6, 5⟩, ⟨1, 0, 1, 0⟩, ⟨1, 3, 0, 0⟩, ⟨4, 3, 3, 5⟩, ⟨21, 9, 0, 0⟩, ⟨20, 1, 0, 0⟩, ⟨16, 6, 4, 249⟩, ⟨19, 0, 9, 0⟩]
/-- What an instruction that asks nothing makes of a core. -/
inductive Sp (c : CM) : IN → CM → Prop
  | set (a b : Nat) (h1 : a < 8) (h2 : b < 256) : Sp c ⟨1, a, 0, b⟩ { c.setR a b with pc := c.pc + 1 }
  | high : Sp c ⟨1, 0, 1, 0⟩ { c.setR 0 256 with pc := c.pc + 1 }
  | move (a b : Nat) (h1 : a < 8) (h2 : b < 8) : Sp c ⟨2, a, b, 0⟩ { c.setR a (c.r b) with pc := c.pc + 1 }
  | add (a b : Nat) (h1 : a < 8) (h2 : b < 8) (h3 : b ≠ a) : Sp c ⟨3, a, a, b⟩ { c.setR a ((c.r a + c.r b) % 4294967296) with pc := c.pc + 1 }
  | sub (a b : Nat) (h1 : a < 8) (h2 : b < 8) (h3 : b ≠ a) : Sp c ⟨4, a, a, b⟩ { c.setR a ((c.r a - c.r b) % 4294967296) with pc := c.pc + 1 }
  | other (a b : Nat) (h1 : a < 8) (h2 : b < 8) : Sp c ⟨16, a, b, 249⟩ { c with pc := if c.r a = c.r b then c.pc + 1 else c.pc - 6 }
  | go (b : Nat) (h1 : b < 256) : Sp c ⟨19, 0, b, 0⟩ { c with pc := (b : Int) }
  | tell (a : Nat) (h1 : a < 8) (h2 : c.says.length < 250) : Sp c ⟨20, a, 0, 0⟩ { c.tell (c.r a % 256) with pc := c.pc + 1 }
/-- What an instruction asks. -/
def Qa (c : CM) (x : IN) (a : Value) : Prop :=
  (∃ w : Nat, x = ⟨21, w, 0, 0⟩ ∧ a = askV w (c.r 0) (c.r 1) (c.r 2) (wrap32 (c.r 3))) ∨ (x = ⟨22, 0, 0, 0⟩ ∧ a = askV 20 0 0 0 0)
/-- What the kernel makes of what i asks. -/
inductive AskOut (m : KM) (i : Nat) (t : TM) : Value → KM → Prop
  | ok (what v mm x : Int) (l : List Int) (h1 : what = 7 ∨ what = 9) (h2 : tryR m.most m.row what v = some (x, l)) (h3 : Svd (({ m with row := l } : KM).setT i (KM.told t 0 x))) (h4 : Calm (({ m with row := l } : KM).setT i (KM.told t 0 x)).serves) (h5 : 0 ≤ t.ans ∧ t.ans < 1000000000) :
      AskOut m i t (askV what 256 v mm (-1)) (({ m with row := l } : KM).setT i (KM.told t 0 x)).serves
  | wait (what v mm : Int) (h1 : what = 7 ∨ what = 9) (h2 : tryR m.most m.row what v = none) (h3 : m.wl = none) (h4 : Calm (m.waits i t what 256 v mm)) :
      AskOut m i t (askV what 256 v mm (-1)) (m.waits i t what 256 v mm)
  | fin (h4 : Calm (m.ends i t)) : AskOut m i t (askV 20 0 0 0 0) (m.ends i t)
/-- How many answers a task had. -/
def ansOf : Option TM → Int
  | none => 0
  | some t => t.ans
/-- A core that is told what its task was answered, if it was. -/
def toldC (o : Option TM) (c : CM) (a : Int) : CM := match o with
  | none => c
  | some t => if a < t.ans then c.told t.last t.val else c
def nums (s q : Nat) : List Int := (List.range (q - s)).map (fun j => ((s + 1 + j : Nat) : Int))

/-- Where the putter stands: how many it put, whether it waits, how many instructions there are yet. -/
inductive Pc (n : Nat) (c : CM) : Nat → Bool → Nat → Prop
  | a0 (h1 : c.pc = 0) (h2 : c.r 6 = 0) : Pc n c 0 false (7 * n + 3)
  | a1 (h1 : c.pc = 1) (h2 : c.r 6 = 0) (h3 : c.r 4 = n) : Pc n c 0 false (7 * n + 2)
  | a2 (q : Nat) (h1 : c.pc = 2) (h0 : q < n) (h2 : c.r 6 = q) (h3 : c.r 4 = n) (h4 : c.r 5 = 1) : Pc n c q false (7 * (n - q) + 1)
  | a3 (q : Nat) (h1 : c.pc = 3) (h0 : q < n) (h2 : c.r 6 = q + 1) (h3 : c.r 4 = n) (h4 : c.r 5 = 1) : Pc n c q false (7 * (n - q))
  | a4 (q : Nat) (h1 : c.pc = 4) (h0 : q < n) (h2 : c.r 6 = q + 1) (h3 : c.r 4 = n) (h4 : c.r 5 = 1) (h5 : c.r 0 = 256) : Pc n c q false (7 * (n - q) - 1)
  | a5 (q : Nat) (h1 : c.pc = 5) (h0 : q < n) (h2 : c.r 6 = q + 1) (h3 : c.r 4 = n) (h4 : c.r 5 = 1) (h5 : c.r 0 = 256) (h6 : c.r 1 = q + 1) : Pc n c q false (7 * (n - q) - 2)
  | a6 (q : Nat) (h1 : c.pc = 6) (h0 : q < n) (h2 : c.r 6 = q + 1) (h3 : c.r 4 = n) (h4 : c.r 5 = 1) (h5 : c.r 0 = 256) (h6 : c.r 1 = q + 1) (h7 : c.r 3 = 0) : Pc n c q false (7 * (n - q) - 3)
  | a7 (q : Nat) (h1 : c.pc = 7) (h0 : q < n) (h2 : c.r 6 = q + 1) (h3 : c.r 4 = n) (h4 : c.r 5 = 1) (h5 : c.r 0 = 256) (h6 : c.r 1 = q + 1) (h7 : c.r 3 = 4294967295) : Pc n c q false (7 * (n - q) - 4)
  | w8 (q : Nat) (h1 : c.pc = 8) (h0 : q < n) (h2 : c.r 6 = q + 1) (h3 : c.r 4 = n) (h4 : c.r 5 = 1) : Pc n c q true (7 * (n - q) - 5)
  | a8 (q : Nat) (h1 : c.pc = 8) (h0 : 1 ≤ q ∧ q ≤ n) (h2 : c.r 6 = q) (h3 : c.r 4 = n) (h4 : c.r 5 = 1) : Pc n c q false (7 * (n - q) + 2)
  | a9 (h1 : c.pc = 9) : Pc n c n false 1
/-- Where the getter stands: how many it got, how many it said, whether it waits, how many instructions there are yet. -/
inductive Gc (n : Nat) (c : CM) : Nat → Nat → Bool → Nat → Prop
  | a0 (h1 : c.pc = 0) (h2 : c.r 6 = 0) : Gc n c 0 0 false (7 * n + 2)
  | a1 (h1 : c.pc = 1) (h2 : c.r 6 = 0) (h3 : c.r 4 = n) : Gc n c 0 0 false (7 * n + 1)
  | a2 (s : Nat) (h1 : c.pc = 2) (h0 : s < n) (h2 : c.r 6 = s) (h3 : c.r 4 = n) (h4 : c.r 5 = 1) : Gc n c s s false (7 * (n - s))
  | a3 (s : Nat) (h1 : c.pc = 3) (h0 : s < n) (h2 : c.r 6 = s + 1) (h3 : c.r 4 = n) (h4 : c.r 5 = 1) : Gc n c s s false (7 * (n - s) - 1)
  | a4 (s : Nat) (h1 : c.pc = 4) (h0 : s < n) (h2 : c.r 6 = s + 1) (h3 : c.r 4 = n) (h4 : c.r 5 = 1) (h5 : c.r 0 = 256) : Gc n c s s false (7 * (n - s) - 2)
  | a5 (s : Nat) (h1 : c.pc = 5) (h0 : s < n) (h2 : c.r 6 = s + 1) (h3 : c.r 4 = n) (h4 : c.r 5 = 1) (h5 : c.r 0 = 256) (h7 : c.r 3 = 0) : Gc n c s s false (7 * (n - s) - 3)
  | a6 (s : Nat) (h1 : c.pc = 6) (h0 : s < n) (h2 : c.r 6 = s + 1) (h3 : c.r 4 = n) (h4 : c.r 5 = 1) (h5 : c.r 0 = 256) (h7 : c.r 3 = 4294967295) : Gc n c s s false (7 * (n - s) - 4)
  | w7 (s : Nat) (h1 : c.pc = 7) (h0 : s < n) (h2 : c.r 6 = s + 1) (h3 : c.r 4 = n) (h4 : c.r 5 = 1) : Gc n c s s true (7 * (n - s) - 5)
  | a7 (s : Nat) (h1 : c.pc = 7) (h0 : s < n) (h2 : c.r 6 = s + 1) (h3 : c.r 4 = n) (h4 : c.r 5 = 1) (h6 : c.r 1 = s + 1) : Gc n c (s + 1) s false (7 * (n - s) - 5)
  | a8 (s : Nat) (h1 : c.pc = 8) (h0 : 1 ≤ s ∧ s ≤ n) (h2 : c.r 6 = s) (h3 : c.r 4 = n) (h4 : c.r 5 = 1) : Gc n c s s false (7 * (n - s) + 1)
  | a9 (h1 : c.pc = 9) : Gc n c n n false 0
def Put (n : Nat) (c : CM) (o : Option TM) (q k : Nat) : Prop := match o with
  | none => q = n ∧ k = 0
  | some t => Pc n c q t.wait k ∧ c.asked = t.wait ∧ t.ans = q ∧ (t.wait = true → t.what = 7 ∧ t.v = q + 1)
def Get (n : Nat) (c : CM) (o : Option TM) (s d k : Nat) : Prop := match o with
  | none => False
  | some t => Gc n c s d t.wait k ∧ c.asked = t.wait ∧ t.ans = s ∧ (t.wait = true → t.what = 9)
/-- Both, and the row between them. -/
structure JI (n most : Nat) (R : Nat → Nat) (m : KM) (cs : Nat → CM) (q s d k0 k1 : Nat) : Prop where
  ki : KI R m
  mst : m.most = most
  only : ∀ i, 2 ≤ i → m.tk i = none
  put : Put n (cs 0) (m.tk 0) q k0
  get : Get n (cs 1) (m.tk 1) s d k1
  row : m.row = nums s q
  le : s ≤ q ∧ q ≤ s + most ∧ q ≤ n
  full : ∀ t, m.tk 0 = some t → t.wait = true → q = s + most
  empty : ∀ t, m.tk 1 = some t → t.wait = true → q = s
  says : (cs 1).says = nums 0 d
  rng : 1 ≤ n ∧ n ≤ 50 ∧ 1 ≤ most ∧ most ≤ 64
/-- How many steps there are yet, at most, until the getter has all. -/
def mu (k0 k1 : Nat) : Nat := if k1 = 0 then 0 else k0 + k1
def J (n most : Nat) (R : Nat → Nat) (m : KM) (cs : Nat → CM) (u : Nat) : Prop := ∃ q s d k0 k1, JI n most R m cs q s d k0 k1 ∧ mu k0 k1 ≤ u
/-- Who was told more than before had asked, and nothing odd. -/
def Tellable (m m' : KM) (cs : Nat → CM) (i : Nat) : Prop := ∀ j t', m'.tk j = some t' → ∃ t0, m.tk j = some t0 ∧ t0.ans ≤ t'.ans ∧ (t0.ans < t'.ans → j ≠ i → (cs j).asked = true) ∧ 0 ≤ t'.last ∧ t'.last < 16
/-- One step: who runs, what its instruction is, what comes of it. -/
def Step1 (n most : Nat) (R : Nat → Nat) (m : KM) (cs : Nat → CM) (u : Nat) : Prop :=
  ∃ (i : Nat) (t : TM) (r : Nat) (l' : List Int) (k : Nat) (x : IN), i < 2 ∧ m.tk i = some t ∧ t.wait = false ∧ r < 32 ∧ m.ls r = (i : Int) :: l' ∧ (∀ j, r < j → j < 32 → m.ls j = []) ∧
    (cs i).pc = (k : Int) ∧ k < 900 ∧ (cs i).asked = false ∧ (if i = 0 then putsC n else getsC n)[k]? = some x ∧
    ((∃ c', Sp (cs i) x c' ∧ J n most R m (upd cs i c') (u - 1)) ∨
     (∃ a m', Qa (cs i) x a ∧ AskOut m i t a m' ∧ Tellable m m' cs i ∧ J n most R m' (fun j => toldC (m'.tk j) (upd cs i { cs i with pc := (k : Int) + 1, asked := true } j) (ansOf (m.tk j))) (u - 1)))

section
variable {n most : Nat} {R : Nat → Nat} {m : KM} {cs : Nat → CM} {q s d k0 k1 u : Nat}
theorem nums_len (s q : Nat) : (nums s q).length = q - s := by simp [nums]
theorem nums_nil (s : Nat) : nums s s = [] := by simp [nums]
theorem nums_snoc {s q : Nat} (h : s ≤ q) : nums s (q + 1) = nums s q ++ [((q + 1 : Nat) : Int)] := by
  unfold nums
  rw [show q + 1 - s = (q - s) + 1 by omega, List.range_succ, List.map_append]
  congr 2
  simp
  omega
theorem nums_cons {s q : Nat} (h : s < q) : nums s q = ((s + 1 : Nat) : Int) :: nums (s + 1) q := by
  unfold nums
  rw [show q - s = (q - (s + 1)) + 1 by omega, List.range_succ_eq_map, List.map_cons, List.map_map]
  congr 1
  refine List.map_congr_left (fun j _ => ?_)
  simp
  omega
theorem w32_all : wrap32 4294967295 = -1 := by unfold wrap32; omega

/-- The putter turns. -/
theorem JI.putter (h : JI n most R m cs q s d k0 k1) {t : TM} (ht : m.tk 0 = some t) {c' : CM} {k' : Nat} (hp : Pc n c' q t.wait k') (ha : c'.asked = (cs 0).asked) : JI n most R m (upd cs 0 c') q s d k' k1 := by
  have e0 : upd cs 0 c' 0 = c' := upd_at _ _ _
  have e1 : upd cs 0 c' 1 = cs 1 := upd_ne _ _ (by decide)
  refine ⟨h.ki, h.mst, h.only, ?_, by rw [e1]; exact h.get, h.row, h.le, h.full, h.empty, by rw [e1]; exact h.says, h.rng⟩
  have := h.put
  rw [ht] at this ⊢
  rw [e0]
  exact ⟨hp, by rw [ha]; exact this.2.1, this.2.2.1, this.2.2.2⟩
theorem JI.getter (h : JI n most R m cs q s d k0 k1) {t : TM} (ht : m.tk 1 = some t) {c' : CM} {d' k' : Nat} (hp : Gc n c' s d' t.wait k') (ha : c'.asked = (cs 1).asked) (hs : c'.says = nums 0 d') : JI n most R m (upd cs 1 c') q s d' k0 k' := by
  have e0 : upd cs 1 c' 1 = c' := upd_at _ _ _
  have e1 : upd cs 1 c' 0 = cs 0 := upd_ne _ _ (by decide)
  refine ⟨h.ki, h.mst, h.only, by rw [e1]; exact h.put, ?_, h.row, h.le, h.full, h.empty, by rw [e0]; exact hs, h.rng⟩
  have := h.get
  rw [ht] at this ⊢
  rw [e0]
  exact ⟨hp, by rw [ha]; exact this.2.1, this.2.2.1, this.2.2.2⟩
/-- Nobody waits, where both do not. -/
theorem JI.calmly (h : JI n most R m cs q s d k0 k1) (h0 : ∀ t, m.tk 0 = some t → t.wait = false) (h1 : ∀ t, m.tk 1 = some t → t.wait = false) : m.wl = none := by
  cases e : m.wl with
  | none => rfl
  | some p =>
    obtain ⟨i, r⟩ := p
    obtain ⟨t, ht, hw⟩ := h.ki.wl i r e
    rcases Nat.lt_or_ge i 2 with hi | hi
    · have hc : i = 0 ∨ i = 1 := by omega
      rcases hc with rfl | rfl
      · rw [h0 t ht] at hw; cases hw
      · rw [h1 t ht] at hw; cases hw
    · rw [h.only i hi] at ht; cases ht
/-- Somebody runs. -/
theorem JI.someone (h : JI n most R m cs q s d k0 k1) : ∃ i t, m.tk i = some t ∧ t.wait = false := by
  have hg := h.get
  cases e1 : m.tk 1 with
  | none => rw [e1] at hg; exact hg.elim
  | some t1 =>
    cases w1 : t1.wait
    · exact ⟨1, t1, e1, w1⟩
    · have hp := h.put
      have he := h.empty t1 e1 w1
      cases e0 : m.tk 0 with
      | none =>
        exfalso
        rw [e0] at hp
        rw [e1] at hg
        have hg1 := hg.1
        rw [w1] at hg1
        have := hp.1
        cases hg1
        omega
      | some t0 =>
        cases w0 : t0.wait
        · exact ⟨0, t0, e0, w0⟩
        · have := h.full t0 e0 w0
          have := h.rng
          omega
theorem mu_put {k0 k1 u : Nat} (h : mu k0 k1 ≤ u) {k : Nat} (e : k + 1 = k0) : mu k k1 ≤ u - 1 := by
  unfold mu at *
  by_cases h1 : k1 = 0
  · rw [if_pos h1]; omega
  · rw [if_neg h1] at h ⊢; omega
theorem mu_get {k0 k1 u : Nat} (h : mu k0 k1 ≤ u) {k : Nat} (e : k + 1 = k1) : mu k0 k ≤ u - 1 := by
  unfold mu at *
  rw [if_neg (by omega)] at h
  by_cases h1 : k = 0
  · rw [if_pos h1]; omega
  · rw [if_neg h1]; omega
theorem mu_end {k0 u : Nat} : mu k0 0 ≤ u := by unfold mu; simp

/-- Two cores. -/
def two (a b : CM) : Nat → CM := fun j => if j = 0 then a else b
theorem JI.congr {a b : CM} (h : JI n most R m (two a b) q s d k0 k1) (e0 : cs 0 = a) (e1 : cs 1 = b) : JI n most R m cs q s d k0 k1 :=
  ⟨h.ki, h.mst, h.only, by rw [e0]; exact h.put, by rw [e1]; exact h.get, h.row, h.le, h.full, h.empty, by rw [e1]; exact h.says, h.rng⟩
theorem told_same (o : Option TM) (c : CM) : toldC o c (ansOf o) = c := by
  cases o with
  | none => rfl
  | some t => show (if t.ans < t.ans then _ else c) = c; rw [if_neg (by omega)]
theorem told_told (t : TM) (c : CM) (e v : Int) : toldC (some (KM.told t e v)) c (ansOf (some t)) = c.told e v := by
  show (if t.ans < t.ans + 1 then _ else c) = _
  rw [if_pos (by omega)]
  rfl
theorem told_done (t : TM) (c : CM) (e v : Int) : toldC (some (KM.done t e v)) c (ansOf (some t)) = c.told e v := by
  show (if t.ans < t.ans + 1 then _ else c) = _
  rw [if_pos (by omega)]
  rfl
theorem told_asks (t : TM) (c : CM) (w h v mm : Int) : toldC (some (KM.asks t w h v mm)) c (ansOf (some t)) = c := by
  show (if t.ans < t.ans then _ else c) = c
  rw [if_neg (by omega)]
theorem try_put {most : Nat} {l : List Int} {v : Int} (h : l.length < most) : tryR most l 7 v = some (0, l ++ [v]) := by unfold tryR; rw [if_pos rfl, if_pos h]
theorem try_full {most : Nat} {l : List Int} {v : Int} (h : l.length = most) : tryR most l 7 v = none := by unfold tryR; rw [if_pos rfl, if_neg (by omega)]
theorem try_get {most : Nat} {l : List Int} {v x : Int} : tryR most (x :: l) 9 v = some (x, l) := by unfold tryR; rw [if_neg (by decide)]
theorem try_empty {most : Nat} {v : Int} : tryR most [] 9 v = none := by unfold tryR; rw [if_neg (by decide)]

/-- The step's tail: the instruction, and what comes of it. -/
def Tail (n most : Nat) (R : Nat → Nat) (m : KM) (cs : Nat → CM) (u i : Nat) (t : TM) : Prop :=
  ∃ (k : Nat) (x : IN), (cs i).pc = (k : Int) ∧ k < 900 ∧ (cs i).asked = false ∧ (if i = 0 then putsC n else getsC n)[k]? = some x ∧
    ((∃ c', Sp (cs i) x c' ∧ J n most R m (upd cs i c') (u - 1)) ∨
     (∃ a m', Qa (cs i) x a ∧ AskOut m i t a m' ∧ Tellable m m' cs i ∧ J n most R m' (fun j => toldC (m'.tk j) (upd cs i { cs i with pc := (k : Int) + 1, asked := true } j) (ansOf (m.tk j))) (u - 1)))

theorem tell_of {m m' : KM} {cs : Nat → CM} {i : Nat} {R : Nat → Nat} (k : KI R m') (h : ∀ j t', m'.tk j = some t' → ∃ t0, m.tk j = some t0 ∧ t0.ans ≤ t'.ans ∧ (t0.ans < t'.ans → j ≠ i → (cs j).asked = true)) : Tellable m m' cs i := fun j t' e => by
  obtain ⟨t0, h1, h2, h3⟩ := h j t' e
  exact ⟨t0, h1, h2, h3, (k.task j t' e).last⟩
/-- The putter puts. -/
theorem JI.asksPut (h : JI n most R m cs q s d k0 k1) {t : TM} (ht : m.tk 0 = some t) (hw : t.wait = false) (hq : q < n) (h2 : (cs 0).r 6 = q + 1) (h3 : (cs 0).r 4 = n) (h4 : (cs 0).r 5 = 1) (hk : k0 = 7 * (n - q) - 4) (hu : mu k0 k1 ≤ u) :
    ∃ m', AskOut m 0 t (askV 7 256 (q + 1) ((cs 0).r 2) (-1)) m' ∧ Tellable m m' cs 0 ∧ J n most R m' (fun j => toldC (m'.tk j) (upd cs 0 { cs 0 with pc := ((7 : Nat) : Int) + 1, asked := true } j) (ansOf (m.tk j))) (u - 1) := by
  have hput := h.put
  rw [ht] at hput
  obtain ⟨hpc, hask, hans, _⟩ := hput
  have hrow := h.row
  have hlen : m.row.length = q - s := by rw [hrow, nums_len]
  have hle := h.le
  have hrng := h.rng
  have hmst := h.mst
  obtain ⟨c', hc'⟩ : ∃ c', c' = { cs 0 with pc := ((7 : Nat) : Int) + 1, asked := true } := ⟨_, rfl⟩
  have e0 : upd cs 0 c' 0 = c' := upd_at _ _ _
  have e1 : upd cs 0 c' 1 = cs 1 := upd_ne _ _ (by decide)
  have p1 : c'.pc = 8 := by rw [hc']; rfl
  have p2 : c'.r 6 = q + 1 := by rw [hc']; exact h2
  have p3 : c'.r 4 = n := by rw [hc']; exact h3
  have p4 : c'.r 5 = 1 := by rw [hc']; exact h4
  have p5 : c'.asked = true := by rw [hc']
  rw [← hc']
  clear hc'
  by_cases hfull : q = s + most
  · -- it waits
    have hwl : m.wl = none := h.calmly (fun t' e => by rw [ht] at e; cases e; exact hw) (fun t1 e => by
      cases w : t1.wait
      · rfl
      · have := h.empty t1 e w; omega)
    have htr : tryR m.most m.row 7 (q + 1) = none := try_full (by rw [hlen, hmst]; omega)
    obtain ⟨a1, a2, a3, a4, a5⟩ := h.ki.waits ht hwl (what := 7) (hh := 256) (v := (q : Int) + 1) (mm := (cs 0).r 2) (.inl rfl)
    refine ⟨_, .wait 7 (q + 1) _ (.inl rfl) htr hwl a1.calm, tell_of a1 (fun j t' e => ?_), q, s, d, 7 * (n - q) - 5, k1, ?_, mu_put hu (by omega)⟩
    · rw [a2] at e
      split at e
      · rename_i ej; subst ej; cases e; exact ⟨t, ht, Int.le_refl _, fun _ x => absurd rfl x⟩
      · exact ⟨t', e, Int.le_refl _, fun x => absurd x (by omega)⟩
    have t0 : (m.waits 0 t 7 256 ((q : Int) + 1) ((cs 0).r 2)).tk 0 = some (KM.asks t 7 256 ((q : Int) + 1) ((cs 0).r 2)) := by rw [a2, if_pos rfl]
    have t1 : ∀ j, j ≠ 0 → (m.waits 0 t 7 256 ((q : Int) + 1) ((cs 0).r 2)).tk j = m.tk j := fun j hj => by rw [a2, if_neg hj]
    refine JI.congr (a := c') (b := cs 1) ⟨a1, by rw [a5]; exact hmst, fun j hj => by rw [t1 j (by omega)]; exact h.only j hj, ?_, ?_, by rw [a4]; exact hrow, hle, fun t' e w => hfull, fun t' e w => ?_, h.says, hrng⟩ ?_ ?_
    · rw [t0]
      exact ⟨.w8 q p1 hq p2 p3 p4, p5, hans, fun _ => ⟨rfl, rfl⟩⟩
    · rw [t1 1 (by decide)]; exact h.get
    · rw [t1 1 (by decide)] at e; exact h.empty t' e w
    · show toldC _ (upd cs 0 c' 0) _ = _
      rw [t0, e0, ht]
      exact told_asks t c' _ _ _ _
    · show toldC _ (upd cs 0 c' 1) _ = _
      rw [t1 1 (by decide), e1]
      exact told_same _ _
  · have htr : tryR m.most m.row 7 (q + 1) = some (0, m.row ++ [(q : Int) + 1]) := try_put (by rw [hlen, hmst]; omega)
    have hn : m.row ++ [(q : Int) + 1] = nums s (q + 1) := by rw [hrow, nums_snoc hle.1]; rfl
    obtain ⟨m1, hm1⟩ : ∃ m1, m1 = ({ m with row := m.row ++ [(q : Int) + 1] } : KM).setT 0 (KM.told t 0 0) := ⟨_, rfl⟩
    have k1' : KI R m1 := by rw [hm1]; exact KI.told (m := { m with row := m.row ++ [(q : Int) + 1] }) (h.ki.row _) (i := 0) ht 0 0
    have t0 : m1.tk 0 = some (KM.told t 0 0) := by rw [hm1]; exact KM.setT_tk _ _ _
    have t1 : ∀ j, j ≠ 0 → m1.tk j = m.tk j := fun j hj => by rw [hm1]; exact upd_ne _ _ hj
    have hr1 : m1.row = nums s (q + 1) := by rw [hm1]; exact hn
    have hmo : m1.most = most := by rw [hm1]; exact hmst
    have hwl1 : m1.wl = m.wl := by rw [hm1]; rfl
    have hb : 0 ≤ t.ans ∧ t.ans < 1000000000 := by omega
    have hg := h.get
    cases eg : m.tk 1 with
    | none => rw [eg] at hg; exact hg.elim
    | some u1 =>
      rw [eg] at hg
      cases w1 : u1.wait
      · have hwl : m.wl = none := h.calmly (fun t' e => by rw [ht] at e; cases e; exact hw) (fun t1 e => by rw [eg] at e; cases e; exact w1)
        have hs : m1.serves = m1 := KM.serves_none (by rw [hwl1]; exact hwl)
        have hao := AskOut.ok (m := m) (i := 0) (t := t) 7 (q + 1) ((cs 0).r 2) 0 (m.row ++ [(q : Int) + 1]) (.inl rfl) htr (by rw [← hm1]; exact .inl (by rw [hwl1]; exact hwl)) (by rw [← hm1, hs]; exact k1'.calm) hb
        rw [← hm1, hs] at hao
        refine ⟨m1, hao, tell_of k1' (fun j t' e => ?_), q + 1, s, d, 7 * (n - (q + 1)) + 2, k1, ?_, mu_put hu (by omega)⟩
        · by_cases ej : j = 0
          · subst ej; rw [t0] at e; cases e; exact ⟨t, ht, by show t.ans ≤ t.ans + 1; omega, fun _ x => absurd rfl x⟩
          · rw [t1 j ej] at e; exact ⟨t', e, Int.le_refl _, fun x => absurd x (by omega)⟩
        refine JI.congr (a := c'.told 0 0) (b := cs 1) ⟨k1', hmo, fun j hj => by rw [t1 j (by omega)]; exact h.only j hj, ?_, ?_, hr1, by omega, fun t' e w => ?_, fun t' e w => ?_, h.says, hrng⟩ ?_ ?_
        · rw [t0]
          refine ⟨?_, hw.symm, by show t.ans + 1 = ((q + 1 : Nat) : Int); omega, fun w => by rw [show (KM.told t 0 0).wait = t.wait from rfl, hw] at w; cases w⟩
          rw [show (KM.told t 0 0).wait = t.wait from rfl, hw]
          refine .a8 (q + 1) p1 (by omega) (by simp [two, CM.told, upd, p2]) (by simp [two, CM.told, upd, p3]) (by simp [two, CM.told, upd, p4])
        · rw [t1 1 (by decide), eg]; exact hg
        · rw [t0] at e; cases e; rw [show (KM.told t 0 0).wait = t.wait from rfl, hw] at w; cases w
        · rw [t1 1 (by decide), eg] at e; cases e; rw [w1] at w; cases w
        · show toldC _ (upd cs 0 c' 0) _ = _
          rw [t0, e0, ht]
          exact told_told t c' 0 0
        · show toldC _ (upd cs 0 c' 1) _ = _
          rw [t1 1 (by decide), e1]
          exact told_same _ _
      · -- the getter waits: it is served
        obtain ⟨g1, g2, g3, g4⟩ := hg
        have hqs := h.empty u1 eg w1
        obtain ⟨hwh, hwl⟩ := h.ki.on 1 u1 eg w1
        have hw9 : u1.what = 9 := g4 w1
        have u1t : m1.tk 1 = some u1 := by rw [t1 1 (by decide)]; exact eg
        have hr2 : m1.row = ((s + 1 : Nat) : Int) :: [] := by rw [hr1, nums_cons (by omega), show q + 1 = s + 1 by omega, nums_nil]
        have hs : m1.serves = ({ m1 with row := [] } : KM).answers 1 u1 0 ((s + 1 : Nat) : Int) :=
          KM.serves_ok (r := R 1) (by rw [hwl1]; exact hwl) u1t (by rw [hr2, hw9]; exact try_get)
        obtain ⟨a1, a2, a3, a4, a5⟩ := (k1'.row []).answers (i := 1) (t := u1) u1t w1 0 ((s + 1 : Nat) : Int)
        obtain ⟨m2, hm2⟩ : ∃ m2, m2 = ({ m1 with row := [] } : KM).answers 1 u1 0 ((s + 1 : Nat) : Int) := ⟨_, rfl⟩
        rw [← hm2] at hs a1 a2 a3 a4 a5
        have hok := h.ki.task 1 u1 eg
        have hao := AskOut.ok (m := m) (i := 0) (t := t) 7 (q + 1) ((cs 0).r 2) 0 (m.row ++ [(q : Int) + 1]) (.inl rfl) htr
          (by rw [← hm1]; exact .inr ⟨1, R 1, u1, by decide, by rw [hwl1]; exact hwl, u1t, by have := hok.rank; have := hok.low; omega, by rw [hok.on]; exact w1, w1, .inr hw9, by omega⟩) (by rw [← hm1, hs]; exact a1.calm) hb
        rw [← hm1, hs] at hao
        have v0 : m2.tk 0 = some (KM.told t 0 0) := by rw [a2, if_neg (by decide)]; exact t0
        have v1 : m2.tk 1 = some (KM.done u1 0 ((s + 1 : Nat) : Int)) := by rw [a2, if_pos rfl]
        have vj : ∀ j, 2 ≤ j → m2.tk j = none := fun j hj => by rw [a2, if_neg (by omega)]; exact (t1 j (by omega)).trans (h.only j hj)
        rw [w1] at g1
        refine ⟨m2, hao, tell_of a1 (fun j t' e => ?_), q + 1, s + 1, d, 7 * (n - (q + 1)) + 2, k1, ?_, mu_put hu (by omega)⟩
        · rw [a2] at e
          split at e
          · rename_i ej; subst ej; cases e; exact ⟨u1, eg, by show u1.ans ≤ u1.ans + 1; omega, fun _ _ => g2.trans w1⟩
          · by_cases ej : j = 0
            · subst ej; rw [show ({ m1 with row := [] } : KM).tk 0 = m1.tk 0 from rfl, t0] at e; cases e; exact ⟨t, ht, by show t.ans ≤ t.ans + 1; omega, fun _ x => absurd rfl x⟩
            · rw [show ({ m1 with row := [] } : KM).tk j = m.tk j from t1 j ej] at e; exact ⟨t', e, Int.le_refl _, fun x => absurd x (by omega)⟩
        refine JI.congr (a := c'.told 0 0) (b := (cs 1).told 0 ((s + 1 : Nat) : Int)) ⟨a1, by rw [a5]; exact hmo, vj, ?_, ?_, by rw [a4, show q + 1 = s + 1 by omega, nums_nil], by omega, fun t' e w => ?_, fun t' e w => by omega, h.says, hrng⟩ ?_ ?_
        · rw [v0]
          refine ⟨?_, hw.symm, by show t.ans + 1 = ((q + 1 : Nat) : Int); omega, fun w => by rw [show (KM.told t 0 0).wait = t.wait from rfl, hw] at w; cases w⟩
          rw [show (KM.told t 0 0).wait = t.wait from rfl, hw]
          exact .a8 (q + 1) p1 (by omega) (by simp [two, CM.told, upd, p2]) (by simp [two, CM.told, upd, p3]) (by simp [two, CM.told, upd, p4])
        · rw [v1]
          cases g1 with
          | w7 _ q1 q0 q2 q3 q4 =>
            refine ⟨?_, rfl, by show u1.ans + 1 = ((s + 1 : Nat) : Int); omega, fun w => by cases w⟩
            exact .a7 _ q1 q0 (by simp [two, CM.told, upd, q2]) (by simp [two, CM.told, upd, q3]) (by simp [two, CM.told, upd, q4]) (by simp [two, CM.told, upd])
        · rw [v0] at e; cases e; rw [show (KM.told t 0 0).wait = t.wait from rfl, hw] at w; cases w
        · show toldC _ (upd cs 0 c' 0) _ = _
          rw [v0, e0, ht]
          exact told_told t c' 0 0
        · show toldC _ (upd cs 0 c' 1) _ = _
          rw [v1, e1, eg]
          exact told_done u1 _ _ _
/-- The getter gets. -/
theorem JI.asksGet (h : JI n most R m cs q s d k0 k1) {t : TM} (ht : m.tk 1 = some t) (hw : t.wait = false) (hans : t.ans = s) (hq : s < n) (hd : d = s) (h2 : (cs 1).r 6 = s + 1) (h3 : (cs 1).r 4 = n) (h4 : (cs 1).r 5 = 1) (hk : k1 = 7 * (n - s) - 4) (hu : mu k0 k1 ≤ u) :
    ∃ m', AskOut m 1 t (askV 9 256 ((cs 1).r 1) ((cs 1).r 2) (-1)) m' ∧ Tellable m m' cs 1 ∧ J n most R m' (fun j => toldC (m'.tk j) (upd cs 1 { cs 1 with pc := ((6 : Nat) : Int) + 1, asked := true } j) (ansOf (m.tk j))) (u - 1) := by
  have hrow := h.row
  have hlen : m.row.length = q - s := by rw [hrow, nums_len]
  have hle := h.le
  have hrng := h.rng
  have hmst := h.mst
  have hsays := h.says
  obtain ⟨c', hc'⟩ : ∃ c', c' = { cs 1 with pc := ((6 : Nat) : Int) + 1, asked := true } := ⟨_, rfl⟩
  have e0 : upd cs 1 c' 1 = c' := upd_at _ _ _
  have e1 : upd cs 1 c' 0 = cs 0 := upd_ne _ _ (by decide)
  have p1 : c'.pc = 7 := by rw [hc']; rfl
  have p2 : c'.r 6 = s + 1 := by rw [hc']; exact h2
  have p3 : c'.r 4 = n := by rw [hc']; exact h3
  have p4 : c'.r 5 = 1 := by rw [hc']; exact h4
  have p5 : c'.asked = true := by rw [hc']
  have p6 : c'.says = nums 0 d := by rw [hc']; exact hsays
  rw [← hc']
  clear hc'
  by_cases hem : q = s
  · -- it waits
    have hwl : m.wl = none := h.calmly (fun t0 e => by
      cases w : t0.wait
      · rfl
      · have := h.full t0 e w; omega) (fun t' e => by rw [ht] at e; cases e; exact hw)
    have htr : tryR m.most m.row 9 ((cs 1).r 1) = none := by rw [hrow, hem, nums_nil]; exact try_empty
    obtain ⟨a1, a2, a3, a4, a5⟩ := h.ki.waits ht hwl (what := 9) (hh := 256) (v := (cs 1).r 1) (mm := (cs 1).r 2) (.inr rfl)
    refine ⟨_, .wait 9 _ _ (.inr rfl) htr hwl a1.calm, tell_of a1 (fun j t' e => ?_), q, s, d, k0, 7 * (n - s) - 5, ?_, mu_get hu (by omega)⟩
    · rw [a2] at e
      split at e
      · rename_i ej; subst ej; cases e; exact ⟨t, ht, Int.le_refl _, fun _ x => absurd rfl x⟩
      · exact ⟨t', e, Int.le_refl _, fun x => absurd x (by omega)⟩
    have t0 : (m.waits 1 t 9 256 ((cs 1).r 1) ((cs 1).r 2)).tk 1 = some (KM.asks t 9 256 ((cs 1).r 1) ((cs 1).r 2)) := by rw [a2, if_pos rfl]
    have t1 : ∀ j, j ≠ 1 → (m.waits 1 t 9 256 ((cs 1).r 1) ((cs 1).r 2)).tk j = m.tk j := fun j hj => by rw [a2, if_neg hj]
    refine JI.congr (a := cs 0) (b := c') ⟨a1, by rw [a5]; exact hmst, fun j hj => by rw [t1 j (by omega)]; exact h.only j hj, ?_, ?_, by rw [a4]; exact hrow, hle, fun t' e w => ?_, fun t' e w => hem, p6, hrng⟩ ?_ ?_
    · rw [t1 0 (by decide)]; exact h.put
    · rw [t0]
      refine ⟨?_, p5, hans, fun _ => rfl⟩
      rw [hd]
      exact .w7 s p1 hq p2 p3 p4
    · rw [t1 0 (by decide)] at e; exact h.full t' e w
    · show toldC _ (upd cs 1 c' 0) _ = _
      rw [t1 0 (by decide), e1]
      exact told_same _ _
    · show toldC _ (upd cs 1 c' 1) _ = _
      rw [t0, e0, ht]
      exact told_asks t c' _ _ _ _
  · have hrow2 : m.row = ((s + 1 : Nat) : Int) :: nums (s + 1) q := by rw [hrow, nums_cons (by omega)]
    have htr : tryR m.most m.row 9 ((cs 1).r 1) = some (((s + 1 : Nat) : Int), nums (s + 1) q) := by rw [hrow2]; exact try_get
    obtain ⟨m1, hm1⟩ : ∃ m1, m1 = ({ m with row := nums (s + 1) q } : KM).setT 1 (KM.told t 0 ((s + 1 : Nat) : Int)) := ⟨_, rfl⟩
    have k1' : KI R m1 := by rw [hm1]; exact KI.told (m := { m with row := nums (s + 1) q }) (h.ki.row _) (i := 1) ht 0 _
    have t0 : m1.tk 1 = some (KM.told t 0 ((s + 1 : Nat) : Int)) := by rw [hm1]; exact KM.setT_tk _ _ _
    have t1 : ∀ j, j ≠ 1 → m1.tk j = m.tk j := fun j hj => by rw [hm1]; exact upd_ne _ _ hj
    have hr1 : m1.row = nums (s + 1) q := by rw [hm1]; rfl
    have hmo : m1.most = most := by rw [hm1]; exact hmst
    have hwl1 : m1.wl = m.wl := by rw [hm1]; rfl
    have hb : 0 ≤ t.ans ∧ t.ans < 1000000000 := by omega
    have hgot : Get n (c'.told 0 ((s + 1 : Nat) : Int)) (some (KM.told t 0 ((s + 1 : Nat) : Int))) (s + 1) d (7 * (n - s) - 5) := by
      refine ⟨?_, hw.symm, by show t.ans + 1 = ((s + 1 : Nat) : Int); omega, fun w => by rw [show (KM.told t 0 ((s + 1 : Nat) : Int)).wait = t.wait from rfl, hw] at w; cases w⟩
      rw [show (KM.told t 0 ((s + 1 : Nat) : Int)).wait = t.wait from rfl, hw, hd]
      exact .a7 s p1 hq (by simp [CM.told, upd, p2]) (by simp [CM.told, upd, p3]) (by simp [CM.told, upd, p4]) (by simp [CM.told, upd])
    by_cases hpw : ∃ u0, m.tk 0 = some u0 ∧ u0.wait = true
    · -- the putter waits: it is served
      obtain ⟨u0, ep, w0⟩ := hpw
      have hp := h.put
      rw [ep] at hp
      obtain ⟨g1, g2, g3, g4⟩ := hp
      obtain ⟨hw7, hv⟩ := g4 w0
      have hqs := h.full u0 ep w0
      obtain ⟨hwh, hwl⟩ := h.ki.on 0 u0 ep w0
      have u0t : m1.tk 0 = some u0 := by rw [t1 0 (by decide)]; exact ep
      have hs : m1.serves = ({ m1 with row := nums (s + 1) (q + 1) } : KM).answers 0 u0 0 0 :=
        KM.serves_ok (r := R 0) (by rw [hwl1]; exact hwl) u0t (by
          rw [hw7, hv, hr1, try_put (by rw [nums_len, hmo]; omega), nums_snoc (s := s + 1) (q := q) (by omega)]; rfl)
      obtain ⟨a1, a2, a3, a4, a5⟩ := (k1'.row (nums (s + 1) (q + 1))).answers (i := 0) (t := u0) u0t w0 0 0
      obtain ⟨m2, hm2⟩ : ∃ m2, m2 = ({ m1 with row := nums (s + 1) (q + 1) } : KM).answers 0 u0 0 0 := ⟨_, rfl⟩
      rw [← hm2] at hs a1 a2 a3 a4 a5
      have hok := h.ki.task 0 u0 ep
      have hao := AskOut.ok (m := m) (i := 1) (t := t) 9 ((cs 1).r 1) ((cs 1).r 2) ((s + 1 : Nat) : Int) (nums (s + 1) q) (.inr rfl) htr
        (by rw [← hm1]; exact .inr ⟨0, R 0, u0, by decide, by rw [hwl1]; exact hwl, u0t, by have := hok.rank; have := hok.low; omega, by rw [hok.on]; exact w0, w0, .inl hw7, by omega⟩) (by rw [← hm1, hs]; exact a1.calm) hb
      rw [← hm1, hs] at hao
      have v0 : m2.tk 1 = some (KM.told t 0 ((s + 1 : Nat) : Int)) := by rw [a2, if_neg (by decide)]; exact t0
      have v1 : m2.tk 0 = some (KM.done u0 0 0) := by rw [a2, if_pos rfl]
      have vj : ∀ j, 2 ≤ j → m2.tk j = none := fun j hj => by rw [a2, if_neg (by omega)]; exact (t1 j (by omega)).trans (h.only j hj)
      rw [w0] at g1
      refine ⟨m2, hao, tell_of a1 (fun j t' e => ?_), q + 1, s + 1, d, k0, 7 * (n - s) - 5, ?_, mu_get hu (by omega)⟩
      · rw [a2] at e
        split at e
        · rename_i ej; subst ej; cases e; exact ⟨u0, ep, by show u0.ans ≤ u0.ans + 1; omega, fun _ _ => g2.trans w0⟩
        · by_cases ej : j = 1
          · subst ej; rw [show ({ m1 with row := nums (s + 1) (q + 1) } : KM).tk 1 = m1.tk 1 from rfl, t0] at e; cases e; exact ⟨t, ht, by show t.ans ≤ t.ans + 1; omega, fun _ x => absurd rfl x⟩
          · rw [show ({ m1 with row := nums (s + 1) (q + 1) } : KM).tk j = m.tk j from t1 j ej] at e; exact ⟨t', e, Int.le_refl _, fun x => absurd x (by omega)⟩
      have hqn : q < n := by cases g1; assumption
      refine JI.congr (a := (cs 0).told 0 0) (b := c'.told 0 ((s + 1 : Nat) : Int)) ⟨a1, by rw [a5]; exact hmo, vj, ?_, by rw [v0]; exact hgot, a4, by omega, fun t' e w => ?_, fun t' e w => ?_, p6, hrng⟩ ?_ ?_
      · rw [v1]
        cases g1 with
        | w8 _ q1 q0 q2 q3 q4 =>
          refine ⟨?_, rfl, by show u0.ans + 1 = ((q + 1 : Nat) : Int); omega, fun w => by cases w⟩
          rw [show 7 * (n - q) - 5 = 7 * (n - (q + 1)) + 2 by omega]
          exact .a8 (q + 1) q1 (by omega) (by simp [two, CM.told, upd, q2]) (by simp [two, CM.told, upd, q3]) (by simp [two, CM.told, upd, q4])
      · rw [v1] at e; cases e; cases w
      · rw [v0] at e; cases e; rw [show (KM.told t 0 ((s + 1 : Nat) : Int)).wait = t.wait from rfl, hw] at w; cases w
      · show toldC _ (upd cs 1 c' 0) _ = _
        rw [v1, e1, ep]
        exact told_done u0 _ _ _
      · show toldC _ (upd cs 1 c' 1) _ = _
        rw [v0, e0, ht]
        exact told_told t c' _ _
    · have hwl : m.wl = none := h.calmly (fun t0 e => by
        cases w : t0.wait
        · rfl
        · exact absurd ⟨t0, e, w⟩ hpw) (fun t' e => by rw [ht] at e; cases e; exact hw)
      have hs : m1.serves = m1 := KM.serves_none (by rw [hwl1]; exact hwl)
      have hao := AskOut.ok (m := m) (i := 1) (t := t) 9 ((cs 1).r 1) ((cs 1).r 2) ((s + 1 : Nat) : Int) (nums (s + 1) q) (.inr rfl) htr (by rw [← hm1]; exact .inl (by rw [hwl1]; exact hwl)) (by rw [← hm1, hs]; exact k1'.calm) hb
      rw [← hm1, hs] at hao
      refine ⟨m1, hao, tell_of k1' (fun j t' e => ?_), q, s + 1, d, k0, 7 * (n - s) - 5, ?_, mu_get hu (by omega)⟩
      · by_cases ej : j = 1
        · subst ej; rw [t0] at e; cases e; exact ⟨t, ht, by show t.ans ≤ t.ans + 1; omega, fun _ x => absurd rfl x⟩
        · rw [t1 j ej] at e; exact ⟨t', e, Int.le_refl _, fun x => absurd x (by omega)⟩
      refine JI.congr (a := cs 0) (b := c'.told 0 ((s + 1 : Nat) : Int)) ⟨k1', hmo, fun j hj => by rw [t1 j (by omega)]; exact h.only j hj, by rw [t1 0 (by decide)]; exact h.put, by rw [t0]; exact hgot, hr1, by omega, fun t' e w => ?_, fun t' e w => ?_, p6, hrng⟩ ?_ ?_
      · rw [t1 0 (by decide)] at e; exact absurd ⟨t', e, w⟩ hpw
      · rw [t0] at e; cases e; rw [show (KM.told t 0 ((s + 1 : Nat) : Int)).wait = t.wait from rfl, hw] at w; cases w
      · show toldC _ (upd cs 1 c' 0) _ = _
        rw [t1 0 (by decide), e1]
        exact told_same _ _
      · show toldC _ (upd cs 1 c' 1) _ = _
        rw [t0, e0, ht]
        exact told_told t c' _ _

/-- The putter ends. -/
theorem JI.endsPut (h : JI n most R m cs q s d k0 k1) {t : TM} (ht : m.tk 0 = some t) (hw : t.wait = false) (hq : q = n) (hk : k0 = 1) (hu : mu k0 k1 ≤ u) (c' : CM) :
    ∃ m', AskOut m 0 t (askV 20 0 0 0 0) m' ∧ Tellable m m' cs 0 ∧ J n most R m' (fun j => toldC (m'.tk j) (upd cs 0 c' j) (ansOf (m.tk j))) (u - 1) := by
  obtain ⟨a1, a2, a3, a4, a5⟩ := h.ki.ends ht hw
  have t0 : (m.ends 0 t).tk 0 = none := by rw [a2, if_pos rfl]
  have t1 : ∀ j, j ≠ 0 → (m.ends 0 t).tk j = m.tk j := fun j hj => by rw [a2, if_neg hj]
  refine ⟨_, .fin a1.calm, tell_of a1 (fun j t' e => ?_), q, s, d, 0, k1, ?_, mu_put hu (by omega)⟩
  · rw [a2] at e
    split at e
    · cases e
    · exact ⟨t', e, Int.le_refl _, fun x => absurd x (by omega)⟩
  refine JI.congr (a := c') (b := cs 1) ⟨a1, by rw [a5]; exact h.mst, fun j hj => by rw [t1 j (by omega)]; exact h.only j hj, ?_, by rw [t1 1 (by decide)]; exact h.get, by rw [a4]; exact h.row, h.le, fun t' e w => ?_, fun t' e w => ?_, h.says, h.rng⟩ ?_ ?_
  · rw [t0]; exact ⟨hq, rfl⟩
  · rw [t0] at e; cases e
  · rw [t1 1 (by decide)] at e; exact h.empty t' e w
  · show toldC _ (upd cs 0 c' 0) _ = _
    rw [t0, upd_at]
    rfl
  · show toldC _ (upd cs 0 c' 1) _ = _
    rw [t1 1 (by decide), upd_ne _ _ (by decide)]
    exact told_same _ _

theorem JI.tailPut (h : JI n most R m cs q s d k0 k1) {t : TM} (ht : m.tk 0 = some t) (hw : t.wait = false) (hu : mu k0 k1 ≤ u) : Tail n most R m cs u 0 t := by
  have hp := h.put
  rw [ht] at hp
  obtain ⟨hpc, hask, hans, _⟩ := hp
  rw [hw] at hpc hask
  have hrng := h.rng
  have hle := h.le
  cases hpc with
  | a0 h1 h2 =>
    refine ⟨0, _, h1, by decide, hask, rfl, .inl ⟨_, .set 4 n (by decide) (by omega), _, s, d, _, k1, h.putter ht (k' := 7 * n + 2) ?_ rfl, mu_put hu (by omega)⟩⟩
    rw [hw]; exact .a1 (by simp [h1]) (by simp [CM.setR, upd, h2]) (by simp [CM.setR, upd])
  | a1 h1 h2 h3 =>
    refine ⟨1, _, h1, by decide, hask, rfl, .inl ⟨_, .set 5 1 (by decide) (by omega), _, s, d, _, k1, h.putter ht (k' := 7 * (n - 0) + 1) ?_ rfl, mu_put hu (by omega)⟩⟩
    rw [hw]; exact .a2 0 (by simp [h1]) (by omega) (by simp [CM.setR, upd, h2]) (by simp [CM.setR, upd, h3]) (by simp [CM.setR, upd])
  | a2 _ h1 h0 h2 h3 h4 =>
    refine ⟨2, _, h1, by decide, hask, rfl, .inl ⟨_, .add 6 5 (by decide) (by decide) (by decide), _, s, d, _, k1, h.putter ht (k' := 7 * (n - q)) ?_ rfl, mu_put hu (by omega)⟩⟩
    rw [hw]; exact .a3 q (by simp [h1]) h0 (by simp [CM.setR, upd, h2, h4]; omega) (by simp [CM.setR, upd, h3]) (by simp [CM.setR, upd, h4])
  | a3 _ h1 h0 h2 h3 h4 =>
    refine ⟨3, _, h1, by decide, hask, rfl, .inl ⟨_, .high, _, s, d, _, k1, h.putter ht (k' := 7 * (n - q) - 1) ?_ rfl, mu_put hu (by omega)⟩⟩
    rw [hw]; exact .a4 q (by simp [h1]) h0 (by simp [CM.setR, upd, h2]) (by simp [CM.setR, upd, h3]) (by simp [CM.setR, upd, h4]) (by simp [CM.setR, upd])
  | a4 _ h1 h0 h2 h3 h4 h5 =>
    refine ⟨4, _, h1, by decide, hask, rfl, .inl ⟨_, .move 1 6 (by decide) (by decide), _, s, d, _, k1, h.putter ht (k' := 7 * (n - q) - 2) ?_ rfl, mu_put hu (by omega)⟩⟩
    rw [hw]; exact .a5 q (by simp [h1]) h0 (by simp [CM.setR, upd, h2]) (by simp [CM.setR, upd, h3]) (by simp [CM.setR, upd, h4]) (by simp [CM.setR, upd, h5]) (by simp [CM.setR, upd, h2])
  | a5 _ h1 h0 h2 h3 h4 h5 h6 =>
    refine ⟨5, _, h1, by decide, hask, rfl, .inl ⟨_, .set 3 0 (by decide) (by decide), _, s, d, _, k1, h.putter ht (k' := 7 * (n - q) - 3) ?_ rfl, mu_put hu (by omega)⟩⟩
    rw [hw]; exact .a6 q (by simp [h1]) h0 (by simp [CM.setR, upd, h2]) (by simp [CM.setR, upd, h3]) (by simp [CM.setR, upd, h4]) (by simp [CM.setR, upd, h5]) (by simp [CM.setR, upd, h6]) (by simp [CM.setR, upd])
  | a6 _ h1 h0 h2 h3 h4 h5 h6 h7 =>
    refine ⟨6, _, h1, by decide, hask, rfl, .inl ⟨_, .sub 3 5 (by decide) (by decide) (by decide), _, s, d, _, k1, h.putter ht (k' := 7 * (n - q) - 4) ?_ rfl, mu_put hu (by omega)⟩⟩
    rw [hw]; exact .a7 q (by simp [h1]) h0 (by simp [CM.setR, upd, h2]) (by simp [CM.setR, upd, h3]) (by simp [CM.setR, upd, h4]) (by simp [CM.setR, upd, h5]) (by simp [CM.setR, upd, h6]) (by simp [CM.setR, upd, h7, h4])
  | a7 _ h1 h0 h2 h3 h4 h5 h6 h7 =>
    obtain ⟨m', x1, x3, x2⟩ := h.asksPut ht hw h0 h2 h3 h4 rfl hu
    refine ⟨7, _, h1, by decide, hask, rfl, .inr ⟨_, m', .inl ⟨7, rfl, rfl⟩, ?_, x3, x2⟩⟩
    rw [h5, h6, h7, w32_all]
    exact x1
  | a8 _ h1 h0 h2 h3 h4 =>
    refine ⟨8, _, h1, by decide, hask, rfl, .inl ⟨_, .other 6 4 (by decide) (by decide), ?_⟩⟩
    rw [h2, h3, h1]
    by_cases e : q = n
    · rw [if_pos (by rw [e])]
      refine ⟨q, s, d, 1, k1, h.putter ht (k' := 1) ?_ rfl, mu_put hu (by omega)⟩
      rw [hw, e]; exact .a9 rfl
    · rw [if_neg (by omega)]
      refine ⟨q, s, d, _, k1, h.putter ht (k' := 7 * (n - q) + 1) ?_ rfl, mu_put hu (by omega)⟩
      rw [hw]; exact .a2 q rfl (by omega) h2 h3 h4
  | a9 h1 =>
    obtain ⟨m', x1, x3, x2⟩ := h.endsPut ht hw rfl rfl hu { cs 0 with pc := ((9 : Nat) : Int) + 1, asked := true }
    exact ⟨9, _, h1, by decide, hask, rfl, .inr ⟨_, m', .inr ⟨rfl, rfl⟩, x1, x3, x2⟩⟩

theorem JI.tailGet (h : JI n most R m cs q s d k0 k1) {t : TM} (ht : m.tk 1 = some t) (hw : t.wait = false) (hu : mu k0 k1 ≤ u) : Tail n most R m cs u 1 t := by
  have hp := h.get
  rw [ht] at hp
  obtain ⟨hpc, hask, hans, _⟩ := hp
  rw [hw] at hpc hask
  have hrng := h.rng
  have hle := h.le
  have hsays := h.says
  cases hpc with
  | a0 h1 h2 =>
    refine ⟨0, _, h1, by decide, hask, rfl, .inl ⟨_, .set 4 n (by decide) (by omega), q, _, _, k0, _, h.getter ht (k' := 7 * n + 1) ?_ rfl hsays, mu_get hu (by omega)⟩⟩
    rw [hw]; exact .a1 (by simp [h1]) (by simp [CM.setR, upd, h2]) (by simp [CM.setR, upd])
  | a1 h1 h2 h3 =>
    refine ⟨1, _, h1, by decide, hask, rfl, .inl ⟨_, .set 5 1 (by decide) (by omega), q, _, _, k0, _, h.getter ht (k' := 7 * (n - 0)) ?_ rfl hsays, mu_get hu (by omega)⟩⟩
    rw [hw]; exact .a2 0 (by simp [h1]) (by omega) (by simp [CM.setR, upd, h2]) (by simp [CM.setR, upd, h3]) (by simp [CM.setR, upd])
  | a2 _ h1 h0 h2 h3 h4 =>
    refine ⟨2, _, h1, by decide, hask, rfl, .inl ⟨_, .add 6 5 (by decide) (by decide) (by decide), q, _, _, k0, _, h.getter ht (k' := 7 * (n - s) - 1) ?_ rfl hsays, mu_get hu (by omega)⟩⟩
    rw [hw]; exact .a3 s (by simp [h1]) h0 (by simp [CM.setR, upd, h2, h4]; omega) (by simp [CM.setR, upd, h3]) (by simp [CM.setR, upd, h4])
  | a3 _ h1 h0 h2 h3 h4 =>
    refine ⟨3, _, h1, by decide, hask, rfl, .inl ⟨_, .high, q, _, _, k0, _, h.getter ht (k' := 7 * (n - s) - 2) ?_ rfl hsays, mu_get hu (by omega)⟩⟩
    rw [hw]; exact .a4 s (by simp [h1]) h0 (by simp [CM.setR, upd, h2]) (by simp [CM.setR, upd, h3]) (by simp [CM.setR, upd, h4]) (by simp [CM.setR, upd])
  | a4 _ h1 h0 h2 h3 h4 h5 =>
    refine ⟨4, _, h1, by decide, hask, rfl, .inl ⟨_, .set 3 0 (by decide) (by decide), q, _, _, k0, _, h.getter ht (k' := 7 * (n - s) - 3) ?_ rfl hsays, mu_get hu (by omega)⟩⟩
    rw [hw]; exact .a5 s (by simp [h1]) h0 (by simp [CM.setR, upd, h2]) (by simp [CM.setR, upd, h3]) (by simp [CM.setR, upd, h4]) (by simp [CM.setR, upd, h5]) (by simp [CM.setR, upd])
  | a5 _ h1 h0 h2 h3 h4 h5 h7 =>
    refine ⟨5, _, h1, by decide, hask, rfl, .inl ⟨_, .sub 3 5 (by decide) (by decide) (by decide), q, _, _, k0, _, h.getter ht (k' := 7 * (n - s) - 4) ?_ rfl hsays, mu_get hu (by omega)⟩⟩
    rw [hw]; exact .a6 s (by simp [h1]) h0 (by simp [CM.setR, upd, h2]) (by simp [CM.setR, upd, h3]) (by simp [CM.setR, upd, h4]) (by simp [CM.setR, upd, h5]) (by simp [CM.setR, upd, h7, h4])
  | a6 _ h1 h0 h2 h3 h4 h5 h7 =>
    obtain ⟨m', x1, x3, x2⟩ := h.asksGet ht hw hans h0 rfl h2 h3 h4 rfl hu
    refine ⟨6, _, h1, by decide, hask, rfl, .inr ⟨_, m', .inl ⟨9, rfl, rfl⟩, ?_, x3, x2⟩⟩
    rw [h5, h7, w32_all]
    exact x1
  | a7 _ h1 h0 h2 h3 h4 h6 =>
    refine ⟨7, _, h1, by decide, hask, rfl, .inl ⟨_, .tell 1 (by decide) (by rw [hsays, nums_len]; omega), q, _, d + 1, k0, _, h.getter ht (d' := d + 1) (k' := 7 * (n - (d + 1)) + 1) ?_ rfl ?_, mu_get hu (by omega)⟩⟩
    · rw [hw]; exact .a8 (d + 1) (by simp [h1]) (by omega) (by simp [CM.tell, h2]) (by simp [CM.tell, h3]) (by simp [CM.tell, h4])
    · show (cs 1).says ++ [(cs 1).r 1 % 256] = _
      rw [hsays, h6, nums_snoc (Nat.zero_le d)]
      congr 2
      omega
  | a8 _ h1 h0 h2 h3 h4 =>
    refine ⟨8, _, h1, by decide, hask, rfl, .inl ⟨_, .other 6 4 (by decide) (by decide), ?_⟩⟩
    rw [h2, h3, h1]
    by_cases e : s = n
    · rw [if_pos (by rw [e])]
      refine ⟨q, s, s, k0, 0, h.getter ht (k' := 0) ?_ rfl hsays, mu_end⟩
      rw [hw, e]; exact .a9 rfl
    · rw [if_neg (by omega)]
      refine ⟨q, s, s, k0, _, h.getter ht (k' := 7 * (n - s)) ?_ rfl hsays, mu_get hu (by omega)⟩
      rw [hw]; exact .a2 s rfl (by omega) h2 h3 h4
  | a9 h1 =>
    refine ⟨9, _, h1, by decide, hask, rfl, .inl ⟨_, .go 9 (by decide), q, _, _, k0, 0, h.getter ht (k' := 0) ?_ rfl hsays, mu_end⟩⟩
    rw [hw]; exact .a9 rfl

/-- A step. -/
theorem J.step (h : J n most R m cs u) : ∃ (i : Nat) (t : TM) (r : Nat) (l' : List Int), i < 2 ∧ m.tk i = some t ∧ t.wait = false ∧ r < 32 ∧ m.ls r = (i : Int) :: l' ∧ (∀ j, r < j → j < 32 → m.ls j = []) ∧ Tail n most R m cs u i t := by
  obtain ⟨q, s, d, k0, k1, h, hu⟩ := h
  obtain ⟨i, t, r, l', hi, ht, hw, hr, _, hl, hn⟩ := h.ki.runs h.someone
  have h2 : i < 2 := by
    rcases Nat.lt_or_ge i 2 with x | x
    · exact x
    · rw [h.only i x] at ht; cases ht
  refine ⟨i, t, r, l', h2, ht, hw, hr, hl, hn, ?_⟩
  have hc : i = 0 ∨ i = 1 := by omega
  rcases hc with rfl | rfl
  · exact h.tailPut ht hw hu
  · exact h.tailGet ht hw hu
/-- At the end the getter said all. -/
theorem J.all (h : J n most R m cs 0) : (cs 1).says = nums 0 n := by
  obtain ⟨q, s, d, k0, k1, h, hu⟩ := h
  have hg := h.get
  cases e : m.tk 1 with
  | none => rw [e] at hg; exact hg.elim
  | some t =>
    rw [e] at hg
    have hk : k1 = 0 := by
      unfold mu at hu
      by_cases h1 : k1 = 0
      · exact h1
      · rw [if_neg h1] at hu; omega
    subst hk
    have hrng := h.rng
    rw [h.says]
    obtain ⟨g, _⟩ := hg
    generalize ek : 0 = z at g
    generalize t.wait = b at g
    cases g <;> first | rfl | omega
/-- A tick goes by. -/
theorem Put.ran {c : CM} {t : TM} {q k : Nat} (h : Put n c (some t) q k) (x : Int) : Put n c (some { t with ran := x }) q k := h
theorem Get.ran {c : CM} {t : TM} {s d k : Nat} (h : Get n c (some t) s d k) (x : Int) : Get n c (some { t with ran := x }) s d k := h
theorem J.tick (h : J n most R m cs u) {i : Nat} {t : TM} (ht : m.tk i = some t) (hw : t.wait = false) : J n most R (m.tick i t) cs u ∧ ∀ j t', (m.tick i t).tk j = some t' → t'.left ≤ 0 := by
  obtain ⟨q, s, d, k0, k1, h, hu⟩ := h
  obtain ⟨a1, a2, ⟨x, a3⟩, a4, a5, a6⟩ := h.ki.tick ht hw
  have hi : i < 2 := by
    rcases Nat.lt_or_ge i 2 with x | x
    · exact x
    · rw [h.only i x] at ht; cases ht
  have any : ∀ j t', (m.tick i t).tk j = some t' → ∃ t1 y, m.tk j = some t1 ∧ t' = { t1 with ran := y } := fun j t' e => by
    by_cases ej : j = i
    · subst ej
      rw [a3] at e
      cases e
      exact ⟨t, x, ht, rfl⟩
    · rw [a2 j ej] at e
      exact ⟨t', t'.ran, e, rfl⟩
  refine ⟨⟨q, s, d, k0, k1, ⟨a1, by rw [a5]; exact h.mst, fun j hj => by rw [a2 j (by omega)]; exact h.only j hj, ?_, ?_, by rw [a4]; exact h.row, h.le, fun t' e w => ?_, fun t' e w => ?_, h.says, h.rng⟩, hu⟩, fun j t' e => (a1.task j t' e).left⟩
  · by_cases e : i = 0
    · subst e
      rw [a3]
      have := h.put
      rw [ht] at this
      exact this.ran x
    · rw [a2 0 (fun e2 => e e2.symm)]; exact h.put
  · by_cases e : i = 1
    · subst e
      rw [a3]
      have := h.get
      rw [ht] at this
      exact this.ran x
    · rw [a2 1 (fun e2 => e e2.symm)]; exact h.get
  · obtain ⟨t1, y, e1, rfl⟩ := any 0 t' e
    exact h.full t1 e1 w
  · obtain ⟨t1, y, e1, rfl⟩ := any 1 t' e
    exact h.empty t1 e1 w
/-- At the start. -/
theorem J.start {t0 t1 : TM} (h : KI R m) (hm : m.most = most) (ho : ∀ i, 2 ≤ i → m.tk i = none) (e0 : m.tk 0 = some t0) (e1 : m.tk 1 = some t1) (w0 : t0.wait = false) (w1 : t1.wait = false) (a0 : t0.ans = 0) (a1 : t1.ans = 0) (hr : m.row = [])
    (p0 : (cs 0).pc = 0) (p1 : (cs 1).pc = 0) (r0 : (cs 0).r 6 = 0) (r1 : (cs 1).r 6 = 0) (s0 : (cs 0).asked = false) (s1 : (cs 1).asked = false) (hs : (cs 1).says = []) (hn : 1 ≤ n ∧ n ≤ 50 ∧ 1 ≤ most ∧ most ≤ 64) : J n most R m cs (14 * n + 5) := by
  refine ⟨0, 0, 0, 7 * n + 3, 7 * n + 2, ⟨h, hm, ho, ?_, ?_, by rw [hr, nums_nil], by omega, fun t e w => ?_, fun t e w => rfl, by rw [hs, nums_nil], hn⟩, ?_⟩
  · rw [e0]
    refine ⟨?_, by rw [s0, w0], a0, fun w => by rw [w0] at w; cases w⟩
    rw [w0]
    exact .a0 p0 r0
  · rw [e1]
    refine ⟨?_, by rw [s1, w1], a1, fun w => by rw [w1] at w; cases w⟩
    rw [w1]
    exact .a0 p1 r1
  · rw [e0] at e; cases e; rw [w0] at w; cases w
  · unfold mu
    rw [if_neg (by omega)]
    omega
end
end Go.Proofs.YtcngfaggignmpaaGreatDoor
