/-
  The top, part 7: Runs, Km, Ks.
-/
import Derived.Test.YtcngfaggignmpaaGreatDoorS02
import Derived.Test.YtcngfaggignmpaaGreatDoorS06
import Derived.RangeFuncFrom

/-
  The queue of those who may run: the first one.
-/
namespace Go.Proofs.YtcngfaggignmpaaGreatDoor
open Go.RowKit Go.Shelf
attribute [local go_sem] Oper.semAt_some

section
variable {w : World} {q : Nat} {ls : Nat → List Int} {rk : Nat → Int}
theorem RQ.low (h : RQ q ls rk w) (S : Nat → Prop) {w' : World} (g : Ch S w w') (hn : ∀ k, S k → k ≥ w.heap.size) : RQ q ls rk w' :=
  h.keeps g (fun k s hb => by
    have h0 := hn k s
    rcases hb with ⟨hb1, hb2⟩
    have := (h.rings 31 (by omega)).ltp
    omega)
end

set_option maxRecDepth 100000 in
set_option maxHeartbeats 4000000 in
theorem rqFirst_any (w : World) (q r : Nat) (ls : Nat → List Int) (rk : Nat → Int) (x : Int) (l : List Int) (h : RQ q ls rk w) (hr : r < 32) (hl : ls r = x :: l) (hn : ∀ j, r < j → j < 32 → ls j = []) :
    Calls Tryz.prog 60 #[.pointer (some ⟨q, 0, none⟩)] w fun e w' => e = .returned (.tuple #[.int .i64 x, .bool true]) ∧ Ch No w w' := by
  have HR := Lib.hid h
  have HL := Lib.hid hl
  obtain ⟨t, has, cs, h1⟩ := h.row
  have c1 := ((h1.row.alloc (.cells #[.int .i64 0] 3)).alloc (.cells #[.bool false] 4)).cell h1.word
  have hb1 : wb has r = true := by rw [h1.bits r hr, hl]; rfl
  have hb2 : ∀ j, r < j → j < 32 → wb has j = false := fun j h1' h2' => by rw [h1.bits j h2', hn j h1' h2']; rfl
  have HB1 := Lib.hid hb1
  have HB2 := Lib.hid hb2
  have HW := Lib.hid h1.w32
  clear h h1 hl hn hb1 hb2
  refine (callsIn_wide (n := 3)).1 ?_
  refine callsIn_of_wp_marks Tryz.func60 rfl trivial ?_ rfl
  simp only [Tryz.ntmps60, List.size_toArray, List.length_cons, List.length_nil, Nat.reduceAdd, Nat.reduceSub, Array.replicate_succ, Array.replicate_zero, List.push_toArray, List.append_toArray, List.nil_append, List.cons_append]
  gi_wp2_with fail
  refine ⟨trivial, (callsIn_wide.2 (rqThere_any _ q ls rk (HR.out.keeps (S := No) ((Ch.alloc w _).trans (Ch.alloc _ _)) (fun _ s => s.elim)))).mono ?_⟩; rintro e w1 ⟨rfl, rfl⟩
  gi_wp2_with fail
  refine ⟨trivial, (callsIn_wide.2 (ladFirst_any _ has r HW.out hr HB1.out HB2.out)).mono ?_⟩; rintro e w1 ⟨rfl, rfl⟩
  gi_wp2_with fail
  refine ⟨trivial, (callsIn_wide.2 (rqFrom_any _ q r)).mono ?_⟩; rintro e w1 ⟨rfl, rfl⟩
  gi_wp2_with fail
  have hsz : ((((w.alloc (.cells #[.int .i64 0] 3)).alloc (.cells #[.bool false] 4)).alloc (.cells #[.pointer (some ⟨q, 0, none⟩)] 92)).alloc (.cells #[.int .i64 r] 3)).heap.size = w.heap.size + 4 := by simp
  have hB0 : Below w.heap.size w ((((w.alloc (.cells #[.int .i64 0] 3)).alloc (.cells #[.bool false] 4)).alloc (.cells #[.pointer (some ⟨q, 0, none⟩)] 92)).alloc (.cells #[.int .i64 r] 3)) :=
    ((((Below.refl _ w).alloc (Nat.le_refl _) _).alloc (by simp) _).alloc (by simp; omega) _).alloc (by simp; omega) _
  have a1 := (((Row.new w 3 #[.int .i64 0]).alloc (.cells #[.bool false] 4)).alloc (.cells #[.pointer (some ⟨q, 0, none⟩)] 92)).alloc (.cells #[.int .i64 r] 3)
  have a2 := ((Row.new (w.alloc (.cells #[.int .i64 0] 3)) 4 #[.bool false]).alloc (.cells #[.pointer (some ⟨q, 0, none⟩)] 92)).alloc (.cells #[.int .i64 r] 3)
  have a3 := (Row.new ((w.alloc (.cells #[.int .i64 0] 3)).alloc (.cells #[.bool false] 4)) 92 #[.pointer (some ⟨q, 0, none⟩)]).alloc (.cells #[.int .i64 r] 3)
  have a4 := Row.new (((w.alloc (.cells #[.int .i64 0] 3)).alloc (.cells #[.bool false] 4)).alloc (.cells #[.pointer (some ⟨q, 0, none⟩)] 92)) 3 #[.int .i64 r]
  simp only [World.size_alloc] at a2 a3 a4
  obtain ⟨W0, hW0⟩ : ∃ W0, W0 = ((((w.alloc (.cells #[.int .i64 0] 3)).alloc (.cells #[.bool false] 4)).alloc (.cells #[.pointer (some ⟨q, 0, none⟩)] 92)).alloc (.cells #[.int .i64 r] 3)) := ⟨_, rfl⟩
  rw [← hW0] at hsz hB0 a1 a2 a3 a4 ⊢
  clear hW0 c1
  refine wpIn_rangeFunc_ownF rfl (by omega) (gf := 164) (lb := #[.pointer (some ⟨w.heap.size + 1 + 1, 0, none⟩), .pointer (some ⟨w.heap.size + 1 + 1 + 1, 0, none⟩)]) rfl trivial (enters_of Tryz.func164 (by kernel_rfl) rfl)
    (from_stops 2 (by omega) q r _ _ ls rk W0 hr (HR.out.keeps (S := No) (Ch.below hB0) (fun _ s => s.elim)) a3 a4) KC.trans (fun W l o o' _ ho hc _ => KC.putObj W l o o' ho hc) (Below.refl _ _) (fun _ => rfl)
    (fun pre W => (pre = [] ∧ W.cell? ⟨w.heap.size, 0, none⟩ = some (.int .i64 0) ∧ W.frozen? ⟨w.heap.size, 0, none⟩ = false ∧ W.cell? ⟨w.heap.size + 1, 0, none⟩ = some (.bool false) ∧ W.frozen? ⟨w.heap.size + 1, 0, none⟩ = false) ∧ Below w.heap.size w W)
    (fun c pre W => (c = .ret ∧ ∃ y, pre = [y] ∧ W.cell? ⟨w.heap.size, 0, none⟩ = some (.int .i64 y) ∧ W.cell? ⟨w.heap.size + 1, 0, none⟩ = some (.bool true)) ∧ Below w.heap.size w W)
    (OwnFrom.and (Own.from (fun s A B row hs hg hr => ⟨hs.1, cell_kept hs.2.1 hg hr, (frozen_kept hs.2.1 hg hr).trans hs.2.2.1, cell_kept hs.2.2.2.1 hg hr, (frozen_kept hs.2.2.2.1 hg hr).trans hs.2.2.2.2⟩) _) (ownFrom_below (Nat.le_refl _) (by omega)))
    (fun c => OwnFrom.and (Own.from (fun s A B row hs hg hr => ⟨hs.1, by obtain ⟨_, y, h1, h2, h3⟩ := hs; exact ⟨y, h1, cell_kept h2 hg hr, cell_kept h3 hg hr⟩⟩) _) (ownFrom_below (Nat.le_refl _) (by omega)))
    ⟨⟨rfl, a1.cell rfl, a1.free 0, a2.cell rfl, a2.free 0⟩, hB0⟩
    (fun y => { tmps := #[.pointer (some ⟨q, 0, none⟩), undef, .pointer (some ⟨w.heap.size, 0, none⟩), .pointer (some ⟨w.heap.size + 1, 0, none⟩), .int .i64 r, .bool true, .int .i64 y,
      .pointer (some ⟨q, 0, none⟩), .bool true, .bool false, .tuple #[.int .i64 r, .bool true], .pointer (some ⟨q, 0, none⟩), .pointer (some ⟨q, 0, none⟩), .pointer (some ⟨q, 0, none⟩), .int .u32 has,
      .tuple #[.int .i64 r, .bool true], .int .i64 r, .bool true, .bool true, .pointer (some ⟨q, 0, none⟩), .int .i64 r,
      .func (.func 164) #[] #[.pointer (some ⟨w.heap.size + 1 + 1, 0, none⟩), .pointer (some ⟨w.heap.size + 1 + 1 + 1, 0, none⟩)], .int .i64 y, undef], defers := [] }) ?assign ?body ?done ?stop
  case assign =>
    intro l x W K hK
    gi_wp2
    exact hK
  case body =>
    rintro l0 pre y W ⟨⟨rfl, h1, h2, h3, h4⟩, hB⟩ _
    gi_wp2
    have e1 : (W.setCell ⟨w.heap.size, 0, none⟩ (.int .i64 y)).cell? ⟨w.heap.size, 0, none⟩ = some (.int .i64 y) := World.cell?_setCell_same' _ _ _ (by rw [h1]; rfl)
    have e2 : (W.setCell ⟨w.heap.size, 0, none⟩ (.int .i64 y)).cell? ⟨w.heap.size + 1, 0, none⟩ = some (.bool false) := by
      rw [World.cell?_setCell_other _ _ _ _ (by simp)]; exact h3
    refine ⟨(KeepsOthers.setCell _ _ _).trans (KeepsOthers.setCell _ _ _), ⟨rfl, y, rfl, ?_, ?_⟩, (hB.setCell (p := ⟨w.heap.size, 0, none⟩) (by simp) _).setCell (p := ⟨w.heap.size + 1, 0, none⟩) (by simp) _⟩
    · rw [World.cell?_setCell_other _ _ _ _ (by simp)]; exact e1
    · exact World.cell?_setCell_same' _ _ _ (by rw [e2]; rfl)
  case done =>
    rintro D ys W hD rfl ⟨⟨hne, _⟩, hB⟩ hK
    rw [HL.out] at hne
    cases hne
  case stop =>
    rintro D c pre W hD hpre ⟨⟨rfl, y, rfl, hc1, hc2⟩, hB⟩ hK
    obtain ⟨l2, hl2⟩ := hpre
    rw [HL.out] at hl2
    cases hl2
    gi_wp2
    refine ⟨by simp, .inl ⟨_, _, rfl, run_takeDeferred hK, ?_⟩⟩
    have k1 := cell_kept hc1 (grownBy_putObj' _ D (.deferred none)) (fun r e => by cases e; exact ⟨_, hK, rfl⟩)
    have k2 := cell_kept hc2 (grownBy_putObj' _ D (.deferred none)) (fun r e => by cases e; exact ⟨_, hK, rfl⟩)
    refine ⟨.tuple #[.int .i64 x, .bool true], ?_, rfl, Ch.below (hB.trans (belowK_b (w := w) (Nat.le_refl _) W D _ _ (by omega) hK rfl rfl))⟩
    simp [results, Tryz.f60, go_sem, k1, k2]
end Go.Proofs.YtcngfaggignmpaaGreatDoor

/-
  The kernel as plain numbers and lists: what its functions make of it. No program in sight.
-/
namespace Go.Proofs.YtcngfaggignmpaaGreatDoor
open Go.RowKit

/-- A task, as it is. -/
structure TM where
  rank : Nat
  wait : Bool
  what : Int
  hh : Int
  v : Int
  mm : Int
  wt : Int
  left : Int
  ans : Int
  last : Int
  val : Int
  on : Bool
  ran : Int

/-- The kernel, as it is: one thing, a row; at most one waits for it. -/
structure KM where
  slice : Int
  now : Int
  age : Nat → Int
  used : Nat → Bool
  tk : Nat → Option TM
  ls : Nat → List Int
  rk : Nat → Int
  most : Nat
  row : List Int
  wl : Option (Nat × Nat)
  sl : List (Nat × Int)

namespace KM
/-- One goes out of those who may run. -/
def rm (m : KM) (i : Nat) : KM :=
  if m.rk i = 0 then m else { m with ls := upd m.ls (m.rk i - 1).toNat ((m.ls (m.rk i - 1).toNat).erase (i : Int)), rk := upd m.rk i 0 }
/-- One comes to those who may run, as the last one of a rank. -/
def put (m : KM) (i r : Nat) : KM := { m with ls := upd m.ls r (m.ls r ++ [(i : Int)]), rk := upd m.rk i (r + 1) }
/-- A task turns. -/
def setT (m : KM) (i : Nat) (t : TM) : KM := { m with tk := upd m.tk i (some t) }
/-- A task is the last one of its rank. -/
def joins (m : KM) (i : Nat) (t : TM) : KM := ((m.rm i).put i t.rank).setT i { t with ran := 0 }
/-- A task that waits for nothing. -/
def cut (t : TM) : TM := { t with on := false, what := 0, hh := 0, v := 0, mm := 0, wt := 0, left := 0 }
/-- Nobody waits any more, if somebody did. -/
def noWait (m : KM) (b : Bool) : KM := { m with wl := if b then none else m.wl }
/-- A task runs no more, and waits no more. -/
def stops (m : KM) (i : Nat) (t : TM) : KM := ((m.noWait t.on).rm i).setT i (cut t)
/-- A task is answered. -/
def told (t : TM) (e v : Int) : TM := { t with ans := t.ans + 1, last := e, val := v }
def freed (t : TM) : TM := { cut t with wait := false }
def answers (m : KM) (i : Nat) (t : TM) (e v : Int) : KM :=
  if t.wait then (((m.setT i (told t e v)).stops i (told t e v)).setT i (freed (told t e v))).joins i (freed (told t e v)) else m.setT i (told t e v)
end KM
end Go.Proofs.YtcngfaggignmpaaGreatDoor

/-
  The kernel in memory: which block holds what; how it turns where one part turns.
-/
namespace Go.Proofs.YtcngfaggignmpaaGreatDoor
open Go.RowKit

/-- A task's cells. -/
def tcells (i : Nat) (t : TM) (U : Nat) : Array Value :=
  #[.int .u32 (256 + i), .int .u8 (if t.wait then 2 else 1), .bool false, .int .i64 t.rank, .int .i64 t.rank, .int .u8 t.what, .int .u32 t.hh, .int .u32 t.v, .int .u32 t.mm, .int .i64 t.wt,
    .int .i64 t.left, .int .i64 t.ans, .int .i64 t.last, .int .u32 t.val, .pointer (if t.on then some ⟨U + 2, 0, none⟩ else none), .int .i64 t.ran]
/-- Where a task lies, if there is one. -/
def tptr (tb : Nat → Nat) (m : KM) (i : Nat) : Option Addr := (m.tk i).map (fun _ => ⟨tb i, 0, none⟩)
/-- The kernel's own cells. -/
structure KB (B U : Nat) (tb : Nat → Nat) (m : KM) (cs : Array Value) : Prop where
  size : cs.size = 55
  slice : cs[0]? = some (.int .i64 m.slice)
  now : cs[1]? = some (.int .u32 m.now)
  th : cs[2]? = some (.pointer (some ⟨B + 70, 0, none⟩))
  oh : cs[3]? = some (.pointer (some ⟨B + 71, 0, none⟩))
  task : ∀ i, i < 16 → cs[4 + i]? = some (.pointer (tptr tb m i))
  thing : ∀ i, i < 32 → cs[20 + i]? = some (.pointer (if i = 0 then some ⟨U + 2, 0, none⟩ else none))
  ready : cs[52]? = some (.pointer (some ⟨B, 0, none⟩))
  sleeps : cs[53]? = some (.pointer (some ⟨B + 65, 0, none⟩))
  alarms : cs[54]? = some (.pointer (some ⟨B + 68, 0, none⟩))
def oage : Nat → Int := fun k => if k = 0 then 1 else 0
def oused : Nat → Bool := fun k => k == 0
/-- The kernel in memory. -/
structure KS (B T U : Nat) (tb : Nat → Nat) (m : KM) (w : World) : Prop where
  lay1 : B + 75 ≤ T
  lay2 : T + 3 ≤ U
  lay3 : ∀ i, i < 16 → U + 3 ≤ tb i
  lay4 : ∀ i j, i < 16 → j < 16 → tb i = tb j → i = j
  kern : ∃ cs, Row (B + 69) 96 cs w ∧ KB B U tb m cs
  th : HT (B + 70) 16 m.age m.used w
  oh : HT (B + 71) 32 oage oused w
  ready : RQ B m.ls m.rk w
  sleeps : DL (B + 65) (U + 3) m.sl w
  alarms : AL (B + 66) w
  thing : Row (U + 2) 102 #[.int .u32 256, .int .u8 3, .int .u32 m.most, .int .u32 0, .pointer (some ⟨T, 0, none⟩), .pointer (some ⟨U + 1, 0, none⟩)] w
  obj : TH T m.most m.row w
  wait : WQ U (U + 3) m.wl w
  task : ∀ i t, i < 16 → m.tk i = some t → Row (tb i) 127 (tcells i t U) w

/-- The blocks that the kernel's calls turn. -/
def Sk (B T U : Nat) (w : World) : Nat → Prop := fun k => (B ≤ k ∧ k < U + 3 ∧ (k < B + 72 ∨ T ≤ k)) ∨ (U + 3 ≤ k ∧ ∃ ty cs, Row k ty cs w ∧ (ty = 127 ∨ ty = 289))
theorem Sk.back {B T U : Nat} {w w1 : World} (h : Ch (Sk B T U w) w w1) {k : Nat} (hk : k < w.heap.size) (s : Sk B T U w1 k) : Sk B T U w k := by
  by_cases hs : Sk B T U w k
  · exact hs
  · rcases s with s | ⟨hl, ty, cs, r, ht⟩
    · exact .inl s
    · exact .inr ⟨hl, ty, cs, by have := h.block k hk hs; exact this.symm.trans r, ht⟩
theorem Ch.tr {B T U : Nat} {w w1 w2 : World} (h : Ch (Sk B T U w) w w1) (g : Ch (Sk B T U w1) w1 w2) : Ch (Sk B T U w) w w2 :=
  h.trans' g (fun _ hk s => Sk.back h hk s)

section
variable {B T U : Nat} {tb : Nat → Nat} {m : KM} {w w' : World} {S : Nat → Prop}
/-- All stays where none of its blocks turns. -/
theorem KS.keeps (h : KS B T U tb m w) (g : Ch S w w') (h1 : ∀ k, S k → U + 3 ≤ k) (h2 : ∀ k cs t, S k → Row k t cs w → t ≠ 127 ∧ t ≠ 182 ∧ t ≠ 289) : KS B T U tb m w' := by
  have l1 := h.lay1
  have l2 := h.lay2
  have no : ∀ k, k < U + 3 → ¬ S k := fun k hk s => by have := h1 k s; omega
  refine ⟨h.lay1, h.lay2, h.lay3, h.lay4, ?_, h.th.keeps g (no _ (by omega)), h.oh.keeps g (no _ (by omega)), h.ready.keeps g (fun k s hb => no k (by simp only [Rqb] at hb; omega) s), ?_, h.alarms.keeps g (no _ (by omega)) (no _ (by omega)),
    h.thing.keeps g (no _ (by omega)), h.obj.keeps g (no _ (by omega)) (no _ (by omega)) (no _ (by omega)), h.wait.keeps g (no _ (by omega)) (no _ (by omega)) (fun k cs _ r s => (h2 k cs _ s r).2.1 rfl), fun i t hi ht => ?_⟩
  · obtain ⟨cs, r, k⟩ := h.kern
    exact ⟨cs, r.keeps g (no _ (by omega)), k⟩
  · exact h.sleeps.keeps g (no _ (by omega)) (fun k cs _ r s => (h2 k cs _ s r).2.2 rfl)
  · exact (h.task i t hi ht).keeps g (fun s => (h2 _ _ _ s (h.task i t hi ht)).1 rfl)
theorem KS.no (h : KS B T U tb m w) (g : Ch No w w') : KS B T U tb m w' := h.keeps g (fun _ s => s.elim) (fun _ _ _ s => s.elim)
theorem KS.drewN (h : KS B T U tb m w) (n : Nat) : KS B T U tb m (w.drewN n) := h.no (Ch.drewN w n)
theorem Ch.ofNo (B T U : Nat) (g : Ch No w w') : Ch (Sk B T U w) w w' := g.mono (fun _ _ s => s.elim)

theorem KS.tneq (h : KS B T U tb m w) {i : Nat} {t : TM} (hi : i < 16) (ht : m.tk i = some t) {k : Nat} {ty : TypeId} {cs : Array Value} (r : Row k ty cs w) (hn : ty ≠ 127) : k ≠ tb i := r.ne (h.task i t hi ht) hn

/-- Those who may run turn. -/
theorem KS.ready' (h : KS B T U tb m w) (g : Ch (Rqb B) w w') {ls : Nat → List Int} {rk : Nat → Int} (hr : RQ B ls rk w') : KS B T U tb { m with ls := ls, rk := rk } w' ∧ Ch (Sk B T U w) w w' := by
  have l1 := h.lay1
  have l2 := h.lay2
  have no : ∀ k, ¬ (B ≤ k ∧ k < B + 65) → ¬ Rqb B k := fun k hk s => hk s
  exact ⟨⟨h.lay1,
    h.lay2,
    h.lay3,
    h.lay4,
    by obtain ⟨cs, r, k⟩ := h.kern; exact ⟨cs, r.keeps g (no _ (by omega)), ⟨k.size, k.slice, k.now, k.th, k.oh, k.task, k.thing, k.ready, k.sleeps, k.alarms⟩⟩,
    h.th.keeps g (no _ (by omega)),
    h.oh.keeps g (no _ (by omega)),
    hr,
    h.sleeps.keeps g (no _ (by omega)) (fun k cs hk _ => no k (by omega)),
    h.alarms.keeps g (no _ (by omega)) (no _ (by omega)),
    h.thing.keeps g (no _ (by omega)),
    h.obj.keeps g (no _ (by omega)) (no _ (by omega)) (no _ (by omega)),
    h.wait.keeps g (no _ (by omega)) (no _ (by omega)) (fun k cs hk _ => no k (by omega)),
    fun i t hi ht => (h.task i t hi ht).keeps g (no _ (by have := h.lay3 i hi; omega))⟩, g.mono (fun k _ s => .inl (by simp only [Rqb] at s; omega))⟩
/-- Who waits turns. -/
theorem KS.wait' (h : KS B T U tb m w) (g : Ch (fun k => k = U) w w') {o : Option (Nat × Nat)} (hr : WQ U (U + 3) o w') : KS B T U tb { m with wl := o } w' ∧ Ch (Sk B T U w) w w' := by
  have l1 := h.lay1
  have l2 := h.lay2
  have no : ∀ k, k ≠ U → ¬ (k = U) := fun k hk s => hk s
  exact ⟨⟨h.lay1,
    h.lay2,
    h.lay3,
    h.lay4,
    by obtain ⟨cs, r, k⟩ := h.kern; exact ⟨cs, r.keeps g (no _ (by omega)), ⟨k.size, k.slice, k.now, k.th, k.oh, k.task, k.thing, k.ready, k.sleeps, k.alarms⟩⟩,
    h.th.keeps g (no _ (by omega)),
    h.oh.keeps g (no _ (by omega)),
    h.ready.keeps g (fun k s hb => no k (by simp only [Rqb] at hb; omega) s),
    h.sleeps.keeps g (no _ (by omega)) (fun k cs hk _ => no k (by omega)),
    h.alarms.keeps g (no _ (by omega)) (no _ (by omega)),
    h.thing.keeps g (no _ (by omega)),
    h.obj.keeps g (no _ (by omega)) (no _ (by omega)) (no _ (by omega)),
    hr,
    fun i t hi ht => (h.task i t hi ht).keeps g (no _ (by have := h.lay3 i hi; omega))⟩, g.mono (fun k _ s => .inl (by omega))⟩
/-- What is in the row turns. -/
theorem KS.obj' (h : KS B T U tb m w) (g : Ch (fun k => k = T + 1) w w') {l : List Int} (hr : TH T m.most l w') : KS B T U tb { m with row := l } w' ∧ Ch (Sk B T U w) w w' := by
  have l1 := h.lay1
  have l2 := h.lay2
  have no : ∀ k, k ≠ (T + 1) → ¬ (k = (T + 1)) := fun k hk s => hk s
  exact ⟨⟨h.lay1,
    h.lay2,
    h.lay3,
    h.lay4,
    by obtain ⟨cs, r, k⟩ := h.kern; exact ⟨cs, r.keeps g (no _ (by omega)), ⟨k.size, k.slice, k.now, k.th, k.oh, k.task, k.thing, k.ready, k.sleeps, k.alarms⟩⟩,
    h.th.keeps g (no _ (by omega)),
    h.oh.keeps g (no _ (by omega)),
    h.ready.keeps g (fun k s hb => no k (by simp only [Rqb] at hb; omega) s),
    h.sleeps.keeps g (no _ (by omega)) (fun k cs hk _ => no k (by omega)),
    h.alarms.keeps g (no _ (by omega)) (no _ (by omega)),
    h.thing.keeps g (no _ (by omega)),
    hr,
    h.wait.keeps g (no _ (by omega)) (no _ (by omega)) (fun k cs hk _ => no k (by omega)),
    fun i t hi ht => (h.task i t hi ht).keeps g (no _ (by have := h.lay3 i hi; omega))⟩, g.mono (fun k _ s => .inl (by omega))⟩
/-- The handles of tasks turn. -/
theorem KS.th' (h : KS B T U tb m w) (g : Ch (fun k => k = B + 70) w w') {age : Nat → Int} {used : Nat → Bool} (hr : HT (B + 70) 16 age used w') : KS B T U tb { m with age := age, used := used } w' ∧ Ch (Sk B T U w) w w' := by
  have l1 := h.lay1
  have l2 := h.lay2
  have no : ∀ k, k ≠ (B + 70) → ¬ (k = (B + 70)) := fun k hk s => hk s
  exact ⟨⟨h.lay1,
    h.lay2,
    h.lay3,
    h.lay4,
    by obtain ⟨cs, r, k⟩ := h.kern; exact ⟨cs, r.keeps g (no _ (by omega)), ⟨k.size, k.slice, k.now, k.th, k.oh, k.task, k.thing, k.ready, k.sleeps, k.alarms⟩⟩,
    hr,
    h.oh.keeps g (no _ (by omega)),
    h.ready.keeps g (fun k s hb => no k (by simp only [Rqb] at hb; omega) s),
    h.sleeps.keeps g (no _ (by omega)) (fun k cs hk _ => no k (by omega)),
    h.alarms.keeps g (no _ (by omega)) (no _ (by omega)),
    h.thing.keeps g (no _ (by omega)),
    h.obj.keeps g (no _ (by omega)) (no _ (by omega)) (no _ (by omega)),
    h.wait.keeps g (no _ (by omega)) (no _ (by omega)) (fun k cs hk _ => no k (by omega)),
    fun i t hi ht => (h.task i t hi ht).keeps g (no _ (by have := h.lay3 i hi; omega))⟩, g.mono (fun k _ s => .inl (by omega))⟩
/-- A task turns. -/
theorem KS.task' {i : Nat} (h : KS B T U tb m w) (g : Ch (fun k => k = tb i) w w') {t t' : TM} (hi : i < 16) (ht : m.tk i = some t) (hr : Row (tb i) 127 (tcells i t' U) w') : KS B T U tb (m.setT i t') w' ∧ Ch (Sk B T U w) w w' := by
  have l1 := h.lay1
  have l2 := h.lay2
  have l3 := h.lay3 i hi
  have hp : ∀ j, tptr tb m j = tptr tb (m.setT i t') j := fun j => by
    unfold tptr KM.setT
    by_cases e : j = i
    · subst e; simp [upd_at, ht]
    · simp [upd_ne _ _ e]
  have no : ∀ k, k < U + 3 → ¬ (k = tb i) := fun k hk s => by omega
  exact ⟨⟨h.lay1,
    h.lay2,
    h.lay3,
    h.lay4,
    by obtain ⟨cs, r, k⟩ := h.kern; exact ⟨cs, r.keeps g (no _ (by omega)), ⟨k.size, k.slice, k.now, k.th, k.oh, fun j hj => by rw [k.task j hj, hp j], k.thing, k.ready, k.sleeps, k.alarms⟩⟩,
    h.th.keeps g (no _ (by omega)),
    h.oh.keeps g (no _ (by omega)),
    h.ready.keeps g (fun k s hb => no k (by simp only [Rqb] at hb; omega) s),
    h.sleeps.keeps g (no _ (by omega)) (fun k cs _ r => r.ne (h.task i t hi ht) (by decide)),
    h.alarms.keeps g (no _ (by omega)) (no _ (by omega)),
    h.thing.keeps g (no _ (by omega)),
    h.obj.keeps g (no _ (by omega)) (no _ (by omega)) (no _ (by omega)),
    h.wait.keeps g (no _ (by omega)) (no _ (by omega)) (fun k cs _ r => r.ne (h.task i t hi ht) (by decide)),
    fun j u hj hu => by
      by_cases e : j = i
      · subst e
        rw [show (m.setT j t').tk j = some t' from upd_at _ _ _] at hu
        cases hu
        exact hr
      · rw [show (m.setT i t').tk j = m.tk j from upd_ne _ _ e] at hu
        exact (h.task j u hj hu).keeps g (fun e2 => e (h.lay4 j i hj hi e2))⟩, g.mono (fun k _ s => .inr ⟨by omega, 127, tcells i t U, by rw [s]; exact h.task i t hi ht, .inl rfl⟩)⟩
/-- The kernel's own cells turn: the tick, or a task that is no more. -/
theorem KS.kern' (h : KS B T U tb m w) (g : Ch (fun k => k = B + 69) w w') {now : Int} {tk : Nat → Option TM} {cs : Array Value} (hsub : ∀ j u, tk j = some u → m.tk j = some u) (hr : Row (B + 69) 96 cs w') (hk : KB B U tb { m with now := now, tk := tk } cs) : KS B T U tb { m with now := now, tk := tk } w' ∧ Ch (Sk B T U w) w w' := by
  have l1 := h.lay1
  have l2 := h.lay2
  have no : ∀ k, k ≠ (B + 69) → ¬ (k = (B + 69)) := fun k hk s => hk s
  exact ⟨⟨h.lay1,
    h.lay2,
    h.lay3,
    h.lay4,
    ⟨_, hr, hk⟩,
    h.th.keeps g (no _ (by omega)),
    h.oh.keeps g (no _ (by omega)),
    h.ready.keeps g (fun k s hb => no k (by simp only [Rqb] at hb; omega) s),
    h.sleeps.keeps g (no _ (by omega)) (fun k cs hk _ => no k (by omega)),
    h.alarms.keeps g (no _ (by omega)) (no _ (by omega)),
    h.thing.keeps g (no _ (by omega)),
    h.obj.keeps g (no _ (by omega)) (no _ (by omega)) (no _ (by omega)),
    h.wait.keeps g (no _ (by omega)) (no _ (by omega)) (fun k cs hk _ => no k (by omega)),
    fun j u hj hu => (h.task j u hj (hsub j u hu)).keeps g (no _ (by have := h.lay3 j hj; omega))⟩, g.mono (fun k _ s => .inl (by omega))⟩

/-- Those who sleep turn. -/
theorem KS.sleeps' (h : KS B T U tb m w) (g : Ch (fun k => k = B + 65 ∨ (U + 3 ≤ k ∧ ∃ cs, Row k 289 cs w)) w w') {l : List (Nat × Int)} (hr : DL (B + 65) (U + 3) l w') : KS B T U tb { m with sl := l } w' ∧ Ch (Sk B T U w) w w' := by
  have l1 := h.lay1
  have l2 := h.lay2
  have no : ∀ k, k < U + 3 → k ≠ B + 65 → ¬ (k = B + 65 ∨ (U + 3 ≤ k ∧ ∃ cs, Row k 289 cs w)) := fun k hk hn s => by
    rcases s with s | ⟨s, _⟩
    · exact hn s
    · omega
  have nt : ∀ k ty cs, U + 3 ≤ k → Row k ty cs w → ty ≠ 289 → ¬ (k = B + 65 ∨ (U + 3 ≤ k ∧ ∃ cs, Row k 289 cs w)) := fun k ty cs hk r hn s => by
    rcases s with s | ⟨_, cs', r'⟩
    · omega
    · exact absurd rfl (Row.ne r r' hn)
  exact ⟨⟨h.lay1,
    h.lay2,
    h.lay3,
    h.lay4,
    by obtain ⟨cs, r, k⟩ := h.kern; exact ⟨cs, r.keeps g (no _ (by omega) (by omega)), ⟨k.size, k.slice, k.now, k.th, k.oh, k.task, k.thing, k.ready, k.sleeps, k.alarms⟩⟩,
    h.th.keeps g (no _ (by omega) (by omega)),
    h.oh.keeps g (no _ (by omega) (by omega)),
    h.ready.keeps g (fun k s hb => no k (by simp only [Rqb] at hb; omega) (by simp only [Rqb] at hb; omega) s),
    hr,
    h.alarms.keeps g (no _ (by omega) (by omega)) (no _ (by omega) (by omega)),
    h.thing.keeps g (no _ (by omega) (by omega)),
    h.obj.keeps g (no _ (by omega) (by omega)) (no _ (by omega) (by omega)) (no _ (by omega) (by omega)),
    h.wait.keeps g (no _ (by omega) (by omega)) (no _ (by omega) (by omega)) (fun k cs hk r => nt k _ cs (by omega) r (by decide)),
    fun i t hi ht => (h.task i t hi ht).keeps g (nt _ _ _ (by have := h.lay3 i hi; omega) (h.task i t hi ht) (by decide))⟩, g.mono (fun k _ s => by
      rcases s with s | ⟨s, cs, r⟩
      · exact .inl (by omega)
      · exact .inr ⟨s, 289, cs, r, .inr rfl⟩)⟩

theorem KS.cReady (h : KS B T U tb m w) : w.cell? ⟨B + 69, 52, none⟩ = some (.pointer (some ⟨B, 0, none⟩)) := by obtain ⟨cs, r, k⟩ := h.kern; exact r.cell k.ready
theorem KS.cSleeps (h : KS B T U tb m w) : w.cell? ⟨B + 69, 53, none⟩ = some (.pointer (some ⟨B + 65, 0, none⟩)) := by obtain ⟨cs, r, k⟩ := h.kern; exact r.cell k.sleeps
theorem KS.cAlarms (h : KS B T U tb m w) : w.cell? ⟨B + 69, 54, none⟩ = some (.pointer (some ⟨B + 68, 0, none⟩)) := by obtain ⟨cs, r, k⟩ := h.kern; exact r.cell k.alarms
theorem KS.cTh (h : KS B T U tb m w) : w.cell? ⟨B + 69, 2, none⟩ = some (.pointer (some ⟨B + 70, 0, none⟩)) := by obtain ⟨cs, r, k⟩ := h.kern; exact r.cell k.th
theorem KS.cOh (h : KS B T U tb m w) : w.cell? ⟨B + 69, 3, none⟩ = some (.pointer (some ⟨B + 71, 0, none⟩)) := by obtain ⟨cs, r, k⟩ := h.kern; exact r.cell k.oh
theorem KS.cNow (h : KS B T U tb m w) : w.cell? ⟨B + 69, 1, none⟩ = some (.int .u32 m.now) := by obtain ⟨cs, r, k⟩ := h.kern; exact r.cell k.now
theorem KS.cSlice (h : KS B T U tb m w) : w.cell? ⟨B + 69, 0, none⟩ = some (.int .i64 m.slice) := by obtain ⟨cs, r, k⟩ := h.kern; exact r.cell k.slice
theorem KS.cThing (h : KS B T U tb m w) : w.cell? ⟨B + 69, 20, none⟩ = some (.pointer (some ⟨U + 2, 0, none⟩)) := by obtain ⟨cs, r, k⟩ := h.kern; exact r.cell (k.thing 0 (by omega))
theorem KS.cTask (h : KS B T U tb m w) {i : Nat} {t : TM} (hi : i < 16) (ht : m.tk i = some t) : w.cell? ⟨B + 69, 4 + i, none⟩ = some (.pointer (some ⟨tb i, 0, none⟩)) := by
  obtain ⟨cs, r, k⟩ := h.kern
  have := k.task i hi
  unfold tptr at this
  rw [ht] at this
  exact r.cell this
theorem KS.tCell (h : KS B T U tb m w) {i : Nat} {t : TM} (hi : i < 16) (ht : m.tk i = some t) {j : Nat} {v : Value} (hj : (tcells i t U)[j]? = some v) : w.cell? ⟨tb i, j, none⟩ = some v := (h.task i t hi ht).cell hj
theorem KS.tFree (h : KS B T U tb m w) {i : Nat} {t : TM} (hi : i < 16) (ht : m.tk i = some t) (j : Nat) : w.frozen? ⟨tb i, j, none⟩ = false := (h.task i t hi ht).free j
theorem KS.kFree (h : KS B T U tb m w) (j : Nat) : w.frozen? ⟨B + 69, j, none⟩ = false := by obtain ⟨cs, r, k⟩ := h.kern; exact r.free j
end
end Go.Proofs.YtcngfaggignmpaaGreatDoor
