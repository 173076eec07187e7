/-
  The top, part 22: TaskNew, TaskList.
-/
import Derived.Test.YtcngfaggignmpaaGreatDoorG12
import Derived.Test.YtcngfaggignmpaaGreatDoorG21

/-
  The kernel: a new task.
-/
namespace Go.Proofs.YtcngfaggignmpaaGreatDoor
open Go.RowKit

/-- A new task of a rank. -/
def tm0 (r : Nat) : TM := ⟨r, false, 0, 0, 0, 0, 0, 0, 0, 0, 0, false, 0⟩
/-- Where the tasks lie, with a new one. -/
def tb2 (tb : Nat → Nat) (m : KM) (i nb : Nat) : Nat → Nat := fun j => if j = i then nb else if (m.tk j).isSome then tb j else nb + 1 + j
namespace KM
def aged (m : KM) (i : Nat) : KM := { m with age := upd m.age i 1, used := upd m.used i true }
/-- A new task. -/
def task (m : KM) (i r : Nat) : KM := ((m.aged i).setT i (tm0 r)).joins i (tm0 r)
end KM

section
variable {B T U : Nat} {tb : Nat → Nat} {m : KM} {w : World} {i r : Nat}
theorem KS.room (h : KS B T U tb m w) : U + 3 ≤ w.heap.size := h.wait.2.2.1
theorem KS.made (h : KS B T U tb m w) (hi : i < 16) (hn : m.tk i = none) (t0 : TM) :
    KS B T U (tb2 tb m i w.heap.size) (m.setT i t0) ((w.alloc (.cells (tcells i t0 U) 127)).setCell ⟨B + 69, 4 + i, none⟩ (.pointer (some ⟨w.heap.size, 0, none⟩))) ∧
      Ch (Sk B T U w) w ((w.alloc (.cells (tcells i t0 U) 127)).setCell ⟨B + 69, 4 + i, none⟩ (.pointer (some ⟨w.heap.size, 0, none⟩))) := by
  have hroom := h.room
  have l1 := h.lay1
  have l2 := h.lay2
  have g1 : Ch No w (w.alloc (.cells (tcells i t0 U) 127)) := Ch.alloc w _
  have h1 := h.no g1
  have rn := Row.new w 127 (tcells i t0 U)
  have hl : ∀ j u, j < 16 → m.tk j = some u → tb j < w.heap.size := fun j u hj hu => (h.task j u hj hu).lt
  obtain ⟨W1, hW1⟩ : ∃ W1, W1 = w.alloc (.cells (tcells i t0 U) 127) := ⟨_, rfl⟩
  rw [← hW1] at g1 h1 rn ⊢
  obtain ⟨nb, hnb⟩ : ∃ nb, nb = w.heap.size := ⟨_, rfl⟩
  rw [← hnb] at rn hl hroom ⊢
  have g2 := Ch.set1 W1 (B + 69) (4 + i) (.pointer (some ⟨nb, 0, none⟩))
  have e1 : ∀ j, j ≠ i → (m.setT i t0).tk j = m.tk j := fun j e => upd_ne _ _ e
  have e2 : (m.setT i t0).tk i = some t0 := upd_at _ _ _
  have b1 : ∀ j u, j ≠ i → m.tk j = some u → tb2 tb m i nb j = tb j := fun j u e hu => by unfold tb2; rw [if_neg e, hu]; rfl
  have b2 : tb2 tb m i nb i = nb := by unfold tb2; rw [if_pos rfl]
  have no : ∀ k, k ≠ (B + 69) → ¬ (k = (B + 69)) := fun k hk s => hk s
  have hw : ∀ j, j < 16 → U + 3 ≤ tb2 tb m i nb j := fun j hj => by
    unfold tb2
    split
    · exact hroom
    · split
      · exact h.lay3 j hj
      · omega
  refine ⟨⟨h.lay1, h.lay2, hw, fun j k hj hk e => ?_, ?_, h1.th.keeps g2 (no _ (by omega)), h1.oh.keeps g2 (no _ (by omega)), h1.ready.keeps g2 (fun k s hb => by simp only [Rqb] at hb; omega), h1.sleeps.keeps g2 (no _ (by omega)) (fun k cs hk _ => no k (by omega)), h1.alarms.keeps g2 (no _ (by omega)) (no _ (by omega)),
    h1.thing.keeps g2 (no _ (by omega)), h1.obj.keeps g2 (no _ (by omega)) (no _ (by omega)) (no _ (by omega)), h1.wait.keeps g2 (no _ (by omega)) (no _ (by omega)) (fun k cs hk _ => no k (by omega)), fun j u hj hu => ?_⟩, (g1.mono (fun _ _ e => e.elim)).trans (g2.mono (fun k _ e => .inl (by omega)))⟩
  · -- injective
    unfold tb2 at e
    by_cases ej : j = i
    · rw [if_pos ej] at e
      by_cases ek : k = i
      · rw [ej, ek]
      · rw [if_neg ek] at e
        cases hk2 : m.tk k with
        | none => rw [hk2] at e; simp at e; omega
        | some u => rw [hk2] at e; simp at e; have := hl k u hk hk2; omega
    · rw [if_neg ej] at e
      by_cases ek : k = i
      · rw [if_pos ek] at e
        cases hj2 : m.tk j with
        | none => rw [hj2] at e; simp at e; omega
        | some u => rw [hj2] at e; simp at e; have := hl j u hj hj2; omega
      · rw [if_neg ek] at e
        cases hj2 : m.tk j with
        | none =>
          rw [hj2] at e
          cases hk2 : m.tk k with
          | none => rw [hk2] at e; simp at e; omega
          | some u => rw [hk2] at e; simp at e; have := hl k u hk hk2; omega
        | some v =>
          rw [hj2] at e
          cases hk2 : m.tk k with
          | none => rw [hk2] at e; simp at e; have := hl j v hj hj2; omega
          | some u => rw [hk2] at e; simp at e; exact h.lay4 j k hj hk e
  · obtain ⟨cs, r, k⟩ := h1.kern
    have hs := k.size
    have e : ∀ (j : Nat), j ≠ 4 + i → (cs.setIfInBounds (4 + i) (.pointer (some ⟨nb, 0, none⟩)))[j]? = cs[j]? := fun j hj => by rw [set_get (by omega), if_neg (fun e => hj e.symm)]
    refine ⟨_, r.set (4 + i) _, ⟨by simp [hs], ?_, ?_, ?_, ?_, fun j hj => ?_, fun j hj => ?_, ?_, ?_, ?_⟩⟩
    · rw [e 0 (by omega)]; exact k.slice
    · rw [e 1 (by omega)]; exact k.now
    · rw [e 2 (by omega)]; exact k.th
    · rw [e 3 (by omega)]; exact k.oh
    · by_cases ej : j = i
      · subst ej
        rw [set_get (by omega), if_pos rfl]
        unfold tptr
        rw [e2, b2]
        rfl
      · rw [e _ (by omega), k.task j hj]
        unfold tptr
        rw [e1 j ej]
        cases hu : m.tk j with
        | none => rfl
        | some u => rw [b1 j u ej hu]
    · rw [e _ (by omega)]; exact k.thing j hj
    · rw [e _ (by omega)]; exact k.ready
    · rw [e _ (by omega)]; exact k.sleeps
    · rw [e _ (by omega)]; exact k.alarms
  · by_cases ej : j = i
    · subst ej
      rw [e2] at hu
      cases hu
      rw [b2]
      exact rn.keeps g2 (no _ (by omega))
    · rw [e1 j ej] at hu
      rw [b1 j u ej hu]
      exact (h1.task j u hj hu).keeps g2 (no _ (by have := h.lay3 j hj; omega))

set_option maxRecDepth 100000 in
set_option maxHeartbeats 4000000 in
theorem task_any (h : KS B T U tb m w) (hc : Cons m) (hi : i < 16) (hn : m.tk i = none) (hag : m.age i = 0) (hus : m.used i = false) (hall : ∀ j, j < i → m.used j = true) (hr : r < 32) (hcalm : Calm (m.task i r)) :
    Calls Tryz.prog 29 #[.pointer (some ⟨B + 69, 0, none⟩), .int .i64 r] w fun e w' => ∃ nb, e = .returned (.tuple #[.int .u32 (256 + i), .int .i64 0]) ∧ KS B T U (tb2 tb m i nb) (m.task i r) w' ∧ Ch (Sk B T U w) w w' := by
  have H := Lib.hid h
  have HCO := Lib.hid hc
  have HN := Lib.hid hn
  have HAG := Lib.hid hag
  have HUS := Lib.hid hus
  have HALL := Lib.hid hall
  have HCALM := Lib.hid hcalm
  have hi1 : 0 ≤ (i : Int) ∧ (i : Int) < 16 := by omega
  have d1 : decide ((r : Int) < 0) = false := by rw [decide_eq_false_iff_not]; omega
  have d2 : decide ((31 : Int) < (r : Int)) = false := by rw [decide_eq_false_iff_not]; omega
  have c0 := h.cTh
  clear h hc hn hag hus hall hcalm
  go_enter_defers Tryz.func29, Tryz.ntmps29
  go_wp2_with fail
  refine (kThere_any H.out).mono ?_; rintro e w1 ⟨rfl, rfl⟩
  go_wp2_with fail
  have hm := handMake_any w (B + 70) 16 m.age m.used i 0 (by omega) hi (by decide) (by decide) HAG.out HUS.out HALL.out H.out.th
  rw [show (256 * ((0 : Int) + 1) + (i : Int)) = 256 + i by omega, show (0 : Int) + 1 = 1 by omega] at hm
  refine hm.mono ?_; rintro e w2 ⟨rfl, hth, hch⟩
  have hk2 := H.out.th' hch hth
  have HK2 : Hid (KS B T U tb (m.aged i) w2) := Lib.hid hk2.1
  have HC2 := Lib.hid hk2.2
  clear hm hth hch hk2 c0
  have c0 := HK2.out.cTh
  go_wp2_with fail
  have hp := handPlace_any w2 (B + 70) 16 (m.aged i).age (m.aged i).used i 1 (by omega) (by decide) (by decide) (upd_at _ _ _) (upd_at _ _ _) HK2.out.th
  rw [show (256 * (1 : Int) + (i : Int)) = 256 + i by omega] at hp
  refine hp.mono ?_; rintro e w3 ⟨rfl, hch⟩
  have HK3 := Lib.hid (HK2.out.no hch)
  have HC3 := Lib.hid (HC2.out.tr (Ch.ofNo B T U hch))
  have hk4 := HK3.out.made hi (show (m.aged i).tk i = none from HN.out) (tm0 r)
  have HK4 := Lib.hid hk4.1
  have HC4 := Lib.hid (HC3.out.tr hk4.2)
  have f1 : (w3.alloc (.cells (tcells i (tm0 r) U) 127)).frozen? ⟨B + 69, 4 + i, none⟩ = false := (HK3.out.no (Ch.alloc _ _)).kFree _
  have c1 : (w3.alloc (.cells (tcells i (tm0 r) U) 127)).cell? ⟨B + 69, 4 + i, none⟩ = some (.pointer none) := by
    obtain ⟨cs, q, k⟩ := (HK3.out.no (Ch.alloc w3 (.cells (tcells i (tm0 r) U) 127))).kern
    have := k.task i hi
    unfold tptr at this
    rw [show (m.aged i).tk i = none from HN.out] at this
    exact q.cell this
  clear hp hch hk4 c0
  unfold tcells tm0 at f1 c1
  simp only [Bool.false_eq_true, if_false] at f1 c1
  go_wp2_with fail
  have hk4 := HK4.out
  have hc4 := HC4.out
  obtain ⟨W5, hW5⟩ : ∃ W5, W5 = (w3.alloc (.cells (tcells i (tm0 r) U) 127)).setCell ⟨B + 69, 4 + i, none⟩ (.pointer (some ⟨w3.heap.size, 0, none⟩)) := ⟨_, rfl⟩
  rw [← hW5] at hk4 hc4
  unfold tcells tm0 at hW5
  simp only [Bool.false_eq_true, if_false] at hW5
  rw [← hW5]
  have HK5 := Lib.hid hk4
  have HC5 := Lib.hid hc4
  clear hW5 hk4 hc4 HK4 HC4 f1 c1
  refine (joins_any HK5.out (show Cons ((m.aged i).setT i (tm0 r)) from HCO.out) hi (t := tm0 r) (upd_at _ _ _) hr).mono ?_; rintro e w6 ⟨rfl, hk6, hch6⟩
  have HK6 : Hid (KS B T U (tb2 tb m i w3.heap.size) (m.task i r) w6) := Lib.hid hk6
  have HC6 := Lib.hid (HC5.out.tr hch6)
  clear hk6 hch6
  go_wp2_with fail
  refine leaves_cons (f := 57) (args := #[.pointer (some ⟨B + 69, 0, none⟩)]) (by simp) (by simp [go_sem]) ?_
  refine (anew_deferred .returning HK6.out HCALM.out).mono ?_
  rintro e u' w9 ⟨rfl, rfl, hch9⟩
  exact ⟨.tuple #[.int .u32 (256 + i), .int .i64 0], by simp [results, Tryz.f29, go_sem], _, rfl, HK6.out.no hch9, HC6.out.tr (Ch.ofNo B T U hch9)⟩
end
end Go.Proofs.YtcngfaggignmpaaGreatDoor

/-
  The kernel: its tasks, as a slice.
-/
namespace Go.Proofs.YtcngfaggignmpaaGreatDoor
open Go.RowKit

/-- A task as it is seen. -/
def vcells (i : Nat) (t : TM) : List Value :=
  [.int .u32 (256 + i), .int .u8 (if t.wait then 2 else 1), .bool false, .int .i64 t.rank, .int .i64 t.rank, .int .u8 t.what, .int .u32 t.hh, .int .u32 t.v, .int .u32 t.mm, .int .i64 t.wt,
    .int .i64 t.left, .int .i64 t.ans, .int .i64 t.last, .int .u32 t.val]
/-- Those tasks that there are, of the first places. -/
def tl (m : KM) (k : Nat) : List (Nat × TM) := (List.range k).filterMap (fun i => (m.tk i).map (fun t => (i, t)))
def flatT (l : List (Nat × TM)) : List Value := l.flatMap (fun x => vcells x.1 x.2)
theorem tl_none {m : KM} {k : Nat} (h : m.tk k = none) : tl m (k + 1) = tl m k := by unfold tl; rw [List.range_succ, List.filterMap_append]; simp [h]
theorem tl_some {m : KM} {k : Nat} {t : TM} (h : m.tk k = some t) : tl m (k + 1) = tl m k ++ [(k, t)] := by unfold tl; rw [List.range_succ, List.filterMap_append]; simp [h]
theorem tl_len (m : KM) (k : Nat) : (tl m k).length ≤ k := by
  unfold tl
  exact Nat.le_trans (List.length_filterMap_le _ _) (by simp)
theorem flatT_append (l l' : List (Nat × TM)) : flatT (l ++ l') = flatT l ++ flatT l' := by unfold flatT; simp
theorem flatT_len : ∀ l, (flatT l).length = l.length * 14
  | [] => rfl
  | x :: l => by
    show (vcells x.1 x.2 ++ flatT l).length = _
    rw [List.length_append, flatT_len l]
    simp [vcells]
    omega
theorem flatT_get : ∀ (l : List (Nat × TM)) (k : Nat) (x : Nat × TM) (j : Nat) (v : Value), l[k]? = some x → (vcells x.1 x.2)[j]? = some v → (flatT l)[k * 14 + j]? = some v
  | [], k, x, j, v, h, _ => by simp at h
  | y :: l, 0, x, j, v, h, hv => by
    simp at h
    subst h
    show (vcells y.1 y.2 ++ flatT l)[0 * 14 + j]? = _
    rw [List.getElem?_append_left (by have := (List.getElem?_eq_some_iff.1 hv).1; omega), show 0 * 14 + j = j by omega]
    exact hv
  | y :: l, k + 1, x, j, v, h, hv => by
    have h' : l[k]? = some x := by simpa using h
    show (vcells y.1 y.2 ++ flatT l)[(k + 1) * 14 + j]? = _
    have e : (vcells y.1 y.2).length = 14 := rfl
    rw [List.getElem?_append_right (by omega), show (k + 1) * 14 + j - (vcells y.1 y.2).length = k * 14 + j by omega]
    exact flatT_get l k x j v h' hv
/-- A slice of tasks as they are seen. -/
def TSl (base : Nat) (v : Value) (l : List (Nat × TM)) (w : World) : Prop :=
  ∃ a, v = .slice a l.length l.length ∧ ∀ k x, l[k]? = some x → ∃ g, base ≤ g ∧ a = some ⟨g, 0, none⟩ ∧ ∃ cs, Row g 125 cs w ∧ ∀ j u, (vcells x.1 x.2)[j]? = some u → cs[k * 14 + j]? = some u
theorem TSl.keeps {base : Nat} {v : Value} {l : List (Nat × TM)} {w w' : World} {S : Nat → Prop} (h : TSl base v l w) (g : Ch S w w') (hS : ∀ k, base ≤ k → k < w.heap.size → ¬ S k) : TSl base v l w' := by
  obtain ⟨a, e, f⟩ := h
  refine ⟨a, e, fun k x hx => ?_⟩
  obtain ⟨b, hb, ea, cs, r, hc⟩ := f k x hx
  exact ⟨b, hb, ea, cs, r.keeps g (hS b hb r.lt), hc⟩
theorem TSl.of {base : Nat} {v : Value} {l : List (Nat × TM)} {w : World} (h : w.ownsRow base 125 14 v l.length (flatT l)) : ∃ a cap, v = .slice a l.length cap ∧ l.length ≤ cap ∧ TSl base (.slice a l.length l.length) l w := by
  rcases h.2 with ⟨e, h0⟩ | ⟨g, cap, cur, e, hb, hg, hn, hm, hs, ht⟩
  · have hl : l = [] := List.eq_nil_of_length_eq_zero h0
    subst hl
    exact ⟨none, 0, e, Nat.le_refl _, none, rfl, fun k x hx => by simp at hx⟩
  · refine ⟨_, cap, e, by omega, _, rfl, fun k x hx => ⟨g, hb, rfl, cur, hg, fun j u hu => ?_⟩⟩
    have h1 := flatT_get l k x j u hx hu
    rw [← ht] at h1
    have h2 : k * 14 + j < l.length * 14 := by
      have := (List.getElem?_eq_some_iff.1 hu).1
      have hk := (List.getElem?_eq_some_iff.1 hx).1
      have e14 : (vcells x.1 x.2).length = 14 := rfl
      omega
    rw [List.getElem?_take_of_lt (by omega)] at h1
    simpa using h1
theorem vcells_one (i : Nat) (t : TM) : ∀ u ∈ vcells i t, u.oneCell' = true := by
  intro u hu
  simp [vcells] at hu
  rcases hu with rfl | rfl | rfl | rfl | rfl | rfl | rfl | rfl | rfl | rfl | rfl | rfl | rfl | rfl <;> rfl
theorem info125 : (Tryz.prog.info? 125).map (fun i => (i.zero, i.size, i.bytes)) = some (some (.agg #[.int .u32 0, .int .u8 0, .bool false, .int .i64 0, .int .i64 0, .int .u8 0, .int .u32 0, .int .u32 0, .int .u32 0, .int .i64 0, .int .i64 0, .int .i64 0, .int .i64 0, .int .u32 0]), 14, 80) := by kernel_rfl

section
variable {B T U : Nat} {tb : Nat → Nat} {m : KM} {w : World}
set_option maxRecDepth 100000 in
set_option maxHeartbeats 4000000 in
theorem tasks_any (h : KS B T U tb m w) : Calls Tryz.prog 15 #[.pointer (some ⟨B + 69, 0, none⟩)] w fun e w' => ∃ v, e = .returned v ∧ TSl w.heap.size v (tl m 16) w' ∧ Ch No w w' := by
  obtain ⟨i0, hi, hz0, hz1, hz2⟩ := info_parts info125
  have H := Lib.hid h
  clear h
  go_enter Tryz.func15, Tryz.ntmps15
  go_wp2_with fail
  refine (kThere_any H.out).mono ?_; rintro e w1 ⟨rfl, rfl⟩
  go_wp2_with (first | (refine wpList_load_mid rfl 90 _ rfl (B + 69) 4 rfl (tarr tb m) _ H.out.tRange Tryz.underlying90 rfl (by rw [info90]; simp [tarr]) ?_))
  go_loopw [2, 4, 12] (fun v _ i wr => ∃ k : Nat, k ≤ 16 ∧ i = .int .i64 (k : Int) ∧ wr.ownsRow w.heap.size 125 14 v (tl m k).length (flatT (tl m k)) ∧ Ch No w wr) (fun _ _ i _ => 16 - (intOf i).toNat)
  case atStart => exact ⟨0, by omega, rfl, World.ownsRow_nil _ _ _ _, Ch.refl _ _⟩
  case round =>
    obtain ⟨k, hk, rfl, hown, hch⟩ := hrel
    by_cases hlt : k < 16
    · have hidx := tarr_index tb m k hlt
      have hk1 : 0 ≤ (k : Int) ∧ (k : Int) < 16 := by omega
      have hsz := hch.size
      cases htk : m.tk k with
      | none =>
        have hp : tptr tb m k = none := by unfold tptr; rw [htk]; rfl
        rw [hp] at hidx
        have HOWN := Lib.hid hown
        have HCH := Lib.hid hch
        have HE := Lib.hid (tl_none htk)
        clear hp htk hown hch
        go_wp2_with fail
        go_roundw
        case rel => exact ⟨k + 1, by omega, by go_num, by rw [HE.out]; exact HOWN.out, HCH.out⟩
        case measure => simp [intOf]; omega
      | some t =>
        have hp : tptr tb m k = some ⟨tb k, 0, none⟩ := by unfold tptr; rw [htk]; rfl
        rw [hp] at hidx
        have hks := H.out.no hch
        have HE := Lib.hid (tl_some htk)
        have hlen := tl_len m k
        obtain ⟨st, hst⟩ : ∃ st : Int, st = if t.wait then 2 else 1 := ⟨_, rfl⟩
        have q0 : wr.cell? ⟨tb k, 0, none⟩ = some (.int .u32 (256 + k)) := hks.tCell hlt htk rfl
        have q1 : wr.cell? ⟨tb k, 1, none⟩ = some (.int .u8 st) := by rw [hst]; exact hks.tCell hlt htk rfl
        have q2 : wr.cell? ⟨tb k, 2, none⟩ = some (.bool false) := hks.tCell hlt htk rfl
        have q3 : wr.cell? ⟨tb k, 3, none⟩ = some (.int .i64 t.rank) := hks.tCell hlt htk rfl
        have q4 : wr.cell? ⟨tb k, 4, none⟩ = some (.int .i64 t.rank) := hks.tCell hlt htk rfl
        have q5 : wr.cell? ⟨tb k, 5, none⟩ = some (.int .u8 t.what) := hks.tCell hlt htk rfl
        have q6 : wr.cell? ⟨tb k, 6, none⟩ = some (.int .u32 t.hh) := hks.tCell hlt htk rfl
        have q7 : wr.cell? ⟨tb k, 7, none⟩ = some (.int .u32 t.v) := hks.tCell hlt htk rfl
        have q8 : wr.cell? ⟨tb k, 8, none⟩ = some (.int .u32 t.mm) := hks.tCell hlt htk rfl
        have q9 : wr.cell? ⟨tb k, 9, none⟩ = some (.int .i64 t.wt) := hks.tCell hlt htk rfl
        have q10 : wr.cell? ⟨tb k, 10, none⟩ = some (.int .i64 t.left) := hks.tCell hlt htk rfl
        have q11 : wr.cell? ⟨tb k, 11, none⟩ = some (.int .i64 t.ans) := hks.tCell hlt htk rfl
        have q12 : wr.cell? ⟨tb k, 12, none⟩ = some (.int .i64 t.last) := hks.tCell hlt htk rfl
        have q13 : wr.cell? ⟨tb k, 13, none⟩ = some (.int .u32 t.val) := hks.tCell hlt htk rfl
        have HOWN := Lib.hid hown
        have HCH := Lib.hid hch
        have HST := Lib.hid hst
        clear hp htk hown hch hks hst
        go_wp2_with (first
          | (at_builtin; refine wpList_append_own _ rfl _ _ 64 rfl w.heap.size 125 i0 (.agg #[.int .u32 0, .int .u8 0, .bool false, .int .i64 0, .int .i64 0, .int .u8 0, .int .u32 0, .int .u32 0, .int .u32 0, .int .i64 0, .int .i64 0, .int .i64 0, .int .i64 0, .int .u32 0]) 14 80 Tryz.underlying64 hi hz0 hz1 hz2 rfl (by decide) _ _ _ rfl (World.ownsRow.alloc (w := wr) HOWN.out _) ⟨wr.heap.size, 0, none⟩ 1 1 (vcells k t) rfl rfl ?c1 ?c2 ?c3 ?c4 ?c5 ?_))
        case c1 =>
          intro j u hj
          have e := HST.out
          subst e
          have hr : Row wr.heap.size 125 (vcells k t).toArray (wr.alloc (.cells (vcells k t).toArray 125)) := Row.new wr 125 _
          have := hr.cell (j := j) (v := u) (by rw [List.getElem?_toArray]; exact hj)
          cases j with
          | zero => exact this
          | succ j => simp [Addr.add]; exact hj
        case c2 => exact vcells_one k t
        case c3 => unfold maxLen; omega
        case c4 => omega
        case c5 => simp; omega
        · intro v' w2 hown2 hgrow _
          have hg2 : Ch No w w2 := ((HCH.out).trans (Ch.alloc _ _)).grownOwn hgrow (own_ge HOWN.out)
          have hf : flatT (tl m (k + 1)) = flatT (tl m k) ++ vcells k t := by rw [HE.out, flatT_append]; simp [flatT]
          have hl : (tl m (k + 1)).length = (tl m k).length + 1 := by rw [HE.out]; simp
          rw [← hf, ← hl] at hown2
          have HO2 := Lib.hid hown2
          have HG2 := Lib.hid hg2
          clear hown2 hg2 hgrow hf hl q0 q1 q2 q3 q4 q5 q6 q7 q8 q9 q10 q11 q12 q13
          go_wp2
          go_roundw
          case rel => exact ⟨k + 1, by omega, by go_num, HO2.out, HG2.out⟩
          case measure => simp [intOf]; omega
    · obtain rfl : k = 16 := by omega
      obtain ⟨a, cap, hv, hcap, hts⟩ := TSl.of hown
      subst hv
      have hlen := tl_len m 16
      have HTS := Lib.hid hts
      have HCH := Lib.hid hch
      clear hts hch hown
      generalize hL : (tl m 16).length = L at hcap hlen ⊢
      have HL := Lib.hid hL
      clear hL
      go_wp2_with fail
      go_ret
      have := HTS.out
      rw [HL.out] at this
      exact ⟨_, rfl, this, HCH.out⟩
end
end Go.Proofs.YtcngfaggignmpaaGreatDoor
