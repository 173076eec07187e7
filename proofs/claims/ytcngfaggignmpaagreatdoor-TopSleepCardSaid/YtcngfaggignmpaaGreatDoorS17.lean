/-
  The top, part 17: TaskList, Units, Core.
-/
import Derived.Test.YtcngfaggignmpaaGreatDoorS12
import Derived.Test.YtcngfaggignmpaaGreatDoorS16

/-
  The kernel: its tasks, as a slice.
-/
namespace Go.Proofs.YtcngfaggignmpaaGreatDoor
open Go.RowKit

/-- A task as it is seen. -/
def vcells (i : Nat) (t : TM) : List Value :=
  [.int .u32 (256 + i), .int .u8 (if t.wait then 2 else 1), .bool false, .int .i64 t.rank, .int .i64 t.rank, .int .u8 t.what, .int .u32 t.hh, .int .u32 t.v, .int .u32 t.mm, .int .i64 t.wt,
    .int .i64 t.left, .int .i64 t.ans, .int .i64 t.last, .int .u32 t.val]
/-- Those tasks that there are, of the first places. -/
def tl (m : KM) (k : Nat) : List (Nat × TM) := (List.range k).filterMap (fun i => (m.tk i).map (fun t => (i, t)))
def flatT (l : List (Nat × TM)) : List Value := l.flatMap (fun x => vcells x.1 x.2)
theorem tl_none {m : KM} {k : Nat} (h : m.tk k = none) : tl m (k + 1) = tl m k := by unfold tl; rw [List.range_succ, List.filterMap_append]; simp [h]
theorem tl_some {m : KM} {k : Nat} {t : TM} (h : m.tk k = some t) : tl m (k + 1) = tl m k ++ [(k, t)] := by unfold tl; rw [List.range_succ, List.filterMap_append]; simp [h]
theorem tl_len (m : KM) (k : Nat) : (tl m k).length ≤ k := by
  unfold tl
  exact Nat.le_trans (List.length_filterMap_le _ _) (by simp)
theorem flatT_append (l l' : List (Nat × TM)) : flatT (l ++ l') = flatT l ++ flatT l' := by unfold flatT; simp
theorem flatT_len : ∀ l, (flatT l).length = l.length * 14
  | [] => rfl
  | x :: l => by
    show (vcells x.1 x.2 ++ flatT l).length = _
    rw [List.length_append, flatT_len l]
    simp [vcells]
    omega
theorem flatT_get : ∀ (l : List (Nat × TM)) (k : Nat) (x : Nat × TM) (j : Nat) (v : Value), l[k]? = some x → (vcells x.1 x.2)[j]? = some v → (flatT l)[k * 14 + j]? = some v
  | [], k, x, j, v, h, _ => by simp at h
  | y :: l, 0, x, j, v, h, hv => by
    simp at h
    subst h
    show (vcells y.1 y.2 ++ flatT l)[0 * 14 + j]? = _
    rw [List.getElem?_append_left (by have := (List.getElem?_eq_some_iff.1 hv).1; omega), show 0 * 14 + j = j by omega]
    exact hv
  | y :: l, k + 1, x, j, v, h, hv => by
    have h' : l[k]? = some x := by simpa using h
    show (vcells y.1 y.2 ++ flatT l)[(k + 1) * 14 + j]? = _
    have e : (vcells y.1 y.2).length = 14 := rfl
    rw [List.getElem?_append_right (by omega), show (k + 1) * 14 + j - (vcells y.1 y.2).length = k * 14 + j by omega]
    exact flatT_get l k x j v h' hv
/-- A slice of tasks as they are seen. -/
def TSl (base : Nat) (v : Value) (l : List (Nat × TM)) (w : World) : Prop :=
  ∃ a, v = .slice a l.length l.length ∧ ∀ k x, l[k]? = some x → ∃ g, base ≤ g ∧ a = some ⟨g, 0, none⟩ ∧ ∃ cs, Row g 125 cs w ∧ ∀ j u, (vcells x.1 x.2)[j]? = some u → cs[k * 14 + j]? = some u
theorem TSl.keeps {base : Nat} {v : Value} {l : List (Nat × TM)} {w w' : World} {S : Nat → Prop} (h : TSl base v l w) (g : Ch S w w') (hS : ∀ k, base ≤ k → k < w.heap.size → ¬ S k) : TSl base v l w' := by
  obtain ⟨a, e, f⟩ := h
  refine ⟨a, e, fun k x hx => ?_⟩
  obtain ⟨b, hb, ea, cs, r, hc⟩ := f k x hx
  exact ⟨b, hb, ea, cs, r.keeps g (hS b hb r.lt), hc⟩
theorem TSl.of {base : Nat} {v : Value} {l : List (Nat × TM)} {w : World} (h : w.ownsRow base 125 14 v l.length (flatT l)) : ∃ a cap, v = .slice a l.length cap ∧ l.length ≤ cap ∧ TSl base (.slice a l.length l.length) l w := by
  rcases h.2 with ⟨e, h0⟩ | ⟨g, cap, cur, e, hb, hg, hn, hm, hs, ht⟩
  · have hl : l = [] := List.eq_nil_of_length_eq_zero h0
    subst hl
    exact ⟨none, 0, e, Nat.le_refl _, none, rfl, fun k x hx => by simp at hx⟩
  · refine ⟨_, cap, e, by omega, _, rfl, fun k x hx => ⟨g, hb, rfl, cur, hg, fun j u hu => ?_⟩⟩
    have h1 := flatT_get l k x j u hx hu
    rw [← ht] at h1
    have h2 : k * 14 + j < l.length * 14 := by
      have := (List.getElem?_eq_some_iff.1 hu).1
      have hk := (List.getElem?_eq_some_iff.1 hx).1
      have e14 : (vcells x.1 x.2).length = 14 := rfl
      omega
    rw [List.getElem?_take_of_lt (by omega)] at h1
    simpa using h1
theorem vcells_one (i : Nat) (t : TM) : ∀ u ∈ vcells i t, u.oneCell' = true := by
  intro u hu
  simp [vcells] at hu
  rcases hu with rfl | rfl | rfl | rfl | rfl | rfl | rfl | rfl | rfl | rfl | rfl | rfl | rfl | rfl <;> rfl
theorem info125 : (Tryz.prog.info? 125).map (fun i => (i.zero, i.size, i.bytes)) = some (some (.agg #[.int .u32 0, .int .u8 0, .bool false, .int .i64 0, .int .i64 0, .int .u8 0, .int .u32 0, .int .u32 0, .int .u32 0, .int .i64 0, .int .i64 0, .int .i64 0, .int .i64 0, .int .u32 0]), 14, 80) := by kernel_rfl

section
variable {B T U : Nat} {tb : Nat → Nat} {m : KM} {w : World}
set_option maxRecDepth 100000 in
set_option maxHeartbeats 4000000 in
theorem tasks_any (h : KS B T U tb m w) : Calls Tryz.prog 15 #[.pointer (some ⟨B + 69, 0, none⟩)] w fun e w' => ∃ v, e = .returned v ∧ TSl w.heap.size v (tl m 16) w' ∧ Ch No w w' := by
  obtain ⟨i0, hi, hz0, hz1, hz2⟩ := info_parts info125
  have H := Lib.hid h
  clear h
  go_enter Tryz.func15, Tryz.ntmps15
  go_wp2_with fail
  refine (kThere_any H.out).mono ?_; rintro e w1 ⟨rfl, rfl⟩
  go_wp2_with (first | (refine wpList_load_mid rfl 90 _ rfl (B + 69) 4 rfl (tarr tb m) _ H.out.tRange Tryz.underlying90 rfl (by rw [info90]; simp [tarr]) ?_))
  go_loopw [2, 4, 12] (fun v _ i wr => ∃ k : Nat, k ≤ 16 ∧ i = .int .i64 (k : Int) ∧ wr.ownsRow w.heap.size 125 14 v (tl m k).length (flatT (tl m k)) ∧ Ch No w wr) (fun _ _ i _ => 16 - (intOf i).toNat)
  case atStart => exact ⟨0, by omega, rfl, World.ownsRow_nil _ _ _ _, Ch.refl _ _⟩
  case round =>
    obtain ⟨k, hk, rfl, hown, hch⟩ := hrel
    by_cases hlt : k < 16
    · have hidx := tarr_index tb m k hlt
      have hk1 : 0 ≤ (k : Int) ∧ (k : Int) < 16 := by omega
      have hsz := hch.size
      cases htk : m.tk k with
      | none =>
        have hp : tptr tb m k = none := by unfold tptr; rw [htk]; rfl
        rw [hp] at hidx
        have HOWN := Lib.hid hown
        have HCH := Lib.hid hch
        have HE := Lib.hid (tl_none htk)
        clear hp htk hown hch
        go_wp2_with fail
        go_roundw
        case rel => exact ⟨k + 1, by omega, by go_num, by rw [HE.out]; exact HOWN.out, HCH.out⟩
        case measure => simp [intOf]; omega
      | some t =>
        have hp : tptr tb m k = some ⟨tb k, 0, none⟩ := by unfold tptr; rw [htk]; rfl
        rw [hp] at hidx
        have hks := H.out.no hch
        have HE := Lib.hid (tl_some htk)
        have hlen := tl_len m k
        obtain ⟨st, hst⟩ : ∃ st : Int, st = if t.wait then 2 else 1 := ⟨_, rfl⟩
        have q0 : wr.cell? ⟨tb k, 0, none⟩ = some (.int .u32 (256 + k)) := hks.tCell hlt htk rfl
        have q1 : wr.cell? ⟨tb k, 1, none⟩ = some (.int .u8 st) := by rw [hst]; exact hks.tCell hlt htk rfl
        have q2 : wr.cell? ⟨tb k, 2, none⟩ = some (.bool false) := hks.tCell hlt htk rfl
        have q3 : wr.cell? ⟨tb k, 3, none⟩ = some (.int .i64 t.rank) := hks.tCell hlt htk rfl
        have q4 : wr.cell? ⟨tb k, 4, none⟩ = some (.int .i64 t.rank) := hks.tCell hlt htk rfl
        have q5 : wr.cell? ⟨tb k, 5, none⟩ = some (.int .u8 t.what) := hks.tCell hlt htk rfl
        have q6 : wr.cell? ⟨tb k, 6, none⟩ = some (.int .u32 t.hh) := hks.tCell hlt htk rfl
        have q7 : wr.cell? ⟨tb k, 7, none⟩ = some (.int .u32 t.v) := hks.tCell hlt htk rfl
        have q8 : wr.cell? ⟨tb k, 8, none⟩ = some (.int .u32 t.mm) := hks.tCell hlt htk rfl
        have q9 : wr.cell? ⟨tb k, 9, none⟩ = some (.int .i64 t.wt) := hks.tCell hlt htk rfl
        have q10 : wr.cell? ⟨tb k, 10, none⟩ = some (.int .i64 t.left) := hks.tCell hlt htk rfl
        have q11 : wr.cell? ⟨tb k, 11, none⟩ = some (.int .i64 t.ans) := hks.tCell hlt htk rfl
        have q12 : wr.cell? ⟨tb k, 12, none⟩ = some (.int .i64 t.last) := hks.tCell hlt htk rfl
        have q13 : wr.cell? ⟨tb k, 13, none⟩ = some (.int .u32 t.val) := hks.tCell hlt htk rfl
        have HOWN := Lib.hid hown
        have HCH := Lib.hid hch
        have HST := Lib.hid hst
        clear hp htk hown hch hks hst
        go_wp2_with (first
          | (at_builtin; refine wpList_append_own _ rfl _ _ 64 rfl w.heap.size 125 i0 (.agg #[.int .u32 0, .int .u8 0, .bool false, .int .i64 0, .int .i64 0, .int .u8 0, .int .u32 0, .int .u32 0, .int .u32 0, .int .i64 0, .int .i64 0, .int .i64 0, .int .i64 0, .int .u32 0]) 14 80 Tryz.underlying64 hi hz0 hz1 hz2 rfl (by decide) _ _ _ rfl (World.ownsRow.alloc (w := wr) HOWN.out _) ⟨wr.heap.size, 0, none⟩ 1 1 (vcells k t) rfl rfl ?c1 ?c2 ?c3 ?c4 ?c5 ?_))
        case c1 =>
          intro j u hj
          have e := HST.out
          subst e
          have hr : Row wr.heap.size 125 (vcells k t).toArray (wr.alloc (.cells (vcells k t).toArray 125)) := Row.new wr 125 _
          have := hr.cell (j := j) (v := u) (by rw [List.getElem?_toArray]; exact hj)
          cases j with
          | zero => exact this
          | succ j => simp [Addr.add]; exact hj
        case c2 => exact vcells_one k t
        case c3 => unfold maxLen; omega
        case c4 => omega
        case c5 => simp; omega
        · intro v' w2 hown2 hgrow _
          have hg2 : Ch No w w2 := ((HCH.out).trans (Ch.alloc _ _)).grownOwn hgrow (own_ge HOWN.out)
          have hf : flatT (tl m (k + 1)) = flatT (tl m k) ++ vcells k t := by rw [HE.out, flatT_append]; simp [flatT]
          have hl : (tl m (k + 1)).length = (tl m k).length + 1 := by rw [HE.out]; simp
          rw [← hf, ← hl] at hown2
          have HO2 := Lib.hid hown2
          have HG2 := Lib.hid hg2
          clear hown2 hg2 hgrow hf hl q0 q1 q2 q3 q4 q5 q6 q7 q8 q9 q10 q11 q12 q13
          go_wp2
          go_roundw
          case rel => exact ⟨k + 1, by omega, by go_num, HO2.out, HG2.out⟩
          case measure => simp [intOf]; omega
    · obtain rfl : k = 16 := by omega
      obtain ⟨a, cap, hv, hcap, hts⟩ := TSl.of hown
      subst hv
      have hlen := tl_len m 16
      have HTS := Lib.hid hts
      have HCH := Lib.hid hch
      clear hts hch hown
      generalize hL : (tl m 16).length = L at hcap hlen ⊢
      have HL := Lib.hid hL
      clear hL
      go_wp2_with fail
      go_ret
      have := HTS.out
      rw [HL.out] at this
      exact ⟨_, rfl, this, HCH.out⟩
end
end Go.Proofs.YtcngfaggignmpaaGreatDoor

/-
  What instructions make of two numbers: sums, differences, and whether they are others.
-/
namespace Go.Proofs.YtcngfaggignmpaaGreatDoor
open Go.RowKit Go.ChangeMaps Go.MapKept

/-- A look-up with 'ok'. -/
theorem run_look {P : Program} {T K E : TypeId} {q : IntKind} (ht : P.underlying T = some (.map K E)) (hk : P.underlying K = some (.int q)) (w : World) (b : Nat) (es : Array MapEntry) (c : Nat) (k : Int) (i : Nat) (v : Value)
    (hb : w.heap[b]? = some (.map es c)) (hf : Instr.findNow (.int q) (.int q k) es.toList 0 = some (some (i, v))) :
    (Instr.lookup T (.map (some b)) (.int q k) true).run P w = .ok (.tuple #[v, .bool true]) w := by
  have hkey : IsKey (.int q) (.int q k) := by simp [IsKey]
  simp [Instr.lookup, run_underlying ht, MapKept.run_getObj_map hb, run_checkKey hk hkey, run_findKey hk hf, Result.andThen]

set_option maxHeartbeats 400000 in
theorem uAdd_any (a b : Int) (w : World) : Calls Tryz.prog 193 #[.int .u32 a, .int .u32 b] w fun e w' => e = .returned (.int .u32 ((a + b) % 4294967296)) ∧ w = w' := by
  go_enter Tryz.func193, Tryz.ntmps193
  go_wp2
  go_ret
  exact ⟨rfl, rfl⟩
set_option maxHeartbeats 400000 in
theorem uSub_any (a b : Int) (w : World) : Calls Tryz.prog 194 #[.int .u32 a, .int .u32 b] w fun e w' => e = .returned (.int .u32 ((a - b) % 4294967296)) ∧ w = w' := by
  go_enter Tryz.func194, Tryz.ntmps194
  go_wp2
  go_ret
  exact ⟨rfl, rfl⟩
set_option maxHeartbeats 400000 in
theorem uOther_any (a b : Int) (w : World) : Calls Tryz.prog 202 #[.int .u32 a, .int .u32 b] w fun e w' => e = .returned (.bool (a != b)) ∧ w = w' := by
  go_enter Tryz.func202, Tryz.ntmps202
  go_wp2
  go_ret
  exact ⟨rfl, rfl⟩

/-- The maps, as they are laid. -/
def doesArr : Array MapEntry := #[ent 3 193 0, ent 4 194 1, ent 5 195 2, ent 6 196 3, ent 7 197 4, ent 8 198 5, ent 9 199 6, ent 10 200 7]
def holdsArr : Array MapEntry := #[ent 15 201 0, ent 16 202 1, ent 17 203 2, ent 18 204 3]

set_option maxHeartbeats 400000 in
theorem does_any (w : World) : Calls Tryz.prog 167 #[] w fun e w' => e = .returned (.map (some w.heap.size)) ∧ w.alloc (.map doesArr 8) = w' := by
  have hmm := @run_makeMap Tryz.prog
  have i0 := run_put_new Tryz.underlying311 Tryz.underlying45 w #[] 0 3 (.func (.func 193) #[] #[]) rfl
  have i1 := run_put_new Tryz.underlying311 Tryz.underlying45 w #[ent 3 193 0] 1 4 (.func (.func 194) #[] #[]) rfl
  have i2 := run_put_new Tryz.underlying311 Tryz.underlying45 w #[ent 3 193 0, ent 4 194 1] 2 5 (.func (.func 195) #[] #[]) rfl
  have i3 := run_put_new Tryz.underlying311 Tryz.underlying45 w #[ent 3 193 0, ent 4 194 1, ent 5 195 2] 3 6 (.func (.func 196) #[] #[]) rfl
  have i4 := run_put_new Tryz.underlying311 Tryz.underlying45 w #[ent 3 193 0, ent 4 194 1, ent 5 195 2, ent 6 196 3] 4 7 (.func (.func 197) #[] #[]) rfl
  have i5 := run_put_new Tryz.underlying311 Tryz.underlying45 w #[ent 3 193 0, ent 4 194 1, ent 5 195 2, ent 6 196 3, ent 7 197 4] 5 8 (.func (.func 198) #[] #[]) rfl
  have i6 := run_put_new Tryz.underlying311 Tryz.underlying45 w #[ent 3 193 0, ent 4 194 1, ent 5 195 2, ent 6 196 3, ent 7 197 4, ent 8 198 5] 6 9 (.func (.func 199) #[] #[]) rfl
  have i7 := run_put_new Tryz.underlying311 Tryz.underlying45 w #[ent 3 193 0, ent 4 194 1, ent 5 195 2, ent 6 196 3, ent 7 197 4, ent 8 198 5, ent 9 199 6] 7 10 (.func (.func 200) #[] #[]) rfl
  simp [ent] at i0 i1 i2 i3 i4 i5 i6 i7
  go_enter Tryz.func167, Tryz.ntmps167
  go_wp2
  go_ret
  exact ⟨rfl, rfl⟩
set_option maxHeartbeats 400000 in
theorem asks_any (w : World) : Calls Tryz.prog 168 #[] w fun e w' => e = .returned (.map (some w.heap.size)) ∧ w.alloc (.map holdsArr 4) = w' := by
  have hmm := @run_makeMap Tryz.prog
  have i0 := run_put_new Tryz.underlying315 Tryz.underlying45 w #[] 0 15 (.func (.func 201) #[] #[]) rfl
  have i1 := run_put_new Tryz.underlying315 Tryz.underlying45 w #[ent 15 201 0] 1 16 (.func (.func 202) #[] #[]) rfl
  have i2 := run_put_new Tryz.underlying315 Tryz.underlying45 w #[ent 15 201 0, ent 16 202 1] 2 17 (.func (.func 203) #[] #[]) rfl
  have i3 := run_put_new Tryz.underlying315 Tryz.underlying45 w #[ent 15 201 0, ent 16 202 1, ent 17 203 2] 3 18 (.func (.func 204) #[] #[]) rfl
  simp [ent] at i0 i1 i2 i3
  go_enter Tryz.func168, Tryz.ntmps168
  go_wp2
  go_ret
  exact ⟨rfl, rfl⟩

set_option maxHeartbeats 400000 in
theorem doAdd_any (a b : Int) (w : World) : Calls Tryz.prog 120 #[.int .u8 3, .int .u32 a, .int .u32 b] w fun e w' => e = .returned (.tuple #[.int .u32 ((a + b) % 4294967296), .int .i64 0]) ∧ Ch No w w' := by
  have hl := run_look (P := Tryz.prog) Tryz.underlying311 Tryz.underlying45 (w.alloc (.map doesArr 8)) w.heap.size doesArr 8 3 0 (.func (.func 193) #[] #[]) (MapKept.heap_alloc w _).1 rfl
  go_enter Tryz.func120, Tryz.ntmps120
  go_wp2_with (first | (go_at_call 167; refine (does_any _).mono ?_; rintro e w1 ⟨rfl, rfl⟩) | (go_at_call 193; refine (uAdd_any _ _ _).mono ?_; rintro e w1 ⟨rfl, rfl⟩))
  go_ret2
  exact ⟨rfl, Ch.alloc _ _⟩
set_option maxHeartbeats 400000 in
theorem doSub_any (a b : Int) (w : World) : Calls Tryz.prog 120 #[.int .u8 4, .int .u32 a, .int .u32 b] w fun e w' => e = .returned (.tuple #[.int .u32 ((a - b) % 4294967296), .int .i64 0]) ∧ Ch No w w' := by
  have hl := run_look (P := Tryz.prog) Tryz.underlying311 Tryz.underlying45 (w.alloc (.map doesArr 8)) w.heap.size doesArr 8 4 1 (.func (.func 194) #[] #[]) (MapKept.heap_alloc w _).1 rfl
  go_enter Tryz.func120, Tryz.ntmps120
  go_wp2_with (first | (go_at_call 167; refine (does_any _).mono ?_; rintro e w1 ⟨rfl, rfl⟩) | (go_at_call 194; refine (uSub_any _ _ _).mono ?_; rintro e w1 ⟨rfl, rfl⟩))
  go_ret2
  exact ⟨rfl, Ch.alloc _ _⟩
set_option maxHeartbeats 400000 in
theorem hoOther_any (a b : Int) (w : World) : Calls Tryz.prog 123 #[.int .u8 16, .int .u32 a, .int .u32 b] w fun e w' => e = .returned (.tuple #[.bool (a != b), .int .i64 0]) ∧ Ch No w w' := by
  have hl := run_look (P := Tryz.prog) Tryz.underlying315 Tryz.underlying45 (w.alloc (.map holdsArr 4)) w.heap.size holdsArr 4 16 1 (.func (.func 202) #[] #[]) (MapKept.heap_alloc w _).1 rfl
  go_enter Tryz.func123, Tryz.ntmps123
  go_wp2_with (first | (go_at_call 168; refine (asks_any _).mono ?_; rintro e w1 ⟨rfl, rfl⟩) | (go_at_call 202; refine (uOther_any _ _ _).mono ?_; rintro e w1 ⟨rfl, rfl⟩))
  go_ret2
  exact ⟨rfl, Ch.alloc _ _⟩
set_option maxHeartbeats 400000 in
theorem must_any (x : Int) (w : World) : Calls Tryz.prog 107 #[.int .u32 x, .int .i64 0] w fun e w' => e = .returned (.int .u32 x) ∧ w = w' := by
  go_enter Tryz.func107, Tryz.ntmps107
  go_wp2
  go_ret
  exact ⟨rfl, rfl⟩
set_option maxHeartbeats 400000 in
theorem mustB_any (x : Bool) (w : World) : Calls Tryz.prog 122 #[.bool x, .int .i64 0] w fun e w' => e = .returned (.bool x) ∧ w = w' := by
  go_enter Tryz.func122, Tryz.ntmps122
  go_wp2
  go_ret
  exact ⟨rfl, rfl⟩
end Go.Proofs.YtcngfaggignmpaaGreatDoor

/-
  The core of a task: its registers, its place, its code, what it said.
-/
namespace Go.Proofs.YtcngfaggignmpaaGreatDoor
open Go.RowKit

/-- An instruction. -/
structure IN where
  op : Nat
  a : Nat
  b : Nat
  c : Nat
/-- A core as plain numbers. -/
structure CM where
  r : Nat → Int
  pc : Int
  says : List Int
  asked : Bool
/-- Where its blocks lie: itself, its bytes, its code; what the code is. -/
structure CG where
  b : Nat
  reg : Nat
  cb : Nat
  cap : Nat
  lo : Nat
  code : List IN
def ccells (g : CG) (sv : Value) (m : CM) : Array Value :=
  #[.int .u32 (m.r 0), .int .u32 (m.r 1), .int .u32 (m.r 2), .int .u32 (m.r 3), .int .u32 (m.r 4), .int .u32 (m.r 5), .int .u32 (m.r 6), .int .u32 (m.r 7), .int .i64 m.pc,
    .pointer (some ⟨g.reg, 0, none⟩), .slice (some ⟨g.cb, 0, none⟩) g.code.length g.cap, sv, .bool m.asked]
def inV (x : IN) : Value := .agg #[.int .u8 x.op, .int .u8 x.a, .int .u8 x.b, .int .u8 x.c]
/-- A core in memory. -/
structure CO (g : CG) (sv : Value) (m : CM) (w : World) : Prop where
  core : Row g.b 191 (ccells g sv m) w
  code : ∃ cs, Row g.cb 49 cs w ∧ ∀ i x, g.code[i]? = some x → cs[i * 4]? = some (.int .u8 x.op) ∧ cs[i * 4 + 1]? = some (.int .u8 x.a) ∧ cs[i * 4 + 2]? = some (.int .u8 x.b) ∧ cs[i * 4 + 3]? = some (.int .u8 x.c)
  says : w.ownsRow g.lo 5 1 sv m.says.length (m.says.map (Value.int .u8))

section
variable {g : CG} {sv : Value} {m : CM} {w w' : World} {S : Nat → Prop}
theorem own_keeps {base : Nat} {e : TypeId} {size : Nat} {v : Value} {n : Nat} {xs : List Value} (h : w.ownsRow base e size v n xs) (c : Ch S w w') (hn : ∀ k, v.ownBlock = some k → ¬ S k) : w'.ownsRow base e size v n xs := by
  refine ⟨h.1, ?_⟩
  rcases h.2 with h0 | ⟨g, cap, cur, rfl, hb, hg, r⟩
  · exact .inl h0
  · exact .inr ⟨g, cap, cur, rfl, hb, c.keeps hg (hn g rfl), r⟩
theorem CO.keeps (h : CO g sv m w) (c : Ch S w w') (h1 : ¬ S g.b) (h2 : ¬ S g.cb) (h3 : ∀ k, sv.ownBlock = some k → ¬ S k) : CO g sv m w' := by
  obtain ⟨cs, r, hc⟩ := h.code
  exact ⟨h.core.keeps c h1, ⟨cs, r.keeps c h2, hc⟩, own_keeps h.says c h3⟩
theorem CO.no (h : CO g sv m w) (c : Ch No w w') : CO g sv m w' := h.keeps c (fun x => x) (fun x => x) (fun _ _ x => x)
theorem CO.drewN (h : CO g sv m w) (n : Nat) : CO g sv m (w.drewN n) := h.no (Ch.drewN w n)
theorem CO.cReg (h : CO g sv m w) {a : Nat} (ha : a < 8) : w.cell? ⟨g.b, a, none⟩ = some (.int .u32 (m.r a)) :=
  h.core.cell (by match a, ha with | 0, _ => rfl | 1, _ => rfl | 2, _ => rfl | 3, _ => rfl | 4, _ => rfl | 5, _ => rfl | 6, _ => rfl | 7, _ => rfl)
theorem CO.cPc (h : CO g sv m w) : w.cell? ⟨g.b, 8, none⟩ = some (.int .i64 m.pc) := h.core.cell (j := 8) rfl
theorem CO.cMem (h : CO g sv m w) : w.cell? ⟨g.b, 9, none⟩ = some (.pointer (some ⟨g.reg, 0, none⟩)) := h.core.cell (j := 9) rfl
theorem CO.cCode (h : CO g sv m w) : w.cell? ⟨g.b, 10, none⟩ = some (.slice (some ⟨g.cb, 0, none⟩) g.code.length g.cap) := h.core.cell (j := 10) rfl
theorem CO.cSays (h : CO g sv m w) : w.cell? ⟨g.b, 11, none⟩ = some sv := h.core.cell (j := 11) rfl
theorem CO.cAsked (h : CO g sv m w) : w.cell? ⟨g.b, 12, none⟩ = some (.bool m.asked) := h.core.cell (j := 12) rfl
theorem CO.free (h : CO g sv m w) (j : Nat) : w.frozen? ⟨g.b, j, none⟩ = false := h.core.free j
theorem CO.inCell (h : CO g sv m w) {i : Nat} {x : IN} (hi : g.code[i]? = some x) :
    w.cell? ⟨g.cb, i * 4, none⟩ = some (.int .u8 x.op) ∧ w.cell? ⟨g.cb, i * 4 + 1, none⟩ = some (.int .u8 x.a) ∧ w.cell? ⟨g.cb, i * 4 + 2, none⟩ = some (.int .u8 x.b) ∧ w.cell? ⟨g.cb, i * 4 + 3, none⟩ = some (.int .u8 x.c) := by
  obtain ⟨cs, r, hc⟩ := h.code
  obtain ⟨h0, h1, h2, h3⟩ := hc i x hi
  exact ⟨r.cell h0, r.cell h1, r.cell h2, r.cell h3⟩
theorem CO.neCode (h : CO g sv m w) : g.cb ≠ g.b := fun e => by
  obtain ⟨cs, r, _⟩ := h.code
  rw [e] at r
  exact absurd (r.ty h.core) (by decide)
theorem CO.neSays (h : CO g sv m w) : ∀ k, sv.ownBlock = some k → k ≠ g.b ∧ k ≠ g.cb := fun k hk => by
  rcases h.says.2 with ⟨e, _⟩ | ⟨q, cap, cur, e, hb, hg, _⟩
  · rw [e] at hk; cases hk
  · have hq : k = q := by rw [e] at hk; simp [Value.ownBlock] at hk; exact hk.symm
    subst hq
    obtain ⟨cs, r, _⟩ := h.code
    exact ⟨fun e2 => absurd ((show Row k 5 cur w from hg).ty (e2 ▸ h.core)) (by decide), fun e2 => absurd ((show Row k 5 cur w from hg).ty (e2 ▸ r)) (by decide)⟩
/-- The core's own block turns. -/
theorem CO.turn {m' : CM} (h : CO g sv m w) (c : Ch (fun k => k = g.b) w w') (r : Row g.b 191 (ccells g sv m') w') (e : m'.says = m.says) : CO g sv m' w' := by
  have hn := h.neCode
  have hs := h.neSays
  obtain ⟨cs, rc, hc⟩ := h.code
  refine ⟨r, ⟨cs, rc.keeps c hn, hc⟩, ?_⟩
  rw [e]
  exact own_keeps h.says c (fun k hk => (hs k hk).1)
theorem ccells_reg (g : CG) (sv : Value) (m : CM) {a : Nat} (ha : a < 8) (x : Int) : (ccells g sv m).setIfInBounds a (.int .u32 x) = ccells g sv { m with r := upd m.r a x } := by
  match a, ha with
  | 0, _ => rfl
  | 1, _ => rfl
  | 2, _ => rfl
  | 3, _ => rfl
  | 4, _ => rfl
  | 5, _ => rfl
  | 6, _ => rfl
  | 7, _ => rfl
theorem CO.setReg (h : CO g sv m w) {a : Nat} (ha : a < 8) (x : Int) :
    CO g sv { m with r := upd m.r a x } (w.setCell ⟨g.b, a, none⟩ (.int .u32 x)) ∧ Ch (fun k => k = g.b) w (w.setCell ⟨g.b, a, none⟩ (.int .u32 x)) := by
  have hc := Ch.set1 w g.b a (.int .u32 x)
  exact ⟨h.turn hc (by have := h.core.set a (.int .u32 x); rwa [ccells_reg g sv m ha] at this) rfl, hc⟩
theorem CO.setPc (h : CO g sv m w) (x : Int) :
    CO g sv { m with pc := x } (w.setCell ⟨g.b, 8, none⟩ (.int .i64 x)) ∧ Ch (fun k => k = g.b) w (w.setCell ⟨g.b, 8, none⟩ (.int .i64 x)) := by
  have hc := Ch.set1 w g.b 8 (.int .i64 x)
  exact ⟨h.turn hc (h.core.set 8 (.int .i64 x)) rfl, hc⟩
theorem CO.setAsked (h : CO g sv m w) (x : Bool) :
    CO g sv { m with asked := x } (w.setCell ⟨g.b, 12, none⟩ (.bool x)) ∧ Ch (fun k => k = g.b) w (w.setCell ⟨g.b, 12, none⟩ (.bool x)) := by
  have hc := Ch.set1 w g.b 12 (.bool x)
  exact ⟨h.turn hc (h.core.set 12 (.bool x)) rfl, hc⟩
end

section
variable {g : CG} {sv : Value} {m : CM} {w : World}
set_option maxHeartbeats 400000 in
theorem cThere_any (h : CO g sv m w) : Calls Tryz.prog 61 #[.pointer (some ⟨g.b, 0, none⟩)] w fun e w' => e = .returned (.bool true) ∧ w = w' := by
  have c := h.cMem
  clear h
  go_enter Tryz.func61, Tryz.ntmps61
  go_wp2_with fail
  go_ret
  exact ⟨rfl, rfl⟩
set_option maxHeartbeats 400000 in
theorem wOf_any (a : Int) (h : 0 ≤ a ∧ a < 4294967296) (w : World) : Calls Tryz.prog 97 #[.int .i64 a] w fun e w' => e = .returned (.int .u32 a) ∧ w = w' := by
  go_enter Tryz.func97, Tryz.ntmps97
  go_wp2
  go_ret
  exact ⟨rfl, rfl⟩
theorem w64_32 (a : Int) : wrap64 (wrap32 a) = wrap32 a := by unfold wrap64 wrap32; omega
set_option maxHeartbeats 400000 in
theorem signed_any (a : Int) (w : World) :
    Calls Tryz.prog 63 #[.int .u32 a] w fun e w' => e = .returned (.int .i64 (wrap32 a)) ∧ w = w' := by
  have e : Hid (wrap64 (wrap32 a) = wrap32 a) := Lib.hid (w64_32 a)
  go_enter Tryz.func63, Tryz.ntmps63
  go_wp2
  go_ret
  rw [e.out]; exact ⟨rfl, rfl⟩

/-- Answered. -/
def CM.told (m : CM) (e v : Int) : CM := { m with asked := false, r := upd (upd m.r 0 e) 1 v }

set_option maxHeartbeats 1000000 in
theorem answer_any (e v : Int) (he : 0 ≤ e ∧ e < 4294967296) (h : CO g sv m w) (hk : m.asked = true) :
    Calls Tryz.prog 59 #[.pointer (some ⟨g.b, 0, none⟩), .int .i64 e, .int .u32 v] w fun r w' => r = .returned (.int .i64 0) ∧ CO g sv (m.told e v) w' ∧ Ch (fun k => k = g.b) w w' := by
  have H := Lib.hid h
  have c12 := h.cAsked
  rw [hk] at c12
  have f12 := h.free 12
  have d0 := h.cReg (a := 0) (by decide)
  have g0 := h.free 0
  have d1 := h.cReg (a := 1) (by decide)
  have g1 := h.free 1
  have s1 := h.setAsked false
  have k2 := s1.1.setReg (a := 0) (by decide) e
  have k3 := k2.1.setReg (a := 1) (by decide) v
  have K3 := Lib.hid (k3.1.drewN 1)
  have KC3 := Lib.hid (((s1.2.trans k2.2).trans k3.2).trans (Ch.drewN _ 1))
  clear h s1 k2 k3
  go_enter Tryz.func59, Tryz.ntmps59
  go_wp2_with fail
  refine (cThere_any H.out).mono ?_; rintro e1 w1 ⟨rfl, rfl⟩
  go_wp2_with fail
  go_region_held3 (fun _ => True) (first | exact trivial) (first
    | (go_at_call 97; refine (wOf_any _ he _).mono ?_; rintro e2 w2 ⟨rfl, rfl⟩))
  all_goals
    go_wp2_with fail
    go_ret
    exact ⟨rfl, K3.out, KC3.out⟩
end
end Go.Proofs.YtcngfaggignmpaaGreatDoor
