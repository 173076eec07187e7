/-
  The top, part 34: Told1, Forms.
-/
import Derived.Test.YtcngfaggignmpaaGreatDoorG01
import Derived.Test.YtcngfaggignmpaaGreatDoorG33
import Derived.Test.YtcngfaggignmpaaGreatDoorProg
import Derived.Deep.MidRow
import Derived.Deep.WholeRow

/-
  The board: who is told what, in plain; the map of those who live.
-/
namespace Go.Proofs.YtcngfaggignmpaaGreatDoor
open Go.RowKit Go.ChangeMaps Go.MapKept

/-- The map of those who live, by the tasks so far. -/
def liveE (l : List (Nat × TM)) : Array MapEntry := (l.zipIdx.map (fun p => (⟨.int .u32 (256 + p.1.1), .bool true, p.2⟩ : MapEntry))).toArray
theorem liveE_nil : liveE [] = #[] := rfl
theorem liveE_push (l : List (Nat × TM)) (x : Nat × TM) : liveE (l ++ [x]) = (liveE l).push ⟨.int .u32 (256 + x.1), .bool true, l.length⟩ := by
  unfold liveE
  rw [List.zipIdx_append]
  simp
theorem liveE_keys (l : List (Nat × TM)) : ∀ x ∈ (liveE l).toList, IsKey (.int .u32) x.key := by
  intro x hx
  unfold liveE at hx
  simp at hx
  obtain ⟨a, b, c, _, rfl⟩ := hx
  simp [IsKey]
theorem liveE_find (l : List (Nat × TM)) (i : Nat) :
    (Instr.findNow (.int .u32) (.int .u32 (256 + (i : Int))) (liveE l).toList 0 = some none ∧ ∀ t, (i, t) ∉ l) ∨
      ∃ j, Instr.findNow (.int .u32) (.int .u32 (256 + (i : Int))) (liveE l).toList 0 = some (some (j, .bool true)) ∧ ∃ t, (i, t) ∈ l := by
  rcases findNow_spec (d := .int .u32) (k := .int .u32 (256 + (i : Int))) (by simp [IsKey]) (liveE l).toList 0 (liveE_keys l) with ⟨h1, h2⟩ | ⟨j, e, h1, h2, h3⟩
  · refine .inl ⟨h1, fun t ht => ?_⟩
    obtain ⟨n, hn⟩ := List.getElem?_of_mem ht
    refine h2 ⟨.int .u32 (256 + (i : Int)), .bool true, n⟩ ?_ rfl
    unfold liveE
    simp
    exact ⟨i, ⟨t, by rw [List.mem_zipIdx_iff_getElem?]; exact hn⟩, rfl⟩
  · unfold liveE at h2
    rw [List.getElem?_map] at h2
    cases e2 : l.zipIdx[j]? with
    | none => rw [e2] at h2; simp at h2
    | some p =>
      rw [e2] at h2
      simp at h2
      subst h2
      simp at h3
      have hp : p.1.1 = i := by omega
      refine .inr ⟨j, by rw [h1]; simp, p.1.2, ?_⟩
      have := List.mem_of_getElem? e2
      rw [List.mem_zipIdx_iff_getElem?] at this
      have := List.mem_of_getElem? this
      rw [← hp]
      exact this
theorem zeroBool (w : World) : (zeroValue 4).run Tryz.prog w = .ok (.bool false) w := by kernel_rfl
theorem live_look {w : World} {b c : Nat} {l : List (Nat × TM)} (h : w.heap[b]? = some (.map (liveE l) c)) (i : Nat) :
    ((Instr.lookup 193 (.map (some b)) (.int .u32 (256 + (i : Int))) false).run Tryz.prog w = .ok (.bool false) w ∧ ∀ t, (i, t) ∉ l) ∨
      ((Instr.lookup 193 (.map (some b)) (.int .u32 (256 + (i : Int))) false).run Tryz.prog w = .ok (.bool true) w ∧ ∃ t, (i, t) ∈ l) := by
  rcases liveE_find l i with ⟨hf, hn⟩ | ⟨j, hf, hn⟩
  · exact .inl ⟨run_look1_none Tryz.underlying193 Tryz.underlying34 w b _ c _ _ h (zeroBool w) hf, hn⟩
  · exact .inr ⟨run_look1 Tryz.underlying193 Tryz.underlying34 w b _ c _ j _ h hf, hn⟩
theorem tl_mem (m : KM) (n i : Nat) (t : TM) : (i, t) ∈ tl m n ↔ i < n ∧ m.tk i = some t := by
  unfold tl
  simp [List.mem_filterMap]
theorem tl_apart (m : KM) : ∀ n, (tl m n).Pairwise (fun x y => x.1 ≠ y.1)
  | 0 => by simp [tl]
  | n + 1 => by
    cases e : m.tk n with
    | none => rw [tl_none e]; exact tl_apart m n
    | some t =>
      rw [tl_some e, List.pairwise_append]
      refine ⟨tl_apart m n, by simp, fun x hx y hy => ?_⟩
      simp at hy
      subst hy
      have := (tl_mem m n x.1 x.2).1 hx
      omega
theorem tl_new {m : KM} {n k : Nat} {x : Nat × TM} (h : (tl m n)[k]? = some x) : ∀ t, (x.1, t) ∉ (tl m n).take k := by
  intro t ht
  obtain ⟨j, hj⟩ := List.getElem?_of_mem ht
  have hjk : j < k := by
    have := (List.getElem?_eq_some_iff.1 hj).1
    simp at this
    omega
  rw [List.getElem?_take_of_lt hjk] at hj
  have hp := tl_apart m n
  rw [List.pairwise_iff_getElem] at hp
  obtain ⟨h1, e1⟩ := List.getElem?_eq_some_iff.1 hj
  obtain ⟨h2, e2⟩ := List.getElem?_eq_some_iff.1 h
  have := hp j k h1 h2 hjk
  rw [e1, e2] at this
  exact this rfl

/-- How many answers a core was told of, behind it. -/
def toldA (o : Option TM) (a : Int) : Int := match o with
  | none => a
  | some t => if a < t.ans then t.ans else a
/-- Told so far: those of the first tasks. -/
structure SoFar (m : KM) (cs : Nat → CM) (an : Nat → Int) (l : List (Nat × TM)) (cs' : Nat → CM) (an' : Nat → Int) : Prop where
  yes : ∀ i t, (i, t) ∈ l → an' i = toldA (m.tk i) (an i) ∧ cs' i = toldC (m.tk i) (cs i) (an i)
  no : ∀ i, (∀ t, (i, t) ∉ l) → an' i = an i ∧ cs' i = cs i
theorem SoFar.nil (m : KM) (cs : Nat → CM) (an : Nat → Int) : SoFar m cs an [] cs an := ⟨fun i t h => by simp at h, fun i _ => ⟨rfl, rfl⟩⟩
theorem SoFar.next {m : KM} {cs cs' : Nat → CM} {an an' : Nat → Int} {l : List (Nat × TM)} (h : SoFar m cs an l cs' an') {i : Nat} {t : TM} (ht : m.tk i = some t) (hn : ∀ t, (i, t) ∉ l) {cs2 : Nat → CM} {an2 : Nat → Int}
    (h1 : an2 i = toldA (some t) (an i)) (h2 : cs2 i = toldC (some t) (cs i) (an i)) (h3 : ∀ j, j ≠ i → an2 j = an' j ∧ cs2 j = cs' j) : SoFar m cs an (l ++ [(i, t)]) cs2 an2 := by
  refine ⟨fun j u hu => ?_, fun j hj => ?_⟩
  · by_cases e : j = i
    · subst e
      rw [ht]
      exact ⟨h1, h2⟩
    · obtain ⟨a, b⟩ := h3 j e
      rw [a, b]
      refine h.yes j u ?_
      rw [List.mem_append] at hu
      rcases hu with hu | hu
      · exact hu
      · simp at hu; exact absurd hu.1 e
  · have e : j ≠ i := fun e => hj t (by subst e; simp)
    obtain ⟨a, b⟩ := h3 j e
    rw [a, b]
    exact h.no j (fun u hu => hj u (List.mem_append_left _ hu))
theorem SoFar.all {m : KM} {cs cs' : Nat → CM} {an an' : Nat → Int} (h : SoFar m cs an (tl m 16) cs' an') (hp : ∀ i t, m.tk i = some t → i < 16) : an' = (fun i => toldA (m.tk i) (an i)) ∧ cs' = (fun i => toldC (m.tk i) (cs i) (an i)) := by
  have : ∀ i, an' i = toldA (m.tk i) (an i) ∧ cs' i = toldC (m.tk i) (cs i) (an i) := fun i => by
    cases e : m.tk i with
    | none =>
      obtain ⟨a, b⟩ := h.no i (fun t ht => by have := ((tl_mem m 16 i t).1 ht).2; rw [e] at this; cases this)
      exact ⟨a, b⟩
    | some t =>
      have := h.yes i t ((tl_mem m 16 i t).2 ⟨hp i t e, e⟩)
      rw [e] at this
      exact this
  exact ⟨funext fun i => (this i).1, funext fun i => (this i).2⟩
/-- Entries that are kept: of those who live, and those that were not seen yet. -/
def keepB (m : KM) (seen : Array Nat) (x : Nat × Nat) : Bool := (m.tk x.1).isSome || !seen.contains x.2
theorem keep_push (m : KM) (seen : Array Nat) (s : Nat) (y : Nat × Nat) : keepB m (seen.push s) y = ((m.tk y.1).isSome || (!seen.contains y.2 && !(y.2 == s))) := by
  unfold keepB
  rw [Array.contains_push]
  cases (m.tk y.1).isSome <;> cases seen.contains y.2 <;> cases e : (y.2 == s) <;> simp_all
theorem nodup_two {os : List (Nat × Nat)} (h : (os.map (·.2)).Nodup) {x y : Nat × Nat} (hx : x ∈ os) (hy : y ∈ os) (e : x.2 = y.2) : x = y := by
  induction os with
  | nil => cases hx
  | cons a os ih =>
    simp at h
    rcases List.mem_cons.1 hx with rfl | hx'
    · rcases List.mem_cons.1 hy with rfl | hy'
      · rfl
      · exact absurd (by rw [e]; exact hy') (h.1 y.1)
    · rcases List.mem_cons.1 hy with rfl | hy'
      · exact absurd (by rw [← e]; exact hx') (h.1 x.1)
      · exact ih h.2 hx' hy'
theorem nodup_one {os : List (Nat × Nat)} (h : (os.map (·.1)).Nodup) {x y : Nat × Nat} (hx : x ∈ os) (hy : y ∈ os) (e : x.1 = y.1) : x = y := by
  induction os with
  | nil => cases hx
  | cons a os ih =>
    simp at h
    rcases List.mem_cons.1 hx with rfl | hx'
    · rcases List.mem_cons.1 hy with rfl | hy'
      · rfl
      · exact absurd (by rw [e]; exact hy') (h.1 y.2)
    · rcases List.mem_cons.1 hy with rfl | hy'
      · exact absurd (by rw [← e]; exact hx') (h.1 x.2)
      · exact ih h.2 hx' hy'
theorem keep_live {m : KM} {os : List (Nat × Nat)} {seen : Array Nat} {i s : Nat} (h2 : (os.map (·.2)).Nodup) (hx : (i, s) ∈ os) (hl : (m.tk i).isSome = true) : os.filter (keepB m (seen.push s)) = os.filter (keepB m seen) := by
  refine List.filter_congr (fun y hy => ?_)
  rw [keep_push]
  unfold keepB
  by_cases e : y.2 = s
  · have := nodup_two h2 hy hx e
    subst this
    simp [hl]
  · have : (y.2 == s) = false := by simp [e]
    rw [this]
    simp
theorem keep_drop {m : KM} {os : List (Nat × Nat)} {seen : Array Nat} {i s : Nat} (h1 : (os.map (·.1)).Nodup) (h2 : (os.map (·.2)).Nodup) (hx : (i, s) ∈ os) (hl : (m.tk i).isSome = false) : os.filter (keepB m (seen.push s)) = (os.filter (keepB m seen)).filter (fun y => y.1 != i) := by
  rw [List.filter_filter]
  refine List.filter_congr (fun y hy => ?_)
  rw [keep_push]
  unfold keepB
  by_cases e : y.2 = s
  · have := nodup_two h2 hy hx e
    subst this
    simp [hl]
  · have e1 : (y.2 == s) = false := by simp [e]
    have e2 : (y.1 != i) = true := by
      rw [bne_iff_ne]
      intro e3
      have := nodup_one h1 hy hx e3
      subst this
      exact e rfl
    rw [e1, e2]
    simp
theorem keep_end {m : KM} {os : List (Nat × Nat)} {seen : Array Nat} (h : ∀ x ∈ os.filter (keepB m seen), seen.contains x.2 = true) : os.filter (keepB m seen) = os.filter (fun x => (m.tk x.1).isSome) := by
  refine List.filter_congr (fun y hy => ?_)
  cases e : keepB m seen y
  · unfold keepB at e
    simp at e
    simp [e.1]
  · have := h y (List.mem_filter.2 ⟨hy, e⟩)
    unfold keepB at e
    rw [this] at e
    simpa using e.symm
theorem keep_none (m : KM) (os : List (Nat × Nat)) : os.filter (keepB m #[]) = os := by
  rw [List.filter_eq_self]
  intro a _
  unfold keepB
  simp
theorem left_less {os : List (Nat × Nat)} {seen : Array Nat} {i s : Nat} (hx : (i, s) ∈ os) (hs : seen.contains s = false) : (os.filter (fun y => !(seen.push s).contains y.2)).length < (os.filter (fun y => !seen.contains y.2)).length := by
  have e : os.filter (fun y => !(seen.push s).contains y.2) = (os.filter (fun y => !seen.contains y.2)).filter (fun y => !(y.2 == s)) := by
    rw [List.filter_filter]
    refine List.filter_congr (fun y _ => ?_)
    rw [Array.contains_push]
    cases seen.contains y.2 <;> cases e : (y.2 == s) <;> simp_all
  rw [e, List.length_filter_lt_length_iff_exists]
  exact ⟨(i, s), List.mem_filter.2 ⟨hx, by show (!seen.contains s) = true; rw [hs]; rfl⟩, by simp⟩
end Go.Proofs.YtcngfaggignmpaaGreatDoor

/-
  Instructions: the forms of all Ops.
-/
namespace Go.Proofs.YtcngfaggignmpaaGreatDoor
open Go.RowKit

/-- The forms' cells: a word and its fields, for each Op. -/
def formArr : Array Value := #[.string ⟨#[110, 111, 112]⟩, .string ⟨#[]⟩, .string ⟨#[115, 101, 116]⟩, .string ⟨#[114, 110]⟩, .string ⟨#[109, 111, 118, 101]⟩, .string ⟨#[114, 114]⟩, .string ⟨#[97, 100, 100]⟩, .string ⟨#[114, 114, 114]⟩, .string ⟨#[115, 117, 98]⟩, .string ⟨#[114, 114, 114]⟩, .string ⟨#[109, 117, 108]⟩, .string ⟨#[114, 114, 114]⟩, .string ⟨#[97, 110, 100]⟩, .string ⟨#[114, 114, 114]⟩, .string ⟨#[111, 114]⟩, .string ⟨#[114, 114, 114]⟩, .string ⟨#[120, 111, 114]⟩, .string ⟨#[114, 114, 114]⟩, .string ⟨#[108, 101, 102, 116]⟩, .string ⟨#[114, 114, 114]⟩, .string ⟨#[114, 105, 103, 104, 116]⟩, .string ⟨#[114, 114, 114]⟩, .string ⟨#[108, 111, 97, 100]⟩, .string ⟨#[114, 114, 98]⟩, .string ⟨#[115, 116, 111, 114, 101]⟩, .string ⟨#[114, 114, 98]⟩, .string ⟨#[98, 121, 116, 101]⟩, .string ⟨#[114, 114, 98]⟩, .string ⟨#[112, 117, 116]⟩, .string ⟨#[114, 114, 98]⟩, .string ⟨#[115, 97, 109, 101]⟩, .string ⟨#[114, 114, 115]⟩, .string ⟨#[111, 116, 104, 101, 114]⟩, .string ⟨#[114, 114, 115]⟩, .string ⟨#[108, 101, 115, 115]⟩, .string ⟨#[114, 114, 115]⟩, .string ⟨#[98, 101, 108, 111, 119]⟩, .string ⟨#[114, 114, 115]⟩, .string ⟨#[103, 111]⟩, .string ⟨#[110]⟩, .string ⟨#[116, 101, 108, 108]⟩, .string ⟨#[114]⟩, .string ⟨#[97, 115, 107]⟩, .string ⟨#[119]⟩, .string ⟨#[101, 110, 100]⟩, .string ⟨#[]⟩]
theorem form_one : formArr.all (·.oneCell') = true := by decide +kernel
theorem info334 : (Tryz.prog.info? 334).map (·.size) = some 46 := by kernel_rfl
theorem und334 : Tryz.prog.underlying 334 = some (.array 23 333) := by kernel_rfl
theorem form_size : formArr.size = 46 := rfl

theorem wpList_store_new {P : Program} {ops : Array Oper} {rest : List Oper} {op : Oper} {a : Act} {Q : Exit → Act → World → Prop} (hgd : op.guard = none) (ty : TypeId) (x y : Operand) (ho : op.op = .store ty x y)
    (w : World) (c c' : Array Value) (hx : a.eval x = .pointer (some ⟨w.heap.size, 0, none⟩)) (hy : a.eval y = .agg c')
    (hi : (P.info? ty).map (·.size) = some c'.size) (hs : c.size = c'.size) (h1 : c'.all (·.oneCell') = true)
    (h : wpList P ops Q rest (a.put op.dst undef) (w.alloc (.cells c' ty))) : wpList P ops Q (op :: rest) a (w.alloc (.cells c ty)) :=
  wpList_plain hgd fun _ hK => by
    unfold Oper.wp execOp
    simp only [ho, hx, hy, Instr.storeAt, Instr.sureAddr, Sem.run_bind, Sem.run_pure, Result.andThen_ok, run_storeVar_new w ty c c' hi hs h1]
    exact hK _ _ h
theorem results_cell {fn : Func} {p : Tmp} {ty : TypeId} (h : fn.results = #[.cell p ty]) (tmps : Array Value) (P : Program) (w : World) :
    (results fn tmps).run P w = ((asAddr (tmps.getD p undef)).run P w).andThen fun a w1 => (loadVar ty a).run P w1 := by
  simp only [results, h]
  simp [Sem.run_bind, Result.andThen]
theorem form_load (w : World) : (loadVar 334 ⟨w.heap.size, 0, none⟩).run Tryz.prog (w.alloc (.cells formArr 334)) = .ok (.agg formArr) (w.alloc (.cells formArr 334)) := run_loadVar_new w 334 formArr 23 333 und334 info334

set_option maxRecDepth 100000 in
set_option maxHeartbeats 1000000 in
theorem forms_any (w : World) : Calls Tryz.prog 181 #[] w fun e w' => e = .returned (.agg formArr) ∧ Ch No w w' := by
  have hl := form_load w
  go_enter Tryz.func181, Tryz.ntmps181
  go_wp2_with (refine wpList_store_new rfl 334 _ _ rfl w _ formArr rfl rfl info334 rfl form_one ?_)
  refine bodyPost_ret (v := .agg formArr) ?_ rfl ⟨rfl, Ch.alloc w _⟩
  rw [results_cell (p := 0) (ty := 334) rfl]
  exact hl
end Go.Proofs.YtcngfaggignmpaaGreatDoor
