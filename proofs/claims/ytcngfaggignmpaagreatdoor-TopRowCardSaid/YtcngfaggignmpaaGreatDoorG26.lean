/-
  The top, part 26: Rules, Late, Caught.
-/
import Derived.Test.YtcngfaggignmpaaGreatDoorG01
import Derived.Test.YtcngfaggignmpaaGreatDoorG18
import Derived.Test.YtcngfaggignmpaaGreatDoorG25
import Derived.Laws.EntriesVeiled
import Derived.Deep.RegionHeld
import Derived.Recover

/-
  The core's rules: a map of functions.
-/
namespace Go.Proofs.YtcngfaggignmpaaGreatDoor
open Go.RowKit Go.ChangeMaps Go.MapKept

/-- The rules' keys, their functions, whether they hold the box, and their places, in the order in which they are laid. -/
def ruleRow : List (Nat × Nat × Bool × Nat) :=
  [(0, 103, false, 0), (1, 104, false, 1), (2, 105, false, 2), (11, 106, true, 3), (13, 109, true, 4), (12, 112, true, 5), (14, 115, true, 6), (19, 117, false, 7), (20, 118, false, 8), (3, 119, false, 9), (4, 119, false, 10), (5, 119, false, 11), (6, 119, false, 12), (7, 119, false, 13), (8, 119, false, 14), (9, 119, false, 15), (10, 119, false, 16), (15, 121, false, 17), (16, 121, false, 18), (17, 121, false, 19), (18, 121, false, 20)]
def ruleV (bx f : Nat) (b : Bool) : Value := .agg #[.func (.func f) #[] (if b then #[.pointer (some ⟨bx, 0, none⟩)] else #[])]
def ruleEnt (bx : Nat) (x : Nat × Nat × Bool × Nat) : MapEntry := ⟨.int .u8 x.1, ruleV bx x.2.1 x.2.2.1, x.2.2.2⟩
/-- The first so many of them. -/
def ruleArr (bx : Nat) (n : Nat) : Array MapEntry := ((ruleRow.take n).map (ruleEnt bx)).toArray

theorem find_none (k : Int) : ∀ (l : List MapEntry) (i : Nat), (∀ e ∈ l, ∃ k' : Int, e.key = .int .u8 k' ∧ k ≠ k') → Instr.findNow (.int .u8) (.int .u8 k) l i = some none
  | [], _, _ => rfl
  | x :: r, i, h => by
    obtain ⟨k', e, hk⟩ := h x (.head _)
    have h1 : (k == k') = false := by rw [beq_eq_false_iff_ne]; exact hk
    have h2 := find_none k r (i + 1) (fun y hy => h y (.tail _ hy))
    simp [Instr.findNow, Instr.sameNow, e, h1]
    simpa using h2
theorem rule_apart : ∀ n, n < 21 → ∀ x, ruleRow[n]? = some x → x.2.2.2 = n ∧ ∀ y ∈ ruleRow.take n, x.1 ≠ y.1 := by decide
theorem rule_put (bx n k f : Nat) (b : Bool) (w : World) (h : ruleRow[n]? = some (k, f, b, n)) :
    (Instr.mapUpdate 203 (.map (some w.heap.size)) (.int .u8 k) (ruleV bx f b)).run Tryz.prog (w.alloc (.map (ruleArr bx n) n)) = .ok () (w.alloc (.map (ruleArr bx (n + 1)) (n + 1))) := by
  have hn : n < 21 := (List.getElem?_eq_some_iff.1 h).1
  have h1 := run_put_new Tryz.underlying203 Tryz.underlying45 w (ruleArr bx n) n k (ruleV bx f b) (find_none _ _ _ (fun e he => by
    simp only [ruleArr, List.mem_map] at he
    obtain ⟨y, hy, rfl⟩ := he
    exact ⟨y.1, rfl, fun e2 => (rule_apart n hn _ h).2 y hy (by omega)⟩))
  have e : ruleArr bx (n + 1) = (ruleArr bx n).push ⟨.int .u8 k, ruleV bx f b, n⟩ := by
    unfold ruleArr
    rw [List.take_add_one, h]
    simp [ruleEnt]
  rw [e]
  exact h1

theorem rule_key1 : ∀ k, 3 ≤ k → k ≤ 10 → ruleRow[k + 6]? = some (k, 119, false, k + 6) := by
  intro k h1 h2
  have : k = 3 ∨ k = 4 ∨ k = 5 ∨ k = 6 ∨ k = 7 ∨ k = 8 ∨ k = 9 ∨ k = 10 := by omega
  rcases this with rfl | rfl | rfl | rfl | rfl | rfl | rfl | rfl <;> rfl
theorem rule_key2 : ∀ k, 15 ≤ k → k ≤ 18 → ruleRow[k + 2]? = some (k, 121, false, k + 2) := by
  intro k h1 h2
  have : k = 15 ∨ k = 16 ∨ k = 17 ∨ k = 18 := by omega
  rcases this with rfl | rfl | rfl | rfl <;> rfl

set_option maxRecDepth 100000 in
set_option maxHeartbeats 4000000 in
theorem rules_any (w : World) : Calls Tryz.prog 64 #[] w fun e w' => ∃ bx mp, e = .returned (.map (some mp)) ∧ w'.heap[mp]? = some (.map (ruleArr bx 21) 21) ∧ Ch No w w' := by
  have hmm := @run_makeMap Tryz.prog
  have hsz : (w.alloc (.cells #[.func (.func 102) #[] #[]] 261)).heap.size = w.heap.size + 1 := Array.size_push _
  have HP : Hid (∀ (n k f : Nat) (b : Bool), ruleRow[n]? = some (k, f, b, n) → (Instr.mapUpdate 203 (.map (some (w.heap.size + 1))) (.int .u8 k) (ruleV w.heap.size f b)).run Tryz.prog ((w.alloc (.cells #[.func (.func 102) #[] #[]] 261)).alloc (.map (ruleArr w.heap.size n) n)) = .ok () ((w.alloc (.cells #[.func (.func 102) #[] #[]] 261)).alloc (.map (ruleArr w.heap.size (n + 1)) (n + 1)))) := Lib.hid (fun n k f b h => by
    have := rule_put w.heap.size n k f b (w.alloc (.cells #[.func (.func 102) #[] #[]] 261)) h
    rw [hsz] at this
    exact this)
  have p0 : (Instr.mapUpdate 203 (.map (some (w.heap.size + 1))) (.int .u8 0) (.agg #[.func (.func 103) #[] #[]])).run Tryz.prog ((w.alloc (.cells #[.func (.func 102) #[] #[]] 261)).alloc (.map #[] 0)) = .ok () ((w.alloc (.cells #[.func (.func 102) #[] #[]] 261)).alloc (.map (ruleArr w.heap.size 1) 1)) := HP.out 0 0 103 false rfl
  have p1 : (Instr.mapUpdate 203 (.map (some (w.heap.size + 1))) (.int .u8 1) (.agg #[.func (.func 104) #[] #[]])).run Tryz.prog ((w.alloc (.cells #[.func (.func 102) #[] #[]] 261)).alloc (.map (ruleArr w.heap.size 1) 1)) = .ok () ((w.alloc (.cells #[.func (.func 102) #[] #[]] 261)).alloc (.map (ruleArr w.heap.size 2) 2)) := HP.out 1 1 104 false rfl
  have p2 : (Instr.mapUpdate 203 (.map (some (w.heap.size + 1))) (.int .u8 2) (.agg #[.func (.func 105) #[] #[]])).run Tryz.prog ((w.alloc (.cells #[.func (.func 102) #[] #[]] 261)).alloc (.map (ruleArr w.heap.size 2) 2)) = .ok () ((w.alloc (.cells #[.func (.func 102) #[] #[]] 261)).alloc (.map (ruleArr w.heap.size 3) 3)) := HP.out 2 2 105 false rfl
  have p3 : (Instr.mapUpdate 203 (.map (some (w.heap.size + 1))) (.int .u8 11) (.agg #[.func (.func 106) #[] #[.pointer (some ⟨w.heap.size, 0, none⟩)]])).run Tryz.prog ((w.alloc (.cells #[.func (.func 102) #[] #[]] 261)).alloc (.map (ruleArr w.heap.size 3) 3)) = .ok () ((w.alloc (.cells #[.func (.func 102) #[] #[]] 261)).alloc (.map (ruleArr w.heap.size 4) 4)) := HP.out 3 11 106 true rfl
  have p4 : (Instr.mapUpdate 203 (.map (some (w.heap.size + 1))) (.int .u8 13) (.agg #[.func (.func 109) #[] #[.pointer (some ⟨w.heap.size, 0, none⟩)]])).run Tryz.prog ((w.alloc (.cells #[.func (.func 102) #[] #[]] 261)).alloc (.map (ruleArr w.heap.size 4) 4)) = .ok () ((w.alloc (.cells #[.func (.func 102) #[] #[]] 261)).alloc (.map (ruleArr w.heap.size 5) 5)) := HP.out 4 13 109 true rfl
  have p5 : (Instr.mapUpdate 203 (.map (some (w.heap.size + 1))) (.int .u8 12) (.agg #[.func (.func 112) #[] #[.pointer (some ⟨w.heap.size, 0, none⟩)]])).run Tryz.prog ((w.alloc (.cells #[.func (.func 102) #[] #[]] 261)).alloc (.map (ruleArr w.heap.size 5) 5)) = .ok () ((w.alloc (.cells #[.func (.func 102) #[] #[]] 261)).alloc (.map (ruleArr w.heap.size 6) 6)) := HP.out 5 12 112 true rfl
  have p6 : (Instr.mapUpdate 203 (.map (some (w.heap.size + 1))) (.int .u8 14) (.agg #[.func (.func 115) #[] #[.pointer (some ⟨w.heap.size, 0, none⟩)]])).run Tryz.prog ((w.alloc (.cells #[.func (.func 102) #[] #[]] 261)).alloc (.map (ruleArr w.heap.size 6) 6)) = .ok () ((w.alloc (.cells #[.func (.func 102) #[] #[]] 261)).alloc (.map (ruleArr w.heap.size 7) 7)) := HP.out 6 14 115 true rfl
  have p7 : (Instr.mapUpdate 203 (.map (some (w.heap.size + 1))) (.int .u8 19) (.agg #[.func (.func 117) #[] #[]])).run Tryz.prog ((w.alloc (.cells #[.func (.func 102) #[] #[]] 261)).alloc (.map (ruleArr w.heap.size 7) 7)) = .ok () ((w.alloc (.cells #[.func (.func 102) #[] #[]] 261)).alloc (.map (ruleArr w.heap.size 8) 8)) := HP.out 7 19 117 false rfl
  have p8 : (Instr.mapUpdate 203 (.map (some (w.heap.size + 1))) (.int .u8 20) (.agg #[.func (.func 118) #[] #[]])).run Tryz.prog ((w.alloc (.cells #[.func (.func 102) #[] #[]] 261)).alloc (.map (ruleArr w.heap.size 8) 8)) = .ok () ((w.alloc (.cells #[.func (.func 102) #[] #[]] 261)).alloc (.map (ruleArr w.heap.size 9) 9)) := HP.out 8 20 118 false rfl
  have HM : Hid (((w.alloc (.cells #[.func (.func 102) #[] #[]] 261)).alloc (.map (ruleArr w.heap.size 21) 21)).heap[w.heap.size + 1]? = some (.map (ruleArr w.heap.size 21) 21)) := Lib.hid (by rw [← hsz]; exact (MapKept.heap_alloc _ _).1)
  clear hsz
  go_enter Tryz.func64, Tryz.ntmps64
  go_wp2_with fail
  clear p0 p1 p2 p3 p4 p5 p6 p7 p8
  go_loopw [3] (fun i wr => ∃ k : Nat, 3 ≤ k ∧ k ≤ 11 ∧ i = .int .u8 (k : Int) ∧ wr = (w.alloc (.cells #[.func (.func 102) #[] #[]] 261)).alloc (.map (ruleArr w.heap.size (k + 6)) (k + 6))) (fun i _ => 11 - (intOf i).toNat)
  case atStart => exact ⟨3, by omega, by omega, rfl, rfl⟩
  case round =>
    obtain ⟨k, h3, hk, rfl, rfl⟩ := hrel
    by_cases hlt : k ≤ 10
    · have pk := HP.out (k + 6) k 119 false (rule_key1 k h3 hlt)
      simp only [ruleV, Bool.false_eq_true, if_false] at pk
      have hk1 : ((k : Int) + 1) % 256 = (k : Int) + 1 := by omega
      have hk2 : (0 : Int) ≤ (k : Int) ∧ (k : Int) ≤ 10 := by omega
      go_wp2_with fail
      go_roundw
      case rel => exact ⟨k + 1, by omega, by omega, by go_num, rfl⟩
      case measure => simp [intOf]; omega
    · obtain rfl : k = 11 := by omega
      go_wp2_with fail
      go_loopw [4] (fun i wx => ∃ k : Nat, 15 ≤ k ∧ k ≤ 19 ∧ i = .int .u8 (k : Int) ∧ wx = (w.alloc (.cells #[.func (.func 102) #[] #[]] 261)).alloc (.map (ruleArr w.heap.size (k + 2)) (k + 2))) (fun i _ => 19 - (intOf i).toNat)
      case atStart => exact ⟨15, by omega, by omega, rfl, rfl⟩
      case round =>
        obtain ⟨k, h3, hk, rfl, rfl⟩ := hrel
        by_cases hlt : k ≤ 18
        · have pk := HP.out (k + 2) k 121 false (rule_key2 k h3 hlt)
          simp only [ruleV, Bool.false_eq_true, if_false] at pk
          have hk1 : ((k : Int) + 1) % 256 = (k : Int) + 1 := by omega
          have hk2 : (0 : Int) ≤ (k : Int) ∧ (k : Int) ≤ 18 := by omega
          go_wp2_with fail
          go_roundw
          case rel => exact ⟨k + 1, by omega, by omega, by go_num, rfl⟩
          case measure => simp [intOf]; omega
        · obtain rfl : k = 19 := by omega
          go_wp2_with fail
          go_ret
          exact ⟨_, _, rfl, HM.out, (Ch.alloc w _).trans (Ch.alloc _ _)⟩
end Go.Proofs.YtcngfaggignmpaaGreatDoor

/-
  A region in which a condition holds till its last operations: these may break it, since each of them waits for all that leans on it. Plain; no program in sight.
-/
namespace Go.Proofs.YtcngfaggignmpaaGreatDoor
open Go

section
variable {P : Program} {ops : Array Oper} {Q : Exit → Act → World → Prop} {md : Region.Mode} {S : World → Prop} {late : List Nat}

/-- Whatever order is picked; S holds behind each operation that is not one of the late ones. -/
def Lasts (P : Program) (md : Region.Mode) (ops : Array Oper) (Q : Exit → Act → World → Prop) (S : World → Prop) (late : List Nat) : Nat → Array Bool → Act → World → Prop
  | 0, done, a, w => Region.ready md ops done = [] ∧ Q .normal a w
  | n + 1, done, a, w => (Region.ready md ops done = [] → Q .normal a w) ∧
    ∀ j, j ∈ Region.ready md ops done → wpOp P ops Q j (fun a' w' => (j ∈ late ∨ S w') ∧ Lasts P md ops Q S late n (done.setIfInBounds j true) a' w') a w

theorem Lasts.any : ∀ (n : Nat) (done : Array Bool) (a : Act) (w : World), Lasts P md ops Q S late n done a w → wpAny P md ops Q n done a w
  | 0, _, _, _, h => h
  | n + 1, _, _, _, h => ⟨h.1, fun j hj => wpOp_mono (fun a' w' g => Lasts.any n _ a' w' g.2) (h.2 j hj)⟩

/-- Each late one waits for operation i. -/
def waitFor (md : Region.Mode) (ops : Array Oper) (late : List Nat) (i : Nat) : Bool :=
  late.all fun j => match ops[j]? with
    | some o => o.after.any fun e => Region.binds md e && e.on == i
    | none => true

theorem not_late {i j : Nat} {done : Array Bool} (hw : waitFor md ops late i = true) (hr : i ∈ Region.ready md ops done) (hj : j ∈ Region.ready md ops done) : j ∉ late := fun hl => by
  obtain ⟨_, oj, hoj, hall⟩ := mem_ready.1 hj
  have h1 := List.all_eq_true.1 hw j hl
  rw [hoj] at h1
  obtain ⟨k, hk, he⟩ := Array.any_eq_true.1 h1
  rw [Bool.and_eq_true, beq_iff_eq] at he
  have h2 := hall _ (Array.getElem_mem hk) he.1
  have h0 := (mem_ready.1 hr).1
  rw [he.2] at h2
  rcases Nat.lt_or_ge i done.size with h' | h'
  · simp [h'] at h0 h2; rw [h0] at h2; cases h2
  · simp [Array.getElem?_eq_none h'] at h2

theorem Lasts.first {i : Nat} {oi : Oper} {v : Value} (hi : ops[i]? = some oi) (hsel : ∀ (j : Nat) (o : Oper) cs b, ops[j]? = some o → o.op ≠ .select cs b)
    (hQ : ∀ c a w, Q (.panic c) (a.put oi.dst v) w → Q (.panic c) a w) (hl : waitFor md ops late i = true) :
    ∀ (n : Nat) (done : Array Bool) (a : Act) (w : World),
      (∀ j oj, ops[j]? = some oj → j ≠ i → done.getD j true = false → (∀ e ∈ oj.after, Region.binds md e = true → e.on ≠ i) → oi.apart ops oj = true) →
      i ∈ Region.ready md ops done → YieldsIf P ops S oi v a → S w →
      Lasts P md ops Q S late n (done.setIfInBounds i true) (a.put oi.dst v) w → Lasts P md ops Q S late (n + 1) done a w
  | 0, done, a, w, _, hr, hy, hS, H => by
    refine ⟨fun h => (by rw [h] at hr; cases hr), fun j hj => ?_⟩
    by_cases hji : j = i
    · subst hji; exact hy.wpOp hi hS ⟨.inr hS, H⟩
    · have := ready_mono hj hji
      rw [H.1] at this
      cases this
  | n + 1, done, a, w, hfree, hr, hy, hS, H => by
    refine ⟨fun h => (by rw [h] at hr; cases hr), fun j hj => ?_⟩
    by_cases hji : j = i
    · subst hji; exact hy.wpOp hi hS ⟨.inr hS, H⟩
    · have h1 := H.2 j (ready_mono hj hji)
      have hnl : j ∉ late := not_late hl hr hj
      obtain ⟨hjun, oj, hoj, hall⟩ := mem_ready.1 hj
      have hnot : ∀ e ∈ oj.after, Region.binds md e = true → e.on ≠ i := fun e he hb heq => by
        have g1 := hall e he hb
        have g0 := (mem_ready.1 hr).1
        rw [heq] at g1
        rcases Nat.lt_or_ge i done.size with h' | h'
        · simp [h'] at g0 g1; rw [g0] at g1; cases g1
        · simp [Array.getElem?_eq_none h'] at g1
      have h2 := wpOp_putIf hoj (hfree j oj hoj hji hjun hnot) (fun cs b => hsel i oi cs b hi) (fun cs b => hsel j oj cs b hoj) hQ hy h1
      have hfree' : ∀ k ok, ops[k]? = some ok → k ≠ i → (done.setIfInBounds j true).getD k true = false →
          (∀ e ∈ ok.after, Region.binds md e = true → e.on ≠ i) → oi.apart ops ok = true := fun k ok hk hki hun hno => by
        refine hfree k ok hk hki ?_ hno
        by_cases hjk : j = k
        · subst hjk; exact hjun
        · rw [getD_set_ne true hjk] at hun; exact hun
      refine wpOp_mono (fun a' w' g => ?_) h2
      have hSw : S w' := g.2.1.resolve_left hnl
      refine ⟨.inr hSw, Lasts.first hi hsel hQ hl n (done.setIfInBounds j true) a' w' hfree' (ready_mono hr (Ne.symm hji)) g.1 hSw ?_⟩
      rw [Array.setIfInBounds_comm _ _ hji]
      exact g.2.2

theorem Lasts.take {i : Nat} {oi : Oper} {v : Value} {n : Nat} {done : Array Bool} {a : Act} {w : World} (hi : ops[i]? = some oi)
    (hs : Region.noSelect ops = true) (hf : Region.free md ops done i = true) (hr : (Region.ready md ops done).contains i = true) (hl : waitFor md ops late i = true)
    (hQ : ∀ c a w, Q (.panic c) (a.put oi.dst v) w → Q (.panic c) a w) (hy : YieldsIf P ops S oi v a) (hS : S w)
    (h : Lasts P md ops Q S late n (done.setIfInBounds i true) (a.put oi.dst v) w) : Lasts P md ops Q S late (n + 1) done a w :=
  Lasts.first hi (Region.noSelect_spec hs) hQ hl n done a w (Region.free_spec hi hf) (by simpa using hr) hy hS h

/-- The one that may come up comes up. -/
theorem Lasts.one {i : Nat} {o : Oper} {n : Nat} {done : Array Bool} {a : Act} {w : World} (hr : Region.ready md ops done = [i]) (ho : ops[i]? = some o)
    (h : ∀ K' : Act → World → Prop, Shut (∀ a w, S w → (S w → Lasts P md ops Q S late n (done.setIfInBounds i true) a w) → K' a w) → if Region.wanted o (yielded ops a.tmps) = true then Oper.wp P o a w K' Q else K' (a.put o.dst undef) w) :
    Lasts P md ops Q S late (n + 1) done a w :=
  ⟨fun h0 => (by rw [hr] at h0; cases h0), fun j hj => by
    rw [hr] at hj
    obtain rfl : j = i := by simpa using hj
    exact wpOp_step ho (fun K' hK => h K' (fun a w hS hW => hK a w ⟨.inr hS, hW hS⟩))⟩
/-- A late one comes up. -/
theorem Lasts.tail {i : Nat} {o : Oper} {n : Nat} {done : Array Bool} {a : Act} {w : World} (hr : Region.ready md ops done = [i]) (hi : i ∈ late) (ho : ops[i]? = some o)
    (h : ∀ K' : Act → World → Prop, Shut (∀ a w, Lasts P md ops Q S late n (done.setIfInBounds i true) a w → K' a w) → if Region.wanted o (yielded ops a.tmps) = true then Oper.wp P o a w K' Q else K' (a.put o.dst undef) w) :
    Lasts P md ops Q S late (n + 1) done a w :=
  ⟨fun h0 => (by rw [hr] at h0; cases h0), fun j hj => by
    rw [hr] at hj
    obtain rfl : j = i := by simpa using hj
    exact wpOp_step ho (fun K' hK => h K' (fun a w hW => hK a w ⟨.inl hi, hW⟩))⟩
theorem Lasts.done {done : Array Bool} {a : Act} {w : World} (hr : Region.ready md ops done = []) (h : Q .normal a w) : ∀ n, Lasts P md ops Q S late n done a w
  | 0 => ⟨hr, h⟩
  | _ + 1 => ⟨fun _ => h, by rw [hr]; simp⟩
theorem Lasts.begin {id : Nat} {a : Act} {w : World} (late : List Nat) (hm : P.follows .mixedOrders = true) (hS : S w.drew)
    (h : S w.drew → Lasts P .any ops Q S late ops.size (Array.replicate ops.size false) a w.drew) : (Code.region id ops true).wp P Q a w :=
  wp_region_any hm (Lasts.any _ _ _ _ (h hS))
end
end Go.Proofs.YtcngfaggignmpaaGreatDoor

/-
  The core of a task: what a step defers, where nothing went wrong.
-/
namespace Go.Proofs.YtcngfaggignmpaaGreatDoor
open Go.RowKit

theorem caught_any (p q r : Addr) (w : World) :
    CallsD Tryz.prog 62 #[.pointer (some p), .pointer (some q), .pointer (some r)] .returning w fun e u' w' => e = .returned (.tuple #[]) ∧ u' = .returning ∧ w' = w := by
  refine callsD_of_wpS Tryz.func62 rfl fun c₀ cs hu => ?_
  apply wpS_seq
  apply wpS_region
  simp [wpOpsS, go_sem, recoverD, hu, Tryz.ntmps62, Exit.thenS]
  apply wpS_seq
  apply wpS_region
  simp [wpOpsS, go_sem, Exit.thenS]
  refine wpS_cond (t := false) (by simp [Act.eval, Array.replicate]) ?_
  simp only [Bool.false_eq_true, if_false]
  refine wpS_of_wp (wp_skip ?_)
  cases c₀
  simp_all [bodyPostS, results, Tryz.results62]
end Go.Proofs.YtcngfaggignmpaaGreatDoor
