/-
  The top, part 20: Late, Caught, Step.
-/
import Derived.Test.YtcngfaggignmpaaGreatDoorS01
import Derived.Test.YtcngfaggignmpaaGreatDoorS14
import Derived.Test.YtcngfaggignmpaaGreatDoorS15
import Derived.Test.YtcngfaggignmpaaGreatDoorS19
import Derived.Deep.RegionHeld
import Derived.Recover

/-
  A region in which a condition holds till its last operations: these may break it, since each of them waits for all that leans on it. Plain; no program in sight.
-/
namespace Go.Proofs.YtcngfaggignmpaaGreatDoor
open Go

section
variable {P : Program} {ops : Array Oper} {Q : Exit → Act → World → Prop} {md : Region.Mode} {S : World → Prop} {late : List Nat}

/-- Whatever order is picked; S holds behind each operation that is not one of the late ones. -/
def Lasts (P : Program) (md : Region.Mode) (ops : Array Oper) (Q : Exit → Act → World → Prop) (S : World → Prop) (late : List Nat) : Nat → Array Bool → Act → World → Prop
  | 0, done, a, w => Region.ready md ops done = [] ∧ Q .normal a w
  | n + 1, done, a, w => (Region.ready md ops done = [] → Q .normal a w) ∧
    ∀ j, j ∈ Region.ready md ops done → wpOp P ops Q j (fun a' w' => (j ∈ late ∨ S w') ∧ Lasts P md ops Q S late n (done.setIfInBounds j true) a' w') a w

theorem Lasts.any : ∀ (n : Nat) (done : Array Bool) (a : Act) (w : World), Lasts P md ops Q S late n done a w → wpAny P md ops Q n done a w
  | 0, _, _, _, h => h
  | n + 1, _, _, _, h => ⟨h.1, fun j hj => wpOp_mono (fun a' w' g => Lasts.any n _ a' w' g.2) (h.2 j hj)⟩

/-- Each late one waits for operation i. -/
def waitFor (md : Region.Mode) (ops : Array Oper) (late : List Nat) (i : Nat) : Bool :=
  late.all fun j => match ops[j]? with
    | some o => o.after.any fun e => Region.binds md e && e.on == i
    | none => true

theorem not_late {i j : Nat} {done : Array Bool} (hw : waitFor md ops late i = true) (hr : i ∈ Region.ready md ops done) (hj : j ∈ Region.ready md ops done) : j ∉ late := fun hl => by
  obtain ⟨_, oj, hoj, hall⟩ := mem_ready.1 hj
  have h1 := List.all_eq_true.1 hw j hl
  rw [hoj] at h1
  obtain ⟨k, hk, he⟩ := Array.any_eq_true.1 h1
  rw [Bool.and_eq_true, beq_iff_eq] at he
  have h2 := hall _ (Array.getElem_mem hk) he.1
  have h0 := (mem_ready.1 hr).1
  rw [he.2] at h2
  rcases Nat.lt_or_ge i done.size with h' | h'
  · simp [h'] at h0 h2; rw [h0] at h2; cases h2
  · simp [Array.getElem?_eq_none h'] at h2

theorem Lasts.first {i : Nat} {oi : Oper} {v : Value} (hi : ops[i]? = some oi) (hsel : ∀ (j : Nat) (o : Oper) cs b, ops[j]? = some o → o.op ≠ .select cs b)
    (hQ : ∀ c a w, Q (.panic c) (a.put oi.dst v) w → Q (.panic c) a w) (hl : waitFor md ops late i = true) :
    ∀ (n : Nat) (done : Array Bool) (a : Act) (w : World),
      (∀ j oj, ops[j]? = some oj → j ≠ i → done.getD j true = false → (∀ e ∈ oj.after, Region.binds md e = true → e.on ≠ i) → oi.apart ops oj = true) →
      i ∈ Region.ready md ops done → YieldsIf P ops S oi v a → S w →
      Lasts P md ops Q S late n (done.setIfInBounds i true) (a.put oi.dst v) w → Lasts P md ops Q S late (n + 1) done a w
  | 0, done, a, w, _, hr, hy, hS, H => by
    refine ⟨fun h => (by rw [h] at hr; cases hr), fun j hj => ?_⟩
    by_cases hji : j = i
    · subst hji; exact hy.wpOp hi hS ⟨.inr hS, H⟩
    · have := ready_mono hj hji
      rw [H.1] at this
      cases this
  | n + 1, done, a, w, hfree, hr, hy, hS, H => by
    refine ⟨fun h => (by rw [h] at hr; cases hr), fun j hj => ?_⟩
    by_cases hji : j = i
    · subst hji; exact hy.wpOp hi hS ⟨.inr hS, H⟩
    · have h1 := H.2 j (ready_mono hj hji)
      have hnl : j ∉ late := not_late hl hr hj
      obtain ⟨hjun, oj, hoj, hall⟩ := mem_ready.1 hj
      have hnot : ∀ e ∈ oj.after, Region.binds md e = true → e.on ≠ i := fun e he hb heq => by
        have g1 := hall e he hb
        have g0 := (mem_ready.1 hr).1
        rw [heq] at g1
        rcases Nat.lt_or_ge i done.size with h' | h'
        · simp [h'] at g0 g1; rw [g0] at g1; cases g1
        · simp [Array.getElem?_eq_none h'] at g1
      have h2 := wpOp_putIf hoj (hfree j oj hoj hji hjun hnot) (fun cs b => hsel i oi cs b hi) (fun cs b => hsel j oj cs b hoj) hQ hy h1
      have hfree' : ∀ k ok, ops[k]? = some ok → k ≠ i → (done.setIfInBounds j true).getD k true = false →
          (∀ e ∈ ok.after, Region.binds md e = true → e.on ≠ i) → oi.apart ops ok = true := fun k ok hk hki hun hno => by
        refine hfree k ok hk hki ?_ hno
        by_cases hjk : j = k
        · subst hjk; exact hjun
        · rw [getD_set_ne true hjk] at hun; exact hun
      refine wpOp_mono (fun a' w' g => ?_) h2
      have hSw : S w' := g.2.1.resolve_left hnl
      refine ⟨.inr hSw, Lasts.first hi hsel hQ hl n (done.setIfInBounds j true) a' w' hfree' (ready_mono hr (Ne.symm hji)) g.1 hSw ?_⟩
      rw [Array.setIfInBounds_comm _ _ hji]
      exact g.2.2

theorem Lasts.take {i : Nat} {oi : Oper} {v : Value} {n : Nat} {done : Array Bool} {a : Act} {w : World} (hi : ops[i]? = some oi)
    (hs : Region.noSelect ops = true) (hf : Region.free md ops done i = true) (hr : (Region.ready md ops done).contains i = true) (hl : waitFor md ops late i = true)
    (hQ : ∀ c a w, Q (.panic c) (a.put oi.dst v) w → Q (.panic c) a w) (hy : YieldsIf P ops S oi v a) (hS : S w)
    (h : Lasts P md ops Q S late n (done.setIfInBounds i true) (a.put oi.dst v) w) : Lasts P md ops Q S late (n + 1) done a w :=
  Lasts.first hi (Region.noSelect_spec hs) hQ hl n done a w (Region.free_spec hi hf) (by simpa using hr) hy hS h

/-- The one that may come up comes up. -/
theorem Lasts.one {i : Nat} {o : Oper} {n : Nat} {done : Array Bool} {a : Act} {w : World} (hr : Region.ready md ops done = [i]) (ho : ops[i]? = some o)
    (h : ∀ K' : Act → World → Prop, Shut (∀ a w, S w → (S w → Lasts P md ops Q S late n (done.setIfInBounds i true) a w) → K' a w) → if Region.wanted o (yielded ops a.tmps) = true then Oper.wp P o a w K' Q else K' (a.put o.dst undef) w) :
    Lasts P md ops Q S late (n + 1) done a w :=
  ⟨fun h0 => (by rw [hr] at h0; cases h0), fun j hj => by
    rw [hr] at hj
    obtain rfl : j = i := by simpa using hj
    exact wpOp_step ho (fun K' hK => h K' (fun a w hS hW => hK a w ⟨.inr hS, hW hS⟩))⟩
/-- A late one comes up. -/
theorem Lasts.tail {i : Nat} {o : Oper} {n : Nat} {done : Array Bool} {a : Act} {w : World} (hr : Region.ready md ops done = [i]) (hi : i ∈ late) (ho : ops[i]? = some o)
    (h : ∀ K' : Act → World → Prop, Shut (∀ a w, Lasts P md ops Q S late n (done.setIfInBounds i true) a w → K' a w) → if Region.wanted o (yielded ops a.tmps) = true then Oper.wp P o a w K' Q else K' (a.put o.dst undef) w) :
    Lasts P md ops Q S late (n + 1) done a w :=
  ⟨fun h0 => (by rw [hr] at h0; cases h0), fun j hj => by
    rw [hr] at hj
    obtain rfl : j = i := by simpa using hj
    exact wpOp_step ho (fun K' hK => h K' (fun a w hW => hK a w ⟨.inl hi, hW⟩))⟩
theorem Lasts.done {done : Array Bool} {a : Act} {w : World} (hr : Region.ready md ops done = []) (h : Q .normal a w) : ∀ n, Lasts P md ops Q S late n done a w
  | 0 => ⟨hr, h⟩
  | _ + 1 => ⟨fun _ => h, by rw [hr]; simp⟩
theorem Lasts.begin {id : Nat} {a : Act} {w : World} (late : List Nat) (hm : P.follows .mixedOrders = true) (hS : S w.drew)
    (h : S w.drew → Lasts P .any ops Q S late ops.size (Array.replicate ops.size false) a w.drew) : (Code.region id ops true).wp P Q a w :=
  wp_region_any hm (Lasts.any _ _ _ _ (h hS))
end
end Go.Proofs.YtcngfaggignmpaaGreatDoor

/-
  The core of a task: what a step defers, where nothing went wrong.
-/
namespace Go.Proofs.YtcngfaggignmpaaGreatDoor
open Go.RowKit

theorem caught_any (p q r : Addr) (w : World) :
    CallsD Tryz.prog 62 #[.pointer (some p), .pointer (some q), .pointer (some r)] .returning w fun e u' w' => e = .returned (.tuple #[]) ∧ u' = .returning ∧ w' = w := by
  refine callsD_of_wpS Tryz.func62 rfl fun c₀ cs hu => ?_
  apply wpS_seq
  apply wpS_region
  simp [wpOpsS, go_sem, recoverD, hu, Tryz.ntmps62, Exit.thenS]
  apply wpS_seq
  apply wpS_region
  simp [wpOpsS, go_sem, Exit.thenS]
  refine wpS_cond (t := false) (by simp [Act.eval, Array.replicate]) ?_
  simp only [Bool.false_eq_true, if_false]
  refine wpS_of_wp (wp_skip ?_)
  cases c₀
  simp_all [bodyPostS, results, Tryz.results62]
end Go.Proofs.YtcngfaggignmpaaGreatDoor

/-
  The core of a task: a step that asks nothing.
-/
namespace Go.Proofs.YtcngfaggignmpaaGreatDoor
open Go.RowKit

section
variable {g : CG} {sv : Value} {m : CM} {w : World}
/-- What the first loads of a step read. -/
theorem okP {wx : World} {k : Nat} {x : IN} (h : CO g sv m wx) (hp : m.pc = (k : Int)) (hx : g.code[k]? = some x) :
    wx.cell? ⟨g.b, 8, none⟩ = some (.int .i64 k) ∧ wx.cell? ⟨g.b, 10, none⟩ = some (.slice (some ⟨g.cb, 0, none⟩) g.code.length g.cap) ∧
    wx.cell? ⟨g.cb, k * 4, none⟩ = some (.int .u8 x.op) ∧ wx.cell? ⟨g.cb, k * 4 + 1, none⟩ = some (.int .u8 x.a) ∧ wx.cell? ⟨g.cb, k * 4 + 2, none⟩ = some (.int .u8 x.b) ∧ wx.cell? ⟨g.cb, k * 4 + 3, none⟩ = some (.int .u8 x.c) := by
  have h1 := h.cPc
  rw [hp] at h1
  obtain ⟨a, b, c, d⟩ := h.inCell hx
  exact ⟨h1, h.cCode, a, b, c, d⟩

theorem okB {wx : World} {k bx : Nat} {o a b c : Nat} (h : CO g sv m wx) (hp : m.pc = (k : Int)) (r : Row bx 49 #[.int .u8 o, .int .u8 a, .int .u8 b, .int .u8 c] wx) :
    wx.cell? ⟨g.b, 8, none⟩ = some (.int .i64 k) ∧ wx.cell? ⟨bx, 0, none⟩ = some (.int .u8 o) ∧ wx.cell? ⟨bx, 1, none⟩ = some (.int .u8 a) ∧ wx.cell? ⟨bx, 2, none⟩ = some (.int .u8 b) ∧ wx.cell? ⟨bx, 3, none⟩ = some (.int .u8 c) := by
  have h1 := h.cPc
  rw [hp] at h1
  exact ⟨h1, r.cell (j := 0) rfl, r.cell (j := 1) rfl, r.cell (j := 2) rfl, r.cell (j := 3) rfl⟩
set_option linter.unusedSimpArgs false in
theorem fieldRule (f : Nat) (W : World) : (Instr.field 202 (.agg #[.func (.func f) #[] #[]]) 0).run Tryz.prog W = .ok (.func (.func f) #[] #[]) W := by kernel_rfl
set_option linter.unusedSimpArgs false in
set_option linter.unusedSimpArgs false in
set_option linter.unusedSimpArgs false in
theorem CO.apart {bx : Nat} {t : TypeId} {cs : Array Value} (h : CO g sv m w) (r : Row bx t cs w) (h1 : t ≠ 191) (h2 : t ≠ 5) : ¬ (bx = g.b ∨ sv.ownBlock = some bx) := fun e => by
  rcases e with e | e
  · rw [e] at r
    exact h1 (r.ty h.core)
  · rcases h.says.2 with ⟨e0, _⟩ | ⟨q, cap, cur, e0, hb, hg, _⟩
    · rw [e0] at e; cases e
    · have hq : bx = q := by rw [e0] at e; simp [Value.ownBlock] at e; exact e.symm
      subst hq
      exact h2 (r.ty (show Row bx 5 cur w from hg))
theorem R31 {w W3 : World} (h : W3 = ((w.alloc (.cells #[.bool false] 4)).alloc (.cells #[.int .u8 0, .int .u32 0, .int .u32 0, .int .u32 0, .int .i64 0] 112)).alloc (.cells #[.int .i64 0] 31)) :
    Row w.heap.size 4 #[.bool false] W3 ∧ Row (w.heap.size + 1) 112 #[.int .u8 0, .int .u32 0, .int .u32 0, .int .u32 0, .int .i64 0] W3 ∧ Row (w.heap.size + 1 + 1) 31 #[.int .i64 0] W3 := by
  subst h
  have h1 : (w.alloc (.cells #[.bool false] 4)).heap.size = w.heap.size + 1 := Array.size_push _
  have h2 : ((w.alloc (.cells #[.bool false] 4)).alloc (.cells #[.int .u8 0, .int .u32 0, .int .u32 0, .int .u32 0, .int .i64 0] 112)).heap.size = w.heap.size + 1 + 1 := by
    rw [← h1]; exact Array.size_push _
  refine ⟨((Row.new w 4 _).alloc _).alloc _, ?_, ?_⟩
  · rw [← h1]; exact (Row.new _ 112 _).alloc _
  · rw [← h2]; exact Row.new _ 31 _
set_option linter.unusedSimpArgs false in
set_option linter.unusedSimpArgs false in
set_option linter.unusedSimpArgs false in
theorem Row.same {p : Nat} {t : TypeId} {cs : Array Value} {w : World} (h : Row p t cs w) {j : Nat} {v : Value} (e : cs[j]? = some v) : w.setCell ⟨p, j, none⟩ v = w := by
  have h' : w.heap[p]? = some (.cells cs t) := h
  have e2 : cs.setIfInBounds j v = cs := by
    apply Array.ext_getElem?
    intro i
    rw [Array.getElem?_setIfInBounds]
    by_cases hi : j = i
    · subst hi
      obtain ⟨h1, h2⟩ := Array.getElem?_eq_some_iff.1 e
      rw [if_pos rfl, if_pos h1, e]
    · simp [hi]
  have e3 : (w.setCell ⟨p, j, none⟩ v).heap = w.heap := by
    apply Array.ext_getElem?
    intro i
    by_cases hi : i = p
    · subst hi
      have := h.set j v
      rw [e2] at this
      exact this.trans h'.symm
    · exact Below.heap_setCell _ _ _ _ (by first | exact hi | exact fun e => hi e.symm)
  show ({ w with heap := (w.setCell ⟨p, j, none⟩ v).heap } : World) = w
  rw [e3]
set_option linter.unusedSimpArgs false in
set_option linter.unusedSimpArgs false in
set_option linter.unusedSimpArgs false in
set_option maxRecDepth 100000 in
set_option maxHeartbeats 4000000 in
theorem cstep_any {Z : Value → Prop} (k : Nat) (x : IN) (f : Nat) (m' : CM) (d : Int) (hp : m.pc = (k : Int)) (hk : k < 1000) (hd : -1000 < d ∧ d < 1000) (hp' : m'.pc = (k : Int)) (hx : g.code[k]? = some x) (hask : m.asked = false) (h21 : x.op ≠ 21) (h22 : x.op ≠ 22) (hlo : g.lo ≤ w.heap.size)
    (hlook : ∀ (W : World) (mp rb : Nat), W.heap[mp]? = some (.map (ruleArr rb 21) 21) → (Instr.lookup 203 (.map (some mp)) (.int .u8 x.op) false).run Tryz.prog W = .ok (.agg #[.func (.func f) #[] #[]]) W)
    (hcf : ∀ (args : Array Value) (W : World), (callFunc f args).run Tryz.prog W = .ok (.enter f args) W)
    (hdoes : ∀ W : World, g.lo ≤ W.heap.size → CO g sv m W → Calls Tryz.prog f #[.pointer (some ⟨g.b, 0, none⟩), inV x] W fun e w' => ∃ sv', Z sv' ∧ e = .returned (.int .i64 d) ∧ CO g sv' m' w' ∧ Ch (fun k => k = g.b ∨ sv.ownBlock = some k) W w') (h : CO g sv m w) :
    Calls Tryz.prog 32 #[.pointer (some ⟨g.b, 0, none⟩)] w fun e w' => ∃ sv', Z sv' ∧ e = .returned (.tuple #[.bool false, askV 0 0 0 0 0, .int .i64 0]) ∧ CO g sv' { m' with pc := (k : Int) + (1 + d) } w' ∧ Ch (fun k => k = g.b ∨ sv.ownBlock = some k) w w' := by
  have hlt : k < g.code.length := (List.getElem?_eq_some_iff.1 hx).1
  have hlt1 : 0 ≤ (k : Int) ∧ (k : Int) < (g.code.length : Int) := by omega
  obtain ⟨W3, hW3⟩ : ∃ W3, W3 = ((w.alloc (.cells #[.bool false] 4)).alloc (.cells #[.int .u8 0, .int .u32 0, .int .u32 0, .int .u32 0, .int .i64 0] 112)).alloc (.cells #[.int .i64 0] 31) := ⟨_, rfl⟩
  have hc3 : Ch No w W3 := by rw [hW3]; exact ((Ch.alloc w _).trans (Ch.alloc _ _)).trans (Ch.alloc _ _)
  have k3 := h.no hc3
  have c12 := k3.cAsked
  rw [hask] at c12
  have p3 := okP k3 hp hx
  obtain ⟨c8, c10, c0, c1, c2, c3⟩ := p3
  have K3 := Lib.hid k3
  have HC3 := Lib.hid hc3
  have HW3 := Lib.hid hW3
  have hd0 : decide ((k : Int) < 0) = false := by rw [decide_eq_false_iff_not]; omega
  have hd1 : decide ((g.code.length : Int) ≤ (k : Int)) = false := by rw [decide_eq_false_iff_not]; omega
  have d21 : ((x.op : Int) == 21) = false := by rw [beq_eq_false_iff_ne]; omega
  have d22 : ((x.op : Int) == 22) = false := by rw [beq_eq_false_iff_ne]; omega
  have HL := Lib.hid hlook
  have HDO := Lib.hid hdoes
  have hw1 : IntKind.i64.wrap (1 + d) = 1 + d := by rw [IntKind.wrap_i64]; omega
  have hw2 : IntKind.i64.wrap ((k : Int) + (1 + d)) = (k : Int) + (1 + d) := by rw [IntKind.wrap_i64]; omega
  clear h hc3 k3 hW3 hlook hdoes
  go_enter_defers Tryz.func32, Tryz.ntmps32
  go_wp2_with fail
  rw [← HW3.out]
  refine (cThere_any K3.out).mono ?_; rintro e w1 ⟨rfl, rfl⟩
  go_wp2_with fail
  go_quiet (fail)
  go_wp2_with fail
  obtain ⟨W4, hW4⟩ : ∃ W4, W4 = W3.drewN nq := ⟨_, rfl⟩
  have K4 : Hid (CO g sv m W4) := Lib.hid (by rw [hW4]; exact K3.out.drewN nq)
  have HC4 : Hid (Ch No W3 W4) := Lib.hid (by rw [hW4]; exact Ch.drewN _ _)
  rw [← hW4]
  clear hW4 c8 c10 c0 c1 c2 c3 c12
  obtain ⟨c8, c10, c0, c1, c2, c3⟩ := okP K4.out hp hx
  have hS1 := okP (K4.out.drewN 1) hp hx
  go_region_held3 (fun wx => wx.cell? ⟨g.b, 8, none⟩ = some (.int .i64 k) ∧ wx.cell? ⟨g.b, 10, none⟩ = some (.slice (some ⟨g.cb, 0, none⟩) g.code.length g.cap) ∧
    wx.cell? ⟨g.cb, k * 4, none⟩ = some (.int .u8 x.op) ∧ wx.cell? ⟨g.cb, k * 4 + 1, none⟩ = some (.int .u8 x.a) ∧ wx.cell? ⟨g.cb, k * 4 + 2, none⟩ = some (.int .u8 x.b) ∧ wx.cell? ⟨g.cb, k * 4 + 3, none⟩ = some (.int .u8 x.c)) (first | exact hS1 | exact okP (K4.out.no ((Ch.alloc W4 _).trans (Ch.drewN _ 1))) hp hx | go_keep) (fail)
  obtain ⟨bx, hbx⟩ : ∃ bx, bx = W4.heap.size := ⟨_, rfl⟩
  obtain ⟨W5, hW5⟩ : ∃ W5, W5 = (W4.alloc (.cells #[.int .u8 x.op, .int .u8 x.a, .int .u8 x.b, .int .u8 x.c] 49)).drew := ⟨_, rfl⟩
  have R5 : Hid (Row bx 49 #[.int .u8 x.op, .int .u8 x.a, .int .u8 x.b, .int .u8 x.c] W5) := Lib.hid (by rw [hW5, hbx]; exact (Row.new W4 49 _).drewN 1)
  have hc5 : Ch No W4 W5 := by rw [hW5]; exact (Ch.alloc W4 _).trans (Ch.drewN _ 1)
  have K5 : Hid (CO g sv m W5) := Lib.hid (K4.out.no hc5)
  have HC5 : Hid (Ch No W3 W5) := Lib.hid (HC4.out.trans hc5)
  rw [← hW5, ← hbx]
  clear hW5 hc5 hS1 c8 c10 c0 c1 c2 c3
  have b0 := R5.out.cell (j := 0) rfl
  have HBX := Lib.hid hbx
  clear hbx
  go_wp2_with fail
  refine wp_region_noPanic ?_
  refine Lasts.begin (S := (fun wx => wx.cell? ⟨g.b, 8, none⟩ = some (.int .i64 k) ∧ wx.cell? ⟨bx, 0, none⟩ = some (.int .u8 x.op) ∧ wx.cell? ⟨bx, 1, none⟩ = some (.int .u8 x.a) ∧ wx.cell? ⟨bx, 2, none⟩ = some (.int .u8 x.b) ∧ wx.cell? ⟨bx, 3, none⟩ = some (.int .u8 x.c))) [14, 15, 16] (by kernel_rfl) (okB (K5.out.drewN 1) hp (R5.out.drewN 1)) (fun hHeld => ?_)
  refine Lasts.take (i := 0) (v := ?_) rfl (by kernel_rfl) (by kernel_rfl) (by kernel_rfl) (by kernel_rfl) (fun _ _ _ h => h) (Or.inl ⟨by rfl, by intro wx hSw; (try dsimp only at hSw); go_simp; (try with_reducible rfl)⟩) (by assumption) ?_
  (try simp only [List.getElem_toArray, List.getElem_cons_succ, List.getElem_cons_zero, Act.put, List.setIfInBounds_toArray, List.set_cons_succ, List.set_cons_zero])
  refine Lasts.take (i := 1) (v := ?_) rfl (by kernel_rfl) (by kernel_rfl) (by kernel_rfl) (by kernel_rfl) (fun _ _ _ h => h) (Or.inl ⟨by rfl, by intro wx hSw; (try dsimp only at hSw); go_simp; (try with_reducible rfl)⟩) (by assumption) ?_
  (try simp only [List.getElem_toArray, List.getElem_cons_succ, List.getElem_cons_zero, Act.put, List.setIfInBounds_toArray, List.set_cons_succ, List.set_cons_zero])
  refine Lasts.take (i := 2) (v := ?_) rfl (by kernel_rfl) (by kernel_rfl) (by kernel_rfl) (by kernel_rfl) (fun _ _ _ h => h) (Or.inl ⟨by rfl, by intro wx hSw; (try dsimp only at hSw); go_simp; (try with_reducible rfl)⟩) (by assumption) ?_
  (try simp only [List.getElem_toArray, List.getElem_cons_succ, List.getElem_cons_zero, Act.put, List.setIfInBounds_toArray, List.set_cons_succ, List.set_cons_zero])
  refine Lasts.take (i := 3) (v := ?_) rfl (by kernel_rfl) (by kernel_rfl) (by kernel_rfl) (by kernel_rfl) (fun _ _ _ h => h) (Or.inl ⟨by rfl, by intro wx hSw; (try dsimp only at hSw); go_simp; (try with_reducible rfl)⟩) (by assumption) ?_
  (try simp only [List.getElem_toArray, List.getElem_cons_succ, List.getElem_cons_zero, Act.put, List.setIfInBounds_toArray, List.set_cons_succ, List.set_cons_zero])
  refine Lasts.take (i := 5) (v := ?_) rfl (by kernel_rfl) (by kernel_rfl) (by kernel_rfl) (by kernel_rfl) (fun _ _ _ h => h) (Or.inl ⟨by rfl, by intro wx hSw; (try dsimp only at hSw); go_simp; (try with_reducible rfl)⟩) (by assumption) ?_
  (try simp only [List.getElem_toArray, List.getElem_cons_succ, List.getElem_cons_zero, Act.put, List.setIfInBounds_toArray, List.set_cons_succ, List.set_cons_zero])
  refine Lasts.take (i := 6) (v := ?_) rfl (by kernel_rfl) (by kernel_rfl) (by kernel_rfl) (by kernel_rfl) (fun _ _ _ h => h) (Or.inl ⟨by rfl, by intro wx hSw; (try dsimp only at hSw); go_simp; (try with_reducible rfl)⟩) (by assumption) ?_
  (try simp only [List.getElem_toArray, List.getElem_cons_succ, List.getElem_cons_zero, Act.put, List.setIfInBounds_toArray, List.set_cons_succ, List.set_cons_zero])
  refine Lasts.take (i := 9) (v := ?_) rfl (by kernel_rfl) (by kernel_rfl) (by kernel_rfl) (by kernel_rfl) (fun _ _ _ h => h) (Or.inl ⟨by rfl, by intro wx hSw; (try dsimp only at hSw); go_simp; (try with_reducible rfl)⟩) (by assumption) ?_
  (try simp only [List.getElem_toArray, List.getElem_cons_succ, List.getElem_cons_zero, Act.put, List.setIfInBounds_toArray, List.set_cons_succ, List.set_cons_zero])
  refine Lasts.take (i := 10) (v := ?_) rfl (by kernel_rfl) (by kernel_rfl) (by kernel_rfl) (by kernel_rfl) (fun _ _ _ h => h) (Or.inl ⟨by rfl, by intro wx hSw; (try dsimp only at hSw); go_simp; (try with_reducible rfl)⟩) (by assumption) ?_
  (try simp only [List.getElem_toArray, List.getElem_cons_succ, List.getElem_cons_zero, Act.put, List.setIfInBounds_toArray, List.set_cons_succ, List.set_cons_zero])
  refine Lasts.one (i := 4) (by kernel_rfl) rfl (fun K hK => ?_)
  go_simp
  refine (rules_any _).mono ?_
  rintro e w6 ⟨rb, mp, rfl, hmp, hch6⟩
  have K6 := Lib.hid ((K5.out.drewN 1).no hch6)
  have R6 := Lib.hid ((R5.out.drewN 1).keeps hch6 (fun x => x))
  have HC6 := Lib.hid (HC5.out.trans ((Ch.drewN _ 1).trans hch6))
  have hlk := HL.out w6 mp rb hmp
  have hfd := fieldRule f
  clear hmp hch6
  refine hK.out _ _ ?_ (fun hHeld2 => ?_)
  · exact okB K6.out hp R6.out
  clear hK K
  (try simp only [List.getElem_toArray, List.getElem_cons_succ, List.getElem_cons_zero, Act.put, List.setIfInBounds_toArray, List.set_cons_succ, List.set_cons_zero])
  refine Lasts.one (i := 7) (by kernel_rfl) rfl (fun K hK => ?_)
  go_simp
  refine hK.out _ _ ?_ (fun hHeld2 => ?_)
  · exact okB K6.out hp R6.out
  clear hK K
  (try simp only [List.getElem_toArray, List.getElem_cons_succ, List.getElem_cons_zero, Act.put, List.setIfInBounds_toArray, List.set_cons_succ, List.set_cons_zero])
  refine Lasts.take (i := 8) (v := ?_) rfl (by kernel_rfl) (by kernel_rfl) (by kernel_rfl) (by kernel_rfl) (fun _ _ _ h => h) (Or.inl ⟨by rfl, by intro wx hSw; (try dsimp only at hSw); go_simp; (try with_reducible rfl)⟩) (by assumption) ?_
  (try simp only [List.getElem_toArray, List.getElem_cons_succ, List.getElem_cons_zero, Act.put, List.setIfInBounds_toArray, List.set_cons_succ, List.set_cons_zero])
  refine Lasts.one (i := 11) (by kernel_rfl) rfl (fun K hK => ?_)
  go_simp
  try unfold inV
  refine (HDO.out w6 (Nat.le_trans hlo (Nat.le_trans HC3.out.size HC6.out.size)) K6.out).mono ?_
  rintro e w7 ⟨sv', hZ, rfl, hk7, hch7⟩
  have HZZ := Lib.hid hZ
  clear hZ
  have K7 := Lib.hid hk7
  have R7 := Lib.hid (R6.out.keeps hch7 (fun e => by
    rcases e with e | e
    · have r := R6.out
      rw [e] at r
      exact absurd (r.ty K6.out.core) (by decide)
    · exact K6.out.notBox R6.out e))
  have HC7 := Lib.hid hch7
  clear hk7 hch7
  refine hK.out _ _ ?_ (fun hHeld2 => ?_)
  · exact okB K7.out hp' R7.out
  clear hK K
  (try simp only [List.getElem_toArray, List.getElem_cons_succ, List.getElem_cons_zero, Act.put, List.setIfInBounds_toArray, List.set_cons_succ, List.set_cons_zero])
  refine Lasts.take (i := 12) (v := ?_) rfl (by kernel_rfl) (by kernel_rfl) (by kernel_rfl) (by kernel_rfl) (fun _ _ _ h => h) (Or.inl ⟨by rfl, by intro wx hSw; (try dsimp only at hSw); go_simp; (try with_reducible rfl)⟩) (by assumption) ?_
  (try simp only [List.getElem_toArray, List.getElem_cons_succ, List.getElem_cons_zero, Act.put, List.setIfInBounds_toArray, List.set_cons_succ, List.set_cons_zero])
  refine Lasts.take (i := 13) (v := ?_) rfl (by kernel_rfl) (by kernel_rfl) (by kernel_rfl) (by kernel_rfl) (fun _ _ _ h => h) (Or.inl ⟨by rfl, by intro wx hSw; (try dsimp only at hSw); go_simp; (try with_reducible rfl)⟩) (by assumption) ?_
  (try simp only [List.getElem_toArray, List.getElem_cons_succ, List.getElem_cons_zero, Act.put, List.setIfInBounds_toArray, List.set_cons_succ, List.set_cons_zero])
  have e8 := K7.out.cPc
  have f8 := K7.out.free 8
  refine Lasts.tail (i := 14) (by kernel_rfl) (by decide) rfl (fun K hK => ?_)
  go_simp
  refine hK.out _ _ ?_
  clear hK K
  (try simp only [List.getElem_toArray, List.getElem_cons_succ, List.getElem_cons_zero, Act.put, List.setIfInBounds_toArray, List.set_cons_succ, List.set_cons_zero])
  refine Lasts.tail (i := 15) (by kernel_rfl) (by decide) rfl (fun K hK => ?_)
  go_simp
  refine hK.out _ _ ?_
  clear hK K
  (try simp only [List.getElem_toArray, List.getElem_cons_succ, List.getElem_cons_zero, Act.put, List.setIfInBounds_toArray, List.set_cons_succ, List.set_cons_zero])
  refine Lasts.tail (i := 16) (by kernel_rfl) (by decide) rfl (fun K hK => ?_)
  go_simp
  refine hK.out _ _ ?_
  clear hK K
  (try simp only [List.getElem_toArray, List.getElem_cons_succ, List.getElem_cons_zero, Act.put, List.setIfInBounds_toArray, List.set_cons_succ, List.set_cons_zero])
  refine Lasts.done (by kernel_rfl) ?_ _
  refine NoPanic.normal ?_
  have k8 := K7.out.setPc ((k : Int) + (1 + d))
  have hZ : Ch (fun j => j = g.b ∨ sv.ownBlock = some j) W3 (w7.setCell ⟨g.b, 8, none⟩ (.int .i64 ((k : Int) + (1 + d)))) :=
    ((HC6.out.mono (fun _ _ s => s.elim)).trans HC7.out).trans (k8.2.mono (fun _ _ e => .inl e))
  obtain ⟨W8, hW8⟩ : ∃ W8, W8 = w7.setCell ⟨g.b, 8, none⟩ (.int .i64 ((k : Int) + (1 + d))) := ⟨_, rfl⟩
  rw [← hW8] at k8 hZ ⊢
  have r1 := Row.keeps (R31 HW3.out).1 hZ (K3.out.apart (R31 HW3.out).1 (by decide) (by decide))
  have r2 := Row.keeps (R31 HW3.out).2.1 hZ (K3.out.apart (R31 HW3.out).2.1 (by decide) (by decide))
  have r3 := Row.keeps (R31 HW3.out).2.2 hZ (K3.out.apart (R31 HW3.out).2.2 (by decide) (by decide))
  have q0 := r1.cell (j := 0) rfl
  have q1 := r2.cell (j := 0) rfl
  have q2 := r2.cell (j := 1) rfl
  have q3 := r2.cell (j := 2) rfl
  have q4 := r2.cell (j := 3) rfl
  have q5 := r2.cell (j := 4) rfl
  have q6 := r3.cell (j := 0) rfl
  have z0 := r1.free 0
  have z1 := r2.free 0
  have z2 := r2.free 1
  have z3 := r2.free 2
  have z4 := r2.free 3
  have z5 := r2.free 4
  have z6 := r3.free 0
  have K8 := Lib.hid k8.1
  have HZ := Lib.hid hZ
  clear k8 hZ hW8 e8 f8 hlk hfd
  obtain ⟨s0, hs0⟩ : ∃ s0, s0 = w.heap.size := ⟨_, rfl⟩
  rw [← hs0] at q0 q1 q2 q3 q4 q5 q6 z0 z1 z2 z3 z4 z5 z6 r1 r2 r3 ⊢
  have R1 := Lib.hid r1
  have R2 := Lib.hid r2
  have R3 := Lib.hid r3
  clear r1 r2 r3
  have HS0 := Lib.hid hs0
  clear hs0
  go_wp2_with fail
  refine wp_region_noPanic ?_
  go_region
  refine NoPanic.normal ?_
  rw [R1.out.same (j := 0) (v := .bool false) rfl, R2.out.same (j := 0) (v := .int .u8 0) rfl, R2.out.same (j := 1) (v := .int .u32 0) rfl, R2.out.same (j := 2) (v := .int .u32 0) rfl, R2.out.same (j := 3) (v := .int .u32 0) rfl, R2.out.same (j := 4) (v := .int .i64 0) rfl, R3.out.same (j := 0) (v := .int .i64 0) rfl]
  go_wp2_with fail
  refine leaves_cons (f := 62) (args := #[.pointer (some ⟨s0, 0, none⟩), .pointer (some ⟨s0 + 1, 0, none⟩), .pointer (some ⟨s0 + 1 + 1, 0, none⟩)]) (by simp) (by simp [go_sem]) ?_
  refine (caught_any _ _ _ _).mono ?_
  rintro e u' w9 ⟨rfl, rfl, rfl⟩
  refine ⟨.tuple #[.bool false, askV 0 0 0 0 0, .int .i64 0], ?_, sv', HZZ.out, rfl, K8.out.drewN 1, ((HC3.out.mono (fun _ _ s => s.elim)).trans HZ.out).trans (Ch.drewN _ 1)⟩
  simp [results, Tryz.f32, Tryz.results32, go_sem, askV, q0, q1, q2, q3, q4, q5, q6]
end
end Go.Proofs.YtcngfaggignmpaaGreatDoor
