/-
  The top, part 25: Quiet, Store, Cmap, Told1, Forms.
-/
import Derived.Test.YtcngfaggignmpaaGreatDoorProg
import Derived.Test.YtcngfaggignmpaaGreatDoorS01
import Derived.Test.YtcngfaggignmpaaGreatDoorS22
import Derived.Test.YtcngfaggignmpaaGreatDoorS23
import Derived.Test.YtcngfaggignmpaaGreatDoorS24
import Derived.Maps.RangeRun
import Derived.Deep.MidRow
import Derived.Deep.WholeRow

/-
  The core of a task: each instruction that asks nothing.
-/
namespace Go.Proofs.YtcngfaggignmpaaGreatDoor
open Go.RowKit

section
variable {g : CG} {sv : Value} {m : CM} {w : World}
theorem or_256 : bits BinOp.or .u32 256 0 = 256 := by decide +kernel
set_option maxHeartbeats 1000000 in
theorem high_any (h : CO g sv m w) :
    Calls Tryz.prog 104 #[.pointer (some ⟨g.b, 0, none⟩), inV ⟨1, 0, 1, 0⟩] w fun e w' => e = .returned (.int .i64 0) ∧ CO g sv (m.setR 0 256) w' ∧ Ch (fun k => k = g.b) w w' := by
  have k1 := h.no (Ch.alloc w (.cells #[.int .u8 1, .int .u8 0, .int .u8 1, .int .u8 0] 49))
  have c1 := k1.cReg (a := 0) (by decide)
  have f1 := k1.free 0
  have hor := or_256
  have H := Lib.hid h
  have K1 := Lib.hid k1
  clear h k1
  unfold inV
  go_enter Tryz.func104, Tryz.ntmps104
  go_wp2_with fail
  go_region
  go_wp2_with fail
  go_ret
  have k2 := K1.out.setReg (a := 0) (by decide) (256 : Int)
  exact ⟨rfl, k2.1.drewN 1, ((Ch.alloc w _).trans k2.2).trans (Ch.drewN _ 1)⟩
theorem step_high {k : Nat} (h : CO g sv m w) (p : Goes g m k ⟨1, 0, 1, 0⟩ w) :
    Calls Tryz.prog 32 #[.pointer (some ⟨g.b, 0, none⟩)] w (Stepped g sv (fun s => s = sv) { m.setR 0 256 with pc := (k : Int) + 1 } w) := by
  have := cstep_any (Z := fun s => s = sv) k ⟨1, 0, 1, 0⟩ 104 (m.setR 0 256) 0 p.pc (Nat.lt_trans p.small (by decide)) (by omega) p.pc p.code p.asked (show (1 : Nat) ≠ 21 by decide) (show (1 : Nat) ≠ 22 by decide) p.lo look_set call_104
    (fun W _ hW => (high_any hW).mono (fun e w' q => ⟨sv, rfl, q.1, q.2.1, at_b q.2.2⟩)) h
  rw [show (k : Int) + (1 + 0) = (k : Int) + 1 by omega] at this
  exact this
theorem Stepped.to {Z Z' : Value → Prop} {c : CM} {e : Ending} {w' : World} (h : Stepped g sv Z c w e w') (f : ∀ s, Z s → Z' s) : Stepped g sv Z' c w e w' := by
  obtain ⟨s, hz, r⟩ := h
  exact ⟨s, f s hz, r⟩
/-- Each instruction that asks nothing. -/
theorem quiet_any {k : Nat} {x : IN} {c' : CM} (h : CO g sv m w) (p : Goes g m k x w) (q : Sp m x c') :
    Calls Tryz.prog 32 #[.pointer (some ⟨g.b, 0, none⟩)] w (Stepped g sv (fun s => x.op ≠ 20 → s = sv) c' w) := by
  have hp := p.pc
  cases q with
  | set a b h1 h2 => rw [hp]; exact (step_set h p h1 h2).mono (fun _ _ q => q.to (fun _ e _ => e))
  | high => rw [hp]; exact (step_high h p).mono (fun _ _ q => q.to (fun _ e _ => e))
  | move a b h1 h2 => rw [hp]; exact (step_move h p h1 h2).mono (fun _ _ q => q.to (fun _ e _ => e))
  | add a b h1 h2 h3 => rw [hp]; exact (step_add h p h1 h2 h3).mono (fun _ _ q => q.to (fun _ e _ => e))
  | sub a b h1 h2 h3 => rw [hp]; exact (step_sub h p h1 h2 h3).mono (fun _ _ q => q.to (fun _ e _ => e))
  | other a b h1 h2 => rw [hp]; exact (step_other h p h1 h2).mono (fun _ _ q => q.to (fun _ e _ => e))
  | go b h1 => exact (step_go h p h1).mono (fun _ _ q => q.to (fun _ e _ => e))
  | tell a h1 h2 => rw [hp]; exact (step_tell h p h1 h2).mono (fun _ _ q => q.to (fun _ _ e => absurd rfl e))
end
end Go.Proofs.YtcngfaggignmpaaGreatDoor

/-
  The board in memory: the kernel, the cores, the map of the cores.
-/
namespace Go.Proofs.YtcngfaggignmpaaGreatDoor
open Go.RowKit Go.ChangeMaps Go.MapKept

/-- An entry of the map of the cores: a place, and its stamp. -/
def entC (bx : Nat → Nat) (x : Nat × Nat) : MapEntry := ⟨.int .u32 (256 + x.1), .pointer (some ⟨bx x.1, 0, none⟩), x.2⟩
def entA (bx : Nat → Nat) (os : List (Nat × Nat)) : Array MapEntry := (os.map (entC bx)).toArray
/-- There is a core of a place. -/
def Live (os : List (Nat × Nat)) (i : Nat) : Prop := ∃ s, (i, s) ∈ os
/-- A core, and its box. -/
structure CS (U : Nat) (bx : Nat → Nat) (gs : Nat → CG) (sv : Nat → Value) (cs : Nat → CM) (an : Nat → Int) (i : Nat) (w : World) : Prop where
  box : Row (bx i) 109 #[.pointer (some ⟨(gs i).b, 0, none⟩), .int .i64 (an i)] w
  core : CO (gs i) (sv i) (cs i) w
  lo : U + 3 ≤ (gs i).lo ∧ (gs i).lo ≤ w.heap.size
  hi : U + 3 ≤ bx i ∧ U + 3 ≤ (gs i).b ∧ U + 3 ≤ (gs i).cb
/-- The board. -/
structure BS (B T U : Nat) (tb bx : Nat → Nat) (gs : Nat → CG) (m : KM) (sv : Nat → Value) (cs : Nat → CM) (an : Nat → Int) (os : List (Nat × Nat)) (clk : Nat) (w : World) : Prop where
  board : BD (B + 74) (B + 69) (B + 73) w
  kern : KS B T U tb m w
  map : w.heap[B + 73]? = some (.map (entA bx os) clk)
  one : (os.map (·.1)).Nodup
  two : (os.map (·.2)).Nodup
  low : ∀ x ∈ os, x.1 < 16 ∧ x.2 < clk
  core : ∀ i, Live os i → CS U bx gs sv cs an i w
  sep : ∀ i j, Live os i → Live os j → i ≠ j → bx i ≠ bx j ∧ (gs i).b ≠ (gs j).b ∧ ((sv i).ownBlock = none ∨ (sv j).ownBlock = none)

section
variable {U : Nat} {bx : Nat → Nat} {gs : Nat → CG} {sv : Nat → Value} {cs : Nat → CM} {an : Nat → Int} {i : Nat} {w w' : World} {S : Nat → Prop}
theorem CO.own5 {g : CG} {s : Value} {c : CM} (h : CO g s c w) {q : Nat} (hq : s.ownBlock = some q) : g.lo ≤ q ∧ ∃ cur, Row q 5 cur w := by
  rcases h.says.2 with ⟨e, _⟩ | ⟨q', cap, cur, e, hb, hg, _⟩
  · rw [e] at hq; cases hq
  · have : q = q' := by rw [e] at hq; simp [Value.ownBlock] at hq; exact hq.symm
    subst this
    exact ⟨hb, cur, hg⟩
theorem CO.code49 {g : CG} {s : Value} {c : CM} (h : CO g s c w) : ∃ cur, Row g.cb 49 cur w := by
  obtain ⟨cur, r, _⟩ := h.code
  exact ⟨cur, r⟩
theorem CS.keeps (h : CS U bx gs sv cs an i w) (g : Ch S w w') (h1 : ¬ S (bx i)) (h2 : ¬ S (gs i).b) (h3 : ¬ S (gs i).cb) (h4 : ∀ k, (sv i).ownBlock = some k → ¬ S k) : CS U bx gs sv cs an i w' :=
  ⟨h.box.keeps g h1, h.core.keeps g h2 h3 h4, ⟨h.lo.1, Nat.le_trans h.lo.2 g.size⟩, h.hi⟩
theorem CS.no (h : CS U bx gs sv cs an i w) (g : Ch No w w') : CS U bx gs sv cs an i w' := h.keeps g (fun x => x) (fun x => x) (fun x => x) (fun _ _ x => x)
/-- Blocks that are apart: of other types, or elsewhere. -/
theorem CS.apart (h : CS U bx gs sv cs an i w) (g : Ch S w w') (hS : ∀ k ty cur, U + 3 ≤ k → Row k ty cur w → (ty = 109 ∨ ty = 191 ∨ ty = 49 ∨ ty = 5) → ¬ S k) : CS U bx gs sv cs an i w' := by
  obtain ⟨c49, r49⟩ := h.core.code49
  refine h.keeps g (hS _ 109 _ h.hi.1 h.box (by simp)) (hS _ 191 _ h.hi.2.1 h.core.core (by simp)) (hS _ 49 _ h.hi.2.2 r49 (by simp)) (fun k hk => ?_)
  obtain ⟨lo, cur, r⟩ := h.core.own5 hk
  exact hS _ 5 _ (Nat.le_trans h.lo.1 lo) r (by simp)
end

section
variable {B T U : Nat} {tb bx : Nat → Nat} {gs : Nat → CG} {m : KM} {sv : Nat → Value} {cs : Nat → CM} {an : Nat → Int} {os : List (Nat × Nat)} {clk : Nat} {w w' : World} {i : Nat}
theorem BS.no (h : BS B T U tb bx gs m sv cs an os clk w) (g : Ch No w w') : BS B T U tb bx gs m sv cs an os clk w' :=
  ⟨h.board.keeps g (fun x => x), h.kern.no g, g.keeps h.map (fun x => x), h.one, h.two, h.low, fun i hi => (h.core i hi).no g, h.sep⟩
theorem BS.drewN (h : BS B T U tb bx gs m sv cs an os clk w) (n : Nat) : BS B T U tb bx gs m sv cs an os clk (w.drewN n) := h.no (Ch.drewN w n)
/-- The kernel turns. -/
theorem BS.kern' (h : BS B T U tb bx gs m sv cs an os clk w) (g : Ch (Sk B T U w) w w') {m' : KM} (k : KS B T U tb m' w') : BS B T U tb bx gs m' sv cs an os clk w' := by
  have l1 := h.kern.lay1
  have l2 := h.kern.lay2
  have n81 : ¬ Sk B T U w (B + 74) := fun s => by
    obtain ⟨c, r, _⟩ := h.board
    rcases s with ⟨_, _, e⟩ | ⟨_, ty, c', r', ht⟩
    · omega
    · rcases ht with rfl | rfl <;> exact absurd (r.ty r') (by decide)
  have nmap : ¬ Sk B T U w (B + 73) := fun s => by
    rcases s with ⟨_, _, e⟩ | ⟨_, ty, c', r', _⟩
    · omega
    · have := h.map
      rw [show w.heap[B + 73]? = some (.cells c' ty) from r'] at this
      cases this
  exact ⟨h.board.keeps g n81, k, g.keeps h.map nmap, h.one, h.two, h.low, fun i hi => (h.core i hi).apart g (fun k ty cur hk r ht => skNot hk (by rcases ht with rfl | rfl | rfl | rfl <;> decide) r), h.sep⟩
/-- A core makes a step. -/
theorem BS.step (h : BS B T U tb bx gs m sv cs an os clk w) (hi : Live os i) {s' : Value} {c' : CM} (g : Ch (fun k => k = (gs i).b ∨ (sv i).ownBlock = some k) w w') (c : CO (gs i) s' c' w')
    (hz : s' = sv i ∨ ∀ j, Live os j → j ≠ i → (sv j).ownBlock = none) : BS B T U tb bx gs m (upd sv i s') (upd cs i c') an os clk w' := by
  have hci := h.core i hi
  have l1 := h.kern.lay1
  have l2 := h.kern.lay2
  have own := fun q hq => hci.core.own5 (q := q) hq
  have lo := hci.lo.1
  have hiB := hci.hi
  have nB : ∀ k, k < U + 3 → ¬ (k = (gs i).b ∨ (sv i).ownBlock = some k) := fun k hk e => by
    rcases e with e | e
    · omega
    · have := (own k e).1; omega
  have nT : ∀ k ty cur, Row k ty cur w → ty ≠ 191 → ty ≠ 5 → ¬ (k = (gs i).b ∨ (sv i).ownBlock = some k) := fun k ty cur r n1 n2 e => by
    rcases e with rfl | e
    · exact n1 (r.ty hci.core.core)
    · obtain ⟨_, cur', r'⟩ := own k e
      exact n2 (r.ty r')
  refine ⟨h.board.keeps g (nB _ (by omega)), ?_, g.keeps h.map (nB _ (by omega)), h.one, h.two, h.low, fun j hj => ?_, fun a b ha hb hab => ?_⟩
  · refine h.kern.keeps g (fun k e => ?_) (fun k cur ty e r => ?_)
    · rcases e with e | e
      · omega
      · have := (own k e).1; omega
    · rcases e with rfl | e
      · have := r.ty hci.core.core; subst this; decide
      · obtain ⟨_, cur', r'⟩ := own k e
        have := r.ty r'; subst this; decide
  · by_cases e : j = i
    · subst e
      refine ⟨hci.box.keeps g (nT _ _ _ hci.box (by decide) (by decide)), ?_, ⟨hci.lo.1, Nat.le_trans hci.lo.2 g.size⟩, hci.hi⟩
      rw [upd_at, upd_at]
      exact c
    · have hcj := h.core j hj
      obtain ⟨sb, sg, ss⟩ := h.sep j i hj hi e
      have k1 : CS U bx gs sv cs an j w' := by
        obtain ⟨c49, r49⟩ := hcj.core.code49
        refine hcj.keeps g (nT _ _ _ hcj.box (by decide) (by decide)) (fun x => ?_) (nT _ _ _ r49 (by decide) (by decide)) (fun k hk x => ?_)
        · rcases x with x | x
          · exact sg x
          · obtain ⟨_, cur', r'⟩ := own _ x
            exact absurd (hcj.core.core.ty r') (by decide)
        · rcases x with rfl | x
          · obtain ⟨_, cur', r'⟩ := hcj.core.own5 hk
            exact absurd (r'.ty hci.core.core) (by decide)
          · rcases ss with s1 | s1
            · rw [s1] at hk; cases hk
            · rw [s1] at x; cases x
      refine ⟨k1.box, ?_, k1.lo, k1.hi⟩
      rw [upd_ne _ _ e, upd_ne _ _ e]
      exact k1.core
  · obtain ⟨sb, sg, ss⟩ := h.sep a b ha hb hab
    refine ⟨sb, sg, ?_⟩
    by_cases ea : a = i
    · subst ea
      have eb : b ≠ a := fun e => hab e.symm
      rw [upd_at, upd_ne _ _ eb]
      rcases hz with rfl | hz
      · exact ss
      · exact .inr (hz b hb eb)
    · rw [upd_ne _ _ ea]
      by_cases eb : b = i
      · subst eb
        rw [upd_at]
        rcases hz with rfl | hz
        · exact ss
        · exact .inl (hz a ha ea)
      · rw [upd_ne _ _ eb]; exact ss
/-- A core's box turns. -/
theorem BS.boxed (h : BS B T U tb bx gs m sv cs an os clk w) (hi : Live os i) (a : Int) : BS B T U tb bx gs m sv cs (upd an i a) os clk (w.setCell ⟨bx i, 1, none⟩ (.int .i64 a)) := by
  have hci := h.core i hi
  have l1 := h.kern.lay1
  have l2 := h.kern.lay2
  have lb := hci.hi.1
  have g := Ch.set1 w (bx i) 1 (.int .i64 a)
  have nT : ∀ k ty cur, Row k ty cur w → ty ≠ 109 → ¬ (k = bx i) := fun k ty cur r n e => by subst e; exact n (r.ty hci.box)
  refine ⟨h.board.keeps g (fun (e : B + 74 = bx i) => by omega), h.kern.keeps g (fun k e => by omega) (fun k cur ty e r => ?_), g.keeps h.map (fun (e : B + 73 = bx i) => by omega), h.one, h.two, h.low, fun j hj => ?_, h.sep⟩
  · subst e
    have := r.ty hci.box
    subst this
    decide
  · by_cases e : j = i
    · subst e
      obtain ⟨c49, r49⟩ := hci.core.code49
      refine ⟨?_, hci.core.keeps g (nT _ _ _ hci.core.core (by decide)) (nT _ _ _ r49 (by decide)) (fun k hk => ?_), ⟨hci.lo.1, Nat.le_trans hci.lo.2 g.size⟩, hci.hi⟩
      · rw [upd_at]
        exact hci.box.set 1 (.int .i64 a)
      · obtain ⟨_, cur, r⟩ := hci.core.own5 hk
        exact nT _ _ _ r (by decide)
    · have hcj := h.core j hj
      obtain ⟨sb, _, _⟩ := h.sep j i hj hi e
      obtain ⟨c49, r49⟩ := hcj.core.code49
      have k1 : CS U bx gs sv cs an j _ := hcj.keeps g sb (nT _ _ _ hcj.core.core (by decide)) (nT _ _ _ r49 (by decide)) (fun k hk => by
        obtain ⟨_, cur, r⟩ := hcj.core.own5 hk
        exact nT _ _ _ r (by decide))
      refine ⟨?_, k1.core, k1.lo, k1.hi⟩
      rw [upd_ne _ _ e]
      exact k1.box
end
end Go.Proofs.YtcngfaggignmpaaGreatDoor

/-
  The map of the cores: looked up, and deleted from.
-/
namespace Go.Proofs.YtcngfaggignmpaaGreatDoor
open Go.RowKit Go.ChangeMaps Go.MapKept

section
variable {B T U : Nat} {tb bx : Nat → Nat} {gs : Nat → CG} {m : KM} {sv : Nat → Value} {cs : Nat → CM} {an : Nat → Int} {os : List (Nat × Nat)} {clk : Nat} {w w' : World} {i : Nat}
theorem entA_keys (bx : Nat → Nat) (os : List (Nat × Nat)) : ∀ x ∈ (entA bx os).toList, IsKey (.int .u32) x.key := by
  intro x hx
  unfold entA at hx
  simp at hx
  obtain ⟨a, b, _, rfl⟩ := hx
  simp [entC, IsKey]
theorem entA_find (bx : Nat → Nat) (os : List (Nat × Nat)) (i : Nat) :
    (Instr.findNow (.int .u32) (.int .u32 (256 + (i : Int))) (entA bx os).toList 0 = some none ∧ ¬ Live os i) ∨
      ∃ j s, Instr.findNow (.int .u32) (.int .u32 (256 + (i : Int))) (entA bx os).toList 0 = some (some (j, .pointer (some ⟨bx i, 0, none⟩))) ∧ os[j]? = some (i, s) := by
  rcases findNow_spec (d := .int .u32) (k := .int .u32 (256 + (i : Int))) (by simp [IsKey]) (entA bx os).toList 0 (entA_keys bx os) with ⟨h1, h2⟩ | ⟨j, e, h1, h2, h3⟩
  · refine .inl ⟨h1, fun hl => ?_⟩
    obtain ⟨s, hs⟩ := hl
    refine h2 (entC bx (i, s)) ?_ rfl
    unfold entA
    simp
    exact ⟨i, s, hs, rfl⟩
  · unfold entA at h2
    rw [List.getElem?_map] at h2
    cases e2 : os[j]? with
    | none => rw [e2] at h2; simp at h2
    | some x =>
      rw [e2] at h2
      simp at h2
      subst h2
      have hx : x.1 = i := by
        simp [entC] at h3
        omega
      obtain ⟨a, s⟩ := x
      simp at hx
      subst hx
      exact .inr ⟨j, s, by rw [h1]; simp [entC], e2⟩
theorem BS.look (h : BS B T U tb bx gs m sv cs an os clk w) (hi : Live os i) : (Instr.lookup 79 (.map (some (B + 73))) (.int .u32 (256 + (i : Int))) false).run Tryz.prog w = .ok (.pointer (some ⟨bx i, 0, none⟩)) w := by
  rcases entA_find bx os i with ⟨_, hn⟩ | ⟨j, s, hf, _⟩
  · exact absurd hi hn
  · exact run_look1 Tryz.underlying79 Tryz.underlying34 w (B + 73) _ clk (256 + (i : Int)) j _ h.map hf
theorem erase_filter : ∀ (os : List (Nat × Nat)) (j i s : Nat), (os.map (·.1)).Nodup → os[j]? = some (i, s) → os.eraseIdx j = os.filter (fun x => x.1 != i)
  | [], j, i, s, _, h => by simp at h
  | x :: os, 0, i, s, hn, h => by
    simp at h
    subst h
    simp at hn
    simp
    symm
    rw [List.filter_eq_self]
    intro a ha
    simp
    intro e
    exact hn.1 a.2 (by rw [← e]; exact ha)
  | x :: os, j + 1, i, s, hn, h => by
    have h' : os[j]? = some (i, s) := by simpa using h
    simp at hn
    have := erase_filter os j i s hn.2 h'
    have hx : x.1 ≠ i := fun e => hn.1 s (by rw [e]; exact List.mem_of_getElem? h')
    simp [hx]
    exact this
theorem BS.drop (h : BS B T U tb bx gs m sv cs an os clk w) (i : Nat) (ty : TypeId) :
    (Builtin.delete_ #[79, 34] ty #[.map (some (B + 73)), .int .u32 (256 + (i : Int))]).run Tryz.prog w = .ok (.tuple #[]) (putMap w (B + 73) (entA bx (os.filter (fun x => x.1 != i))) clk) := by
  have hk : IsKey (.int .u32) (.int .u32 (256 + (i : Int))) := by simp [IsKey]
  rcases entA_find bx os i with ⟨hf, hn⟩ | ⟨j, s, hf, hj⟩
  · have e : os.filter (fun x => x.1 != i) = os := by
      rw [List.filter_eq_self]
      intro a ha
      simp
      intro e
      exact hn ⟨a.2, by rw [← e]; exact ha⟩
    rw [e]
    simp [Builtin.delete_, run_underlying Tryz.underlying79, MapKept.run_getObj_map h.map, run_checkKey Tryz.underlying34 hk, run_findKey Tryz.underlying34 hf, MapKept.run_setObj_map _ h.map, Result.andThen, putMap]
  · have e : (entA bx os).eraseIdxIfInBounds j = entA bx (os.filter (fun x => x.1 != i)) := by
      have hjl : j < os.length := (List.getElem?_eq_some_iff.1 hj).1
      apply Array.ext'
      unfold Array.eraseIdxIfInBounds
      rw [dif_pos (by simp [entA]; exact hjl)]
      simp [entA]
      rw [← erase_filter os j i s h.one hj]
      exact map_eraseIdx _ _ _ |> Eq.symm
    simp [Builtin.delete_, run_underlying Tryz.underlying79, MapKept.run_getObj_map h.map, run_checkKey Tryz.underlying34 hk, run_findKey Tryz.underlying34 hf, MapKept.run_setObj_map _ h.map, Result.andThen, putMap, e]
end
end Go.Proofs.YtcngfaggignmpaaGreatDoor

/-
  The board: who is told what, in plain; the map of those who live.
-/
namespace Go.Proofs.YtcngfaggignmpaaGreatDoor
open Go.RowKit Go.ChangeMaps Go.MapKept

/-- The map of those who live, by the tasks so far. -/
def liveE (l : List (Nat × TM)) : Array MapEntry := (l.zipIdx.map (fun p => (⟨.int .u32 (256 + p.1.1), .bool true, p.2⟩ : MapEntry))).toArray
theorem liveE_nil : liveE [] = #[] := rfl
theorem liveE_push (l : List (Nat × TM)) (x : Nat × TM) : liveE (l ++ [x]) = (liveE l).push ⟨.int .u32 (256 + x.1), .bool true, l.length⟩ := by
  unfold liveE
  rw [List.zipIdx_append]
  simp
theorem liveE_keys (l : List (Nat × TM)) : ∀ x ∈ (liveE l).toList, IsKey (.int .u32) x.key := by
  intro x hx
  unfold liveE at hx
  simp at hx
  obtain ⟨a, b, c, _, rfl⟩ := hx
  simp [IsKey]
theorem liveE_find (l : List (Nat × TM)) (i : Nat) :
    (Instr.findNow (.int .u32) (.int .u32 (256 + (i : Int))) (liveE l).toList 0 = some none ∧ ∀ t, (i, t) ∉ l) ∨
      ∃ j, Instr.findNow (.int .u32) (.int .u32 (256 + (i : Int))) (liveE l).toList 0 = some (some (j, .bool true)) ∧ ∃ t, (i, t) ∈ l := by
  rcases findNow_spec (d := .int .u32) (k := .int .u32 (256 + (i : Int))) (by simp [IsKey]) (liveE l).toList 0 (liveE_keys l) with ⟨h1, h2⟩ | ⟨j, e, h1, h2, h3⟩
  · refine .inl ⟨h1, fun t ht => ?_⟩
    obtain ⟨n, hn⟩ := List.getElem?_of_mem ht
    refine h2 ⟨.int .u32 (256 + (i : Int)), .bool true, n⟩ ?_ rfl
    unfold liveE
    simp
    exact ⟨i, ⟨t, by rw [List.mem_zipIdx_iff_getElem?]; exact hn⟩, rfl⟩
  · unfold liveE at h2
    rw [List.getElem?_map] at h2
    cases e2 : l.zipIdx[j]? with
    | none => rw [e2] at h2; simp at h2
    | some p =>
      rw [e2] at h2
      simp at h2
      subst h2
      simp at h3
      have hp : p.1.1 = i := by omega
      refine .inr ⟨j, by rw [h1]; simp, p.1.2, ?_⟩
      have := List.mem_of_getElem? e2
      rw [List.mem_zipIdx_iff_getElem?] at this
      have := List.mem_of_getElem? this
      rw [← hp]
      exact this
theorem zeroBool (w : World) : (zeroValue 4).run Tryz.prog w = .ok (.bool false) w := by kernel_rfl
theorem live_look {w : World} {b c : Nat} {l : List (Nat × TM)} (h : w.heap[b]? = some (.map (liveE l) c)) (i : Nat) :
    ((Instr.lookup 193 (.map (some b)) (.int .u32 (256 + (i : Int))) false).run Tryz.prog w = .ok (.bool false) w ∧ ∀ t, (i, t) ∉ l) ∨
      ((Instr.lookup 193 (.map (some b)) (.int .u32 (256 + (i : Int))) false).run Tryz.prog w = .ok (.bool true) w ∧ ∃ t, (i, t) ∈ l) := by
  rcases liveE_find l i with ⟨hf, hn⟩ | ⟨j, hf, hn⟩
  · exact .inl ⟨run_look1_none Tryz.underlying193 Tryz.underlying34 w b _ c _ _ h (zeroBool w) hf, hn⟩
  · exact .inr ⟨run_look1 Tryz.underlying193 Tryz.underlying34 w b _ c _ j _ h hf, hn⟩
theorem tl_mem (m : KM) (n i : Nat) (t : TM) : (i, t) ∈ tl m n ↔ i < n ∧ m.tk i = some t := by
  unfold tl
  simp [List.mem_filterMap]
theorem tl_apart (m : KM) : ∀ n, (tl m n).Pairwise (fun x y => x.1 ≠ y.1)
  | 0 => by simp [tl]
  | n + 1 => by
    cases e : m.tk n with
    | none => rw [tl_none e]; exact tl_apart m n
    | some t =>
      rw [tl_some e, List.pairwise_append]
      refine ⟨tl_apart m n, by simp, fun x hx y hy => ?_⟩
      simp at hy
      subst hy
      have := (tl_mem m n x.1 x.2).1 hx
      omega
theorem tl_new {m : KM} {n k : Nat} {x : Nat × TM} (h : (tl m n)[k]? = some x) : ∀ t, (x.1, t) ∉ (tl m n).take k := by
  intro t ht
  obtain ⟨j, hj⟩ := List.getElem?_of_mem ht
  have hjk : j < k := by
    have := (List.getElem?_eq_some_iff.1 hj).1
    simp at this
    omega
  rw [List.getElem?_take_of_lt hjk] at hj
  have hp := tl_apart m n
  rw [List.pairwise_iff_getElem] at hp
  obtain ⟨h1, e1⟩ := List.getElem?_eq_some_iff.1 hj
  obtain ⟨h2, e2⟩ := List.getElem?_eq_some_iff.1 h
  have := hp j k h1 h2 hjk
  rw [e1, e2] at this
  exact this rfl

/-- How many answers a core was told of, behind it. -/
def toldA (o : Option TM) (a : Int) : Int := match o with
  | none => a
  | some t => if a < t.ans then t.ans else a
/-- Told so far: those of the first tasks. -/
structure SoFar (m : KM) (cs : Nat → CM) (an : Nat → Int) (l : List (Nat × TM)) (cs' : Nat → CM) (an' : Nat → Int) : Prop where
  yes : ∀ i t, (i, t) ∈ l → an' i = toldA (m.tk i) (an i) ∧ cs' i = toldC (m.tk i) (cs i) (an i)
  no : ∀ i, (∀ t, (i, t) ∉ l) → an' i = an i ∧ cs' i = cs i
theorem SoFar.nil (m : KM) (cs : Nat → CM) (an : Nat → Int) : SoFar m cs an [] cs an := ⟨fun i t h => by simp at h, fun i _ => ⟨rfl, rfl⟩⟩
theorem SoFar.next {m : KM} {cs cs' : Nat → CM} {an an' : Nat → Int} {l : List (Nat × TM)} (h : SoFar m cs an l cs' an') {i : Nat} {t : TM} (ht : m.tk i = some t) (hn : ∀ t, (i, t) ∉ l) {cs2 : Nat → CM} {an2 : Nat → Int}
    (h1 : an2 i = toldA (some t) (an i)) (h2 : cs2 i = toldC (some t) (cs i) (an i)) (h3 : ∀ j, j ≠ i → an2 j = an' j ∧ cs2 j = cs' j) : SoFar m cs an (l ++ [(i, t)]) cs2 an2 := by
  refine ⟨fun j u hu => ?_, fun j hj => ?_⟩
  · by_cases e : j = i
    · subst e
      rw [ht]
      exact ⟨h1, h2⟩
    · obtain ⟨a, b⟩ := h3 j e
      rw [a, b]
      refine h.yes j u ?_
      rw [List.mem_append] at hu
      rcases hu with hu | hu
      · exact hu
      · simp at hu; exact absurd hu.1 e
  · have e : j ≠ i := fun e => hj t (by subst e; simp)
    obtain ⟨a, b⟩ := h3 j e
    rw [a, b]
    exact h.no j (fun u hu => hj u (List.mem_append_left _ hu))
theorem SoFar.all {m : KM} {cs cs' : Nat → CM} {an an' : Nat → Int} (h : SoFar m cs an (tl m 16) cs' an') (hp : ∀ i t, m.tk i = some t → i < 16) : an' = (fun i => toldA (m.tk i) (an i)) ∧ cs' = (fun i => toldC (m.tk i) (cs i) (an i)) := by
  have : ∀ i, an' i = toldA (m.tk i) (an i) ∧ cs' i = toldC (m.tk i) (cs i) (an i) := fun i => by
    cases e : m.tk i with
    | none =>
      obtain ⟨a, b⟩ := h.no i (fun t ht => by have := ((tl_mem m 16 i t).1 ht).2; rw [e] at this; cases this)
      exact ⟨a, b⟩
    | some t =>
      have := h.yes i t ((tl_mem m 16 i t).2 ⟨hp i t e, e⟩)
      rw [e] at this
      exact this
  exact ⟨funext fun i => (this i).1, funext fun i => (this i).2⟩
/-- Entries that are kept: of those who live, and those that were not seen yet. -/
def keepB (m : KM) (seen : Array Nat) (x : Nat × Nat) : Bool := (m.tk x.1).isSome || !seen.contains x.2
theorem keep_push (m : KM) (seen : Array Nat) (s : Nat) (y : Nat × Nat) : keepB m (seen.push s) y = ((m.tk y.1).isSome || (!seen.contains y.2 && !(y.2 == s))) := by
  unfold keepB
  rw [Array.contains_push]
  cases (m.tk y.1).isSome <;> cases seen.contains y.2 <;> cases e : (y.2 == s) <;> simp_all
theorem nodup_two {os : List (Nat × Nat)} (h : (os.map (·.2)).Nodup) {x y : Nat × Nat} (hx : x ∈ os) (hy : y ∈ os) (e : x.2 = y.2) : x = y := by
  induction os with
  | nil => cases hx
  | cons a os ih =>
    simp at h
    rcases List.mem_cons.1 hx with rfl | hx'
    · rcases List.mem_cons.1 hy with rfl | hy'
      · rfl
      · exact absurd (by rw [e]; exact hy') (h.1 y.1)
    · rcases List.mem_cons.1 hy with rfl | hy'
      · exact absurd (by rw [← e]; exact hx') (h.1 x.1)
      · exact ih h.2 hx' hy'
theorem nodup_one {os : List (Nat × Nat)} (h : (os.map (·.1)).Nodup) {x y : Nat × Nat} (hx : x ∈ os) (hy : y ∈ os) (e : x.1 = y.1) : x = y := by
  induction os with
  | nil => cases hx
  | cons a os ih =>
    simp at h
    rcases List.mem_cons.1 hx with rfl | hx'
    · rcases List.mem_cons.1 hy with rfl | hy'
      · rfl
      · exact absurd (by rw [e]; exact hy') (h.1 y.2)
    · rcases List.mem_cons.1 hy with rfl | hy'
      · exact absurd (by rw [← e]; exact hx') (h.1 x.2)
      · exact ih h.2 hx' hy'
theorem keep_live {m : KM} {os : List (Nat × Nat)} {seen : Array Nat} {i s : Nat} (h2 : (os.map (·.2)).Nodup) (hx : (i, s) ∈ os) (hl : (m.tk i).isSome = true) : os.filter (keepB m (seen.push s)) = os.filter (keepB m seen) := by
  refine List.filter_congr (fun y hy => ?_)
  rw [keep_push]
  unfold keepB
  by_cases e : y.2 = s
  · have := nodup_two h2 hy hx e
    subst this
    simp [hl]
  · have : (y.2 == s) = false := by simp [e]
    rw [this]
    simp
theorem keep_drop {m : KM} {os : List (Nat × Nat)} {seen : Array Nat} {i s : Nat} (h1 : (os.map (·.1)).Nodup) (h2 : (os.map (·.2)).Nodup) (hx : (i, s) ∈ os) (hl : (m.tk i).isSome = false) : os.filter (keepB m (seen.push s)) = (os.filter (keepB m seen)).filter (fun y => y.1 != i) := by
  rw [List.filter_filter]
  refine List.filter_congr (fun y hy => ?_)
  rw [keep_push]
  unfold keepB
  by_cases e : y.2 = s
  · have := nodup_two h2 hy hx e
    subst this
    simp [hl]
  · have e1 : (y.2 == s) = false := by simp [e]
    have e2 : (y.1 != i) = true := by
      rw [bne_iff_ne]
      intro e3
      have := nodup_one h1 hy hx e3
      subst this
      exact e rfl
    rw [e1, e2]
    simp
theorem keep_end {m : KM} {os : List (Nat × Nat)} {seen : Array Nat} (h : ∀ x ∈ os.filter (keepB m seen), seen.contains x.2 = true) : os.filter (keepB m seen) = os.filter (fun x => (m.tk x.1).isSome) := by
  refine List.filter_congr (fun y hy => ?_)
  cases e : keepB m seen y
  · unfold keepB at e
    simp at e
    simp [e.1]
  · have := h y (List.mem_filter.2 ⟨hy, e⟩)
    unfold keepB at e
    rw [this] at e
    simpa using e.symm
theorem keep_none (m : KM) (os : List (Nat × Nat)) : os.filter (keepB m #[]) = os := by
  rw [List.filter_eq_self]
  intro a _
  unfold keepB
  simp
theorem left_less {os : List (Nat × Nat)} {seen : Array Nat} {i s : Nat} (hx : (i, s) ∈ os) (hs : seen.contains s = false) : (os.filter (fun y => !(seen.push s).contains y.2)).length < (os.filter (fun y => !seen.contains y.2)).length := by
  have e : os.filter (fun y => !(seen.push s).contains y.2) = (os.filter (fun y => !seen.contains y.2)).filter (fun y => !(y.2 == s)) := by
    rw [List.filter_filter]
    refine List.filter_congr (fun y _ => ?_)
    rw [Array.contains_push]
    cases seen.contains y.2 <;> cases e : (y.2 == s) <;> simp_all
  rw [e, List.length_filter_lt_length_iff_exists]
  exact ⟨(i, s), List.mem_filter.2 ⟨hx, by show (!seen.contains s) = true; rw [hs]; rfl⟩, by simp⟩
end Go.Proofs.YtcngfaggignmpaaGreatDoor

/-
  Instructions: the forms of all Ops.
-/
namespace Go.Proofs.YtcngfaggignmpaaGreatDoor
open Go.RowKit

/-- The forms' cells: a word and its fields, for each Op. -/
def formArr : Array Value := #[.string ⟨#[110, 111, 112]⟩, .string ⟨#[]⟩, .string ⟨#[115, 101, 116]⟩, .string ⟨#[114, 110]⟩, .string ⟨#[109, 111, 118, 101]⟩, .string ⟨#[114, 114]⟩, .string ⟨#[97, 100, 100]⟩, .string ⟨#[114, 114, 114]⟩, .string ⟨#[115, 117, 98]⟩, .string ⟨#[114, 114, 114]⟩, .string ⟨#[109, 117, 108]⟩, .string ⟨#[114, 114, 114]⟩, .string ⟨#[97, 110, 100]⟩, .string ⟨#[114, 114, 114]⟩, .string ⟨#[111, 114]⟩, .string ⟨#[114, 114, 114]⟩, .string ⟨#[120, 111, 114]⟩, .string ⟨#[114, 114, 114]⟩, .string ⟨#[108, 101, 102, 116]⟩, .string ⟨#[114, 114, 114]⟩, .string ⟨#[114, 105, 103, 104, 116]⟩, .string ⟨#[114, 114, 114]⟩, .string ⟨#[108, 111, 97, 100]⟩, .string ⟨#[114, 114, 98]⟩, .string ⟨#[115, 116, 111, 114, 101]⟩, .string ⟨#[114, 114, 98]⟩, .string ⟨#[98, 121, 116, 101]⟩, .string ⟨#[114, 114, 98]⟩, .string ⟨#[112, 117, 116]⟩, .string ⟨#[114, 114, 98]⟩, .string ⟨#[115, 97, 109, 101]⟩, .string ⟨#[114, 114, 115]⟩, .string ⟨#[111, 116, 104, 101, 114]⟩, .string ⟨#[114, 114, 115]⟩, .string ⟨#[108, 101, 115, 115]⟩, .string ⟨#[114, 114, 115]⟩, .string ⟨#[98, 101, 108, 111, 119]⟩, .string ⟨#[114, 114, 115]⟩, .string ⟨#[103, 111]⟩, .string ⟨#[110]⟩, .string ⟨#[116, 101, 108, 108]⟩, .string ⟨#[114]⟩, .string ⟨#[97, 115, 107]⟩, .string ⟨#[119]⟩, .string ⟨#[101, 110, 100]⟩, .string ⟨#[]⟩]
theorem form_one : formArr.all (·.oneCell') = true := by decide +kernel
theorem info334 : (Tryz.prog.info? 334).map (·.size) = some 46 := by kernel_rfl
theorem und334 : Tryz.prog.underlying 334 = some (.array 23 333) := by kernel_rfl
theorem form_size : formArr.size = 46 := rfl

theorem wpList_store_new {P : Program} {ops : Array Oper} {rest : List Oper} {op : Oper} {a : Act} {Q : Exit → Act → World → Prop} (hgd : op.guard = none) (ty : TypeId) (x y : Operand) (ho : op.op = .store ty x y)
    (w : World) (c c' : Array Value) (hx : a.eval x = .pointer (some ⟨w.heap.size, 0, none⟩)) (hy : a.eval y = .agg c')
    (hi : (P.info? ty).map (·.size) = some c'.size) (hs : c.size = c'.size) (h1 : c'.all (·.oneCell') = true)
    (h : wpList P ops Q rest (a.put op.dst undef) (w.alloc (.cells c' ty))) : wpList P ops Q (op :: rest) a (w.alloc (.cells c ty)) :=
  wpList_plain hgd fun _ hK => by
    unfold Oper.wp execOp
    simp only [ho, hx, hy, Instr.storeAt, Instr.sureAddr, Sem.run_bind, Sem.run_pure, Result.andThen_ok, run_storeVar_new w ty c c' hi hs h1]
    exact hK _ _ h
theorem results_cell {fn : Func} {p : Tmp} {ty : TypeId} (h : fn.results = #[.cell p ty]) (tmps : Array Value) (P : Program) (w : World) :
    (results fn tmps).run P w = ((asAddr (tmps.getD p undef)).run P w).andThen fun a w1 => (loadVar ty a).run P w1 := by
  simp only [results, h]
  simp [Sem.run_bind, Result.andThen]
theorem form_load (w : World) : (loadVar 334 ⟨w.heap.size, 0, none⟩).run Tryz.prog (w.alloc (.cells formArr 334)) = .ok (.agg formArr) (w.alloc (.cells formArr 334)) := run_loadVar_new w 334 formArr 23 333 und334 info334

set_option maxRecDepth 100000 in
set_option maxHeartbeats 1000000 in
theorem forms_any (w : World) : Calls Tryz.prog 181 #[] w fun e w' => e = .returned (.agg formArr) ∧ Ch No w w' := by
  have hl := form_load w
  go_enter Tryz.func181, Tryz.ntmps181
  go_wp2_with (refine wpList_store_new rfl 334 _ _ rfl w _ formArr rfl rfl info334 rfl form_one ?_)
  refine bodyPost_ret (v := .agg formArr) ?_ rfl ⟨rfl, Ch.alloc w _⟩
  rw [results_cell (p := 0) (ty := 334) rfl]
  exact hl
end Go.Proofs.YtcngfaggignmpaaGreatDoor
