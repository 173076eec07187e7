/-
  The top, part 33: Quiet, Store, Cmap.
-/
import Derived.Test.YtcngfaggignmpaaGreatDoorG30
import Derived.Test.YtcngfaggignmpaaGreatDoorG31
import Derived.Test.YtcngfaggignmpaaGreatDoorG32
import Derived.Maps.RangeRun

/-
  The core of a task: each instruction that asks nothing.
-/
namespace Go.Proofs.YtcngfaggignmpaaGreatDoor
open Go.RowKit

section
variable {g : CG} {sv : Value} {m : CM} {w : World}
theorem or_256 : bits BinOp.or .u32 256 0 = 256 := by decide +kernel
set_option maxHeartbeats 1000000 in
theorem high_any (h : CO g sv m w) :
    Calls Tryz.prog 104 #[.pointer (some ⟨g.b, 0, none⟩), inV ⟨1, 0, 1, 0⟩] w fun e w' => e = .returned (.int .i64 0) ∧ CO g sv (m.setR 0 256) w' ∧ Ch (fun k => k = g.b) w w' := by
  have k1 := h.no (Ch.alloc w (.cells #[.int .u8 1, .int .u8 0, .int .u8 1, .int .u8 0] 49))
  have c1 := k1.cReg (a := 0) (by decide)
  have f1 := k1.free 0
  have hor := or_256
  have H := Lib.hid h
  have K1 := Lib.hid k1
  clear h k1
  unfold inV
  go_enter Tryz.func104, Tryz.ntmps104
  go_wp2_with fail
  go_region
  go_wp2_with fail
  go_ret
  have k2 := K1.out.setReg (a := 0) (by decide) (256 : Int)
  exact ⟨rfl, k2.1.drewN 1, ((Ch.alloc w _).trans k2.2).trans (Ch.drewN _ 1)⟩
theorem step_high {k : Nat} (h : CO g sv m w) (p : Goes g m k ⟨1, 0, 1, 0⟩ w) :
    Calls Tryz.prog 32 #[.pointer (some ⟨g.b, 0, none⟩)] w (Stepped g sv (fun s => s = sv) { m.setR 0 256 with pc := (k : Int) + 1 } w) := by
  have := cstep_any (Z := fun s => s = sv) k ⟨1, 0, 1, 0⟩ 104 (m.setR 0 256) 0 p.pc (Nat.lt_trans p.small (by decide)) (by omega) p.pc p.code p.asked (show (1 : Nat) ≠ 21 by decide) (show (1 : Nat) ≠ 22 by decide) p.lo look_set call_104
    (fun W _ hW => (high_any hW).mono (fun e w' q => ⟨sv, rfl, q.1, q.2.1, at_b q.2.2⟩)) h
  rw [show (k : Int) + (1 + 0) = (k : Int) + 1 by omega] at this
  exact this
theorem Stepped.to {Z Z' : Value → Prop} {c : CM} {e : Ending} {w' : World} (h : Stepped g sv Z c w e w') (f : ∀ s, Z s → Z' s) : Stepped g sv Z' c w e w' := by
  obtain ⟨s, hz, r⟩ := h
  exact ⟨s, f s hz, r⟩
/-- Each instruction that asks nothing. -/
theorem quiet_any {k : Nat} {x : IN} {c' : CM} (h : CO g sv m w) (p : Goes g m k x w) (q : Sp m x c') :
    Calls Tryz.prog 32 #[.pointer (some ⟨g.b, 0, none⟩)] w (Stepped g sv (fun s => x.op ≠ 20 → s = sv) c' w) := by
  have hp := p.pc
  cases q with
  | set a b h1 h2 => rw [hp]; exact (step_set h p h1 h2).mono (fun _ _ q => q.to (fun _ e _ => e))
  | high => rw [hp]; exact (step_high h p).mono (fun _ _ q => q.to (fun _ e _ => e))
  | move a b h1 h2 => rw [hp]; exact (step_move h p h1 h2).mono (fun _ _ q => q.to (fun _ e _ => e))
  | add a b h1 h2 h3 => rw [hp]; exact (step_add h p h1 h2 h3).mono (fun _ _ q => q.to (fun _ e _ => e))
  | sub a b h1 h2 h3 => rw [hp]; exact (step_sub h p h1 h2 h3).mono (fun _ _ q => q.to (fun _ e _ => e))
  | other a b h1 h2 => rw [hp]; exact (step_other h p h1 h2).mono (fun _ _ q => q.to (fun _ e _ => e))
  | go b h1 => exact (step_go h p h1).mono (fun _ _ q => q.to (fun _ e _ => e))
  | tell a h1 h2 => rw [hp]; exact (step_tell h p h1 h2).mono (fun _ _ q => q.to (fun _ _ e => absurd rfl e))
end
end Go.Proofs.YtcngfaggignmpaaGreatDoor

/-
  The board in memory: the kernel, the cores, the map of the cores.
-/
namespace Go.Proofs.YtcngfaggignmpaaGreatDoor
open Go.RowKit Go.ChangeMaps Go.MapKept

/-- An entry of the map of the cores: a place, and its stamp. -/
def entC (bx : Nat → Nat) (x : Nat × Nat) : MapEntry := ⟨.int .u32 (256 + x.1), .pointer (some ⟨bx x.1, 0, none⟩), x.2⟩
def entA (bx : Nat → Nat) (os : List (Nat × Nat)) : Array MapEntry := (os.map (entC bx)).toArray
/-- There is a core of a place. -/
def Live (os : List (Nat × Nat)) (i : Nat) : Prop := ∃ s, (i, s) ∈ os
/-- A core, and its box. -/
structure CS (U : Nat) (bx : Nat → Nat) (gs : Nat → CG) (sv : Nat → Value) (cs : Nat → CM) (an : Nat → Int) (i : Nat) (w : World) : Prop where
  box : Row (bx i) 109 #[.pointer (some ⟨(gs i).b, 0, none⟩), .int .i64 (an i)] w
  core : CO (gs i) (sv i) (cs i) w
  lo : U + 3 ≤ (gs i).lo ∧ (gs i).lo ≤ w.heap.size
  hi : U + 3 ≤ bx i ∧ U + 3 ≤ (gs i).b ∧ U + 3 ≤ (gs i).cb
/-- The board. -/
structure BS (B T U : Nat) (tb bx : Nat → Nat) (gs : Nat → CG) (m : KM) (sv : Nat → Value) (cs : Nat → CM) (an : Nat → Int) (os : List (Nat × Nat)) (clk : Nat) (w : World) : Prop where
  board : BD (B + 74) (B + 69) (B + 73) w
  kern : KS B T U tb m w
  map : w.heap[B + 73]? = some (.map (entA bx os) clk)
  one : (os.map (·.1)).Nodup
  two : (os.map (·.2)).Nodup
  low : ∀ x ∈ os, x.1 < 16 ∧ x.2 < clk
  core : ∀ i, Live os i → CS U bx gs sv cs an i w
  sep : ∀ i j, Live os i → Live os j → i ≠ j → bx i ≠ bx j ∧ (gs i).b ≠ (gs j).b ∧ ((sv i).ownBlock = none ∨ (sv j).ownBlock = none)

section
variable {U : Nat} {bx : Nat → Nat} {gs : Nat → CG} {sv : Nat → Value} {cs : Nat → CM} {an : Nat → Int} {i : Nat} {w w' : World} {S : Nat → Prop}
theorem CO.own5 {g : CG} {s : Value} {c : CM} (h : CO g s c w) {q : Nat} (hq : s.ownBlock = some q) : g.lo ≤ q ∧ ∃ cur, Row q 5 cur w := by
  rcases h.says.2 with ⟨e, _⟩ | ⟨q', cap, cur, e, hb, hg, _⟩
  · rw [e] at hq; cases hq
  · have : q = q' := by rw [e] at hq; simp [Value.ownBlock] at hq; exact hq.symm
    subst this
    exact ⟨hb, cur, hg⟩
theorem CO.code49 {g : CG} {s : Value} {c : CM} (h : CO g s c w) : ∃ cur, Row g.cb 49 cur w := by
  obtain ⟨cur, r, _⟩ := h.code
  exact ⟨cur, r⟩
theorem CS.keeps (h : CS U bx gs sv cs an i w) (g : Ch S w w') (h1 : ¬ S (bx i)) (h2 : ¬ S (gs i).b) (h3 : ¬ S (gs i).cb) (h4 : ∀ k, (sv i).ownBlock = some k → ¬ S k) : CS U bx gs sv cs an i w' :=
  ⟨h.box.keeps g h1, h.core.keeps g h2 h3 h4, ⟨h.lo.1, Nat.le_trans h.lo.2 g.size⟩, h.hi⟩
theorem CS.no (h : CS U bx gs sv cs an i w) (g : Ch No w w') : CS U bx gs sv cs an i w' := h.keeps g (fun x => x) (fun x => x) (fun x => x) (fun _ _ x => x)
/-- Blocks that are apart: of other types, or elsewhere. -/
theorem CS.apart (h : CS U bx gs sv cs an i w) (g : Ch S w w') (hS : ∀ k ty cur, U + 3 ≤ k → Row k ty cur w → (ty = 109 ∨ ty = 191 ∨ ty = 49 ∨ ty = 5) → ¬ S k) : CS U bx gs sv cs an i w' := by
  obtain ⟨c49, r49⟩ := h.core.code49
  refine h.keeps g (hS _ 109 _ h.hi.1 h.box (by simp)) (hS _ 191 _ h.hi.2.1 h.core.core (by simp)) (hS _ 49 _ h.hi.2.2 r49 (by simp)) (fun k hk => ?_)
  obtain ⟨lo, cur, r⟩ := h.core.own5 hk
  exact hS _ 5 _ (Nat.le_trans h.lo.1 lo) r (by simp)
end

section
variable {B T U : Nat} {tb bx : Nat → Nat} {gs : Nat → CG} {m : KM} {sv : Nat → Value} {cs : Nat → CM} {an : Nat → Int} {os : List (Nat × Nat)} {clk : Nat} {w w' : World} {i : Nat}
theorem BS.no (h : BS B T U tb bx gs m sv cs an os clk w) (g : Ch No w w') : BS B T U tb bx gs m sv cs an os clk w' :=
  ⟨h.board.keeps g (fun x => x), h.kern.no g, g.keeps h.map (fun x => x), h.one, h.two, h.low, fun i hi => (h.core i hi).no g, h.sep⟩
theorem BS.drewN (h : BS B T U tb bx gs m sv cs an os clk w) (n : Nat) : BS B T U tb bx gs m sv cs an os clk (w.drewN n) := h.no (Ch.drewN w n)
/-- The kernel turns. -/
theorem BS.kern' (h : BS B T U tb bx gs m sv cs an os clk w) (g : Ch (Sk B T U w) w w') {m' : KM} (k : KS B T U tb m' w') : BS B T U tb bx gs m' sv cs an os clk w' := by
  have l1 := h.kern.lay1
  have l2 := h.kern.lay2
  have n81 : ¬ Sk B T U w (B + 74) := fun s => by
    obtain ⟨c, r, _⟩ := h.board
    rcases s with ⟨_, _, e⟩ | ⟨_, c', r'⟩
    · omega
    · exact absurd (r.ty r') (by decide)
  have nmap : ¬ Sk B T U w (B + 73) := fun s => by
    rcases s with ⟨_, _, e⟩ | ⟨_, c', r'⟩
    · omega
    · have := h.map
      rw [show w.heap[B + 73]? = some (.cells c' 127) from r'] at this
      cases this
  exact ⟨h.board.keeps g n81, k, g.keeps h.map nmap, h.one, h.two, h.low, fun i hi => (h.core i hi).apart g (fun k ty cur hk r ht => skNot hk (by rcases ht with rfl | rfl | rfl | rfl <;> decide) r), h.sep⟩
/-- A core makes a step. -/
theorem BS.step (h : BS B T U tb bx gs m sv cs an os clk w) (hi : Live os i) {s' : Value} {c' : CM} (g : Ch (fun k => k = (gs i).b ∨ (sv i).ownBlock = some k) w w') (c : CO (gs i) s' c' w')
    (hz : s' = sv i ∨ ∀ j, Live os j → j ≠ i → (sv j).ownBlock = none) : BS B T U tb bx gs m (upd sv i s') (upd cs i c') an os clk w' := by
  have hci := h.core i hi
  have l1 := h.kern.lay1
  have l2 := h.kern.lay2
  have own := fun q hq => hci.core.own5 (q := q) hq
  have lo := hci.lo.1
  have hiB := hci.hi
  have nB : ∀ k, k < U + 3 → ¬ (k = (gs i).b ∨ (sv i).ownBlock = some k) := fun k hk e => by
    rcases e with e | e
    · omega
    · have := (own k e).1; omega
  have nT : ∀ k ty cur, Row k ty cur w → ty ≠ 191 → ty ≠ 5 → ¬ (k = (gs i).b ∨ (sv i).ownBlock = some k) := fun k ty cur r n1 n2 e => by
    rcases e with rfl | e
    · exact n1 (r.ty hci.core.core)
    · obtain ⟨_, cur', r'⟩ := own k e
      exact n2 (r.ty r')
  refine ⟨h.board.keeps g (nB _ (by omega)), ?_, g.keeps h.map (nB _ (by omega)), h.one, h.two, h.low, fun j hj => ?_, fun a b ha hb hab => ?_⟩
  · refine h.kern.keeps g (fun k e => ?_) (fun k cur ty e r => ?_)
    · rcases e with e | e
      · omega
      · have := (own k e).1; omega
    · rcases e with rfl | e
      · have := r.ty hci.core.core; subst this; decide
      · obtain ⟨_, cur', r'⟩ := own k e
        have := r.ty r'; subst this; decide
  · by_cases e : j = i
    · subst e
      refine ⟨hci.box.keeps g (nT _ _ _ hci.box (by decide) (by decide)), ?_, ⟨hci.lo.1, Nat.le_trans hci.lo.2 g.size⟩, hci.hi⟩
      rw [upd_at, upd_at]
      exact c
    · have hcj := h.core j hj
      obtain ⟨sb, sg, ss⟩ := h.sep j i hj hi e
      have k1 : CS U bx gs sv cs an j w' := by
        obtain ⟨c49, r49⟩ := hcj.core.code49
        refine hcj.keeps g (nT _ _ _ hcj.box (by decide) (by decide)) (fun x => ?_) (nT _ _ _ r49 (by decide) (by decide)) (fun k hk x => ?_)
        · rcases x with x | x
          · exact sg x
          · obtain ⟨_, cur', r'⟩ := own _ x
            exact absurd (hcj.core.core.ty r') (by decide)
        · rcases x with rfl | x
          · obtain ⟨_, cur', r'⟩ := hcj.core.own5 hk
            exact absurd (r'.ty hci.core.core) (by decide)
          · rcases ss with s1 | s1
            · rw [s1] at hk; cases hk
            · rw [s1] at x; cases x
      refine ⟨k1.box, ?_, k1.lo, k1.hi⟩
      rw [upd_ne _ _ e, upd_ne _ _ e]
      exact k1.core
  · obtain ⟨sb, sg, ss⟩ := h.sep a b ha hb hab
    refine ⟨sb, sg, ?_⟩
    by_cases ea : a = i
    · subst ea
      have eb : b ≠ a := fun e => hab e.symm
      rw [upd_at, upd_ne _ _ eb]
      rcases hz with rfl | hz
      · exact ss
      · exact .inr (hz b hb eb)
    · rw [upd_ne _ _ ea]
      by_cases eb : b = i
      · subst eb
        rw [upd_at]
        rcases hz with rfl | hz
        · exact ss
        · exact .inl (hz a ha ea)
      · rw [upd_ne _ _ eb]; exact ss
/-- A core's box turns. -/
theorem BS.boxed (h : BS B T U tb bx gs m sv cs an os clk w) (hi : Live os i) (a : Int) : BS B T U tb bx gs m sv cs (upd an i a) os clk (w.setCell ⟨bx i, 1, none⟩ (.int .i64 a)) := by
  have hci := h.core i hi
  have l1 := h.kern.lay1
  have l2 := h.kern.lay2
  have lb := hci.hi.1
  have g := Ch.set1 w (bx i) 1 (.int .i64 a)
  have nT : ∀ k ty cur, Row k ty cur w → ty ≠ 109 → ¬ (k = bx i) := fun k ty cur r n e => by subst e; exact n (r.ty hci.box)
  refine ⟨h.board.keeps g (fun (e : B + 74 = bx i) => by omega), h.kern.keeps g (fun k e => by omega) (fun k cur ty e r => ?_), g.keeps h.map (fun (e : B + 73 = bx i) => by omega), h.one, h.two, h.low, fun j hj => ?_, h.sep⟩
  · subst e
    have := r.ty hci.box
    subst this
    decide
  · by_cases e : j = i
    · subst e
      obtain ⟨c49, r49⟩ := hci.core.code49
      refine ⟨?_, hci.core.keeps g (nT _ _ _ hci.core.core (by decide)) (nT _ _ _ r49 (by decide)) (fun k hk => ?_), ⟨hci.lo.1, Nat.le_trans hci.lo.2 g.size⟩, hci.hi⟩
      · rw [upd_at]
        exact hci.box.set 1 (.int .i64 a)
      · obtain ⟨_, cur, r⟩ := hci.core.own5 hk
        exact nT _ _ _ r (by decide)
    · have hcj := h.core j hj
      obtain ⟨sb, _, _⟩ := h.sep j i hj hi e
      obtain ⟨c49, r49⟩ := hcj.core.code49
      have k1 : CS U bx gs sv cs an j _ := hcj.keeps g sb (nT _ _ _ hcj.core.core (by decide)) (nT _ _ _ r49 (by decide)) (fun k hk => by
        obtain ⟨_, cur, r⟩ := hcj.core.own5 hk
        exact nT _ _ _ r (by decide))
      refine ⟨?_, k1.core, k1.lo, k1.hi⟩
      rw [upd_ne _ _ e]
      exact k1.box
end
end Go.Proofs.YtcngfaggignmpaaGreatDoor

/-
  The map of the cores: looked up, and deleted from.
-/
namespace Go.Proofs.YtcngfaggignmpaaGreatDoor
open Go.RowKit Go.ChangeMaps Go.MapKept

section
variable {B T U : Nat} {tb bx : Nat → Nat} {gs : Nat → CG} {m : KM} {sv : Nat → Value} {cs : Nat → CM} {an : Nat → Int} {os : List (Nat × Nat)} {clk : Nat} {w w' : World} {i : Nat}
theorem entA_keys (bx : Nat → Nat) (os : List (Nat × Nat)) : ∀ x ∈ (entA bx os).toList, IsKey (.int .u32) x.key := by
  intro x hx
  unfold entA at hx
  simp at hx
  obtain ⟨a, b, _, rfl⟩ := hx
  simp [entC, IsKey]
theorem entA_find (bx : Nat → Nat) (os : List (Nat × Nat)) (i : Nat) :
    (Instr.findNow (.int .u32) (.int .u32 (256 + (i : Int))) (entA bx os).toList 0 = some none ∧ ¬ Live os i) ∨
      ∃ j s, Instr.findNow (.int .u32) (.int .u32 (256 + (i : Int))) (entA bx os).toList 0 = some (some (j, .pointer (some ⟨bx i, 0, none⟩))) ∧ os[j]? = some (i, s) := by
  rcases findNow_spec (d := .int .u32) (k := .int .u32 (256 + (i : Int))) (by simp [IsKey]) (entA bx os).toList 0 (entA_keys bx os) with ⟨h1, h2⟩ | ⟨j, e, h1, h2, h3⟩
  · refine .inl ⟨h1, fun hl => ?_⟩
    obtain ⟨s, hs⟩ := hl
    refine h2 (entC bx (i, s)) ?_ rfl
    unfold entA
    simp
    exact ⟨i, s, hs, rfl⟩
  · unfold entA at h2
    rw [List.getElem?_map] at h2
    cases e2 : os[j]? with
    | none => rw [e2] at h2; simp at h2
    | some x =>
      rw [e2] at h2
      simp at h2
      subst h2
      have hx : x.1 = i := by
        simp [entC] at h3
        omega
      obtain ⟨a, s⟩ := x
      simp at hx
      subst hx
      exact .inr ⟨j, s, by rw [h1]; simp [entC], e2⟩
theorem BS.look (h : BS B T U tb bx gs m sv cs an os clk w) (hi : Live os i) : (Instr.lookup 79 (.map (some (B + 73))) (.int .u32 (256 + (i : Int))) false).run Tryz.prog w = .ok (.pointer (some ⟨bx i, 0, none⟩)) w := by
  rcases entA_find bx os i with ⟨_, hn⟩ | ⟨j, s, hf, _⟩
  · exact absurd hi hn
  · exact run_look1 Tryz.underlying79 Tryz.underlying34 w (B + 73) _ clk (256 + (i : Int)) j _ h.map hf
theorem erase_filter : ∀ (os : List (Nat × Nat)) (j i s : Nat), (os.map (·.1)).Nodup → os[j]? = some (i, s) → os.eraseIdx j = os.filter (fun x => x.1 != i)
  | [], j, i, s, _, h => by simp at h
  | x :: os, 0, i, s, hn, h => by
    simp at h
    subst h
    simp at hn
    simp
    symm
    rw [List.filter_eq_self]
    intro a ha
    simp
    intro e
    exact hn.1 a.2 (by rw [← e]; exact ha)
  | x :: os, j + 1, i, s, hn, h => by
    have h' : os[j]? = some (i, s) := by simpa using h
    simp at hn
    have := erase_filter os j i s hn.2 h'
    have hx : x.1 ≠ i := fun e => hn.1 s (by rw [e]; exact List.mem_of_getElem? h')
    simp [hx]
    exact this
theorem BS.drop (h : BS B T U tb bx gs m sv cs an os clk w) (i : Nat) (ty : TypeId) :
    (Builtin.delete_ #[79, 34] ty #[.map (some (B + 73)), .int .u32 (256 + (i : Int))]).run Tryz.prog w = .ok (.tuple #[]) (putMap w (B + 73) (entA bx (os.filter (fun x => x.1 != i))) clk) := by
  have hk : IsKey (.int .u32) (.int .u32 (256 + (i : Int))) := by simp [IsKey]
  rcases entA_find bx os i with ⟨hf, hn⟩ | ⟨j, s, hf, hj⟩
  · have e : os.filter (fun x => x.1 != i) = os := by
      rw [List.filter_eq_self]
      intro a ha
      simp
      intro e
      exact hn ⟨a.2, by rw [← e]; exact ha⟩
    rw [e]
    simp [Builtin.delete_, run_underlying Tryz.underlying79, MapKept.run_getObj_map h.map, run_checkKey Tryz.underlying34 hk, run_findKey Tryz.underlying34 hf, MapKept.run_setObj_map _ h.map, Result.andThen, putMap]
  · have e : (entA bx os).eraseIdxIfInBounds j = entA bx (os.filter (fun x => x.1 != i)) := by
      have hjl : j < os.length := (List.getElem?_eq_some_iff.1 hj).1
      apply Array.ext'
      unfold Array.eraseIdxIfInBounds
      rw [dif_pos (by simp [entA]; exact hjl)]
      simp [entA]
      rw [← erase_filter os j i s h.one hj]
      exact map_eraseIdx _ _ _ |> Eq.symm
    simp [Builtin.delete_, run_underlying Tryz.underlying79, MapKept.run_getObj_map h.map, run_checkKey Tryz.underlying34 hk, run_findKey Tryz.underlying34 hf, MapKept.run_setObj_map _ h.map, Result.andThen, putMap, e]
end
end Go.Proofs.YtcngfaggignmpaaGreatDoor
