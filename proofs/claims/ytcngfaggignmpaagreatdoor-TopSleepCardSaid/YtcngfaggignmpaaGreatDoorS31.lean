/-
  The top, part 31: Nap4, Nap5, Dput.
-/
import Derived.Test.YtcngfaggignmpaaGreatDoorS07
import Derived.Test.YtcngfaggignmpaaGreatDoorS30

/-
  slices.Insert over elements of two cells: one law.
-/
namespace Go.Proofs.YtcngfaggignmpaaGreatDoor
open Go.RowKit

theorem flatP_take : ∀ (l : List (Nat × Int)) (i : Nat), flatP (l.take i) = (flatP l).take (i * 2)
  | [], i => by simp [flatP]
  | x :: r, 0 => by simp [flatP]
  | x :: r, i + 1 => by
    rw [List.take_succ_cons, show (i + 1) * 2 = i * 2 + 1 + 1 by omega]
    simp [flatP, flatP_take r i]
theorem flatP_drop : ∀ (l : List (Nat × Int)) (i : Nat), flatP (l.drop i) = (flatP l).drop (i * 2)
  | [], i => by simp [flatP]
  | x :: r, 0 => by simp
  | x :: r, i + 1 => by
    rw [List.drop_succ_cons, show (i + 1) * 2 = i * 2 + 1 + 1 by omega]
    simp [flatP, flatP_drop r i]
/-- A list with one more. -/
def ins (l : List (Nat × Int)) (i : Nat) (x : Nat × Int) : List (Nat × Int) := l.take i ++ x :: l.drop i
theorem ins_len {l : List (Nat × Int)} {i : Nat} {x : Nat × Int} (hi : i ≤ l.length) : (ins l i x).length = l.length + 1 := by
  simp [ins]; omega
theorem ins_at {l : List (Nat × Int)} {i : Nat} {x : Nat × Int} (hi : i ≤ l.length) (j : Nat) :
    (flatP (ins l i x))[j]? = if j < i * 2 then (flatP l)[j]? else if j < (i + 1) * 2 then [Value.int .i64 x.1, Value.int .i64 x.2][j - i * 2]? else (flatP l)[j - 2]? := by
  have hL := flatP_len l
  have e : flatP (ins l i x) = (flatP l).take (i * 2) ++ ([Value.int .i64 x.1, Value.int .i64 x.2] ++ (flatP l).drop (i * 2)) := by
    unfold ins
    rw [flatP_app, flatP_take]
    simp [flatP, flatP_drop]
  have ht : ((flatP l).take (i * 2)).length = i * 2 := by rw [List.length_take]; omega
  rw [e]
  by_cases h1 : j < i * 2
  · rw [if_pos h1, List.getElem?_append_left (by omega), List.getElem?_take_of_lt h1]
  · rw [if_neg h1, List.getElem?_append_right (by omega), ht]
    by_cases h2 : j < (i + 1) * 2
    · rw [if_pos h2, List.getElem?_append_left (by simp; omega)]
    · rw [if_neg h2, List.getElem?_append_right (by simp; omega), List.getElem?_drop]
      congr 1
      simp
      omega

section
variable {w w' : World} {c g off cap : Nat} {l : List (Nat × Int)} {cs : Array Value} {a : Option Addr}
theorem DV.of (hr : Row g 289 cs w) (hc : c ≤ g) (hs : cs.size = off + 2 * cap) (h : ∀ j, j < 2 * l.length → cs[off + j]? = (flatP l)[j]?) : DV c (some ⟨g, off, none⟩) l cap w := fun _ => by
  refine ⟨g, off, cs, rfl, hc, hr, hs, fun j x hj => ?_⟩
  have hlt := (List.getElem?_eq_some_iff.1 hj).1
  obtain ⟨h1, h2⟩ := flatP_get l j x hj
  exact ⟨(h _ (by omega)).trans h1, (h (2 * j + 1) (by omega)).trans h2⟩
theorem flat_of (hh : ∀ (j : Nat) x, l[j]? = some x → cs[off + 2 * j]? = some (.int .i64 x.1) ∧ cs[off + 2 * j + 1]? = some (.int .i64 x.2)) (j : Nat) (u : Value) (hj : (flatP l)[j]? = some u) : cs[off + j]? = some u := by
  obtain ⟨x, hx, h | h⟩ := flatP_at l j u hj
  · rw [show off + j = off + 2 * (j / 2) by omega, h.2]; exact (hh _ x hx).1
  · rw [show off + j = off + 2 * (j / 2) + 1 by omega, h.2]; exact (hh _ x hx).2

theorem insert_any {i vb : Nat} {x : Nat × Int} (hl : l.length ≤ 64) (h1 : l.length ≤ cap) (h2 : cap ≤ maxLen) (hv : DV c a l cap w) (hi : i ≤ l.length) (hr : Row vb 289 #[.int .i64 x.1, .int .i64 x.2] w) (hvb : ∀ g off, a = some ⟨g, off, none⟩ → cap ≠ 0 → vb ≠ g) (hc : c ≤ w.heap.size) :
    Calls Tryz.prog 211 #[.slice a l.length cap, .int .i64 i, .slice (some ⟨vb, 0, none⟩) 1 1] w fun e w' => ∃ a' cap', e = .returned (.slice a' (l.length + 1) cap') ∧ l.length + 1 ≤ cap' ∧ cap' ≤ maxLen ∧ DV c a' (ins l i x) cap' w' ∧
      Ch (fun k => c ≤ k ∧ ∃ cs, Row k 289 cs w) w w' := by
  have hL := flatP_len l
  have hG := grownCap_ge w (l.length + 1) l.length 289
  have hG2 := grownCap_le_maxLen w (l.length + 1) l.length 289 (by unfold maxLen; omega)
  have hgrowEnd : i = l.length → cap = l.length → (Builtin.firstCells 2 l.length (.slice a l.length l.length)).run Tryz.prog w.drew = .ok (flatP l).toArray w.drew →
      Calls Tryz.prog 211 #[.slice a l.length cap, .int .i64 i, .slice (some ⟨vb, 0, none⟩) 1 1] w fun e w' => ∃ a' cap', e = .returned (.slice a' (l.length + 1) cap') ∧ l.length + 1 ≤ cap' ∧ cap' ≤ maxLen ∧ DV c a' (ins l i x) cap' w' ∧
        Ch (fun k => c ≤ k ∧ ∃ cs, Row k 289 cs w) w w' := by
    rintro rfl rfl hold
    refine (insEnd_grow a l.length vb x.1 x.2 (flatP l) (by omega) hr hold).mono ?_
    rintro e w' ⟨rfl, rfl⟩
    refine ⟨_, _, rfl, hG, hG2, ?_, (Ch.drewN w 1).trans (Ch.alloc _ _)⟩
    refine DV.of (Row.new w.drew 289 _) hc ?_ (fun j hj => ?_)
    · simp [Value.cells, size_zeroCells, hL]; omega
    · rw [ins_len hi] at hj
      rw [Nat.zero_add, Array.getElem?_append_left (by simp [hL]; omega), List.getElem?_toArray, ins_at hi]
      by_cases hj1 : j < l.length * 2
      · rw [if_pos hj1, List.getElem?_append_left (by omega)]
      · rw [if_neg hj1, if_pos (by omega), List.getElem?_append_right (by omega)]
        congr 1
        omega
  by_cases hcap : cap = 0
  · have hn : l = [] := List.eq_nil_of_length_eq_zero (by omega)
    subst hn
    refine hgrowEnd (by simpa using hi) (by simpa using hcap) ?_
    cases a with
    | none => exact run_firstCells_none w.drew 2 0 0 0
    | some ad => exact run_firstCells_some w.drew 2 0 ad 0 0 [] rfl (fun j u hj => by simp at hj)
  · obtain ⟨g, off, cs, rfl, hcg, hrow, hs, hh⟩ := hv hcap
    have hne := hvb g off rfl hcap
    have hfl := flat_of hh
    have hcells : ∀ j v, (flatP l)[j]? = some v → w.cell? ⟨g, off + j, none⟩ = some v := fun j v hj => hrow.cell (hfl j v hj)
    have hSg : c ≤ g ∧ ∃ cs, Row g 289 cs w := ⟨hcg, cs, hrow⟩
    unfold maxLen at h2
    by_cases hend : i = l.length
    · by_cases hroom : l.length + 1 ≤ cap
      · subst hend
        refine (insEnd_room g off l.length cap vb x.1 x.2 hroom (by omega) hr (fun j hj => ?_) (fun j hj => hrow.free _)).mono ?_
        · have hlt : off + l.length * 2 + j < cs.size := by omega
          rw [hrow.cell (j := off + l.length * 2 + j) (v := cs[off + l.length * 2 + j]) (Array.getElem?_eq_getElem hlt)]
          rfl
        · rintro e w' ⟨rfl, rfl⟩
          refine ⟨_, _, rfl, hroom, by unfold maxLen; omega, ?_, Ch.setCells hSg _ _ _⟩
          refine DV.of (row_setAll _ _ _ _ hrow) hcg (by rw [setAll_size]; exact hs) (fun j hj => ?_)
          rw [ins_len hi] at hj
          rw [ins_at hi, setAll_get _ _ _ (by simp; omega)]
          by_cases hj1 : j < l.length * 2
          · rw [if_pos hj1, if_neg (by omega)]
            have hlt : j < (flatP l).length := by omega
            rw [List.getElem?_eq_getElem hlt]
            exact hfl j _ (List.getElem?_eq_getElem hlt)
          · rw [if_neg hj1, if_pos (by simp; omega), if_pos (by omega)]
            congr 1
            omega
      · refine hgrowEnd hend (by omega) ?_
        refine run_firstCells_some w.drew 2 l.length ⟨g, off, none⟩ l.length l.length (flatP l) (by omega) (fun j u hj => ?_)
        rw [Addr.add_lit]
        exact hcells j u hj
    · have hlt : i < l.length := by omega
      have hdl : ((flatP l).drop (i * 2)).length = (l.length - i) * 2 := by rw [List.length_drop, hL, Nat.sub_mul]; omega
      by_cases hroom : l.length + 1 ≤ cap
      · refine (insMid_room g off l.length cap i vb x.1 x.2 (flatP l) cs hlt (by omega) hroom (by omega) hr hrow (by omega) hne (by omega) hcells (flatP_one l)).mono ?_
        rintro e w' ⟨rfl, rfl⟩
        refine ⟨_, _, rfl, hroom, by unfold maxLen; omega, ?_, ((Ch.drewN w 1).trans (Ch.setCells hSg _ _ _)).trans (Ch.setCells hSg _ _ _)⟩
        refine DV.of (row_setAll _ _ _ _ (row_setAll _ _ _ _ (hrow.drewN 1))) hcg (by rw [setAll_size, setAll_size]; exact hs) (fun j hj => ?_)
        rw [ins_len hi] at hj
        rw [ins_at hi, setAll_get _ _ _ (by rw [setAll_size]; simp; omega), setAll_get _ _ _ (by rw [hdl]; omega)]
        by_cases hj1 : j < i * 2
        · rw [if_pos hj1, if_neg (by simp; omega), if_neg (by omega)]
          have hlt2 : j < (flatP l).length := by omega
          rw [List.getElem?_eq_getElem hlt2]
          exact hfl j _ (List.getElem?_eq_getElem hlt2)
        · rw [if_neg hj1]
          by_cases hj2 : j < (i + 1) * 2
          · rw [if_pos hj2, if_pos (by simp; omega)]
            congr 1
            omega
          · rw [if_neg hj2, if_neg (by simp; omega), if_pos (by rw [hdl]; omega), List.getElem?_drop]
            congr 1
            omega
      · obtain rfl : cap = l.length := by omega
        refine (insMid_grow g off l.length i vb x.1 x.2 (flatP l) hlt (by omega) hr (by omega) hcells (flatP_one l)).mono ?_
        rintro e w' ⟨rfl, rfl⟩
        refine ⟨_, _, rfl, hG, hG2, ?_, ((((Ch.alloc w _).trans (Ch.drewN _ 1)).trans' (Ch.setCells (S := fun k => k = w.heap.size) rfl _ _ _) (fun k hk e => by omega)).trans (Ch.drewN _ 1)).trans' (Ch.setCells (S := fun k => k = w.heap.size) rfl _ _ _) (fun k hk e => by omega)⟩
        have hsz : ((((flatP l).take (i * 2)).toArray ++ Builtin.zeroCells (Value.agg #[Value.int .i64 0, Value.int .i64 0]).cells (l.length + 1 - i) ++ Builtin.zeroCells (Value.agg #[Value.int .i64 0, Value.int .i64 0]).cells (grownCap w (l.length + 1) l.length 289 - (l.length + 1)))).size = 2 * grownCap w (l.length + 1) l.length 289 := by
          simp [Value.cells, size_zeroCells, hL]
          omega
        refine DV.of (row_setAll _ _ _ _ (Row.drewN (row_setAll _ _ _ _ (Row.drewN (Row.new w 289 _) 1)) 1)) hc (by rw [setAll_size, setAll_size, hsz]; omega) (fun j hj => ?_)
        rw [ins_len hi] at hj
        rw [ins_at hi, setAll_get _ _ _ (by rw [setAll_size, hsz, hdl]; omega), setAll_get _ _ _ (by rw [hsz]; simp; omega), Nat.zero_add]
        by_cases hj1 : j < i * 2
        · rw [if_pos hj1, if_neg (by omega), if_neg (by simp; omega), Array.getElem?_append_left (by simp [Value.cells, size_zeroCells, hL]; omega), Array.getElem?_append_left (by simp [hL]; omega), List.getElem?_toArray, List.getElem?_take_of_lt hj1]
        · rw [if_neg hj1]
          by_cases hj2 : j < (i + 1) * 2
          · rw [if_pos hj2, if_neg (by omega), if_pos (by simp; omega)]
          · rw [if_neg hj2, if_pos (by rw [hdl]; omega), List.getElem?_drop]
            congr 1
            omega
end
end Go.Proofs.YtcngfaggignmpaaGreatDoor

/-
  Those who sleep: who, and how many ticks are left, one after the other.
-/
namespace Go.Proofs.YtcngfaggignmpaaGreatDoor
open Go.RowKit Go.Shelf
attribute [local go_sem] Oper.semAt_some

/-- Each block of values is as it was, but for those of whole numbers. -/
def KD (w w' : World) : Prop := ∀ (k : Nat) (cs : Array Value) (t : TypeId), t ≠ 2 → t ≠ 3 → w.heap[k]? = some (Obj.cells cs t) → w'.heap[k]? = some (Obj.cells cs t)
theorem KD.trans {a b c : World} (h : KD a b) (g : KD b c) : KD a c := fun k cs t h1 h2 e => g k cs t h1 h2 (h k cs t h1 h2 e)
theorem KD.row {w w' : World} {p : Nat} {t : TypeId} {cs : Array Value} (h : KD w w') (h1 : t ≠ 2) (h2 : t ≠ 3) (r : Row p t cs w) : Row p t cs w' := h p cs t h1 h2 r
theorem KD.putObj (W : World) (l : Nat) (o o' : Obj) (h : W.heap[l]? = some o) (hc : o.isCells = false) : KD W (W.putObj l o') := by
  intro k cs t _ _ e
  have hne : l ≠ k := by
    intro e2; subst e2; rw [h] at e; cases e; cases hc
  simp [World.putObj, hne, e]
theorem KD.ch {w w' : World} (h : Ch No w w') : KD w w' := fun k _ _ _ _ e => (h.block k (lt_of_blk e) (fun x => x)).trans e
theorem DV.kd {c cap : Nat} {a : Option Addr} {l : List (Nat × Int)} {w w' : World} (h : DV c a l cap w) (g : KD w w') : DV c a l cap w' := fun hl => by
  obtain ⟨p, off, cs, e, hc, rr, hs, hh⟩ := h hl
  exact ⟨p, off, cs, e, hc, g.row (by decide) (by decide) rr, hs, hh⟩
/-- How many ticks are left for the first k. -/
def ahead (l : List (Nat × Int)) (k : Nat) : Int := ((l.take k).map (·.2)).sum
theorem ahead_zero (l : List (Nat × Int)) : ahead l 0 = 0 := by simp [ahead]
theorem ahead_succ {l : List (Nat × Int)} {k : Nat} {x : Nat × Int} (h : l[k]? = some x) : ahead l (k + 1) = ahead l k + x.2 := by
  unfold ahead
  rw [List.take_add_one, h]
  simp
/-- What is told of each. -/
def naps (l : List (Nat × Int)) : List (Int × Int) := (List.range l.length).map (fun k : Nat => ((k : Int), ahead l (k + 1)))
theorem naps_len (l : List (Nat × Int)) : (naps l).length = l.length := by simp [naps]
theorem naps_at {l : List (Nat × Int)} {k : Nat} (h : k < l.length) : (naps l)[k]? = some ((k : Int), ahead l (k + 1)) := by simp [naps, h]

set_option maxRecDepth 100000 in
set_option maxHeartbeats 4000000 in
theorem naps_in (n : Nat) (hn : 1 ≤ n) (l0 b c B1 : Nat) (l : List (Nat × Int)) (J Jx : List (Int × Int) → World → Prop)
    (hJA : ∀ pre W W', J pre W → W.grownBy W' none → J pre W')
    (hY : ∀ pre x W, J pre W → pre.length < l.length → YieldAt Fence.wide (n - 1) Tryz.prog l0 #[.int .i64 x.1, .int .i64 x.2] W fun e W' =>
      (e = .returned (.bool true) ∧ J (pre ++ [x]) W' ∧ KD W W') ∨ (e = .returned (.bool false) ∧ Jx (pre ++ [x]) W'))
    (W : World) (hl : l.length ≤ 64) (hs : ∀ k, k ≤ l.length → 0 ≤ ahead l k ∧ ahead l k ≤ 1099511627776) (h : DL b c l W) (b1 : Row B1 93 #[.pointer (some ⟨b, 0, none⟩)] W) (h0 : J [] W) :
    CallsIn Fence.wide n Tryz.prog 179 #[.func (.yield l0) #[] #[], .pointer (some ⟨B1, 0, none⟩)] W fun e W' => (∃ v, e = .returned v) ∧
      ((∃ ys, ys = naps l ∧ J ys W') ∨ (∃ pre, pre <+: naps l ∧ Jx pre W')) := by
  obtain ⟨a, cap, hrow, h1, h2, hv⟩ := h
  have c1 := hrow.cell (j := 0) rfl
  have c2 := b1.cell (j := 0) rfl
  have HV := Lib.hid hv
  have HS := Lib.hid hs
  have HLC := Lib.hid h1
  have hY' := Lib.hid hY
  have hJA' := Lib.hid hJA
  have HJ0 := Lib.hid h0
  clear hrow h1 h2 hv b1 hY hJA hs h0
  generalize hLL : l.length = L at c1 hl
  have HLL := Lib.hid hLL
  clear hLL
  refine callsIn_of_wp Tryz.func179 rfl trivial ?_ rfl
  simp only [Tryz.ntmps179, List.size_toArray, List.length_cons, List.length_nil, Nat.reduceAdd, Nat.reduceSub, Array.replicate_succ, Array.replicate_zero, List.push_toArray, List.append_toArray, List.nil_append, List.cons_append]
  gi_wp2_with fail
  gi_loopw [3, 4, 5, 11] (fun s _ _ i wr => ∃ k : Nat, k ≤ L ∧ i = .int .i64 k ∧ s = .int .i64 (ahead l k) ∧ J ((naps l).take k) wr ∧ KD W wr) (fun _ _ _ i _ => L - (intOf i).toNat)
  case atStart => exact ⟨0, Nat.zero_le _, rfl, by rw [ahead_zero], HJ0.out, fun _ _ _ _ _ e => e⟩
  case round =>
    obtain ⟨k, hk, rfl, rfl, hJs, hnx⟩ := hrel
    by_cases hlt : k < L
    · obtain ⟨x, hx⟩ : ∃ x, l[k]? = some x := ⟨_, List.getElem?_eq_getElem (by rw [HLL.out]; exact hlt)⟩
      obtain ⟨g, off, rfl, hcg, q0, q1⟩ := (HV.out.kd hnx).cells HLC.out hx
      rw [Nat.mul_comm] at q0 q1
      have HSU := Lib.hid (ahead_succ hx)
      have hb1 := HS.out k (by have := HLL.out; omega)
      have hb2 := HS.out (k + 1) (by have := HLL.out; omega)
      rw [HSU.out] at hb2
      have hw : wrap64 (ahead l k + x.2) = ahead l k + x.2 := by unfold wrap64; omega
      have hlk : k < l.length := by have := HLL.out; omega
      have HTK : Hid ((naps l).take (k + 1) = (naps l).take k ++ [((k : Int), ahead l k + x.2)]) := Lib.hid (by rw [List.take_add_one, naps_at hlk, ahead_succ hx]; rfl)
      have HPX : Hid ((naps l).take k ++ [((k : Int), ahead l k + x.2)] <+: naps l) := Lib.hid (by rw [← HTK.out]; exact List.take_prefix _ _)
      have hJn := hJA'.out _ wr (wr.alloc (.cells #[.int .i64 (x.1 : Int), .int .i64 x.2] 289)) hJs (Ch.alloc (S := No) wr _).grown
      have HN : Hid (KD W (wr.alloc (.cells #[.int .i64 (x.1 : Int), .int .i64 x.2] 289))) := Lib.hid (hnx.trans (KD.ch (Ch.alloc wr _)))
      obtain ⟨fn, tmps, assign, body, hy, hR⟩ := hY'.out _ ((k : Int), ahead l k + x.2) _ hJn (by rw [List.length_take, naps_len]; omega)
      dsimp only at hy
      clear hJs hnx hx hJn
      gi_wp2
      refine hR.mono ?_
      rintro e W3 (⟨rfl, hJ3, hk3⟩ | ⟨rfl, hJx3⟩)
      · gi_wp2
        go_roundw
        case rel => exact ⟨k + 1, by omega, by go_num, by rw [HSU.out], by rw [HTK.out]; exact hJ3, HN.out.trans hk3⟩
        case measure => simp [intOf]; omega
      · gi_wp2
        refine bodyPost_ret (results_none rfl _ _ _) rfl ?_
        exact ⟨⟨_, rfl⟩, .inr ⟨_, HPX.out, hJx3⟩⟩
    · obtain rfl : k = L := by omega
      gi_wp2
      go_end0
      refine ⟨⟨_, rfl⟩, .inl ⟨_, rfl, ?_⟩⟩
      rw [← HLL.out, ← naps_len l, List.take_length] at hJs
      exact hJs

theorem naps_stops (n : Nat) (hn : 1 ≤ n) (b c B1 : Nat) (l : List (Nat × Int)) (w : World) (hl : l.length ≤ 64) (hs : ∀ k, k ≤ l.length → 0 ≤ ahead l k ∧ ahead l k ≤ 1099511627776) (h : DL b c l w) (b1 : Row B1 93 #[.pointer (some ⟨b, 0, none⟩)] w) :
    SeqStopsK Fence.wide n Tryz.prog 179 #[.pointer (some ⟨B1, 0, none⟩)] (fun x : Int × Int => #[Value.int .i64 x.1, Value.int .i64 x.2]) KD (fun ys => ys = naps l) (fun pre => pre <+: naps l) l.length w := fun l0 J Jx W hW hJ _ hY h0 => by
  have hc : Ch No w W := Ch.below hW
  exact naps_in n hn l0 b c B1 l J Jx (fun pre A B ha hg => hJ pre A B none ha hg (fun _ e => by cases e)) hY W hl hs (h.no hc) (b1.keeps hc (fun x => x)) h0

set_option maxHeartbeats 1000000 in
theorem sleepers_any (w : World) (b : Nat) :
    Calls Tryz.prog 147 #[.pointer (some ⟨b, 0, none⟩)] w fun e w' => e = .returned (.func (.func 179) #[] #[.pointer (some ⟨w.heap.size, 0, none⟩)]) ∧ w' = w.alloc (.cells #[.pointer (some ⟨b, 0, none⟩)] 93) := by
  have hmf : ∀ (fn : Fn) (first cap : Array Value) (w : World), (Instr.makeFunc fn first cap).run Tryz.prog w = .ok (.func fn first cap) w := fun _ _ _ _ => rfl
  go_enter Tryz.func147, Tryz.ntmps147
  go_wp2_with fail
  go_ret
  exact ⟨by first | rfl | simp, rfl⟩
end Go.Proofs.YtcngfaggignmpaaGreatDoor

/-
  Who sleeps how long, plainly: each one wakes at its tick, whoever comes, and whatever tick goes by.
-/
namespace Go.Proofs.YtcngfaggignmpaaGreatDoor
open Go.RowKit

/-- One more sleeps, for so many ticks; a: the ticks ahead. -/
def dput (who : Nat) (ticks : Int) : Int → List (Nat × Int) → List (Nat × Int)
  | a, [] => [(who, ticks - a)]
  | a, (i, x) :: r => if ticks < a + x then (who, ticks - a) :: (i, x - (ticks - a)) :: r else (i, x) :: dput who ticks (a + x) r
/-- The first one has so many ticks less. -/
def lessH (d : Int) : List (Nat × Int) → List (Nat × Int)
  | [] => []
  | (i, x) :: r => (i, x - d) :: r
/-- The one at a place has so many ticks less. -/
def lessAt (l : List (Nat × Int)) (k : Nat) (d : Int) : List (Nat × Int) := l.take k ++ lessH d (l.drop k)
theorem lessH_len (d : Int) : ∀ l, (lessH d l).length = l.length
  | [] => rfl
  | (_, _) :: _ => rfl
theorem lessAt_len (l : List (Nat × Int)) (k : Nat) (d : Int) : (lessAt l k d).length = l.length := by
  unfold lessAt
  rw [List.length_append, lessH_len, ← List.length_append, List.take_append_drop]
theorem lessH_who (d : Int) : ∀ l : List (Nat × Int), (lessH d l).map (·.1) = l.map (·.1)
  | [] => rfl
  | (_, _) :: _ => rfl
theorem ins_less {l : List (Nat × Int)} {k : Nat} {d : Int} {x : Nat × Int} (hk : k ≤ l.length) : ins (lessAt l k d) k x = l.take k ++ x :: lessH d (l.drop k) := by
  have h : (l.take k).length = k := by rw [List.length_take]; omega
  unfold ins lessAt
  rw [List.take_append_of_le_length (by omega), List.take_of_length_le (by omega), List.drop_append_of_le_length (by omega), List.drop_of_length_le (by omega), List.nil_append]
theorem ahead_cons (p : Nat × Int) (l : List (Nat × Int)) (k : Nat) : ahead (p :: l) (k + 1) = p.2 + ahead l k := by
  unfold ahead
  simp
theorem dput_at (who : Nat) (ticks : Int) : ∀ (l : List (Nat × Int)) (k : Nat) (a : Int), k ≤ l.length → (∀ j, j < k → a + ahead l (j + 1) ≤ ticks) → (k < l.length → ticks < a + ahead l (k + 1)) →
    dput who ticks a l = l.take k ++ (who, ticks - (a + ahead l k)) :: lessH (ticks - (a + ahead l k)) (l.drop k)
  | [], k, a, hk, _, _ => by
    obtain rfl : k = 0 := by simpa using hk
    simp [dput, lessH, ahead]
  | (i, x) :: r, 0, a, _, _, h2 => by
    have h := h2 (by simp)
    rw [ahead_cons, ahead_zero] at h
    unfold dput
    rw [if_pos (by simpa using h)]
    simp [lessH, ahead]
  | (i, x) :: r, k + 1, a, hk, h1, h2 => by
    have h := h1 0 (by omega)
    rw [ahead_cons, ahead_zero] at h
    unfold dput
    rw [if_neg (by simp at h; omega), dput_at who ticks r k (a + x) (by simpa using hk) (fun j hj => by have := h1 (j + 1) (by omega); rw [ahead_cons] at this; simp only at this; omega) (fun hl => by have := h2 (by simpa using hl); rw [ahead_cons] at this; simp only at this; omega)]
    rw [ahead_cons, List.take_succ_cons, List.drop_succ_cons, List.cons_append]
    have e : a + x + ahead r k = a + ((i, x).2 + ahead r k) := by simp only; omega
    rw [e]
theorem dput_who (who : Nat) (ticks : Int) : ∀ (l : List (Nat × Int)) (a : Int), ((dput who ticks a l).map (·.1)).Perm (who :: l.map (·.1))
  | [], a => .refl _
  | (i, x) :: r, a => by
    unfold dput
    split
    · exact .refl _
    · exact (List.Perm.cons i (dput_who who ticks r (a + x))).trans (List.Perm.swap _ _ _)

/-- Each one has just so many ticks left; a: the ticks ahead. -/
def SLok (f : Nat → Int) : Int → List (Nat × Int) → Prop
  | _, [] => True
  | a, (i, x) :: r => 0 ≤ x ∧ a + x = f i ∧ SLok f (a + x) r
section
variable {f g : Nat → Int}
theorem SLok.put {who : Nat} {ticks : Int} (hf : f who = ticks) : ∀ (l : List (Nat × Int)) (a : Int), SLok f a l → a ≤ ticks → SLok f a (dput who ticks a l)
  | [], a, _, h => ⟨by omega, by omega, trivial⟩
  | (i, x) :: r, a, ⟨h1, h2, h3⟩, h => by
    unfold dput
    split
    · refine ⟨by omega, by omega, by omega, by omega, ?_⟩
      rw [show a + (ticks - a) + (x - (ticks - a)) = a + x by omega]
      exact h3
    · exact ⟨h1, h2, SLok.put hf r (a + x) h3 (by omega)⟩
theorem SLok.ge : ∀ (l : List (Nat × Int)) (a : Int), SLok f a l → ∀ p ∈ l, a ≤ f p.1
  | (i, x) :: r, a, ⟨h1, h2, h3⟩, p, hp => by
    rcases List.mem_cons.1 hp with rfl | hp
    · show a ≤ f i; omega
    · have := SLok.ge r (a + x) h3 p hp; omega
theorem SLok.rng : ∀ (l : List (Nat × Int)) (a : Int), SLok f a l → 0 ≤ a → ∀ p ∈ l, 0 ≤ p.2 ∧ p.2 ≤ f p.1
  | (i, x) :: r, a, ⟨h1, h2, h3⟩, ha, p, hp => by
    rcases List.mem_cons.1 hp with rfl | hp
    · show 0 ≤ x ∧ x ≤ f i; omega
    · exact SLok.rng r (a + x) h3 (by omega) p hp
theorem SLok.aheads {M : Int} : ∀ (l : List (Nat × Int)) (a : Int), SLok f a l → 0 ≤ a → a ≤ M → (∀ p ∈ l, f p.1 ≤ M) → ∀ k, 0 ≤ a + ahead l k ∧ a + ahead l k ≤ M ∧ 0 ≤ ahead l k
  | [], a, _, h0, h1, _, k => by
    have : ahead [] k = 0 := by simp [ahead]
    omega
  | (i, x) :: r, a, h, h0, h1, _, 0 => by rw [ahead_zero]; omega
  | (i, x) :: r, a, ⟨h1, h2, h3⟩, ha, hm, hM, k + 1 => by
    rw [ahead_cons]
    have hx := hM (i, x) (by simp)
    have := SLok.aheads r (a + x) h3 (by omega) (by simp only at hx; omega) (fun p hp => hM p (List.mem_cons_of_mem _ hp)) k
    simp only
    omega
theorem SLok.shift : ∀ (l : List (Nat × Int)) (a : Int), SLok f a l → SLok (fun i => f i - 1) (a - 1) l
  | [], _, _ => trivial
  | (i, x) :: r, a, ⟨h1, h2, h3⟩ => ⟨h1, by simp only; omega, by
    have := SLok.shift r (a + x) h3
    rw [show a - 1 + x = a + x - 1 by omega]
    exact this⟩
theorem SLok.dec {l : List (Nat × Int)} (h : SLok f 0 l) (hp : ∀ p ∈ l, 1 ≤ f p.1) : SLok (fun i => f i - 1) 0 (dec l) := by
  match l, h with
  | [], _ => trivial
  | (i, x) :: r, ⟨h1, h2, h3⟩ =>
    have hi := hp (i, x) (by simp)
    simp only at hi
    refine ⟨by omega, by simp only; omega, ?_⟩
    have := SLok.shift r (0 + x) h3
    rw [show (0 : Int) + (x - 1) = 0 + x - 1 by omega]
    exact this
theorem dec_who : ∀ l : List (Nat × Int), (dec l).map (·.1) = l.map (·.1)
  | [] => rfl
  | (_, _) :: _ => rfl
/-- Those at the beginning that have no tick left go. -/
theorem SLok.pop : ∀ (l : List (Nat × Int)) (k : Nat), SLok f 0 l → (∀ x ∈ l.take k, x.2 = 0) → (∀ p ∈ l.take k, f p.1 = 0) ∧ SLok f 0 (l.drop k)
  | [], k, _, _ => ⟨fun p hp => by simp at hp, by simp [SLok]⟩
  | (i, x) :: r, 0, h, _ => ⟨fun p hp => by simp at hp, h⟩
  | (i, x) :: r, k + 1, ⟨h1, h2, h3⟩, hz => by
    rw [List.take_succ_cons] at hz
    have hx : x = 0 := hz (i, x) (by simp)
    subst hx
    have h3' : SLok f 0 r := h3
    obtain ⟨a, b⟩ := SLok.pop r k h3' (fun p hp => hz p (List.mem_cons_of_mem _ hp))
    rw [List.take_succ_cons, List.drop_succ_cons]
    refine ⟨fun p hp => ?_, b⟩
    rcases List.mem_cons.1 hp with rfl | hp
    · show f i = 0; omega
    · exact a p hp
theorem SLok.head {l : List (Nat × Int)} (h : SLok f 0 l) (hh : ∀ x, l[0]? = some x → x.2 ≠ 0) : ∀ p ∈ l, 1 ≤ f p.1 := by
  match l, h with
  | [], _ => intro p hp; cases hp
  | (i, x) :: r, ⟨h1, h2, h3⟩ =>
    intro p hp
    have := hh (i, x) rfl
    simp only at this
    rcases List.mem_cons.1 hp with rfl | hp
    · show 1 ≤ f i; omega
    · have := SLok.ge r (0 + x) h3 p hp; omega
theorem SLok.congr {l : List (Nat × Int)} : ∀ {a : Int}, SLok f a l → (∀ p ∈ l, f p.1 = g p.1) → SLok g a l := by
  induction l with
  | nil => intro a _ _; trivial
  | cons p r ih =>
    obtain ⟨i, x⟩ := p
    rintro a ⟨h1, h2, h3⟩ he
    exact ⟨h1, by have := he (i, x) (by simp); simp only at this; omega, ih h3 (fun p hp => he p (List.mem_cons_of_mem _ hp))⟩
end
end Go.Proofs.YtcngfaggignmpaaGreatDoor
