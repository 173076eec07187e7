/-
  The top, part 30: Nap3.
-/
import Derived.Test.YtcngfaggignmpaaGreatDoorS29
import Derived.Laws.IdiomCopy
import Derived.ArgAppend
import Derived.Deep.AppendSrc
import Derived.Lib.Overlaps
import Derived.Lib.AppendZerosOnto
import Derived.Shelf.Spec.SlicesInsertGrow
import Derived.BigFrame

/-
  slices.Insert over elements of two cells: the laws of its operations.
-/
namespace Go.Proofs.YtcngfaggignmpaaGreatDoor
open Go.RowKit

/-- A copy of elements of more cells than one: all is read before anything is written. -/
theorem run_copy_many {P : Program} (w : World) (dT sT ty elem : TypeId) (b o dLen dCap : Nat) (a : Addr) (sLen sCap size : Nat) (cs : List Value)
    (hu : P.underlying dT = some (.slice elem)) (hs : (P.info? elem).map (·.size) = some size) (hn : cs.length = Nat.min sLen dLen * size)
    (hsrc : ∀ j v, cs[j]? = some v → w.cell? (a.add j) = some v) (hc : ∀ j, j < cs.length → (w.cell? ⟨b, o + j, none⟩).isSome = true) (hf : ∀ j, j < cs.length → w.frozen? ⟨b, o + j, none⟩ = false) (h1 : ∀ v ∈ cs, v.oneCell' = true) :
    (Builtin.copy_ #[dT, sT] ty #[.slice (some ⟨b, o, none⟩) dLen dCap, .slice (some a) sLen sCap]).run P w = .ok (goInt (Nat.min sLen dLen)) (w.setCells b o cs) := by
  have hl := run_loadCells_list (P := P) w a cs hsrc
  have hst := run_storeCells_cells (P := P) b o cs 0 w (by simpa using hc) (by simpa using hf) h1
  cases hq : P.info? elem with
  | none => simp [hq] at hs
  | some i =>
    have hi : i.size = size := by simpa [hq] using hs
    simp [Builtin.copy_, run_underlying hu, Builtin.lenOf, Builtin.firstCells, sizeOf, typeInfo, hq, hi, ← hn, hl, hst]
theorem info289 : (Tryz.prog.info? 289).map (fun i => (i.zero, i.size, i.bytes)) = some (some (.agg #[.int .i64 0, .int .i64 0]), 2, 16) := by kernel_rfl
/-- The pairs' cells. -/
def flatP : List (Nat × Int) → List Value
  | [] => []
  | x :: r => .int .i64 x.1 :: .int .i64 x.2 :: flatP r
theorem flatP_len : ∀ l, (flatP l).length = 2 * l.length
  | [] => rfl
  | _ :: r => by simp [flatP, flatP_len r]; omega
theorem flatP_one : ∀ (l : List (Nat × Int)) (u : Value), u ∈ flatP l → u.oneCell' = true
  | [], u, h => by cases h
  | x :: r, u, h => by
    simp only [flatP, List.mem_cons] at h
    rcases h with rfl | rfl | h
    · rfl
    · rfl
    · exact flatP_one r u h
theorem flatP_app : ∀ (l m : List (Nat × Int)), flatP (l ++ m) = flatP l ++ flatP m
  | [], _ => rfl
  | x :: r, m => by simp [flatP, flatP_app r m]
theorem flatP_get : ∀ (l : List (Nat × Int)) (j : Nat) (x : Nat × Int), l[j]? = some x → (flatP l)[2 * j]? = some (.int .i64 x.1) ∧ (flatP l)[2 * j + 1]? = some (.int .i64 x.2)
  | [], _, _, h => by cases h
  | y :: r, 0, x, h => by cases h; exact ⟨rfl, rfl⟩
  | y :: r, j + 1, x, h => by
    have := flatP_get r j x h
    rw [show 2 * (j + 1) = 2 * j + 1 + 1 by omega]
    exact this
theorem flatP_at : ∀ (l : List (Nat × Int)) (j : Nat) (u : Value), (flatP l)[j]? = some u → ∃ x, l[j / 2]? = some x ∧ ((j % 2 = 0 ∧ u = .int .i64 x.1) ∨ (j % 2 = 1 ∧ u = .int .i64 x.2))
  | [], _, _, h => by cases h
  | y :: r, 0, u, h => by cases h; exact ⟨y, rfl, .inl ⟨rfl, rfl⟩⟩
  | y :: r, 1, u, h => by cases h; exact ⟨y, rfl, .inr ⟨rfl, rfl⟩⟩
  | y :: r, j + 2, u, h => by
    obtain ⟨x, h1, h2⟩ := flatP_at r j u h
    refine ⟨x, ?_, ?_⟩
    · rw [show (j + 2) / 2 = j / 2 + 1 by omega]; exact h1
    · rw [show (j + 2) % 2 = j % 2 by omega]; exact h2
/-- Cells of a row, from a place on, turn. -/
def setAll (cs : Array Value) : Nat → List Value → Array Value
  | _, [] => cs
  | o, v :: r => setAll (cs.setIfInBounds o v) (o + 1) r
theorem setAll_size : ∀ (vs : List Value) (cs : Array Value) (o : Nat), (setAll cs o vs).size = cs.size
  | [], _, _ => rfl
  | v :: r, cs, o => by rw [setAll, setAll_size r]; simp
theorem setAll_get : ∀ (vs : List Value) (cs : Array Value) (o : Nat) (_ : o + vs.length ≤ cs.size) (k : Nat), (setAll cs o vs)[k]? = if o ≤ k ∧ k < o + vs.length then vs[k - o]? else cs[k]?
  | [], cs, o, _, k => by rw [if_neg (by simp)]; rfl
  | v :: r, cs, o, h, k => by
    simp only [List.length_cons] at h ⊢
    rw [setAll, setAll_get r _ (o + 1) (by simp; omega) k]
    by_cases h1 : o + 1 ≤ k ∧ k < o + 1 + r.length
    · rw [if_pos h1, if_pos (by omega), show k - o = (k - (o + 1)) + 1 by omega]
      rfl
    · rw [if_neg h1, set_get (by omega)]
      by_cases h2 : o = k
      · subst h2
        rw [if_pos rfl, if_pos (by omega), Nat.sub_self]
        rfl
      · rw [if_neg h2, if_neg (by omega)]
theorem row_setAll {g : Nat} {t : TypeId} : ∀ (vs : List Value) (cs : Array Value) (o : Nat) (w : World), Row g t cs w → Row g t (setAll cs o vs) (w.setCells g o vs)
  | [], _, _, _, h => h
  | v :: r, cs, o, w, h => by
    rw [World.setCells, setAll]
    exact row_setAll r _ _ _ (h.set o v)
theorem Ch.setCells {S : Nat → Prop} {g : Nat} (hg : S g) : ∀ (vs : List Value) (o : Nat) (w : World), Ch S w (w.setCells g o vs)
  | [], _, w => Ch.refl S w
  | v :: r, o, w => by
    rw [World.setCells]
    exact (Ch.setCell w g o v hg).trans (Ch.setCells hg r _ _)

section
variable {w : World}
set_option maxHeartbeats 4000000 in
set_option maxRecDepth 100000 in
/-- At the end, with room. -/
theorem insEnd_room (g off n cap vb : Nat) (x y : Int) (hn : n + 1 ≤ cap) (hcap : cap ≤ 9223372036854775807) (hv : Row vb 289 #[.int .i64 x, .int .i64 y] w) (hc : ∀ j, j < 2 → (w.cell? ⟨g, off + n * 2 + j, none⟩).isSome = true) (hf : ∀ j, j < 2 → w.frozen? ⟨g, off + n * 2 + j, none⟩ = false) :
    Calls Tryz.prog 211 #[.slice (some ⟨g, off, none⟩) n cap, .int .i64 n, .slice (some ⟨vb, 0, none⟩) 1 1] w fun e w' => e = .returned (.slice (some ⟨g, off, none⟩) (n + 1) cap) ∧ w' = w.setCells g (off + n * 2) [.int .i64 x, .int .i64 y] := by
  obtain ⟨i0, hi0, hz0, hzs, hzb⟩ := info_parts info289
  have hr : ∀ ty, (Builtin.append_ #[236, 236] ty #[.slice (some ⟨g, off, none⟩) n cap, .slice (some ⟨vb, 0, none⟩) 1 1]).run Tryz.prog w = .ok (.slice (some ⟨g, off, none⟩) (n + 1) cap) (w.setCells g (off + n * 2) [.int .i64 x, .int .i64 y]) := fun ty => by
    have := run_append_room_cells (P := Tryz.prog) w 236 ty 289 i0 Tryz.underlying236 hi0 g off n cap ⟨vb, 0, none⟩ 1 1 [.int .i64 x, .int .i64 y] (by rw [hzs]; rfl) (fun j u hj => by
      match j, hj with
      | 0, hj => cases hj; exact hv.cell (j := 0) rfl
      | 1, hj => cases hj; exact hv.cell (j := 1) rfl) (fun u hu => by simp at hu; rcases hu with rfl | rfl <;> rfl) hn (fun j hj => by rw [hzs]; exact hc j hj) (fun j hj => by rw [hzs]; exact hf j hj)
    rw [hzs] at this
    exact this
  have hnn : (n : Int) ≤ (n : Int) := Int.le_refl _
  clear hv hc hf
  go_enter Tryz.func211, Tryz.ntmps211
  go_wp2_with (first
    | (at_builtin; refine Lib.wpList_append_run _ rfl _ _ _ _ rfl _ _ rfl rfl _ _ (hr _) ?_))
  go_ret
  exact ⟨rfl, rfl⟩
set_option maxHeartbeats 4000000 in
set_option maxRecDepth 100000 in
/-- At the end, without room. -/
theorem insEnd_grow (ao : Option Addr) (n vb : Nat) (x y : Int) (olds : List Value) (hn : n ≤ 1000) (hv : Row vb 289 #[.int .i64 x, .int .i64 y] w) (hold : (Builtin.firstCells 2 n (.slice ao n n)).run Tryz.prog w.drew = .ok olds.toArray w.drew) :
    Calls Tryz.prog 211 #[.slice ao n n, .int .i64 n, .slice (some ⟨vb, 0, none⟩) 1 1] w fun e w' => e = .returned (.slice (some ⟨w.heap.size, 0, none⟩) (n + 1) (grownCap w (n + 1) n 289)) ∧
      w' = w.drew.alloc (.cells ((olds ++ [Value.int .i64 x, Value.int .i64 y]).toArray ++ Builtin.zeroCells (Value.agg #[Value.int .i64 0, Value.int .i64 0]).cells (grownCap w (n + 1) n 289 - (n + 1))) 289) := by
  obtain ⟨i0, hi0, hz0, hzs, hzb⟩ := info_parts info289
  have hr : ∀ ty, (Builtin.append_ #[236, 236] ty #[.slice ao n n, .slice (some ⟨vb, 0, none⟩) 1 1]).run Tryz.prog w = .ok (.slice (some ⟨w.heap.size, 0, none⟩) (n + 1) (grownCap w (n + 1) n 289)) (w.drew.alloc (.cells ((olds ++ [Value.int .i64 x, Value.int .i64 y]).toArray ++ Builtin.zeroCells (Value.agg #[Value.int .i64 0, Value.int .i64 0]).cells (grownCap w (n + 1) n 289 - (n + 1))) 289)) := fun ty => by
    have hsrc : Src Tryz.prog i0.size 236 (.slice (some ⟨vb, 0, none⟩) 1 1) 1 [.int .i64 x, .int .i64 y] w := Src.ofSlice w Tryz.underlying236 ⟨vb, 0, none⟩ 1 1 [.int .i64 x, .int .i64 y] (by rw [hzs]; rfl) (fun j u hj => by
      match j, hj with
      | 0, hj => cases hj; exact hv.cell (j := 0) rfl
      | 1, hj => cases hj; exact hv.cell (j := 1) rfl) (fun u hu => by simp at hu; rcases hu with rfl | rfl <;> rfl)
    exact run_append_grow_src (P := Tryz.prog) w 236 236 ty 289 i0 _ Tryz.underlying236 hi0 hz0 ao n n olds (by rw [hzs]; exact hold) (.slice (some ⟨vb, 0, none⟩) 1 1) 1 _ hsrc (by omega) (by omega) (by rw [hzb]; exact growslice_fits (by omega) (by omega))
  have hnn : (n : Int) ≤ (n : Int) := Int.le_refl _
  clear hv hold
  obtain ⟨W1, hW1⟩ : ∃ W1, W1 = (w.drew.alloc (.cells ((olds ++ [Value.int .i64 x, Value.int .i64 y]).toArray ++ Builtin.zeroCells (Value.agg #[Value.int .i64 0, Value.int .i64 0]).cells (grownCap w (n + 1) n 289 - (n + 1))) 289)) := ⟨_, rfl⟩
  rw [← hW1] at hr ⊢
  obtain ⟨G, hG⟩ : ∃ G, G = grownCap w (n + 1) n 289 := ⟨_, rfl⟩
  rw [← hG] at hr ⊢
  clear hW1 hG
  go_enter Tryz.func211, Tryz.ntmps211
  go_wp2_with (first
    | (at_builtin; refine Lib.wpList_append_run _ rfl _ _ _ _ rfl _ _ rfl rfl _ _ (hr _) ?_))
  all_goals
    go_ret
    exact ⟨rfl, rfl⟩
set_option maxHeartbeats 4000000 in
set_option maxRecDepth 100000 in
/-- Within, without room. -/
theorem insMid_grow (b off n i vb : Nat) (x y : Int) (cs : List Value) (hi : i < n) (hn : n ≤ 1000) (hv : Row vb 289 #[.int .i64 x, .int .i64 y] w) (hcl : cs.length = n * 2)
    (hcs : ∀ j v, cs[j]? = some v → w.cell? ⟨b, off + j, none⟩ = some v) (h1c : ∀ v ∈ cs, v.oneCell' = true) :
    Calls Tryz.prog 211 #[.slice (some ⟨b, off, none⟩) n n, .int .i64 i, .slice (some ⟨vb, 0, none⟩) 1 1] w fun e w' =>
      e = .returned (.slice (some ⟨w.heap.size, 0, none⟩) (n + 1) (grownCap w (n + 1) n 289)) ∧
      w' = (((w.alloc (.cells ((cs.take (i * 2)).toArray ++ Builtin.zeroCells (Value.agg #[Value.int .i64 0, Value.int .i64 0]).cells (n + 1 - i) ++ Builtin.zeroCells (Value.agg #[Value.int .i64 0, Value.int .i64 0]).cells (grownCap w (n + 1) n 289 - (n + 1))) 289)).drew.setCells w.heap.size (i * 2) [Value.int .i64 x, Value.int .i64 y]).drew).setCells w.heap.size ((i + 1) * 2) (cs.drop (i * 2)) := by
  obtain ⟨i0, hi0, hz0, hzs, hzb⟩ := info_parts info289
  have hz2 : ¬ ((i : Int) = (n : Int)) := by omega
  have hz3 : (n : Int) < (n : Int) + 1 := by omega
  have hsz : (Tryz.prog.info? 289).map (·.size) = some 2 := by rw [hi0]; simp [hzs]
  have hbw : b < w.heap.size := block_lt_of_cell (hcs 0 _ (List.getElem?_eq_getElem (by omega)))
  have hvw : vb < w.heap.size := hv.lt
  have hkk : (n : Int) + 1 - (i : Int) = ((n + 1 - i : Nat) : Int) := by omega
  have hik : i + (n + 1 - i) = n + 1 := by omega
  have hold : (Builtin.firstCells i0.size i (.slice (some ⟨b, off, none⟩) i n)).run Tryz.prog w.drew = .ok (cs.take (i * 2)).toArray w.drew := by
    rw [hzs]
    exact run_firstCells_some w.drew 2 i ⟨b, off, none⟩ i n (cs.take (i * 2)) (by rw [List.length_take]; omega) (fun j v hj => by
      rw [Addr.add_lit]
      rw [List.getElem?_take] at hj
      split at hj
      · exact hcs j v hj
      · cases hj)
  have hrz : ∀ ty, (Builtin.append_ #[236, 3] ty #[.slice (some ⟨b, off, none⟩) i n, .int .i64 ((n : Int) + 1 - (i : Int))]).run Tryz.prog w =
      .ok (.slice (some ⟨w.heap.size, 0, none⟩) (n + 1) (grownCap w (n + 1) n 289)) (w.drew.alloc (.cells ((cs.take (i * 2)).toArray ++ Builtin.zeroCells (Value.agg #[Value.int .i64 0, Value.int .i64 0]).cells (n + 1 - i) ++ Builtin.zeroCells (Value.agg #[Value.int .i64 0, Value.int .i64 0]).cells (grownCap w (n + 1) n 289 - (n + 1))) 289)) := fun ty => by
    have h := Lib.run_append_grow_zeros w 236 3 ty 289 i0 _ .i64 .i64 Tryz.underlying236 Tryz.underlying3 hi0 hz0 (some ⟨b, off, none⟩) i n (cs.take (i * 2)) hold (n + 1 - i) (by omega) (by omega) (by omega) (by omega) (by rw [hzb]; omega) (by rw [hzb, hik]; exact growslice_fits (by omega) (by omega))
    rw [hik] at h
    rw [hkk]
    exact h
  obtain ⟨G, hG⟩ : ∃ G, G = grownCap w (n + 1) n 289 := ⟨_, rfl⟩
  obtain ⟨ROW, hROW⟩ : ∃ ROW : Array Value, ROW = (cs.take (i * 2)).toArray ++ Builtin.zeroCells (Value.agg #[Value.int .i64 0, Value.int .i64 0]).cells (n + 1 - i) ++ Builtin.zeroCells (Value.agg #[Value.int .i64 0, Value.int .i64 0]).cells (G - (n + 1)) := ⟨_, rfl⟩
  rw [← hG] at hrz ⊢
  rw [← hROW] at hrz ⊢
  have hRl : (n + 1) * 2 ≤ ROW.size := by
    rw [hROW]
    simp [Value.cells, size_zeroCells]
    omega
  obtain ⟨W1, hW1⟩ : ∃ W1, W1 = w.drew.alloc (.cells ROW 289) := ⟨_, rfl⟩
  rw [← hW1] at hrz
  have hN : ∀ j, j < (n + 1) * 2 → (W1.cell? ⟨w.heap.size, j, none⟩).isSome = true := fun j hj => by
    rw [hW1, World.cell?_alloc_at (w := w.drew) ROW _ w.heap.size j rfl, Array.getElem?_eq_getElem (by omega)]; rfl
  have hNf : ∀ j, W1.frozen? ⟨w.heap.size, j, none⟩ = false := fun j => by rw [hW1]; exact World.frozen?_alloc_at (w := w.drew) ROW _ w.heap.size j rfl
  have hOb : ∀ j v, w.cell? ⟨b, j, none⟩ = some v → W1.cell? ⟨b, j, none⟩ = some v := fun j v h => by rw [hW1, World.cell?_alloc_past (w := w.drew) _ b j hbw]; exact h
  have hOv : ∀ j v, w.cell? ⟨vb, j, none⟩ = some v → W1.cell? ⟨vb, j, none⟩ = some v := fun j v h => by rw [hW1, World.cell?_alloc_past (w := w.drew) _ vb j hvw]; exact h
  have hcpA : ∀ (W : World), (∀ x, W.cell? x = W1.cell? x) → (∀ x, W.frozen? x = W1.frozen? x) → ∀ ty dc, (Builtin.copy_ #[236, 236] ty #[.slice (some ⟨w.heap.size, i * 2, none⟩) (n + 1 - i) dc, .slice (some ⟨vb, 0, none⟩) 1 1]).run Tryz.prog W = .ok (goInt 1) (W.setCells w.heap.size (i * 2) [.int .i64 x, .int .i64 y]) := fun W hWc hWf ty dc => by
    have hmin : Nat.min 1 (n + 1 - i) = 1 := by simp only [Nat.min_def]; split <;> omega
    have := run_copy_many (P := Tryz.prog) W 236 236 ty 289 w.heap.size (i * 2) (n + 1 - i) dc ⟨vb, 0, none⟩ 1 1 2 [.int .i64 x, .int .i64 y] Tryz.underlying236 hsz (by rw [hmin]; rfl)
      (fun j v hj => by
        rw [Addr.add_lit, hWc]
        refine hOv _ v ?_
        match j, hj with
        | 0, hj => cases hj; exact hv.cell (j := 0) rfl
        | 1, hj => cases hj; exact hv.cell (j := 1) rfl)
      (fun j hj => by rw [hWc]; exact hN _ (by simp at hj; omega)) (fun j hj => by rw [hWf]; exact hNf _) (fun u hu => by simp at hu; rcases hu with rfl | rfl <;> rfl)
    rw [hmin] at this
    exact this
  have hGn : n + 1 ≤ G := by rw [hG]; exact grownCap_ge w _ _ _
  have hG63 : G ≤ 9223372036854775807 := by
    have := grownCap_le_maxLen w (n + 1) n 289 (by unfold maxLen; omega)
    rw [← hG] at this
    unfold maxLen at this
    omega
  have hGi : ¬ (G = i) := by omega
  have hGim : ¬ (G = i + 1) := by omega
  have hci : ¬ (n = i) := by omega
  have hbN : b ≠ w.heap.size := by omega
  have hdl : (cs.drop (i * 2)).length = (n - i) * 2 := by rw [List.length_drop, hcl, Nat.sub_mul]
  have hcpB : ∀ (W : World), (∀ u, W.cell? u = (W1.setCells w.heap.size (i * 2) [.int .i64 x, .int .i64 y]).cell? u) → (∀ u, W.frozen? u = (W1.setCells w.heap.size (i * 2) [.int .i64 x, .int .i64 y]).frozen? u) → ∀ ty dc sc, (Builtin.copy_ #[236, 236] ty #[.slice (some ⟨w.heap.size, (i + 1) * 2, none⟩) (n + 1 - (i + 1)) dc, .slice (some ⟨b, off + i * 2, none⟩) (n - i) sc]).run Tryz.prog W = .ok (goInt ((n - i : Nat) : Int)) (W.setCells w.heap.size ((i + 1) * 2) (cs.drop (i * 2))) := fun W hWc hWf ty dc sc => by
    have hmin : Nat.min (n - i) (n + 1 - (i + 1)) = n - i := by simp only [Nat.min_def]; split <;> omega
    have := run_copy_many (P := Tryz.prog) W 236 236 ty 289 w.heap.size ((i + 1) * 2) (n + 1 - (i + 1)) dc ⟨b, off + i * 2, none⟩ (n - i) sc 2 (cs.drop (i * 2)) Tryz.underlying236 hsz (by rw [hmin, hdl])
      (fun j v hj => by
        rw [Addr.add_lit, hWc, World.cell?_setCells_out _ _ _ _ _ (fun h _ => absurd h hbN), Nat.add_assoc]
        exact hOb _ v (hcs (i * 2 + j) v (by rwa [List.getElem?_drop] at hj)))
      (fun j hj => by rw [hWc]; exact isSome_setCells _ _ _ _ (fun t ht => hN _ (by simp at ht; omega)) _ (hN _ (by omega)))
      (fun j hj => by rw [hWf, World.frozen?_setCells]; exact hNf _) (fun v hv => h1c v (List.mem_of_mem_drop hv))
    rw [hmin] at this
    exact this
  subst hW1
  have hE1 : ∀ x, ((w.alloc (.cells ROW 289)).drew).cell? x = (w.drew.alloc (.cells ROW 289)).cell? x := fun x => rfl
  have hE2 : ∀ x, ((w.alloc (.cells ROW 289)).drew).frozen? x = (w.drew.alloc (.cells ROW 289)).frozen? x := fun x => rfl
  have hF1 : ∀ x', (((w.alloc (.cells ROW 289)).drew.setCells w.heap.size (i * 2) [.int .i64 x, .int .i64 y]).drew).cell? x' = ((w.drew.alloc (.cells ROW 289)).setCells w.heap.size (i * 2) [.int .i64 x, .int .i64 y]).cell? x' := fun x' => rfl
  have hF2 : ∀ x', (((w.alloc (.cells ROW 289)).drew.setCells w.heap.size (i * 2) [.int .i64 x, .int .i64 y]).drew).frozen? x' = ((w.drew.alloc (.cells ROW 289)).setCells w.heap.size (i * 2) [.int .i64 x, .int .i64 y]).frozen? x' := fun x' => rfl
  have hw1 : IntKind.i64.wrap ((i : Int) + 1) = (i : Int) + 1 := by rw [IntKind.wrap_i64]; omega
  have hb1 : (0 : Int) ≤ (i : Int) + 1 := by omega
  have hin : i ≤ n := by omega
  have htn : ((i : Int) + 1).toNat = i + 1 := by omega
  have hb3 : (i : Int) ≤ (n : Int) := by omega
  have mixed : Tryz.prog.follows Departure.mixedOrders = true := by kernel_rfl
  clear hkk hik hold hROW hG hRl hv
  go_enter Tryz.func211, Tryz.ntmps211
  go_wp2_with (first
    | (at_builtin; refine Lib.wpList_append_run _ rfl _ _ _ _ rfl _ _ rfl rfl _ _ (hrz _) ?_)
    | (at_builtin; refine wpList_copy_runI _ rfl _ _ 236 236 rfl _ _ rfl rfl (hcpA _ hE1 hE2 _ _) ?_))
  go_region_law_o (refine step_copy_runI rfl _ _ 236 236 rfl (.slice (some ⟨w.heap.size, (i + 1) * 2, none⟩) (n + 1 - (i + 1)) (G - (i + 1))) (.slice (some ⟨b, off + i * 2, none⟩) (n - i) (n - i)) (by simp [Act.eval, Act.put]) (by simp [Act.eval, Act.put]) (hcpB _ hF1 hF2 3 (G - (i + 1)) (n - i)) ?_)
  go_wp2
  go_ret
  exact ⟨rfl, rfl⟩
theorem row_shape3 {p : Nat} {t : TypeId} {cs : Array Value} (h : Row p t cs w) : w.shape? p = some (t, cs.size) := by
  have h' : w.heap[p]? = some (.cells cs t) := h
  simp [World.shape?, h']
set_option maxHeartbeats 4000000 in
set_option maxRecDepth 100000 in
/-- Within, with room. -/
theorem insMid_room (b off n c i vb : Nat) (x y : Int) (cs : List Value) (cur : Array Value) (hi : i < n) (hn : n ≤ 1000) (hroom : n + 1 ≤ c) (hc63 : c ≤ 9223372036854775807) (hv : Row vb 289 #[.int .i64 x, .int .i64 y] w) (hr : Row b 289 cur w) (hcu : off + c * 2 ≤ cur.size) (hvb : vb ≠ b) (hcl : cs.length = n * 2)
    (hcs : ∀ j v, cs[j]? = some v → w.cell? ⟨b, off + j, none⟩ = some v) (h1c : ∀ v ∈ cs, v.oneCell' = true) :
    Calls Tryz.prog 211 #[.slice (some ⟨b, off, none⟩) n c, .int .i64 i, .slice (some ⟨vb, 0, none⟩) 1 1] w fun e w' =>
      e = .returned (.slice (some ⟨b, off, none⟩) (n + 1) c) ∧ w' = (w.drew.setCells b (off + (i + 1) * 2) (cs.drop (i * 2))).setCells b (off + i * 2) [.int .i64 x, .int .i64 y] := by
  obtain ⟨i0, hi0, hz0, hzs, hzb⟩ := info_parts info289
  have hz2 : ¬ ((i : Int) = (n : Int)) := by omega
  have hsz : (Tryz.prog.info? 289).map (·.size) = some 2 := by rw [hi0]; simp [hzs]
  have z289 : ∀ W, (Go.sizeOf 289).run Tryz.prog W = .ok 2 W := fun W => by simp [sizeOf, typeInfo, hi0, hzs]
  have hsp : ∀ j, j < (n + 1) * 2 → (w.cell? ⟨b, off + j, none⟩).isSome = true := fun j hj => by
    have hlt : off + j < cur.size := by omega
    rw [hr.cell (j := off + j) (v := cur[off + j]) (Array.getElem?_eq_getElem hlt)]
    rfl
  have hfz : ∀ j, w.frozen? ⟨b, j, none⟩ = false := fun j => hr.free j
  have hcz : cur.size ≠ 0 := by omega
  have hov : ∀ lb cb, (callFunc 220 #[.slice (some ⟨vb, 0, none⟩) 1 1, .slice (some ⟨b, off + (i + 1) * 2, none⟩) lb cb]).run Tryz.prog w = .ok (.value (.bool false)) w := fun lb cb => by
    rw [run_callFunc_extern Tryz.func220 (by kernel_rfl) (by kernel_rfl) (by kernel_rfl) (e := Extern.SlicesOverlaps.overlaps #[236, 236] #[4]) (by kernel_rfl),
      Lib.run_overlaps_apart w 236 4 289 Tryz.underlying236 2 z289 ⟨vb, 0, none⟩ ⟨b, off + (i + 1) * 2, none⟩ 1 1 lb cb hvb 289 289 2 cur.size (row_shape3 hv) (row_shape3 hr) hcz (hv.free 0) (hv.free 2)]
    rfl
  have hdl : (cs.drop (i * 2)).length = (n - i) * 2 := by rw [List.length_drop, hcl, Nat.sub_mul]
  have mixed : Tryz.prog.follows Departure.mixedOrders = true := by kernel_rfl
  have hw1 : IntKind.i64.wrap ((i : Int) + 1) = (i : Int) + 1 := by rw [IntKind.wrap_i64]; omega
  have hb1 : (0 : Int) ≤ (i : Int) + 1 := by omega
  have hin : i ≤ n := by omega
  have htn : ((i : Int) + 1).toNat = i + 1 := by omega
  have hb2 : ¬ (c = i + 1) := by omega
  have hb3 : (i : Int) ≤ (n : Int) + 1 := by omega
  have hb4 : ¬ (c = i) := by omega
  have hcp1 : ∀ ty dc sc, (Builtin.copy_ #[236, 236] ty #[.slice (some ⟨b, off + (i + 1) * 2, none⟩) (n - i) dc, .slice (some ⟨b, off + i * 2, none⟩) (n + 1 - i) sc]).run Tryz.prog w.drew = .ok (goInt ((n - i : Nat) : Int)) (w.drew.setCells b (off + (i + 1) * 2) (cs.drop (i * 2))) := fun ty dc sc => by
    have hmin : Nat.min (n + 1 - i) (n - i) = n - i := by simp only [Nat.min_def]; split <;> omega
    have := run_copy_many (P := Tryz.prog) w.drew 236 236 ty 289 b (off + (i + 1) * 2) (n - i) dc ⟨b, off + i * 2, none⟩ (n + 1 - i) sc 2 (cs.drop (i * 2)) Tryz.underlying236 hsz (by rw [hmin, hdl])
      (fun j v hj => by rw [Addr.add_lit, Nat.add_assoc]; exact hcs (i * 2 + j) v (by rwa [List.getElem?_drop] at hj))
      (fun j hj => by rw [Nat.add_assoc]; exact hsp _ (by omega)) (fun j hj => hfz _) (fun v hv => h1c v (List.mem_of_mem_drop hv))
    rw [hmin] at this
    exact this
  obtain ⟨W1, hW1⟩ : ∃ W1, W1 = w.drew.setCells b (off + (i + 1) * 2) (cs.drop (i * 2)) := ⟨_, rfl⟩
  have hsp1 : ∀ k, k < (n + 1) * 2 → (W1.cell? ⟨b, off + k, none⟩).isSome = true := fun k hk => by
    rw [hW1]
    exact isSome_setCells b _ _ _ (fun j hj => by rw [Nat.add_assoc]; exact hsp _ (by omega)) _ (hsp k hk)
  have hcp2 : ∀ (W : World), (∀ u, W.cell? u = W1.cell? u) → (∀ u, W.frozen? u = W1.frozen? u) → ∀ ty dc, (Builtin.copy_ #[236, 236] ty #[.slice (some ⟨b, off + i * 2, none⟩) (n + 1 - i) dc, .slice (some ⟨vb, 0, none⟩) 1 1]).run Tryz.prog W = .ok (goInt 1) (W.setCells b (off + i * 2) [.int .i64 x, .int .i64 y]) := fun W hWc hWf ty dc => by
    have hmin : Nat.min 1 (n + 1 - i) = 1 := by simp only [Nat.min_def]; split <;> omega
    have := run_copy_many (P := Tryz.prog) W 236 236 ty 289 b (off + i * 2) (n + 1 - i) dc ⟨vb, 0, none⟩ 1 1 2 [.int .i64 x, .int .i64 y] Tryz.underlying236 hsz (by rw [hmin]; rfl)
      (fun j v hj => by
        rw [Addr.add_lit, hWc, hW1, World.cell?_setCells_out b _ _ _ _ (fun h _ => absurd h hvb)]
        match j, hj with
        | 0, hj => cases hj; exact hv.cell (j := 0) rfl
        | 1, hj => cases hj; exact hv.cell (j := 1) rfl)
      (fun j hj => by rw [hWc, Nat.add_assoc]; exact hsp1 _ (by simp at hj; omega)) (fun j hj => by rw [hWf, hW1, World.frozen?_setCells]; exact hfz _) (fun u hu => by simp at hu; rcases hu with rfl | rfl <;> rfl)
    rw [hmin] at this
    exact this
  rw [← hW1] at hcp1
  clear hv hr hcs
  go_enter Tryz.func211, Tryz.ntmps211
  go_wp2_with (simp only [hov])
  go_region_law_o (refine step_copy_runI rfl _ _ 236 236 rfl _ _ (by simp [Act.eval, Act.put]) (by simp [Act.eval, Act.put]) (hcp1 _ _ _) ?_)
  go_wp2_with (at_builtin; refine wpList_copy_runI _ rfl _ _ 236 236 rfl _ _ rfl rfl (hcp2 _ (fun _ => rfl) (fun _ => rfl) _ _) ?_)
  go_ret
  first | exact ⟨rfl, rfl⟩ | exact ⟨rfl, by rw [hW1]⟩
end
end Go.Proofs.YtcngfaggignmpaaGreatDoor
