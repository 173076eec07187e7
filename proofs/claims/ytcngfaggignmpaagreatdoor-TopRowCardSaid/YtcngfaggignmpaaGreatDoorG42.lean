/-
  The top, part 42: CodeNew.
-/
import Derived.Test.YtcngfaggignmpaaGreatDoorG41

/-
  The top: the two images.
-/
namespace Go.Proofs.YtcngfaggignmpaaGreatDoor
open Go.RowKit

/-- A row of code that was just made. -/
theorem own_new (w : World) (base : Nat) (cs : Array Value) (l : List IN) (hb : base ≤ w.heap.size) (hl : l.length ≤ 1000) (hc : cs = (flat l).toArray) :
    (w.alloc (.cells cs 49)).ownsRow base 49 4 (.slice (some ⟨w.heap.size, 0, none⟩) l.length l.length) l.length (flat l) :=
  ⟨flat_len l, .inr ⟨w.heap.size, l.length, cs, rfl, hb, (MapKept.heap_alloc w _).1, Nat.le_refl _, by unfold maxLen; omega, by rw [hc]; simp [flat_len], by rw [hc]; simp [← flat_len]⟩⟩
theorem own_code {w : World} {base : Nat} {v : Value} {l : List IN} (h : w.ownsRow base 49 4 v l.length (flat l)) (h1 : 1 ≤ l.length) : ∃ b cap, v = .slice (some ⟨b, 0, none⟩) l.length cap ∧ base ≤ b ∧ Code49 b l w := by
  rcases h.2 with ⟨_, e0⟩ | ⟨g, cap, cur, e, hb, hg, hn, hm, hs, ht⟩
  · omega
  · refine ⟨g, cap, e, hb, cur, hg, fun j u hj => ?_⟩
    have hjl : j < (flat l).length := (List.getElem?_eq_some_iff.1 hj).1
    rw [flat_len] at hjl
    have h3 : (cur.toList.take (l.length * 4))[j]? = some u := by rw [ht]; exact hj
    rw [List.getElem?_take_of_lt (by omega)] at h3
    simpa using h3
theorem new_cell (w : World) (cs : Array Value) (l : List Value) (hc : cs = l.toArray) : ∀ (j : Nat) (u : Value), l[j]? = some u → (w.alloc (.cells cs 49)).cell? ((⟨w.heap.size, 0, none⟩ : Addr).add j) = some u := by
  intro j u hj
  have hr := Row.new w 49 cs
  have := hr.cell (j := j) (v := u) (by rw [hc, List.getElem?_toArray]; exact hj)
  cases j with
  | zero => exact this
  | succ j => simpa [Addr.add] using this
theorem own_above {w : World} {base : Nat} {v : Value} {n : Nat} {xs : List Value} (h : w.ownsRow base 49 4 v n xs) {w1 : World} : ∀ k, k < w1.heap.size → v.ownBlock = some k → base ≤ k := by
  intro k _ hk
  rcases h.2 with ⟨e, _⟩ | ⟨g, cap, cur, e, hb, _⟩
  · rw [e] at hk; simp [Value.ownBlock] at hk
  · rw [e] at hk; simp [Value.ownBlock] at hk; omega
theorem info54 : (Tryz.prog.info? 54).map (·.size) = some 3 := by kernel_rfl

set_option maxRecDepth 100000 in
set_option maxHeartbeats 4000000 in
theorem puts_any (w : World) (n : Nat) (_hn : n < 256) : Calls Tryz.prog 16 #[.int .u8 n] w fun e w' => ∃ b cap, e = .returned (imV b 10 cap) ∧ Code49 b (putsC n) w' ∧ Ch No w w' := by
  obtain ⟨i0, hi, hz0, hz1, hz2⟩ := info_parts info49
  obtain ⟨W0, hW0⟩ : ∃ W0, W0 = w.alloc (.cells #[.int .i64 0, .slice none 0 0, .slice none 0 0] 54) := ⟨_, rfl⟩
  have r0 : Row w.heap.size 54 #[.int .i64 0, .slice none 0 0, .slice none 0 0] W0 := by rw [hW0]; exact Row.new w 54 _
  have c0 : Ch No w W0 := by rw [hW0]; exact Ch.alloc w _
  have z0 : W0.heap.size = w.heap.size + 1 := by rw [hW0]; exact Array.size_push _
  obtain ⟨W1, hW1⟩ : ∃ W1, W1 = W0.alloc (.cells #[.int .u8 1, .int .u8 4, .int .u8 0, .int .u8 n, .int .u8 1, .int .u8 5, .int .u8 0, .int .u8 1, .int .u8 3, .int .u8 6, .int .u8 6, .int .u8 5, .int .u8 1, .int .u8 0, .int .u8 1, .int .u8 0, .int .u8 2, .int .u8 1, .int .u8 6, .int .u8 0] 49) := ⟨_, rfl⟩
  have ho : W1.ownsRow W0.heap.size 49 4 (.slice (some ⟨W0.heap.size, 0, none⟩) 5 5) 5 (flat [⟨1, 4, 0, n⟩, ⟨1, 5, 0, 1⟩, ⟨3, 6, 6, 5⟩, ⟨1, 0, 1, 0⟩, ⟨2, 1, 6, 0⟩]) := by
    rw [hW1]
    exact own_new W0 W0.heap.size _ [⟨1, 4, 0, n⟩, ⟨1, 5, 0, 1⟩, ⟨3, 6, 6, 5⟩, ⟨1, 0, 1, 0⟩, ⟨2, 1, 6, 0⟩] (Nat.le_refl _) (Nat.le_of_ble_eq_true rfl) rfl
  have c1 : Ch No W0 W1 := by rw [hW1]; exact Ch.alloc _ _
  rw [z0] at ho
  have HO := Lib.hid ho
  have HW0 := Lib.hid hW0
  have HW1 := Lib.hid hW1
  have R0 := Lib.hid r0
  have C0 := Lib.hid c0
  have C1 := Lib.hid c1
  have Z0 := Lib.hid z0
  clear hW0 hW1 ho r0 c0 c1 z0
  go_enter Tryz.func16, Tryz.ntmps16
  go_wp2_with fail
  rw [← HW0.out, ← HW1.out]
  have hbw : w.heap.size + 1 ≤ W1.heap.size := by rw [← Z0.out]; exact C1.out.size
  refine (forever_any W1 (w.heap.size + 1) _ [⟨1, 4, 0, n⟩, ⟨1, 5, 0, 1⟩, ⟨3, 6, 6, 5⟩, ⟨1, 0, 1, 0⟩, ⟨2, 1, 6, 0⟩] (Nat.le_of_ble_eq_true rfl) hbw HO.out).mono ?_; rintro e w2 ⟨v', rfl, ho2, hch2⟩
  have C2 : Hid (Ch (fun k => (w.heap.size + 1) ≤ k) W1 w2) := Lib.hid (hch2.mono (fun z _ e => by simp [Value.ownBlock] at e; omega))
  have HO2 := Lib.hid ho2
  clear ho2 hch2 hbw
  go_wp2_with fail
  have ha := askIn_any 7 w2
  unfold inV at ha
  refine ha.mono ?_; rintro e w3 ⟨rfl, hch3⟩
  have C3 : Hid (Ch (fun k => (w.heap.size + 1) ≤ k) W1 w3) := Lib.hid (C2.out.trans (hch3.mono (T := fun k => (w.heap.size + 1) ≤ k) (fun _ _ e => e.elim)))
  have HO3 := Lib.hid (own_keeps HO2.out hch3 (fun _ _ x => x))
  have hsz3 : w.heap.size + 1 ≤ w3.heap.size := by rw [← Z0.out]; exact Nat.le_trans C1.out.size C3.out.size
  have HSZ3 := Lib.hid hsz3
  clear ha hch3 hsz3
  go_wp2_with (first
    | (at_builtin; go_loud (refine wpList_append_own _ rfl _ _ 52 rfl (w.heap.size + 1) 49 i0 (.agg #[.int .u8 0, .int .u8 0, .int .u8 0, .int .u8 0]) 4 4 Tryz.underlying52 hi hz0 hz1 hz2 rfl (by decide) _ 7 _ rfl (World.ownsRow.alloc (w := w3) HO3.out _) ⟨w3.heap.size, 0, none⟩ 3 3 (flat [⟨21, 7, 0, 0⟩, ⟨16, 6, 4, 249⟩, ⟨22, 0, 0, 0⟩]) rfl rfl ?c1 ?c2 ?c3 ?c4 ?c5 ?_)))
  case c1 => exact new_cell w3 _ _ rfl
  case c2 => exact flat_one _
  case c3 => unfold maxLen; omega
  case c4 => omega
  case c5 => exact Nat.le_trans HSZ3.out (Ch.alloc (S := No) w3 _).size
  · intro v2 w4 hown hgrow _
    obtain ⟨b, cap, rfl, hb, hcode⟩ := own_code (l := putsC n) (show w4.ownsRow (w.heap.size + 1) 49 4 v2 (putsC n).length (flat (putsC n)) from hown) (Nat.le_of_ble_eq_true rfl)
    have cA : Ch (fun k => w.heap.size + 1 ≤ k) W0 w4 :=
      (((C1.out.mono (T := fun k => w.heap.size + 1 ≤ k) (fun _ _ e => e.elim)).trans C3.out).trans (Ch.alloc w3 _)).trans ((Ch.ofGrown hgrow).mono (own_above HO3.out))
    have rr : Row w.heap.size 54 #[.int .i64 0, .slice none 0 0, .slice none 0 0] w4 := R0.out.keeps cA (by omega)
    have q0 := rr.cell (j := 0) (v := .int .i64 0) rfl
    have q1 := rr.cell (j := 1) (v := .slice none 0 0) rfl
    have q2 := rr.cell (j := 2) (v := .slice none 0 0) rfl
    have f0 := rr.free 0
    have f1 := rr.free 1
    have f2 := rr.free 2
    go_wp2_with fail
    have r5 := ((rr.set 0 (.int .i64 0)).set 1 (.slice none 0 0)).set 2 (.slice (some ⟨b, 0, none⟩) (putsC n).length cap)
    have c5 : Ch (fun k => k = w.heap.size) w4 (((w4.setCell ⟨w.heap.size, 0, none⟩ (.int .i64 0)).setCell ⟨w.heap.size, 1, none⟩ (.slice none 0 0)).setCell ⟨w.heap.size, 2, none⟩ (.slice (some ⟨b, 0, none⟩) (putsC n).length cap)) :=
      ((Ch.setCell (S := fun k => k = w.heap.size) w4 _ _ _ rfl).trans (Ch.setCell _ _ _ _ rfl)).trans (Ch.setCell _ _ _ _ rfl)
    generalize (((w4.setCell ⟨w.heap.size, 0, none⟩ (.int .i64 0)).setCell ⟨w.heap.size, 1, none⟩ (.slice none 0 0)).setCell ⟨w.heap.size, 2, none⟩ (.slice (some ⟨b, 0, none⟩) (putsC n).length cap)) = w5 at r5 c5 ⊢
    have z0 := r5.cell (j := 0) (v := .int .i64 0) rfl
    have z1 := r5.cell (j := 1) (v := .slice none 0 0) rfl
    have z2 := r5.cell (j := 2) (v := .slice (some ⟨b, 0, none⟩) (putsC n).length cap) rfl
    refine bodyPost_ret (v := imV b 10 cap) ?_ rfl ⟨b, cap, rfl, hcode.keeps c5 (by omega), ?_⟩
    · simp [results, Tryz.results16, go_sem, z0, z1, z2, imV]
      rfl
    · refine (((C0.out.mono (T := fun k => w.heap.size ≤ k) (fun _ _ e => e.elim)).trans (cA.mono (fun k _ e => by omega))).trans (c5.mono (fun k _ e => by omega))).mono (fun k hk e => absurd e (by omega))
set_option maxRecDepth 100000 in
set_option maxHeartbeats 4000000 in
theorem gets_any (w : World) (n : Nat) (_hn : n < 256) : Calls Tryz.prog 17 #[.int .u8 n] w fun e w' => ∃ b cap, e = .returned (imV b 10 cap) ∧ Code49 b (getsC n) w' ∧ Ch No w w' := by
  obtain ⟨i0, hi, hz0, hz1, hz2⟩ := info_parts info49
  obtain ⟨W0, hW0⟩ : ∃ W0, W0 = w.alloc (.cells #[.int .i64 0, .slice none 0 0, .slice none 0 0] 54) := ⟨_, rfl⟩
  have r0 : Row w.heap.size 54 #[.int .i64 0, .slice none 0 0, .slice none 0 0] W0 := by rw [hW0]; exact Row.new w 54 _
  have c0 : Ch No w W0 := by rw [hW0]; exact Ch.alloc w _
  have z0 : W0.heap.size = w.heap.size + 1 := by rw [hW0]; exact Array.size_push _
  obtain ⟨W1, hW1⟩ : ∃ W1, W1 = W0.alloc (.cells #[.int .u8 1, .int .u8 4, .int .u8 0, .int .u8 n, .int .u8 1, .int .u8 5, .int .u8 0, .int .u8 1, .int .u8 3, .int .u8 6, .int .u8 6, .int .u8 5, .int .u8 1, .int .u8 0, .int .u8 1, .int .u8 0] 49) := ⟨_, rfl⟩
  have ho : W1.ownsRow W0.heap.size 49 4 (.slice (some ⟨W0.heap.size, 0, none⟩) 4 4) 4 (flat [⟨1, 4, 0, n⟩, ⟨1, 5, 0, 1⟩, ⟨3, 6, 6, 5⟩, ⟨1, 0, 1, 0⟩]) := by
    rw [hW1]
    exact own_new W0 W0.heap.size _ [⟨1, 4, 0, n⟩, ⟨1, 5, 0, 1⟩, ⟨3, 6, 6, 5⟩, ⟨1, 0, 1, 0⟩] (Nat.le_refl _) (Nat.le_of_ble_eq_true rfl) rfl
  have c1 : Ch No W0 W1 := by rw [hW1]; exact Ch.alloc _ _
  rw [z0] at ho
  have HO := Lib.hid ho
  have HW0 := Lib.hid hW0
  have HW1 := Lib.hid hW1
  have R0 := Lib.hid r0
  have C0 := Lib.hid c0
  have C1 := Lib.hid c1
  have Z0 := Lib.hid z0
  clear hW0 hW1 ho r0 c0 c1 z0
  go_enter Tryz.func17, Tryz.ntmps17
  go_wp2_with fail
  rw [← HW0.out, ← HW1.out]
  have hbw : w.heap.size + 1 ≤ W1.heap.size := by rw [← Z0.out]; exact C1.out.size
  refine (forever_any W1 (w.heap.size + 1) _ [⟨1, 4, 0, n⟩, ⟨1, 5, 0, 1⟩, ⟨3, 6, 6, 5⟩, ⟨1, 0, 1, 0⟩] (Nat.le_of_ble_eq_true rfl) hbw HO.out).mono ?_; rintro e w2 ⟨v', rfl, ho2, hch2⟩
  have C2 : Hid (Ch (fun k => (w.heap.size + 1) ≤ k) W1 w2) := Lib.hid (hch2.mono (fun z _ e => by simp [Value.ownBlock] at e; omega))
  have HO2 := Lib.hid ho2
  clear ho2 hch2 hbw
  go_wp2_with fail
  have ha := askIn_any 9 w2
  unfold inV at ha
  refine ha.mono ?_; rintro e w3 ⟨rfl, hch3⟩
  have C3 : Hid (Ch (fun k => (w.heap.size + 1) ≤ k) W1 w3) := Lib.hid (C2.out.trans (hch3.mono (T := fun k => (w.heap.size + 1) ≤ k) (fun _ _ e => e.elim)))
  have HO3 := Lib.hid (own_keeps HO2.out hch3 (fun _ _ x => x))
  have hsz3 : w.heap.size + 1 ≤ w3.heap.size := by rw [← Z0.out]; exact Nat.le_trans C1.out.size C3.out.size
  have HSZ3 := Lib.hid hsz3
  clear ha hch3 hsz3
  go_wp2_with (first
    | (at_builtin; go_loud (refine wpList_append_own _ rfl _ _ 52 rfl (w.heap.size + 1) 49 i0 (.agg #[.int .u8 0, .int .u8 0, .int .u8 0, .int .u8 0]) 4 4 Tryz.underlying52 hi hz0 hz1 hz2 rfl (by decide) _ 6 _ rfl (World.ownsRow.alloc (w := w3) HO3.out _) ⟨w3.heap.size, 0, none⟩ 3 3 (flat [⟨21, 9, 0, 0⟩, ⟨20, 1, 0, 0⟩, ⟨16, 6, 4, 249⟩]) rfl rfl ?c1 ?c2 ?c3 ?c4 ?c5 ?_)))
  case c1 => exact new_cell w3 _ _ rfl
  case c2 => exact flat_one _
  case c3 => unfold maxLen; omega
  case c4 => omega
  case c5 => exact Nat.le_trans HSZ3.out (Ch.alloc (S := No) w3 _).size
  · intro v2 w4 hown hgrow _
    have h9 : w4.ownsRow (w.heap.size + 1) 49 4 v2 9 (flat [⟨1, 4, 0, n⟩, ⟨1, 5, 0, 1⟩, ⟨3, 6, 6, 5⟩, ⟨1, 0, 1, 0⟩, ⟨1, 3, 0, 0⟩, ⟨4, 3, 3, 5⟩, ⟨21, 9, 0, 0⟩, ⟨20, 1, 0, 0⟩, ⟨16, 6, 4, 249⟩]) := hown
    have hb0 : ∃ b0 cap0, v2 = .slice (some ⟨b0, 0, none⟩) 9 cap0 := (own_code (l := [⟨1, 4, 0, n⟩, ⟨1, 5, 0, 1⟩, ⟨3, 6, 6, 5⟩, ⟨1, 0, 1, 0⟩, ⟨1, 3, 0, 0⟩, ⟨4, 3, 3, 5⟩, ⟨21, 9, 0, 0⟩, ⟨20, 1, 0, 0⟩, ⟨16, 6, 4, 249⟩]) h9 (Nat.le_of_ble_eq_true rfl)).elim fun b0 h => h.elim fun c0 h => ⟨b0, c0, h.1⟩
    obtain ⟨b0, cap0, rfl⟩ := hb0
    have cB : Hid (Ch (fun k => w.heap.size + 1 ≤ k) W0 w4) :=
      Lib.hid ((((C1.out.mono (T := fun k => w.heap.size + 1 ≤ k) (fun _ _ e => e.elim)).trans C3.out).trans (Ch.alloc w3 _)).trans ((Ch.ofGrown hgrow).mono (own_above HO3.out)))
    have H9 := Lib.hid h9
    have HSZ4 : Hid (w.heap.size + 1 ≤ w4.heap.size) := Lib.hid (by rw [← Z0.out]; exact cB.out.size)
    clear h9 hown hgrow
    go_wp2_with (first
      | (at_builtin; go_loud (refine wpList_append_own _ rfl _ _ 52 rfl (w.heap.size + 1) 49 i0 (.agg #[.int .u8 0, .int .u8 0, .int .u8 0, .int .u8 0]) 4 4 Tryz.underlying52 hi hz0 hz1 hz2 rfl (by decide) _ 9 _ rfl (World.ownsRow.alloc (w := w4) H9.out _) ⟨w4.heap.size, 0, none⟩ 1 1 (flat [⟨19, 0, 9, 0⟩]) rfl rfl ?d1 ?d2 ?d3 ?d4 ?d5 ?_)))
    case d1 => exact new_cell w4 _ _ rfl
    case d2 => exact flat_one _
    case d3 => unfold maxLen; omega
    case d4 => omega
    case d5 => exact Nat.le_trans HSZ4.out (Ch.alloc (S := No) w4 _).size
    intro v3 w5 hown hgrow _
    obtain ⟨b, cap, rfl, hb, hcode⟩ := own_code (l := getsC n) (show w5.ownsRow (w.heap.size + 1) 49 4 v3 (getsC n).length (flat (getsC n)) from hown) (Nat.le_of_ble_eq_true rfl)
    have cA : Ch (fun k => w.heap.size + 1 ≤ k) W0 w5 :=
      (cB.out.trans (Ch.alloc w4 _)).trans ((Ch.ofGrown hgrow).mono (own_above H9.out))
    have rr : Row w.heap.size 54 #[.int .i64 0, .slice none 0 0, .slice none 0 0] w5 := R0.out.keeps cA (by omega)
    have q0 := rr.cell (j := 0) (v := .int .i64 0) rfl
    have q1 := rr.cell (j := 1) (v := .slice none 0 0) rfl
    have q2 := rr.cell (j := 2) (v := .slice none 0 0) rfl
    have f0 := rr.free 0
    have f1 := rr.free 1
    have f2 := rr.free 2
    go_wp2_with fail
    have r6 := ((rr.set 0 (.int .i64 0)).set 1 (.slice none 0 0)).set 2 (.slice (some ⟨b, 0, none⟩) (getsC n).length cap)
    have c6 : Ch (fun k => k = w.heap.size) w5 (((w5.setCell ⟨w.heap.size, 0, none⟩ (.int .i64 0)).setCell ⟨w.heap.size, 1, none⟩ (.slice none 0 0)).setCell ⟨w.heap.size, 2, none⟩ (.slice (some ⟨b, 0, none⟩) (getsC n).length cap)) :=
      ((Ch.setCell (S := fun k => k = w.heap.size) w5 _ _ _ rfl).trans (Ch.setCell _ _ _ _ rfl)).trans (Ch.setCell _ _ _ _ rfl)
    generalize (((w5.setCell ⟨w.heap.size, 0, none⟩ (.int .i64 0)).setCell ⟨w.heap.size, 1, none⟩ (.slice none 0 0)).setCell ⟨w.heap.size, 2, none⟩ (.slice (some ⟨b, 0, none⟩) (getsC n).length cap)) = w6 at r6 c6 ⊢
    have z0 := r6.cell (j := 0) (v := .int .i64 0) rfl
    have z1 := r6.cell (j := 1) (v := .slice none 0 0) rfl
    have z2 := r6.cell (j := 2) (v := .slice (some ⟨b, 0, none⟩) (getsC n).length cap) rfl
    refine bodyPost_ret (v := imV b 10 cap) ?_ rfl ⟨b, cap, rfl, hcode.keeps c6 (by omega), ?_⟩
    · simp [results, Tryz.results17, go_sem, z0, z1, z2, imV]
      rfl
    · refine (((C0.out.mono (T := fun k => w.heap.size ≤ k) (fun _ _ e => e.elim)).trans (cA.mono (fun k _ e => by omega))).trans (c6.mono (fun k _ e => by omega))).mono (fun k hk e => absurd e (by omega))
end Go.Proofs.YtcngfaggignmpaaGreatDoor
