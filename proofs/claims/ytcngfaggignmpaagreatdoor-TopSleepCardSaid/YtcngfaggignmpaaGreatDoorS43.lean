/-
  The top, part 43: CodeNew, Sent, Top.
-/
import Derived.Test.YtcngfaggignmpaaGreatDoorS41
import Derived.Test.YtcngfaggignmpaaGreatDoorS42

/-
  The top: the two images.
-/
namespace Go.Proofs.YtcngfaggignmpaaGreatDoor
open Go.RowKit

/-- A row of code that was just made. -/
theorem own_new (w : World) (base : Nat) (cs : Array Value) (l : List IN) (hb : base ≤ w.heap.size) (hl : l.length ≤ 1000) (hc : cs = (flat l).toArray) :
    (w.alloc (.cells cs 49)).ownsRow base 49 4 (.slice (some ⟨w.heap.size, 0, none⟩) l.length l.length) l.length (flat l) :=
  ⟨flat_len l, .inr ⟨w.heap.size, l.length, cs, rfl, hb, (MapKept.heap_alloc w _).1, Nat.le_refl _, by unfold maxLen; omega, by rw [hc]; simp [flat_len], by rw [hc]; simp [← flat_len]⟩⟩
theorem own_code {w : World} {base : Nat} {v : Value} {l : List IN} (h : w.ownsRow base 49 4 v l.length (flat l)) (h1 : 1 ≤ l.length) : ∃ b cap, v = .slice (some ⟨b, 0, none⟩) l.length cap ∧ base ≤ b ∧ Code49 b l w := by
  rcases h.2 with ⟨_, e0⟩ | ⟨g, cap, cur, e, hb, hg, hn, hm, hs, ht⟩
  · omega
  · refine ⟨g, cap, e, hb, cur, hg, fun j u hj => ?_⟩
    have hjl : j < (flat l).length := (List.getElem?_eq_some_iff.1 hj).1
    rw [flat_len] at hjl
    have h3 : (cur.toList.take (l.length * 4))[j]? = some u := by rw [ht]; exact hj
    rw [List.getElem?_take_of_lt (by omega)] at h3
    simpa using h3
theorem new_cell (w : World) (cs : Array Value) (l : List Value) (hc : cs = l.toArray) : ∀ (j : Nat) (u : Value), l[j]? = some u → (w.alloc (.cells cs 49)).cell? ((⟨w.heap.size, 0, none⟩ : Addr).add j) = some u := by
  intro j u hj
  have hr := Row.new w 49 cs
  have := hr.cell (j := j) (v := u) (by rw [hc, List.getElem?_toArray]; exact hj)
  cases j with
  | zero => exact this
  | succ j => simpa [Addr.add] using this
theorem own_above {w : World} {base : Nat} {v : Value} {n : Nat} {xs : List Value} (h : w.ownsRow base 49 4 v n xs) {w1 : World} : ∀ k, k < w1.heap.size → v.ownBlock = some k → base ≤ k := by
  intro k _ hk
  rcases h.2 with ⟨e, _⟩ | ⟨g, cap, cur, e, hb, _⟩
  · rw [e] at hk; simp [Value.ownBlock] at hk
  · rw [e] at hk; simp [Value.ownBlock] at hk; omega
theorem info54 : (Tryz.prog.info? 54).map (·.size) = some 3 := by kernel_rfl

set_option maxRecDepth 100000 in
set_option maxHeartbeats 4000000 in
theorem puts_any (w : World) (n : Nat) (_hn : n < 256) : Calls Tryz.prog 16 #[.int .u8 n] w fun e w' => ∃ b cap, e = .returned (imV b 10 cap) ∧ Code49 b (putsC n) w' ∧ Ch No w w' := by
  obtain ⟨i0, hi, hz0, hz1, hz2⟩ := info_parts info49
  obtain ⟨W0, hW0⟩ : ∃ W0, W0 = w.alloc (.cells #[.int .i64 0, .slice none 0 0, .slice none 0 0] 54) := ⟨_, rfl⟩
  have r0 : Row w.heap.size 54 #[.int .i64 0, .slice none 0 0, .slice none 0 0] W0 := by rw [hW0]; exact Row.new w 54 _
  have c0 : Ch No w W0 := by rw [hW0]; exact Ch.alloc w _
  have z0 : W0.heap.size = w.heap.size + 1 := by rw [hW0]; exact Array.size_push _
  obtain ⟨W1, hW1⟩ : ∃ W1, W1 = W0.alloc (.cells #[.int .u8 1, .int .u8 4, .int .u8 0, .int .u8 n, .int .u8 1, .int .u8 5, .int .u8 0, .int .u8 1, .int .u8 3, .int .u8 6, .int .u8 6, .int .u8 5, .int .u8 1, .int .u8 0, .int .u8 1, .int .u8 0, .int .u8 2, .int .u8 1, .int .u8 6, .int .u8 0] 49) := ⟨_, rfl⟩
  have ho : W1.ownsRow W0.heap.size 49 4 (.slice (some ⟨W0.heap.size, 0, none⟩) 5 5) 5 (flat [⟨1, 4, 0, n⟩, ⟨1, 5, 0, 1⟩, ⟨3, 6, 6, 5⟩, ⟨1, 0, 1, 0⟩, ⟨2, 1, 6, 0⟩]) := by
    rw [hW1]
    exact own_new W0 W0.heap.size _ [⟨1, 4, 0, n⟩, ⟨1, 5, 0, 1⟩, ⟨3, 6, 6, 5⟩, ⟨1, 0, 1, 0⟩, ⟨2, 1, 6, 0⟩] (Nat.le_refl _) (Nat.le_of_ble_eq_true rfl) rfl
  have c1 : Ch No W0 W1 := by rw [hW1]; exact Ch.alloc _ _
  rw [z0] at ho
  have HO := Lib.hid ho
  have HW0 := Lib.hid hW0
  have HW1 := Lib.hid hW1
  have R0 := Lib.hid r0
  have C0 := Lib.hid c0
  have C1 := Lib.hid c1
  have Z0 := Lib.hid z0
  clear hW0 hW1 ho r0 c0 c1 z0
  go_enter Tryz.func16, Tryz.ntmps16
  go_wp2_with fail
  rw [← HW0.out, ← HW1.out]
  have hbw : w.heap.size + 1 ≤ W1.heap.size := by rw [← Z0.out]; exact C1.out.size
  refine (forever_any W1 (w.heap.size + 1) _ [⟨1, 4, 0, n⟩, ⟨1, 5, 0, 1⟩, ⟨3, 6, 6, 5⟩, ⟨1, 0, 1, 0⟩, ⟨2, 1, 6, 0⟩] (Nat.le_of_ble_eq_true rfl) hbw HO.out).mono ?_; rintro e w2 ⟨v', rfl, ho2, hch2⟩
  have C2 : Hid (Ch (fun k => (w.heap.size + 1) ≤ k) W1 w2) := Lib.hid (hch2.mono (fun z _ e => by simp [Value.ownBlock] at e; omega))
  have HO2 := Lib.hid ho2
  clear ho2 hch2 hbw
  go_wp2_with fail
  have ha := askIn_any 7 w2
  unfold inV at ha
  refine ha.mono ?_; rintro e w3 ⟨rfl, hch3⟩
  have C3 : Hid (Ch (fun k => (w.heap.size + 1) ≤ k) W1 w3) := Lib.hid (C2.out.trans (hch3.mono (T := fun k => (w.heap.size + 1) ≤ k) (fun _ _ e => e.elim)))
  have HO3 := Lib.hid (own_keeps HO2.out hch3 (fun _ _ x => x))
  have hsz3 : w.heap.size + 1 ≤ w3.heap.size := by rw [← Z0.out]; exact Nat.le_trans C1.out.size C3.out.size
  have HSZ3 := Lib.hid hsz3
  clear ha hch3 hsz3
  go_wp2_with (first
    | (at_builtin; go_loud (refine wpList_append_own _ rfl _ _ 52 rfl (w.heap.size + 1) 49 i0 (.agg #[.int .u8 0, .int .u8 0, .int .u8 0, .int .u8 0]) 4 4 Tryz.underlying52 hi hz0 hz1 hz2 rfl (by decide) _ 7 _ rfl (World.ownsRow.alloc (w := w3) HO3.out _) ⟨w3.heap.size, 0, none⟩ 3 3 (flat [⟨21, 7, 0, 0⟩, ⟨16, 6, 4, 249⟩, ⟨22, 0, 0, 0⟩]) rfl rfl ?c1 ?c2 ?c3 ?c4 ?c5 ?_)))
  case c1 => exact new_cell w3 _ _ rfl
  case c2 => exact flat_one _
  case c3 => unfold maxLen; omega
  case c4 => omega
  case c5 => exact Nat.le_trans HSZ3.out (Ch.alloc (S := No) w3 _).size
  · intro v2 w4 hown hgrow _
    obtain ⟨b, cap, rfl, hb, hcode⟩ := own_code (l := putsC n) (show w4.ownsRow (w.heap.size + 1) 49 4 v2 (putsC n).length (flat (putsC n)) from hown) (Nat.le_of_ble_eq_true rfl)
    have cA : Ch (fun k => w.heap.size + 1 ≤ k) W0 w4 :=
      (((C1.out.mono (T := fun k => w.heap.size + 1 ≤ k) (fun _ _ e => e.elim)).trans C3.out).trans (Ch.alloc w3 _)).trans ((Ch.ofGrown hgrow).mono (own_above HO3.out))
    have rr : Row w.heap.size 54 #[.int .i64 0, .slice none 0 0, .slice none 0 0] w4 := R0.out.keeps cA (by omega)
    have q0 := rr.cell (j := 0) (v := .int .i64 0) rfl
    have q1 := rr.cell (j := 1) (v := .slice none 0 0) rfl
    have q2 := rr.cell (j := 2) (v := .slice none 0 0) rfl
    have f0 := rr.free 0
    have f1 := rr.free 1
    have f2 := rr.free 2
    go_wp2_with fail
    have r5 := ((rr.set 0 (.int .i64 0)).set 1 (.slice none 0 0)).set 2 (.slice (some ⟨b, 0, none⟩) (putsC n).length cap)
    have c5 : Ch (fun k => k = w.heap.size) w4 (((w4.setCell ⟨w.heap.size, 0, none⟩ (.int .i64 0)).setCell ⟨w.heap.size, 1, none⟩ (.slice none 0 0)).setCell ⟨w.heap.size, 2, none⟩ (.slice (some ⟨b, 0, none⟩) (putsC n).length cap)) :=
      ((Ch.setCell (S := fun k => k = w.heap.size) w4 _ _ _ rfl).trans (Ch.setCell _ _ _ _ rfl)).trans (Ch.setCell _ _ _ _ rfl)
    generalize (((w4.setCell ⟨w.heap.size, 0, none⟩ (.int .i64 0)).setCell ⟨w.heap.size, 1, none⟩ (.slice none 0 0)).setCell ⟨w.heap.size, 2, none⟩ (.slice (some ⟨b, 0, none⟩) (putsC n).length cap)) = w5 at r5 c5 ⊢
    have z0 := r5.cell (j := 0) (v := .int .i64 0) rfl
    have z1 := r5.cell (j := 1) (v := .slice none 0 0) rfl
    have z2 := r5.cell (j := 2) (v := .slice (some ⟨b, 0, none⟩) (putsC n).length cap) rfl
    refine bodyPost_ret (v := imV b 10 cap) ?_ rfl ⟨b, cap, rfl, hcode.keeps c5 (by omega), ?_⟩
    · simp [results, Tryz.results16, go_sem, z0, z1, z2, imV]
      rfl
    · refine (((C0.out.mono (T := fun k => w.heap.size ≤ k) (fun _ _ e => e.elim)).trans (cA.mono (fun k _ e => by omega))).trans (c5.mono (fun k _ e => by omega))).mono (fun k hk e => absurd e (by omega))
set_option maxRecDepth 100000 in
set_option maxHeartbeats 4000000 in
theorem gets_any (w : World) (n : Nat) (_hn : n < 256) : Calls Tryz.prog 17 #[.int .u8 n] w fun e w' => ∃ b cap, e = .returned (imV b 10 cap) ∧ Code49 b (getsC n) w' ∧ Ch No w w' := by
  obtain ⟨i0, hi, hz0, hz1, hz2⟩ := info_parts info49
  obtain ⟨W0, hW0⟩ : ∃ W0, W0 = w.alloc (.cells #[.int .i64 0, .slice none 0 0, .slice none 0 0] 54) := ⟨_, rfl⟩
  have r0 : Row w.heap.size 54 #[.int .i64 0, .slice none 0 0, .slice none 0 0] W0 := by rw [hW0]; exact Row.new w 54 _
  have c0 : Ch No w W0 := by rw [hW0]; exact Ch.alloc w _
  have z0 : W0.heap.size = w.heap.size + 1 := by rw [hW0]; exact Array.size_push _
  obtain ⟨W1, hW1⟩ : ∃ W1, W1 = W0.alloc (.cells #[.int .u8 1, .int .u8 4, .int .u8 0, .int .u8 n, .int .u8 1, .int .u8 5, .int .u8 0, .int .u8 1, .int .u8 3, .int .u8 6, .int .u8 6, .int .u8 5, .int .u8 1, .int .u8 0, .int .u8 1, .int .u8 0] 49) := ⟨_, rfl⟩
  have ho : W1.ownsRow W0.heap.size 49 4 (.slice (some ⟨W0.heap.size, 0, none⟩) 4 4) 4 (flat [⟨1, 4, 0, n⟩, ⟨1, 5, 0, 1⟩, ⟨3, 6, 6, 5⟩, ⟨1, 0, 1, 0⟩]) := by
    rw [hW1]
    exact own_new W0 W0.heap.size _ [⟨1, 4, 0, n⟩, ⟨1, 5, 0, 1⟩, ⟨3, 6, 6, 5⟩, ⟨1, 0, 1, 0⟩] (Nat.le_refl _) (Nat.le_of_ble_eq_true rfl) rfl
  have c1 : Ch No W0 W1 := by rw [hW1]; exact Ch.alloc _ _
  rw [z0] at ho
  have HO := Lib.hid ho
  have HW0 := Lib.hid hW0
  have HW1 := Lib.hid hW1
  have R0 := Lib.hid r0
  have C0 := Lib.hid c0
  have C1 := Lib.hid c1
  have Z0 := Lib.hid z0
  clear hW0 hW1 ho r0 c0 c1 z0
  go_enter Tryz.func17, Tryz.ntmps17
  go_wp2_with fail
  rw [← HW0.out, ← HW1.out]
  have hbw : w.heap.size + 1 ≤ W1.heap.size := by rw [← Z0.out]; exact C1.out.size
  refine (forever_any W1 (w.heap.size + 1) _ [⟨1, 4, 0, n⟩, ⟨1, 5, 0, 1⟩, ⟨3, 6, 6, 5⟩, ⟨1, 0, 1, 0⟩] (Nat.le_of_ble_eq_true rfl) hbw HO.out).mono ?_; rintro e w2 ⟨v', rfl, ho2, hch2⟩
  have C2 : Hid (Ch (fun k => (w.heap.size + 1) ≤ k) W1 w2) := Lib.hid (hch2.mono (fun z _ e => by simp [Value.ownBlock] at e; omega))
  have HO2 := Lib.hid ho2
  clear ho2 hch2 hbw
  go_wp2_with fail
  have ha := askIn_any 9 w2
  unfold inV at ha
  refine ha.mono ?_; rintro e w3 ⟨rfl, hch3⟩
  have C3 : Hid (Ch (fun k => (w.heap.size + 1) ≤ k) W1 w3) := Lib.hid (C2.out.trans (hch3.mono (T := fun k => (w.heap.size + 1) ≤ k) (fun _ _ e => e.elim)))
  have HO3 := Lib.hid (own_keeps HO2.out hch3 (fun _ _ x => x))
  have hsz3 : w.heap.size + 1 ≤ w3.heap.size := by rw [← Z0.out]; exact Nat.le_trans C1.out.size C3.out.size
  have HSZ3 := Lib.hid hsz3
  clear ha hch3 hsz3
  go_wp2_with (first
    | (at_builtin; go_loud (refine wpList_append_own _ rfl _ _ 52 rfl (w.heap.size + 1) 49 i0 (.agg #[.int .u8 0, .int .u8 0, .int .u8 0, .int .u8 0]) 4 4 Tryz.underlying52 hi hz0 hz1 hz2 rfl (by decide) _ 6 _ rfl (World.ownsRow.alloc (w := w3) HO3.out _) ⟨w3.heap.size, 0, none⟩ 3 3 (flat [⟨21, 9, 0, 0⟩, ⟨20, 1, 0, 0⟩, ⟨16, 6, 4, 249⟩]) rfl rfl ?c1 ?c2 ?c3 ?c4 ?c5 ?_)))
  case c1 => exact new_cell w3 _ _ rfl
  case c2 => exact flat_one _
  case c3 => unfold maxLen; omega
  case c4 => omega
  case c5 => exact Nat.le_trans HSZ3.out (Ch.alloc (S := No) w3 _).size
  · intro v2 w4 hown hgrow _
    have h9 : w4.ownsRow (w.heap.size + 1) 49 4 v2 9 (flat [⟨1, 4, 0, n⟩, ⟨1, 5, 0, 1⟩, ⟨3, 6, 6, 5⟩, ⟨1, 0, 1, 0⟩, ⟨1, 3, 0, 0⟩, ⟨4, 3, 3, 5⟩, ⟨21, 9, 0, 0⟩, ⟨20, 1, 0, 0⟩, ⟨16, 6, 4, 249⟩]) := hown
    have hb0 : ∃ b0 cap0, v2 = .slice (some ⟨b0, 0, none⟩) 9 cap0 := (own_code (l := [⟨1, 4, 0, n⟩, ⟨1, 5, 0, 1⟩, ⟨3, 6, 6, 5⟩, ⟨1, 0, 1, 0⟩, ⟨1, 3, 0, 0⟩, ⟨4, 3, 3, 5⟩, ⟨21, 9, 0, 0⟩, ⟨20, 1, 0, 0⟩, ⟨16, 6, 4, 249⟩]) h9 (Nat.le_of_ble_eq_true rfl)).elim fun b0 h => h.elim fun c0 h => ⟨b0, c0, h.1⟩
    obtain ⟨b0, cap0, rfl⟩ := hb0
    have cB : Hid (Ch (fun k => w.heap.size + 1 ≤ k) W0 w4) :=
      Lib.hid ((((C1.out.mono (T := fun k => w.heap.size + 1 ≤ k) (fun _ _ e => e.elim)).trans C3.out).trans (Ch.alloc w3 _)).trans ((Ch.ofGrown hgrow).mono (own_above HO3.out)))
    have H9 := Lib.hid h9
    have HSZ4 : Hid (w.heap.size + 1 ≤ w4.heap.size) := Lib.hid (by rw [← Z0.out]; exact cB.out.size)
    clear h9 hown hgrow
    go_wp2_with (first
      | (at_builtin; go_loud (refine wpList_append_own _ rfl _ _ 52 rfl (w.heap.size + 1) 49 i0 (.agg #[.int .u8 0, .int .u8 0, .int .u8 0, .int .u8 0]) 4 4 Tryz.underlying52 hi hz0 hz1 hz2 rfl (by decide) _ 9 _ rfl (World.ownsRow.alloc (w := w4) H9.out _) ⟨w4.heap.size, 0, none⟩ 1 1 (flat [⟨19, 0, 9, 0⟩]) rfl rfl ?d1 ?d2 ?d3 ?d4 ?d5 ?_)))
    case d1 => exact new_cell w4 _ _ rfl
    case d2 => exact flat_one _
    case d3 => unfold maxLen; omega
    case d4 => omega
    case d5 => exact Nat.le_trans HSZ4.out (Ch.alloc (S := No) w4 _).size
    intro v3 w5 hown hgrow _
    obtain ⟨b, cap, rfl, hb, hcode⟩ := own_code (l := getsC n) (show w5.ownsRow (w.heap.size + 1) 49 4 v3 (getsC n).length (flat (getsC n)) from hown) (Nat.le_of_ble_eq_true rfl)
    have cA : Ch (fun k => w.heap.size + 1 ≤ k) W0 w5 :=
      (cB.out.trans (Ch.alloc w4 _)).trans ((Ch.ofGrown hgrow).mono (own_above H9.out))
    have rr : Row w.heap.size 54 #[.int .i64 0, .slice none 0 0, .slice none 0 0] w5 := R0.out.keeps cA (by omega)
    have q0 := rr.cell (j := 0) (v := .int .i64 0) rfl
    have q1 := rr.cell (j := 1) (v := .slice none 0 0) rfl
    have q2 := rr.cell (j := 2) (v := .slice none 0 0) rfl
    have f0 := rr.free 0
    have f1 := rr.free 1
    have f2 := rr.free 2
    go_wp2_with fail
    have r6 := ((rr.set 0 (.int .i64 0)).set 1 (.slice none 0 0)).set 2 (.slice (some ⟨b, 0, none⟩) (getsC n).length cap)
    have c6 : Ch (fun k => k = w.heap.size) w5 (((w5.setCell ⟨w.heap.size, 0, none⟩ (.int .i64 0)).setCell ⟨w.heap.size, 1, none⟩ (.slice none 0 0)).setCell ⟨w.heap.size, 2, none⟩ (.slice (some ⟨b, 0, none⟩) (getsC n).length cap)) :=
      ((Ch.setCell (S := fun k => k = w.heap.size) w5 _ _ _ rfl).trans (Ch.setCell _ _ _ _ rfl)).trans (Ch.setCell _ _ _ _ rfl)
    generalize (((w5.setCell ⟨w.heap.size, 0, none⟩ (.int .i64 0)).setCell ⟨w.heap.size, 1, none⟩ (.slice none 0 0)).setCell ⟨w.heap.size, 2, none⟩ (.slice (some ⟨b, 0, none⟩) (getsC n).length cap)) = w6 at r6 c6 ⊢
    have z0 := r6.cell (j := 0) (v := .int .i64 0) rfl
    have z1 := r6.cell (j := 1) (v := .slice none 0 0) rfl
    have z2 := r6.cell (j := 2) (v := .slice (some ⟨b, 0, none⟩) (getsC n).length cap) rfl
    refine bodyPost_ret (v := imV b 10 cap) ?_ rfl ⟨b, cap, rfl, hcode.keeps c6 (by omega), ?_⟩
    · simp [results, Tryz.results17, go_sem, z0, z1, z2, imV]
      rfl
    · refine (((C0.out.mono (T := fun k => w.heap.size ≤ k) (fun _ _ e => e.elim)).trans (cA.mono (fun k _ e => by omega))).trans (c6.mono (fun k _ e => by omega))).mono (fun k hk e => absurd e (by omega))
end Go.Proofs.YtcngfaggignmpaaGreatDoor

/-
  The top: what the two say and get.
-/
namespace Go.Proofs.YtcngfaggignmpaaGreatDoor
open Go.RowKit

/-- The bytes 1 .. n. -/
def bys (n : Nat) : List UInt8 := (List.range n).map (fun j => UInt8.ofNat (j + 1))
theorem bys_nums {n : Nat} (h : n ≤ 50) : nums 0 n = (bys n).map (fun b => (b.toNat : Int)) := by
  unfold nums bys
  rw [List.map_map]
  refine List.map_congr_left (fun j hj => ?_)
  rw [List.mem_range] at hj
  simp only [Function.comp_apply]
  have e : (UInt8.ofNat (j + 1)).toNat = j + 1 := by
    show (j + 1) % 256 = j + 1
    omega
  rw [e]
  congr 1
  omega
/-- A slice of bytes, as long as nothing is turned. -/
def Cut (v : Value) (L : Nat) (w : World) : Prop := ∃ o cap, v = .slice o L cap ∧ (0 < L → ∃ b off, o = some ⟨b, off, none⟩ ∧ ∀ j, j < L → ∃ x : Int, 0 ≤ x ∧ x ≤ 255 ∧ w.cell? ⟨b, off + j, none⟩ = some (.int .u8 x))
theorem cell_keeps {S : Nat → Prop} {w w' : World} (g : Ch S w w') (hS : ∀ k, S k → w.heap.size ≤ k) {b off : Nat} {v : Value} (h : w.cell? ⟨b, off, none⟩ = some v) : w'.cell? ⟨b, off, none⟩ = some v := by
  have hb : b < w.heap.size := World.block_lt_of_cell? w _ h
  have := g.block b hb (fun s => by have := hS b s; omega)
  unfold World.cell? at h ⊢
  rw [this]
  exact h

theorem rsLess {B T U : Nat} {tb bx : Nat → Nat} {gs : Nat → CG} {tp : Nat} {code : Nat → List IN} {n most : Nat} {R : Nat → Nat} {u u' : Nat} {w : World} (hu : u ≤ u') (h : RS B T U tb bx gs tp code (J n most R) u w) : RS B T U tb bx gs tp code (J n most R) u' w := by
  obtain ⟨m, sv, cs, an, os, clk, h⟩ := h
  obtain ⟨q, s, d, k0, k1, hj, hm⟩ := h.p
  exact ⟨m, sv, cs, an, os, clk, h.st, ⟨q, s, d, k0, k1, hj, Nat.le_trans hm hu⟩, h.tan, h.live, h.own, h.cod, h.tell⟩

set_option maxRecDepth 100000 in
set_option maxHeartbeats 8000000 in
theorem sent_any (w : World) (n most p g s L : Nat) (v : Value) (hn : 1 ≤ n ∧ n ≤ 50) (hm : 1 ≤ most ∧ most ≤ 64) (hp : p < 32) (hg : g < 32) (hs : 1 ≤ s ∧ s ≤ 100) (hv : Cut v L w) (hL : L ≤ 1000) :
    Calls Tryz.prog 6 #[.int .u8 n, .int .u8 most, .int .i64 p, .int .i64 g, .int .i64 s, v] w fun e w' => e = .returned (.tuple #[.string ⟨(bys n).toArray⟩, .bool true]) ∧ Ch No w w' := by
  obtain ⟨o, cap, rfl, hcut⟩ := hv
  have HCUT := Lib.hid hcut
  clear hcut
  go_enter Tryz.func6, Tryz.ntmps6
  go_wp2_with fail
  refine (boardNew_any w s (by omega) (by omega)).mono ?_; rintro e w1 ⟨B, hB, rfl, hkn, hbd, hmp, hsz, hch⟩
  have HB := Lib.hid hB
  have HKN := Lib.hid hkn
  have HBD := Lib.hid hbd
  have HMP := Lib.hid hmp
  have HSZ := Lib.hid hsz
  have C1 := Lib.hid hch
  clear hB hkn hbd hmp hsz hch
  go_wp2_with fail
  refine (bKernel_any HBD.out).mono ?_; rintro e w2 ⟨rfl, rfl⟩
  go_wp2_with fail
  refine (thingNew_any most hm.1 hm.2 (by rw [HSZ.out]; exact Nat.le_refl _) HKN.out).mono ?_; rintro e w2 ⟨T, U, rfl, hks, hT, hU, hch⟩
  have hst : BS B T U (fun i => U + 3 + i) (fun _ => 0) (fun _ => ⟨0, 0, 0, 0, 0, []⟩) (km0 s most) (fun _ => .slice none 0 0) (fun _ => cm0) (fun _ => 0) [] 0 w2 :=
    .first hks (HBD.out.keeps hch (by omega)) (hch.keeps HMP.out (by omega))
  have HST := Lib.hid hst
  have C2 : Hid (Ch (fun k => w.heap.size ≤ k) w w2) := Lib.hid ((C1.out.mono (fun _ _ e => e.elim)).trans (hch.mono (fun k _ e => by have := HB.out; show w.heap.size ≤ k; omega)))
  clear hst hks hT hU hch
  go_wp2_with fail
  have hpu := puts_any w2 n (by omega)
  unfold imV at hpu
  refine hpu.mono ?_; rintro e w3 ⟨b, cp, rfl, hcode, hch⟩
  clear hpu
  obtain ⟨k1, t1, _, _, a1, u1⟩ := (ki0 (R := rk2 p g) s most (by omega) (by omega)).made (i := 0) (r := p) (by decide) rfl rfl hp
  obtain ⟨k2, t2, _, _, a2, u2⟩ := k1.made (i := 1) (r := g) (by decide) (by rw [t1]; rfl) rfl hg
  have hl := load_any (i := 0) (r := p) (cap := cp) (HST.out.no hch) (ki0 (R := rk2 p g) s most (by omega) (by omega)).cons (by decide) rfl rfl rfl (fun j hj => absurd hj (by omega)) hp k1.calm (fun ⟨s, hs⟩ => by cases hs) (Nat.le_of_ble_eq_true rfl) (Nat.le_of_ble_eq_true rfl) hcode (puts_ok n (by omega))
  have HL1 := Lib.hid hl
  have C3 : Hid (Ch (fun k => w.heap.size ≤ k) w w3) := Lib.hid (C2.out.trans (hch.mono (fun _ _ e => e.elim)))
  clear hl hch hcode
  have hl := HL1.out
  unfold imV at hl
  rw [show (putsC n).length = 10 from rfl, show (256 + ((0 : Nat) : Int)) = 256 from rfl] at hl
  go_wp2_with fail
  refine hl.mono ?_; rintro e w4 ⟨nb0, b0, g0, rfl, hg0, hst4, hch⟩
  have HG0 := Lib.hid hg0
  have HST4 := Lib.hid hst4
  have C4 : Hid (Ch (fun k => w.heap.size ≤ k) w w4) := Lib.hid (C3.out.trans (hch.mono (fun k _ e => Nat.le_trans HB.out e)))
  clear hl hg0 hst4 hch HL1
  go_wp2_with fail
  have hpu := gets_any w4 n (by omega)
  unfold imV at hpu
  refine hpu.mono ?_; rintro e w5 ⟨b, cp, rfl, hcode, hch⟩
  clear hpu
  have hl := load_any (i := 1) (r := g) (cap := cp) (HST4.out.no hch) k1.cons (by decide) (by rw [t1]; rfl) (by rw [(a1 1 (by decide)).1]; rfl) (by rw [(a1 1 (by decide)).2]; rfl) (fun j hj => (show j = 0 by omega) ▸ u1) hg k2.calm (fun ⟨s, hs⟩ => by simp at hs) (Nat.le_of_ble_eq_true rfl) (Nat.le_of_ble_eq_true rfl) hcode (gets_ok n (by omega))
  have HL2 := Lib.hid hl
  have C5 : Hid (Ch (fun k => w.heap.size ≤ k) w w5) := Lib.hid (C4.out.trans (hch.mono (fun _ _ e => e.elim)))
  clear hl hch hcode k1 k2 t1 t2 a1 a2 u1 u2
  have hl := HL2.out
  unfold imV at hl
  rw [show (getsC n).length = 10 from rfl, show (256 + ((1 : Nat) : Int)) = 257 from rfl] at hl
  go_wp2_with fail
  refine hl.mono ?_; rintro e w6 ⟨nb1, b1, g1, rfl, hg1, hst6, hch⟩
  have hrs := RS.start (s := s) (by omega) (by omega) hp hg ⟨hn.1, hn.2, hm.1, hm.2⟩ HG0.out hg1 hst6
  have C6 : Hid (Ch (fun k => w.heap.size ≤ k) w w6) := Lib.hid (C5.out.trans (hch.mono (fun k _ e => Nat.le_trans HB.out e)))
  obtain ⟨tb6, htb⟩ : ∃ tb6, tb6 = tb2 (tb2 (fun i => U + 3 + i) (km0 s most) 0 nb0) ((km0 s most).task 0 p) 1 nb1 := ⟨_, rfl⟩
  obtain ⟨bx6, hbx⟩ : ∃ bx6, bx6 = upd (upd (fun _ => 0) 0 b0) 1 b1 := ⟨_, rfl⟩
  obtain ⟨gs6, hgs⟩ : ∃ gs6, gs6 = upd (upd (fun _ => ⟨0, 0, 0, 0, 0, []⟩) 0 g0) 1 g1 := ⟨_, rfl⟩
  rw [← htb, ← hbx, ← hgs] at hrs
  have HRS := Lib.hid hrs
  clear hl hg1 hst6 hch hrs htb hbx hgs HL2 HST HST4 HG0 HKN HBD HMP HSZ
  go_wp2_with fail
  go_loopw [22] (fun i wr => ∃ k : Nat, k ≤ 18 * n + 60 ∧ i = .int .i64 (k : Int) ∧ RS B T U tb6 bx6 gs6 1 (codes2 n) (J n most (rk2 p g)) (14 * n + 5 - k) wr ∧ Ch (fun z => w.heap.size ≤ z) w wr) (fun i _ => 18 * n + 60 - (intOf i).toNat)
  case atStart => exact ⟨0, by omega, rfl, HRS.out, C6.out⟩
  case round =>
    obtain ⟨k, hk, rfl, hrs, hch⟩ := hrel
    by_cases hlt : k < 18 * n + 60
    · by_cases h0 : L = 0
      · subst h0
        have hrun := run_any (w := wr) (fun m cs u (h : J n most (rk2 p g) m cs u) => h.one2) 7 (by decide) hrs
        have HR := Lib.hid hrun
        have HCH := Lib.hid hch
        clear hrun hrs hch
        go_wp2_with fail
        refine HR.out.mono ?_; rintro e w7 ⟨rfl, hrs, hch⟩
        have HRS7 := Lib.hid hrs
        have C7 : Hid (Ch (fun z => w.heap.size ≤ z) w w7) := Lib.hid (HCH.out.trans (hch.mono (fun z _ e => Nat.le_trans HB.out e)))
        clear hrs hch
        go_wp2_with fail
        refine (tickRS HRS7.out).mono ?_; rintro e w8 ⟨rfl, hrs, hch⟩
        have HRS8 := Lib.hid hrs
        have C8 : Hid (Ch (fun z => w.heap.size ≤ z) w w8) := Lib.hid (C7.out.trans (hch.mono (fun z _ e => Nat.le_trans HB.out e)))
        clear hrs hch
        go_wp2_with fail
        go_roundw
        case rel => exact ⟨k + 1, by omega, by go_num, rsLess (by omega) HRS8.out, C8.out⟩
        case measure => simp [intOf]; omega
      · obtain ⟨b, off, rfl, hcut⟩ := HCUT.out (by omega)
        have hm0 : 0 ≤ (k : Int) % (L : Int) ∧ (k : Int) % (L : Int) < (L : Int) := ⟨Int.emod_nonneg _ (by omega), Int.emod_lt_of_pos _ (by omega)⟩
        obtain ⟨q, hq⟩ : ∃ q : Nat, (k : Int) % (L : Int) = (q : Int) := ⟨((k : Int) % (L : Int)).toNat, by omega⟩
        have hqL : q < L := by omega
        obtain ⟨x, x0, x1, hx⟩ := hcut q hqL
        have hxr := cell_keeps hch (fun _ e => e) hx
        obtain ⟨c, hc⟩ : ∃ c : Nat, (c : Int) = 1 + x % 20 := ⟨(1 + x % 20).toNat, by omega⟩
        have hrun := run_any (w := wr) (fun m cs u (h : J n most (rk2 p g) m cs u) => h.one2) c (by omega) hrs
        rw [hc] at hrun
        have HR := Lib.hid hrun
        have HCH := Lib.hid hch
        have HC1 : Hid (1 ≤ c) := Lib.hid (by omega)
        clear hrun hrs hch hcut hx hc
        go_wp2_with fail
        refine HR.out.mono ?_; rintro e w7 ⟨rfl, hrs, hch⟩
        have HRS7 := Lib.hid hrs
        have C7 : Hid (Ch (fun z => w.heap.size ≤ z) w w7) := Lib.hid (HCH.out.trans (hch.mono (fun z _ e => Nat.le_trans HB.out e)))
        clear hrs hch
        go_wp2_with fail
        refine (tickRS HRS7.out).mono ?_; rintro e w8 ⟨rfl, hrs, hch⟩
        have HRS8 := Lib.hid hrs
        have C8 : Hid (Ch (fun z => w.heap.size ≤ z) w w8) := Lib.hid (C7.out.trans (hch.mono (fun z _ e => Nat.le_trans HB.out e)))
        clear hrs hch
        go_wp2_with fail
        go_roundw
        case rel => exact ⟨k + 1, by omega, by go_num, rsLess (by have := HC1.out; omega) HRS8.out, C8.out⟩
        case measure => simp [intOf]; omega
    · obtain rfl : k = 18 * n + 60 := by omega
      have e0 : 14 * n + 5 - (18 * n + 60) = 0 := by omega
      rw [e0] at hrs
      obtain ⟨m, sv, cs, an, os, clk, hri⟩ := hrs
      have hj : (cs 1).says = nums 0 n := hri.p.all
      obtain ⟨t, ht⟩ : ∃ t, m.tk 1 = some t := by
        obtain ⟨_, _, _, _, _, hji, _⟩ := hri.p
        have := hji.get
        cases e : m.tk 1 with
        | none => rw [e] at this; exact this.elim
        | some t => exact ⟨t, rfl⟩
      have hco := console18_any (l := bys n) hri ht (by rw [hj]; exact bys_nums hn.2)
      rw [show (256 + ((1 : Nat) : Int)) = 257 from rfl] at hco
      have HCO := Lib.hid hco
      have HCH := Lib.hid hch
      clear hco hri hch hj ht hlt
      go_wp2_with fail
      refine HCO.out.mono ?_; rintro e w7 ⟨rfl, hch⟩
      have C7 : Hid (Ch (fun z => w.heap.size ≤ z) w w7) := Lib.hid (HCH.out.trans (hch.mono (fun z _ e => Nat.le_trans HB.out e)))
      clear hch
      go_wp2_with fail
      go_ret2
      exact ⟨rfl, C7.out.mono (fun z hz e => absurd e (by omega))⟩
end Go.Proofs.YtcngfaggignmpaaGreatDoor

/-
  The top: TopRow.
-/
namespace Go.Proofs.YtcngfaggignmpaaGreatDoor
open Go.RowKit

set_option maxRecDepth 100000 in
set_option maxHeartbeats 4000000 in
theorem known_any (w : World) : Calls Tryz.prog 5 #[] w fun e w' => e = .returned (.bool true) ∧ Ch No w w' := by
  have hs := sent_any w 3 2 5 5 2 0 (.slice none 0 0) (by decide) (by decide) (by decide) (by decide) (by decide) ⟨none, 0, rfl, fun h => absurd h (by decide)⟩ (by decide)
  rw [show bys 3 = [1, 2, 3] by decide] at hs
  go_enter Tryz.func5, Tryz.ntmps5
  go_wp2_with fail
  refine hs.mono ?_; rintro e w1 ⟨rfl, hch⟩
  go_wp2_with fail
  go_ret
  exact ⟨rfl, hch⟩

theorem bys_at {n j : Nat} (h : j < n) : (bys n).toArray[j]? = some (UInt8.ofNat (j + 1)) := by
  simp [bys, h]
theorem bys_len (n : Nat) : (bys n).length = n := by simp [bys]

set_option maxRecDepth 100000 in
set_option maxHeartbeats 8000000 in
theorem topRow_any (w : World) (x0 x1 x2 x3 x4 : Int) (o : Option Addr) (L cap : Nat) (h0 : 0 ≤ x0 ∧ x0 ≤ 255) (h1 : 0 ≤ x1 ∧ x1 ≤ 255) (h2 : 0 ≤ x2 ∧ x2 ≤ 255) (h3 : 0 ≤ x3 ∧ x3 ≤ 255) (h4 : 0 ≤ x4 ∧ x4 ≤ 255) (hL : L ≤ maxLen)
    (hcut : 0 < L → ∃ b off, o = some ⟨b, off, none⟩ ∧ ∀ j, j < L → ∃ x : Int, 0 ≤ x ∧ x ≤ 255 ∧ w.cell? ⟨b, off + j, none⟩ = some (.int .u8 x)) :
    Calls Tryz.prog 3 #[.agg #[.int .u8 x0, .int .u8 x1, .int .u8 x2, .int .u8 x3, .int .u8 x4, .slice o L cap]] w fun e w' => e = .returned (.bool true) ∧ Ch No w w' := by
  obtain ⟨W0, hW0⟩ : ∃ W0, W0 = w.alloc (.cells #[.int .u8 x0, .int .u8 x1, .int .u8 x2, .int .u8 x3, .int .u8 x4, .slice o L cap] 24) := ⟨_, rfl⟩
  have c0 : Ch No w W0 := by rw [hW0]; exact Ch.alloc w _
  have hcut0 : Cut (.slice o L cap) L W0 := ⟨o, cap, rfl, fun hp => by
    obtain ⟨b, off, ho, hc⟩ := hcut hp
    refine ⟨b, off, ho, fun j hj => ?_⟩
    obtain ⟨x, a, b, c⟩ := hc j hj
    exact ⟨x, a, b, cell_keeps c0 (fun _ e => e.elim) c⟩⟩
  have HW := Lib.hid hW0
  have C0 := Lib.hid c0
  unfold maxLen at hL
  clear hW0 hcut c0
  by_cases hbig : (50 : Int) < (L : Int)
  · go_enter Tryz.func3, Tryz.ntmps3
    go_wp2_with fail
    rw [← HW.out]
    refine (known_any W0).mono ?_; rintro e w1 ⟨rfl, hch⟩
    go_wp2_with fail
    go_ret
    exact ⟨rfl, C0.out.trans hch⟩
  · obtain ⟨n, hn⟩ : ∃ n : Nat, 1 + x0 % 50 = (n : Int) := ⟨(1 + x0 % 50).toNat, by omega⟩
    obtain ⟨most, hmost⟩ : ∃ n : Nat, 1 + x1 % 64 = (n : Int) := ⟨(1 + x1 % 64).toNat, by omega⟩
    obtain ⟨p, hp⟩ : ∃ n : Nat, x2 % 32 = (n : Int) := ⟨(x2 % 32).toNat, by omega⟩
    obtain ⟨g, hg⟩ : ∃ n : Nat, x3 % 32 = (n : Int) := ⟨(x3 % 32).toNat, by omega⟩
    obtain ⟨s, hs⟩ : ∃ n : Nat, 1 + x4 % 100 = (n : Int) := ⟨(1 + x4 % 100).toNat, by omega⟩
    have hn50 : n ≤ 50 := by omega
    have hse := sent_any W0 n most p g s L (.slice o L cap) (by omega) (by omega) (by omega) (by omega) (by omega) hcut0 (by omega)
    rw [← hn, ← hmost, ← hp, ← hg, ← hs] at hse
    have HSE := Lib.hid hse
    have HN := Lib.hid hn
    have HN50 := Lib.hid hn50
    clear hse hcut0 hmost hp hg hs hn hn50
    go_enter Tryz.func3, Tryz.ntmps3
    go_wp2_with fail
    rw [← HW.out]
    refine HSE.out.mono ?_; rintro e w1 ⟨rfl, hch⟩
    have C1 := Lib.hid (C0.out.trans hch)
    have hl := bys_len n
    have hne : ((n : Int) != 1 + x0 % 50) = false := by rw [HN.out]; simp
    clear hch HSE
    go_wp2_with fail
    go_loopw [6] (fun i wr => ∃ k : Nat, k ≤ n ∧ i = .int .i64 (k : Int) ∧ wr = w1) (fun i _ => n - (intOf i).toNat)
    case atStart => exact ⟨0, by omega, rfl, rfl⟩
    case round =>
      obtain ⟨k, hk, rfl, rfl⟩ := hrel
      by_cases hlt : k < n
      · have hsz : k < (⟨(bys n).toArray⟩ : ByteArray).size := by show k < (bys n).toArray.size; simp [bys_len, hlt]
        have hx : (((((⟨(bys n).toArray⟩ : ByteArray)[k]'hsz).toNat : Nat) : Int) != (k : Int) + 1) = false := by
          have hn5 := HN50.out
          have h1 : ((⟨(bys n).toArray⟩ : ByteArray)[k]'hsz) = UInt8.ofNat (k + 1) := by
            have hix := bys_at hlt
            rw [Array.getElem?_eq_some_iff] at hix
            exact hix.2
          rw [h1]
          have h2 : (UInt8.ofNat (k + 1)).toNat = k + 1 := by
            show (k + 1) % 256 = k + 1
            omega
          rw [h2]
          simp
        have hn5 := HN50.out
        go_wp2_with fail
        go_roundw
        case rel => exact ⟨k + 1, by omega, by go_num, trivial⟩
        case measure => simp [intOf]; omega
      · obtain rfl : k = n := by omega
        go_wp2_with fail
        refine (known_any wr).mono ?_; rintro e w2 ⟨rfl, hch⟩
        go_wp2_with fail
        go_ret
        exact ⟨rfl, C1.out.trans hch⟩
end Go.Proofs.YtcngfaggignmpaaGreatDoor
