/-
  The top, part 33: Nap6.
-/
import Derived.Test.YtcngfaggignmpaaGreatDoorS20
import Derived.Test.YtcngfaggignmpaaGreatDoorS31
import Derived.Test.YtcngfaggignmpaaGreatDoorS32
import Derived.ControlIn
import Derived.Deep.RegionHeld3

/-
  Those who sleep: one more.
-/
namespace Go.Proofs.YtcngfaggignmpaaGreatDoor
open Go.RowKit Go.Shelf
attribute [local go_sem] Oper.semAt_some

theorem KD.set {p : Nat} {t : TypeId} {cs : Array Value} {W : World} (h : Row p t cs W) (ht : t = 2 ∨ t = 3) (j : Nat) (v : Value) : KD W (W.setCell ⟨p, j, none⟩ v) := fun k cs' t' h1 h2 e => by
  have g := Ch.setCell (S := fun k => k = p) W p j v rfl
  refine (g.block k (lt_of_blk e) (fun e2 => ?_)).trans e
  subst e2
  have e' : W.heap[k]? = some (.cells cs t) := h
  rw [e] at e'
  cases e'
  rcases ht with rfl | rfl
  · exact h1 rfl
  · exact h2 rfl
/-- Where the next one would stand. -/
def nextAt (pre : List (Int × Int)) : Int := match pre.getLast? with
  | none => 0
  | some y => wrap64 (y.1 + 1)
/-- What is ahead of it. -/
def nextAhead (pre : List (Int × Int)) : Int := match pre.getLast? with
  | none => 0
  | some y => y.2
theorem nextAt_snoc (pre : List (Int × Int)) (y : Int × Int) : nextAt (pre ++ [y]) = wrap64 (y.1 + 1) := by simp [nextAt]
theorem nextAhead_snoc (pre : List (Int × Int)) (y : Int × Int) : nextAhead (pre ++ [y]) = y.2 := by simp [nextAhead]
theorem next_naps {l : List (Nat × Int)} (hl : l.length ≤ 64) {k : Nat} (hk : k ≤ l.length) : nextAt ((naps l).take k) = k ∧ nextAhead ((naps l).take k) = ahead l k := by
  cases k with
  | zero => simp [nextAt, nextAhead, ahead_zero]
  | succ k =>
    have e : (naps l).take (k + 1) = (naps l).take k ++ [((k : Int), ahead l (k + 1))] := by rw [List.take_add_one, naps_at (by omega)]; rfl
    rw [e, nextAt_snoc, nextAhead_snoc]
    refine ⟨?_, rfl⟩
    simp only [wrap64]
    omega
/-- What holds between two rounds. -/
def PutI (B5 P7 P8 : Nat) (ticks : Int) (pre : List (Int × Int)) (W : World) : Prop := Row B5 2 #[.int .i64 ticks] W ∧ Row P7 3 #[.int .i64 (nextAt pre)] W ∧ Row P8 2 #[.int .i64 (nextAhead pre)] W ∧ ∀ y ∈ pre, y.2 ≤ ticks
theorem putI_own (B5 P7 P8 : Nat) (ticks : Int) (B : Nat) : OwnFrom B (PutI B5 P7 P8 ticks) := fun _ _ _ _ h hg hr =>
  ⟨row_grown h.1 hg (fun r e => (hr r e).2), row_grown h.2.1 hg (fun r e => (hr r e).2), row_grown h.2.2.1 hg (fun r e => (hr r e).2), h.2.2.2⟩

theorem lessAt_set {l : List (Nat × Int)} {k : Nat} {x : Nat × Int} {d : Int} (h : l[k]? = some x) : lessAt l k d = l.set k (x.1, x.2 - d) := by
  have hlt := (List.getElem?_eq_some_iff.1 h).1
  have hx := (List.getElem?_eq_some_iff.1 h).2
  unfold lessAt
  rw [List.drop_eq_getElem_cons hlt, hx, List.set_eq_take_append_cons_drop, if_pos hlt]
  rfl
theorem lessAt_end (l : List (Nat × Int)) (d : Int) : lessAt l l.length d = l := by
  unfold lessAt
  rw [List.take_length, List.drop_length]
  simp [lessH]
/-- The ticks of one of them turn. -/
theorem DV.less {c g off cap k : Nat} {l : List (Nat × Int)} {w : World} {x : Nat × Int} {cs : Array Value} (hc : c ≤ g) (hr : Row g 289 cs w) (hs : cs.size = off + 2 * cap) (hl : l.length ≤ cap)
    (hh : ∀ (j : Nat) z, l[j]? = some z → cs[off + 2 * j]? = some (.int .i64 z.1) ∧ cs[off + 2 * j + 1]? = some (.int .i64 z.2)) (hx : l[k]? = some x) (d : Int) :
    DV c (some ⟨g, off, none⟩) (lessAt l k d) cap (w.setCell ⟨g, off + 2 * k + 1, none⟩ (.int .i64 (x.2 - d))) := fun _ => by
  have hlt := (List.getElem?_eq_some_iff.1 hx).1
  refine ⟨g, off, _, rfl, hc, hr.set (off + 2 * k + 1) (.int .i64 (x.2 - d)), by rw [Array.size_setIfInBounds]; exact hs, fun j z hj => ?_⟩
  rw [lessAt_set hx, List.getElem?_set] at hj
  by_cases e : k = j
  · subst e
    rw [if_pos rfl, if_pos hlt] at hj
    cases hj
    refine ⟨?_, ?_⟩
    · rw [Array.getElem?_setIfInBounds_ne (by omega)]; exact (hh k x hx).1
    · rw [Array.getElem?_setIfInBounds, if_pos rfl, if_pos (by omega)]
  · rw [if_neg e] at hj
    obtain ⟨h1, h2⟩ := hh j z hj
    refine ⟨?_, ?_⟩
    · rw [Array.getElem?_setIfInBounds_ne (by omega)]; exact h1
    · rw [Array.getElem?_setIfInBounds_ne (by omega)]; exact h2

theorem Sd.back {b c : Nat} {w w1 : World} (h : Ch (Sd b c w) w w1) {k : Nat} (hk : k < w.heap.size) (s : c ≤ k ∧ ∃ cs, Row k 289 cs w1) : Sd b c w k := by
  by_cases hs : Sd b c w k
  · exact hs
  · obtain ⟨hc, cs, r⟩ := s
    exact .inr ⟨hc, cs, (h.block k hk hs).symm.trans r⟩
theorem Ch.putObj {S : Nat → Prop} {w W : World} (h : Ch S w W) {D : Nat} (o : Obj) (hD : w.heap.size ≤ D) : Ch S w (W.putObj D o) :=
  ⟨h.os, h.tape, h.output, by simp [World.putObj]; exact h.size, fun k hk hn => by
    have := h.block k hk hn
    have hne : D ≠ k := by omega
    simp [World.putObj, hne]
    exact this⟩
theorem DL.kd {b c : Nat} {l : List (Nat × Int)} {w w' : World} (h : DL b c l w) (g : KD w w') : DL b c l w' := by
  obtain ⟨a, cap, r, h1, h2, hv⟩ := h
  exact ⟨a, cap, g.row (by decide) (by decide) r, h1, h2, hv.kd g⟩
theorem deferred_no {D : Nat} {W : World} {o : Obj} (hk : W.heap[D]? = some o) (ho : o.isCells = false) {t : TypeId} {cs : Array Value} (r : Row D t cs W) : False := by
  rw [show W.heap[D]? = some (.cells cs t) from r] at hk
  cases hk
  cases ho

set_option maxRecDepth 100000 in
set_option linter.unusedSimpArgs false in
set_option maxHeartbeats 8000000 in
theorem dlPut_any (w : World) (b c who : Nat) (ticks : Int) (l : List (Nat × Int)) (hl : l.length < 64) (h : DL b c l w) (hm : ∀ x ∈ l, x.1 ≠ who) (ht : 1 ≤ ticks ∧ ticks ≤ 1073741824) (hs : ∀ k, k ≤ l.length → 0 ≤ ahead l k ∧ ahead l k ≤ 1099511627776) (hc : c ≤ w.heap.size) (hwho : who < 256) :
    Calls Tryz.prog 178 #[.pointer (some ⟨b, 0, none⟩), .int .i64 who, .int .i64 ticks] w fun e w' => e = .returned (.int .i64 0) ∧ DL b c (dput who ticks 0 l) w' ∧ Ch (Sd b c w) w w' := by
  obtain ⟨W1, hW1⟩ : ∃ W1, W1 = w.alloc (.cells #[.int .i64 ticks] 2) := ⟨_, rfl⟩
  have t1 : Row w.heap.size 2 #[.int .i64 ticks] W1 := by rw [hW1]; exact Row.new w 2 _
  have c1 : Ch No w W1 := by rw [hW1]; exact Ch.alloc w _
  have q1 := t1.cell (j := 0) (v := .int .i64 ticks) rfl
  have hd := h.no c1
  have HM := Lib.hid hm
  have HD := Lib.hid hd
  have HD0 := Lib.hid h
  have HT := Lib.hid t1
  have HC1 := Lib.hid c1
  have HS := Lib.hid hs
  have HW := Lib.hid hW1
  clear h hm hd t1 c1 hs hW1
  have b1 : decide ((who : Int) < 0) = false := by rw [decide_eq_false_iff_not]; omega
  have b2 : decide (ticks < 1) = false := by rw [decide_eq_false_iff_not]; omega
  have b3 : decide ((1073741824 : Int) < ticks) = false := by rw [decide_eq_false_iff_not]; omega
  refine (callsIn_wide (n := 3)).1 ?_
  refine callsIn_of_wp_marks Tryz.func178 rfl trivial ?_ rfl
  simp only [Tryz.ntmps178, List.size_toArray, List.length_cons, List.length_nil, Nat.reduceAdd, Nat.reduceSub, Array.replicate_succ, Array.replicate_zero, List.push_toArray, List.append_toArray, List.nil_append, List.cons_append]
  gi_wp2_with fail
  rw [← HW.out]
  refine ⟨trivial, (callsIn_wide.2 (dlThere_any _ b c l HD.out)).mono ?_⟩; rintro e w1 ⟨rfl, rfl⟩
  gi_wp2_with fail
  refine ⟨trivial, (callsIn_wide.2 (dlFind_out b c who l (by omega) HD.out HM.out)).mono ?_⟩; rintro e w2 ⟨rfl, hch⟩
  have q2 := (HT.out.keeps hch (fun x => x)).cell (j := 0) (v := .int .i64 ticks) rfl
  have HD2 := Lib.hid (HD.out.no hch)
  have HT2 := Lib.hid (HT.out.keeps hch (fun x => x))
  have HC2 := Lib.hid (HC1.out.trans hch)
  clear hch q1
  gi_wp2_with fail
  refine ⟨trivial, (callsIn_wide.2 (sleepers_any _ b)).mono ?_⟩; rintro e w3 ⟨rfl, rfl⟩
  gi_wp2_with fail
  obtain ⟨W0, hW0⟩ : ∃ W0, W0 = ((w2.alloc (.cells #[.int .i64 0] 3)).alloc (.cells #[.int .i64 0] 2)).alloc (.cells #[.pointer (some ⟨b, 0, none⟩)] 93) := ⟨_, rfl⟩
  have a7 : Row w2.heap.size 3 #[.int .i64 0] W0 := by rw [hW0]; exact ((Row.new w2 3 #[.int .i64 0]).alloc _).alloc _
  have a8 : Row (w2.heap.size + 1) 2 #[.int .i64 0] W0 := by
    have := ((Row.new (w2.alloc (.cells #[.int .i64 0] 3)) 2 #[.int .i64 0])).alloc (.cells #[.pointer (some ⟨b, 0, none⟩)] 93)
    rw [World.size_alloc] at this
    rw [hW0]; exact this
  have aB : Row (w2.heap.size + 1 + 1) 93 #[.pointer (some ⟨b, 0, none⟩)] W0 := by
    have := Row.new ((w2.alloc (.cells #[.int .i64 0] 3)).alloc (.cells #[.int .i64 0] 2)) 93 #[.pointer (some ⟨b, 0, none⟩)]
    rw [World.size_alloc, World.size_alloc] at this
    rw [hW0]; exact this
  have hc0 : Ch No w2 W0 := by rw [hW0]; exact ((Ch.alloc _ _).trans (Ch.alloc _ _)).trans (Ch.alloc _ _)
  have hsz : W0.heap.size = w2.heap.size + 3 := by rw [hW0]; simp
  have t0 := HT2.out.keeps hc0 (fun x => x)
  have hw2 : w.heap.size < w2.heap.size := HT2.out.lt
  have hB0 : Below w.heap.size w W0 := (HC2.out.trans hc0).toBelow (fun k e => e.elim) (Nat.le_refl _)
  rw [← hW0]
  clear hW0 q2
  refine wpIn_rangeFunc_ownF rfl (by omega) (gf := 179) (lb := #[.pointer (some ⟨w2.heap.size + 1 + 1, 0, none⟩)]) rfl trivial (enters_of Tryz.func179 (by kernel_rfl) rfl)
    (naps_stops 2 (by omega) b c _ l W0 (by omega) HS.out (HD2.out.no hc0) aB) KD.trans (fun W l o o' _ ho hc _ => KD.putObj W l o o' ho hc) (Below.refl _ _) (fun _ => rfl)
    (fun pre W => PutI w.heap.size w2.heap.size (w2.heap.size + 1) ticks pre W ∧ Below w.heap.size w W)
    (fun c pre W => (c = .exit 1 ∧ ∃ pre' y, pre = pre' ++ [y] ∧ ticks < y.2 ∧ PutI w.heap.size w2.heap.size (w2.heap.size + 1) ticks pre' W) ∧ Below w.heap.size w W)
    (OwnFrom.and (putI_own _ _ _ _ _) (ownFrom_below (Nat.le_refl _) (by omega)))
    (fun c => OwnFrom.and (fun s A B row hs hg hr => ⟨hs.1, by obtain ⟨_, pre', y, h1, h2, h3⟩ := hs; exact ⟨pre', y, h1, h2, putI_own _ _ _ _ _ _ _ _ _ h3 hg hr⟩⟩) (ownFrom_below (Nat.le_refl _) (by omega)))
    ⟨⟨t0, a7, a8, fun y hy => (by cases hy)⟩, hB0⟩
    (fun y => { tmps := #[(.pointer (some ⟨b, 0, none⟩)), (.int .i64 who), (.int .i64 ticks), undef, undef, (.pointer (some ⟨w.heap.size, 0, none⟩)), (.int .i64 0), (.pointer (some ⟨w2.heap.size, 0, none⟩)), (.pointer (some ⟨w2.heap.size + 1, 0, none⟩)), (.int .i64 y.1), (.int .i64 y.2), (.bool false), (.pointer (some ⟨b, 0, none⟩)), (.bool true), (.bool false), (.bool false), (.int .i64 who), (.bool false), (.bool false), (.int .i64 ticks), (.bool false), (.bool false), (.bool false), (.int .i64 ticks), (.bool false), (.bool false), (.bool false), (.pointer (some ⟨b, 0, none⟩)), (.int .i64 who), (.int .i64 (-1)), (.bool false), (.pointer (some ⟨b, 0, none⟩)), (.func (.func 179) #[] #[.pointer (some ⟨w2.heap.size + 1 + 1, 0, none⟩)]), (.int .i64 y.1), (.int .i64 y.2), undef, undef, undef, undef, undef, undef, undef, undef, undef, undef, undef, undef, undef, undef, undef, undef, undef, undef, undef, undef, undef, undef, undef, undef, undef, undef, undef, undef, undef, undef, undef, undef, undef, undef, undef, undef, undef, undef, undef, undef, undef, undef], defers := [] }) ?assign ?body ?done ?stop
  case assign =>
    intro l x W K hK
    gi_wp2
    exact hK
  case body =>
    rintro l0 pre y W ⟨hI, hB⟩ _
    have HI := Lib.hid hI
    obtain ⟨h1, h2, h3, h4⟩ := hI
    have q5 := h1.cell (j := 0) (v := .int .i64 ticks) rfl
    have q7 := h2.cell (j := 0) (v := .int .i64 (nextAt pre)) rfl
    have f7 := h2.free 0
    have q8 := h3.cell (j := 0) (v := .int .i64 (nextAhead pre)) rfl
    have f8 := h3.free 0
    have H4 := Lib.hid h4
    clear h1 h2 h3 h4
    by_cases hlt : ticks < y.2
    · gi_wp2
      exact ⟨KeepsOthers.refl _, ⟨rfl, pre, y, rfl, hlt, HI.out⟩, hB⟩
    · gi_wp2
      obtain ⟨h1, h2, h3, h4⟩ := HI.out
      have n78 : ¬ w2.heap.size = w2.heap.size + 1 := by omega
      have r2 := h2.set 0 (.int .i64 (wrap64 (y.1 + 1)))
      have r3 := h3.other (q := w2.heap.size) (by omega) 0 (.int .i64 (wrap64 (y.1 + 1)))
      refine ⟨(KeepsOthers.setCell _ _ _).trans (KeepsOthers.setCell _ _ _), (KD.set h2 (.inr rfl) _ _).trans (KD.set r3 (.inl rfl) _ _), ⟨?_, ?_, ?_, ?_⟩, (hB.setCell (p := ⟨w2.heap.size, 0, none⟩) (by simp; omega) _).setCell (p := ⟨w2.heap.size + 1, 0, none⟩) (by simp; omega) _⟩
      · exact (h1.other (by omega) _ _).other (by omega) _ _
      · rw [nextAt_snoc]
        exact r2.other n78 _ _
      · rw [nextAhead_snoc]
        exact r3.set 0 _
      · intro u hu
        rw [List.mem_append] at hu
        rcases hu with hu | hu
        · exact H4.out u hu
        · simp at hu; subst hu; omega
  case done =>
    rintro D ys W hD rfl ⟨⟨h1, h2, h3, h4⟩, hB⟩ hK
    obtain ⟨e1, e2⟩ := next_naps (l := l) (by omega) (Nat.le_refl _)
    rw [← naps_len l, List.take_length] at e1 e2
    rw [e1] at h2
    rw [e2] at h3
    rw [naps_len] at h2 h3
    have hch : Ch No w W := Ch.below hB
    have q5 := h1.cell (j := 0) (v := .int .i64 ticks) rfl
    have q7 := h2.cell (j := 0) (v := .int .i64 (l.length : Int)) rfl
    have q8 := h3.cell (j := 0) (v := .int .i64 (ahead l l.length)) rfl
    have HB := Lib.hid hB
    have HK := Lib.hid hK
    obtain ⟨a, cap, hrow, k1, k2, hv⟩ := HD0.out.no hch
    have qb := hrow.cell (j := 0) (v := .slice a l.length cap) rfl
    have fb := hrow.free 0
    have hnl : decide ((l.length : Int) < (l.length : Int)) = false := by simp
    have HT1 := Lib.hid h1
    have HT7 := Lib.hid h2
    have HT8 := Lib.hid h3
    have H4 := Lib.hid h4
    have HROW := Lib.hid hrow
    clear h1 h2 h3 h4 e1 e2
    gi_wp2_with fail
    refine wpIn_wide.2 ?_
    go_region
    obtain ⟨W5, hW5⟩ : ∃ W5, W5 = W.drew := ⟨_, rfl⟩
    obtain ⟨LP, hLP⟩ : ∃ LP, LP = l := ⟨_, rfl⟩
    obtain ⟨K0, hK0⟩ : ∃ K0, K0 = l.length := ⟨_, rfl⟩
    have cW : Ch No W W5 := by rw [hW5]; exact Ch.drewN W 1
    have T1 := Lib.hid (HT1.out.keeps cW (fun x => x))
    have T7 : Hid (Row w2.heap.size 3 #[.int .i64 (K0 : Int)] W5) := Lib.hid (by rw [hK0]; exact HT7.out.keeps cW (fun x => x))
    have T8 : Hid (Row (w2.heap.size + 1) 2 #[.int .i64 (ahead l K0)] W5) := Lib.hid (by rw [hK0]; exact HT8.out.keeps cW (fun x => x))
    have HB5 := Lib.hid (HROW.out.keeps cW (fun x => x))
    have HV5 : Hid (DV c a LP cap W5) := Lib.hid (by rw [hLP]; exact hv.no cW)
    have K1 : Hid (LP.length ≤ cap) := Lib.hid (by rw [hLP]; exact k1)
    have K2 := Lib.hid k2
    have HC5 : Hid (Ch (Sd b c w) w W5) := Lib.hid ((hch.trans cW).mono (fun _ _ e => e.elim))
    have HK5 : Hid (W5.heap[D]? = some (.deferred (some []))) := Lib.hid (by rw [hW5]; exact HK.out)
    have HLEN : Hid (LP.length = l.length) := Lib.hid (by rw [hLP])
    have HKL : Hid (K0 ≤ LP.length) := Lib.hid (by rw [hLP, hK0]; exact Nat.le_refl _)
    have HFIN : Hid (ins LP K0 (who, ticks - ahead l K0) = dput who ticks 0 l) := Lib.hid (by
      rw [hLP, hK0, dput_at who ticks l l.length 0 (Nat.le_refl _) (fun j hj => ?_) (fun h => absurd h (Nat.lt_irrefl _))]
      · rw [← ins_less (Nat.le_refl _), lessAt_end, Int.zero_add]
      · have := H4.out ((j : Int), ahead l (j + 1)) (List.mem_of_getElem? (naps_at hj))
        simp only at this
        omega)
    rw [← hW5]
    clear hW5 cW hch hrow hv k1 k2 qb fb hnl q5 q7 q8 hK hB hLP hK0
    have S1 : W5.drew.cell? ⟨b, 0, none⟩ = some (.slice a l.length cap) := (HB5.out.drewN 1).cell (j := 0) rfl
    have S2 : W5.drew.cell? ⟨w.heap.size, 0, none⟩ = some (.int .i64 ticks) := (T1.out.drewN 1).cell (j := 0) rfl
    have S3 : W5.drew.cell? ⟨w2.heap.size, 0, none⟩ = some (.int .i64 (K0 : Nat)) := (T7.out.drewN 1).cell (j := 0) rfl
    have S4 : W5.drew.cell? ⟨w2.heap.size + 1, 0, none⟩ = some (.int .i64 (ahead l K0)) := (T8.out.drewN 1).cell (j := 0) rfl
    have hwr : IntKind.i64.wrap (ticks - ahead l K0) = ticks - ahead l K0 := by rw [IntKind.wrap_i64]; have := HS.out K0 (by have := HKL.out; have := HLEN.out; omega); omega
    gi_wp2_with fail
    refine wpIn_wide.2 ?_
    refine wp_region_noPanic ?_
    refine Lasts.begin (S := fun wx => wx.cell? ⟨b, 0, none⟩ = some (.slice a l.length cap) ∧ wx.cell? ⟨w.heap.size, 0, none⟩ = some (.int .i64 ticks) ∧ wx.cell? ⟨w2.heap.size, 0, none⟩ = some (.int .i64 (K0 : Nat)) ∧ wx.cell? ⟨w2.heap.size + 1, 0, none⟩ = some (.int .i64 (ahead l K0))) [13, 14, 15] (by kernel_rfl) ⟨S1, S2, S3, S4⟩ (fun hHeld => ?_)
    refine Lasts.take (i := 0) (v := ?_) rfl (by kernel_rfl) (by kernel_rfl) (by kernel_rfl) (by kernel_rfl) (fun _ _ _ h => h) (Or.inl ⟨by rfl, by intro wx hSw; (try dsimp only at hSw); go_simp; (try with_reducible rfl)⟩) (by assumption) ?_
    (try simp only [List.getElem_toArray, List.getElem_cons_succ, List.getElem_cons_zero, Act.put, List.setIfInBounds_toArray, List.set_cons_succ, List.set_cons_zero])
    refine Lasts.take (i := 1) (v := ?_) rfl (by kernel_rfl) (by kernel_rfl) (by kernel_rfl) (by kernel_rfl) (fun _ _ _ h => h) (Or.inl ⟨by rfl, by intro wx hSw; (try dsimp only at hSw); go_simp; (try with_reducible rfl)⟩) (by assumption) ?_
    (try simp only [List.getElem_toArray, List.getElem_cons_succ, List.getElem_cons_zero, Act.put, List.setIfInBounds_toArray, List.set_cons_succ, List.set_cons_zero])
    refine Lasts.take (i := 2) (v := ?_) rfl (by kernel_rfl) (by kernel_rfl) (by kernel_rfl) (by kernel_rfl) (fun _ _ _ h => h) (Or.inl ⟨by rfl, by intro wx hSw; (try dsimp only at hSw); go_simp; (try with_reducible rfl)⟩) (by assumption) ?_
    (try simp only [List.getElem_toArray, List.getElem_cons_succ, List.getElem_cons_zero, Act.put, List.setIfInBounds_toArray, List.set_cons_succ, List.set_cons_zero])
    refine Lasts.take (i := 3) (v := ?_) rfl (by kernel_rfl) (by kernel_rfl) (by kernel_rfl) (by kernel_rfl) (fun _ _ _ h => h) (Or.inl ⟨by rfl, by intro wx hSw; (try dsimp only at hSw); go_simp; (try with_reducible rfl)⟩) (by assumption) ?_
    (try simp only [List.getElem_toArray, List.getElem_cons_succ, List.getElem_cons_zero, Act.put, List.setIfInBounds_toArray, List.set_cons_succ, List.set_cons_zero])
    refine Lasts.take (i := 4) (v := ?_) rfl (by kernel_rfl) (by kernel_rfl) (by kernel_rfl) (by kernel_rfl) (fun _ _ _ h => h) (Or.inl ⟨by rfl, by intro wx hSw; (try dsimp only at hSw); go_simp; (try with_reducible rfl)⟩) (by assumption) ?_
    (try simp only [List.getElem_toArray, List.getElem_cons_succ, List.getElem_cons_zero, Act.put, List.setIfInBounds_toArray, List.set_cons_succ, List.set_cons_zero])
    refine Lasts.take (i := 5) (v := ?_) rfl (by kernel_rfl) (by kernel_rfl) (by kernel_rfl) (by kernel_rfl) (fun _ _ _ h => h) (Or.inl ⟨by rfl, by intro wx hSw; (try dsimp only at hSw); go_simp; (try with_reducible rfl)⟩) (by assumption) ?_
    (try simp only [List.getElem_toArray, List.getElem_cons_succ, List.getElem_cons_zero, Act.put, List.setIfInBounds_toArray, List.set_cons_succ, List.set_cons_zero])
    refine Lasts.take (i := 6) (v := ?_) rfl (by kernel_rfl) (by kernel_rfl) (by kernel_rfl) (by kernel_rfl) (fun _ _ _ h => h) (Or.inl ⟨by rfl, by intro wx hSw; (try dsimp only at hSw); go_simp; (try with_reducible rfl)⟩) (by assumption) ?_
    (try simp only [List.getElem_toArray, List.getElem_cons_succ, List.getElem_cons_zero, Act.put, List.setIfInBounds_toArray, List.set_cons_succ, List.set_cons_zero])
    refine Lasts.take (i := 7) (v := ?_) rfl (by kernel_rfl) (by kernel_rfl) (by kernel_rfl) (by kernel_rfl) (fun _ _ _ h => h) (Or.inl ⟨by rfl, by intro wx hSw; (try dsimp only at hSw); go_simp; (try with_reducible rfl)⟩) (by assumption) ?_
    (try simp only [List.getElem_toArray, List.getElem_cons_succ, List.getElem_cons_zero, Act.put, List.setIfInBounds_toArray, List.set_cons_succ, List.set_cons_zero])
    refine Lasts.take (i := 8) (v := ?_) rfl (by kernel_rfl) (by kernel_rfl) (by kernel_rfl) (by kernel_rfl) (fun _ _ _ h => h) (Or.inl ⟨by rfl, by intro wx hSw; (try dsimp only at hSw); go_simp; (try with_reducible rfl)⟩) (by assumption) ?_
    (try simp only [List.getElem_toArray, List.getElem_cons_succ, List.getElem_cons_zero, Act.put, List.setIfInBounds_toArray, List.set_cons_succ, List.set_cons_zero])
    refine Lasts.take (i := 9) (v := ?_) rfl (by kernel_rfl) (by kernel_rfl) (by kernel_rfl) (by kernel_rfl) (fun _ _ _ h => h) (Or.inl ⟨by rfl, by intro wx hSw; (try dsimp only at hSw); go_simp; (try with_reducible rfl)⟩) (by assumption) ?_
    (try simp only [List.getElem_toArray, List.getElem_cons_succ, List.getElem_cons_zero, Act.put, List.setIfInBounds_toArray, List.set_cons_succ, List.set_cons_zero])
    refine Lasts.take (i := 10) (v := ?_) rfl (by kernel_rfl) (by kernel_rfl) (by kernel_rfl) (by kernel_rfl) (fun _ _ _ h => h) (Or.inl ⟨by rfl, by intro wx hSw; (try dsimp only at hSw); go_simp; (try with_reducible rfl)⟩) (by assumption) ?_
    (try simp only [List.getElem_toArray, List.getElem_cons_succ, List.getElem_cons_zero, Act.put, List.setIfInBounds_toArray, List.set_cons_succ, List.set_cons_zero])
    refine Lasts.one (i := 11) (by kernel_rfl) rfl (fun K hK => ?_)
    go_simp
    obtain ⟨W6, hW6⟩ : ∃ W6, W6 = (W5.alloc (.cells #[.int .i64 who, .int .i64 (ticks - ahead l K0)] 289)).drew := ⟨_, rfl⟩
    have c6 : Ch No W5 W6 := by rw [hW6]; exact (Ch.alloc W5 _).trans (Ch.drewN _ 1)
    have HR6 : Hid (Row W5.heap.size 289 #[.int .i64 who, .int .i64 (ticks - ahead l K0)] W6) := Lib.hid (by rw [hW6]; exact (Row.new W5 289 _).drewN 1)
    have HC6 := Lib.hid c6
    have HV6 := Lib.hid (HV5.out.no c6)
    have E1 := Lib.hid (T1.out.keeps c6 (fun x => x))
    have E7 := Lib.hid (T7.out.keeps c6 (fun x => x))
    have E8 := Lib.hid (T8.out.keeps c6 (fun x => x))
    have EB := Lib.hid (HB5.out.keeps c6 (fun x => x))
    have HK6 : Hid (W6.heap[D]? = some (.deferred (some []))) := Lib.hid (c6.keeps HK5.out (fun x => x))
    rw [← hW6]
    refine hK.out _ _ ?_ (fun hHeld2 => ?_)
    · exact ⟨EB.out.cell (j := 0) rfl, E1.out.cell (j := 0) rfl, E7.out.cell (j := 0) rfl, E8.out.cell (j := 0) rfl⟩
    clear hK K hW6 c6
    (try simp only [List.getElem_toArray, List.getElem_cons_succ, List.getElem_cons_zero, Act.put, List.setIfInBounds_toArray, List.set_cons_succ, List.set_cons_zero])
    refine Lasts.one (i := 12) (by kernel_rfl) rfl (fun K hK => ?_)
    go_simp
    have hins := insert_any (i := K0) (vb := W5.heap.size) (x := (who, ticks - ahead l K0)) (l := LP) (by have := HLEN.out; omega) K1.out K2.out HV6.out HKL.out HR6.out (fun g off e hc0 => by
      obtain ⟨g', off', cs', e', _, r, _⟩ := HV5.out hc0
      rw [e] at e'
      cases e'
      have := r.lt
      omega) (by have := HC5.out.size; have := HC6.out.size; omega)
    rw [HLEN.out] at hins
    refine hins.mono ?_
    rintro e w7 ⟨a', cap', rfl, j1, j2, hv7, hch7⟩
    have E1 := Lib.hid (E1.out.keeps hch7 (fun s => by obtain ⟨_, cs', r⟩ := s; exact absurd rfl (Row.ne E1.out r (by decide))))
    have E7 := Lib.hid (E7.out.keeps hch7 (fun s => by obtain ⟨_, cs', r⟩ := s; exact absurd rfl (Row.ne E7.out r (by decide))))
    have E8 := Lib.hid (E8.out.keeps hch7 (fun s => by obtain ⟨_, cs', r⟩ := s; exact absurd rfl (Row.ne E8.out r (by decide))))
    have EB := Lib.hid (EB.out.keeps hch7 (fun s => by obtain ⟨_, cs', r⟩ := s; exact absurd rfl (Row.ne EB.out r (by decide))))
    have HK7 : Hid (w7.heap[D]? = some (.deferred (some []))) := Lib.hid (hch7.keeps HK6.out (fun s => by obtain ⟨_, cs', r⟩ := s; exact deferred_no HK6.out rfl r))
    have HV7 := Lib.hid hv7
    have HC67 : Hid (Ch (Sd b c w) w W6) := Lib.hid (HC5.out.trans' HC6.out (fun _ _ e => e.elim))
    have HC7 : Hid (Ch (Sd b c w) w w7) := Lib.hid (HC67.out.trans' hch7 (fun k hk s => Sd.back HC67.out hk s))
    have J1 := Lib.hid j1
    have J2 := Lib.hid j2
    clear hv7 hch7 hins j1 j2
    refine hK.out _ _ ?_ (fun hHeld2 => ?_)
    · exact ⟨EB.out.cell (j := 0) rfl, E1.out.cell (j := 0) rfl, E7.out.cell (j := 0) rfl, E8.out.cell (j := 0) rfl⟩
    clear hK K
    (try simp only [List.getElem_toArray, List.getElem_cons_succ, List.getElem_cons_zero, Act.put, List.setIfInBounds_toArray, List.set_cons_succ, List.set_cons_zero])
    have e8 := EB.out.cell (j := 0) (v := .slice a l.length cap) rfl
    have f8 := EB.out.free 0
    refine Lasts.tail (i := 13) (by kernel_rfl) (by decide) rfl (fun K hK => ?_)
    go_simp
    refine hK.out _ _ ?_
    clear hK K
    (try simp only [List.getElem_toArray, List.getElem_cons_succ, List.getElem_cons_zero, Act.put, List.setIfInBounds_toArray, List.set_cons_succ, List.set_cons_zero])
    refine Lasts.tail (i := 14) (by kernel_rfl) (by decide) rfl (fun K hK => ?_)
    go_simp
    refine hK.out _ _ ?_
    clear hK K
    (try simp only [List.getElem_toArray, List.getElem_cons_succ, List.getElem_cons_zero, Act.put, List.setIfInBounds_toArray, List.set_cons_succ, List.set_cons_zero])
    refine Lasts.tail (i := 15) (by kernel_rfl) (by decide) rfl (fun K hK => ?_)
    go_simp
    refine hK.out _ _ ?_
    clear hK K
    (try simp only [List.getElem_toArray, List.getElem_cons_succ, List.getElem_cons_zero, Act.put, List.setIfInBounds_toArray, List.set_cons_succ, List.set_cons_zero])
    refine Lasts.done (by kernel_rfl) ?_ _
    refine NoPanic.normal ?_
    gi_wp2_with fail
    have n1 : D ≠ b := fun e => deferred_no HK7.out rfl (by rw [e]; exact EB.out)
    have h8 := EB.out.set 0 (.slice a' (l.length + 1) cap')
    have hc8 := Ch.setCell (S := fun k => k = b) w7 b 0 (.slice a' (l.length + 1) cap') rfl
    have hv8 := HV7.out.keeps hc8 (fun k cs hk r e => by subst e; exact absurd rfl (Row.ne EB.out r (by decide)))
    have hK8 : (w7.setCell ⟨b, 0, none⟩ (.slice a' (l.length + 1) cap')).heap[D]? = some (.deferred (some [])) := by
      rw [Below.heap_setCell _ _ _ _ (by show D ≠ b; exact n1)]
      exact HK7.out
    have hC8 : Ch (Sd b c w) w (w7.setCell ⟨b, 0, none⟩ (.slice a' (l.length + 1) cap')) := HC7.out.trans' hc8 (fun k hk e => .inl e)
    refine ⟨by simp, .inl ⟨_, _, rfl, run_takeDeferred hK8, ?_⟩⟩
    refine ⟨.int .i64 0, by simp [results, Tryz.f178, go_sem], rfl, ?_, hC8.putObj _ (by omega)⟩
    have hil := ins_len (x := (who, ticks - ahead l K0)) HKL.out
    have hdl : DL b c (ins LP K0 (who, ticks - ahead l K0)) (w7.setCell ⟨b, 0, none⟩ (.slice a' (l.length + 1) cap')) :=
      ⟨a', cap', by rw [hil, HLEN.out]; simpa using h8, by rw [hil, HLEN.out]; exact J1.out, J2.out, hv8⟩
    rw [HFIN.out] at hdl
    exact hdl.kd (KD.putObj _ _ _ _ hK8 rfl)
  case stop =>
    rintro D c' pre W hD hpre ⟨⟨rfl, pre', y, rfl, hy, ⟨h1, h2, h3, h4⟩⟩, hB⟩ hK
    obtain ⟨k0, hk0⟩ : ∃ k0, k0 = pre'.length := ⟨_, rfl⟩
    obtain ⟨rest, hrest⟩ := hpre
    have hyk : (naps l)[k0]? = some y := by rw [← hrest, hk0]; simp
    have hkl : k0 < l.length := by have := (List.getElem?_eq_some_iff.1 hyk).1; rw [naps_len] at this; exact this
    have hpk : (naps l).take k0 = pre' := by rw [← hrest, hk0]; simp
    rw [naps_at hkl] at hyk
    cases hyk
    simp only at hy
    obtain ⟨e1, e2⟩ := next_naps (l := l) (by omega) (Nat.le_of_lt hkl)
    rw [hpk] at e1 e2
    rw [e1] at h2
    rw [e2] at h3
    have hch : Ch No w W := Ch.below hB
    obtain ⟨x, hx⟩ : ∃ x, l[k0]? = some x := ⟨_, List.getElem?_eq_getElem hkl⟩
    have hsu := ahead_succ hx
    have hb1 := HS.out k0 (by omega)
    have hb2 := HS.out (k0 + 1) (by omega)
    obtain ⟨a, cap, hrow0, k1, k2, hv0⟩ := HD0.out
    obtain ⟨g, off, cs, rfl, hcg, hr0, hs0, hh⟩ := hv0 (by omega)
    have hrow := hrow0.keeps hch (fun x => x)
    have hr := hr0.keeps hch (fun x => x)
    have nbg : b ≠ g := Row.ne hrow hr (by decide)
    have q5 := h1.cell (j := 0) (v := .int .i64 ticks) rfl
    have q7 := h2.cell (j := 0) (v := .int .i64 (k0 : Int)) rfl
    have q8 := h3.cell (j := 0) (v := .int .i64 (ahead l k0)) rfl
    have qb := hrow.cell (j := 0) (v := .slice (some ⟨g, off, none⟩) l.length cap) rfl
    have qm := hr.cell (hh k0 x hx).2
    have fm := hr.free (off + 2 * k0 + 1)
    rw [Nat.mul_comm 2 k0] at qm fm
    have hnl : decide ((k0 : Int) < (l.length : Int)) = true := by rw [decide_eq_true_iff]; omega
    have hin : 0 ≤ (k0 : Int) ∧ (k0 : Int) < (l.length : Int) := by omega
    have w1 : IntKind.i64.wrap (ticks - ahead l k0) = ticks - ahead l k0 := by rw [IntKind.wrap_i64]; omega
    have w2' : wrap64 (ticks - ahead l k0) = ticks - ahead l k0 := by unfold wrap64; omega
    have w3 : IntKind.i64.wrap (x.2 - (ticks - ahead l k0)) = x.2 - (ticks - ahead l k0) := by rw [IntKind.wrap_i64]; omega
    have w4 : wrap64 (x.2 - (ticks - ahead l k0)) = x.2 - (ticks - ahead l k0) := by unfold wrap64; omega
    have HT1 := Lib.hid h1
    have HT7 := Lib.hid h2
    have HT8 := Lib.hid h3
    have H4 := Lib.hid h4
    have HROW := Lib.hid hrow
    have HGR := Lib.hid hr
    have HGR0 := Lib.hid hr0
    have HHH := Lib.hid hh
    have HX := Lib.hid hx
    have HK := Lib.hid hK
    have HY := Lib.hid hy
    have HPK := Lib.hid hpk
    have HCH := Lib.hid hch
    clear h1 h2 h3 h4 e1 e2 hrow hrow0 hr hr0 hh hx hv0 hsu hb1 hb2 hK hB hch hy hpk hrest hk0
    gi_wp2_with fail
    refine wpIn_wide.2 ?_
    go_quiet (fail)
    gi_wp2_with fail
    refine wpIn_wide.2 ?_
    refine wp_region_noPanic ?_
    refine Lasts.begin (S := fun wx => wx.cell? ⟨b, 0, none⟩ = some (.slice (some ⟨g, off, none⟩) l.length cap) ∧ wx.cell? ⟨w.heap.size, 0, none⟩ = some (.int .i64 ticks) ∧ wx.cell? ⟨w2.heap.size, 0, none⟩ = some (.int .i64 (k0 : Nat)) ∧ wx.cell? ⟨w2.heap.size + 1, 0, none⟩ = some (.int .i64 (ahead l k0)) ∧ wx.cell? ⟨g, off + k0 * 2 + 1, none⟩ = some (.int .i64 x.2)) [12, 13, 14] (by kernel_rfl) ⟨qb, q5, q7, q8, qm⟩ (fun hHeld => ?_)
    refine Lasts.take (i := 0) (v := ?_) rfl (by kernel_rfl) (by kernel_rfl) (by kernel_rfl) (by kernel_rfl) (fun _ _ _ h => h) (Or.inl ⟨by rfl, by intro wx hSw; (try dsimp only at hSw); go_simp; (try with_reducible rfl)⟩) (by assumption) ?_
    (try simp only [List.getElem_toArray, List.getElem_cons_succ, List.getElem_cons_zero, Act.put, List.setIfInBounds_toArray, List.set_cons_succ, List.set_cons_zero])
    refine Lasts.take (i := 1) (v := ?_) rfl (by kernel_rfl) (by kernel_rfl) (by kernel_rfl) (by kernel_rfl) (fun _ _ _ h => h) (Or.inl ⟨by rfl, by intro wx hSw; (try dsimp only at hSw); go_simp; (try with_reducible rfl)⟩) (by assumption) ?_
    (try simp only [List.getElem_toArray, List.getElem_cons_succ, List.getElem_cons_zero, Act.put, List.setIfInBounds_toArray, List.set_cons_succ, List.set_cons_zero])
    refine Lasts.take (i := 2) (v := ?_) rfl (by kernel_rfl) (by kernel_rfl) (by kernel_rfl) (by kernel_rfl) (fun _ _ _ h => h) (Or.inl ⟨by rfl, by intro wx hSw; (try dsimp only at hSw); go_simp; (try with_reducible rfl)⟩) (by assumption) ?_
    (try simp only [List.getElem_toArray, List.getElem_cons_succ, List.getElem_cons_zero, Act.put, List.setIfInBounds_toArray, List.set_cons_succ, List.set_cons_zero])
    refine Lasts.take (i := 3) (v := ?_) rfl (by kernel_rfl) (by kernel_rfl) (by kernel_rfl) (by kernel_rfl) (fun _ _ _ h => h) (Or.inl ⟨by rfl, by intro wx hSw; (try dsimp only at hSw); go_simp; (try with_reducible rfl)⟩) (by assumption) ?_
    (try simp only [List.getElem_toArray, List.getElem_cons_succ, List.getElem_cons_zero, Act.put, List.setIfInBounds_toArray, List.set_cons_succ, List.set_cons_zero])
    refine Lasts.take (i := 4) (v := ?_) rfl (by kernel_rfl) (by kernel_rfl) (by kernel_rfl) (by kernel_rfl) (fun _ _ _ h => h) (Or.inl ⟨by rfl, by intro wx hSw; (try dsimp only at hSw); go_simp; (try with_reducible rfl)⟩) (by assumption) ?_
    (try simp only [List.getElem_toArray, List.getElem_cons_succ, List.getElem_cons_zero, Act.put, List.setIfInBounds_toArray, List.set_cons_succ, List.set_cons_zero])
    refine Lasts.take (i := 5) (v := ?_) rfl (by kernel_rfl) (by kernel_rfl) (by kernel_rfl) (by kernel_rfl) (fun _ _ _ h => h) (Or.inl ⟨by rfl, by intro wx hSw; (try dsimp only at hSw); go_simp; (try with_reducible rfl)⟩) (by assumption) ?_
    (try simp only [List.getElem_toArray, List.getElem_cons_succ, List.getElem_cons_zero, Act.put, List.setIfInBounds_toArray, List.set_cons_succ, List.set_cons_zero])
    refine Lasts.take (i := 6) (v := ?_) rfl (by kernel_rfl) (by kernel_rfl) (by kernel_rfl) (by kernel_rfl) (fun _ _ _ h => h) (Or.inl ⟨by rfl, by intro wx hSw; (try dsimp only at hSw); go_simp; (try with_reducible rfl)⟩) (by assumption) ?_
    (try simp only [List.getElem_toArray, List.getElem_cons_succ, List.getElem_cons_zero, Act.put, List.setIfInBounds_toArray, List.set_cons_succ, List.set_cons_zero])
    refine Lasts.take (i := 7) (v := ?_) rfl (by kernel_rfl) (by kernel_rfl) (by kernel_rfl) (by kernel_rfl) (fun _ _ _ h => h) (Or.inl ⟨by rfl, by intro wx hSw; (try dsimp only at hSw); go_simp; (try with_reducible rfl)⟩) (by assumption) ?_
    (try simp only [List.getElem_toArray, List.getElem_cons_succ, List.getElem_cons_zero, Act.put, List.setIfInBounds_toArray, List.set_cons_succ, List.set_cons_zero])
    refine Lasts.take (i := 8) (v := ?_) rfl (by kernel_rfl) (by kernel_rfl) (by kernel_rfl) (by kernel_rfl) (fun _ _ _ h => h) (Or.inl ⟨by rfl, by intro wx hSw; (try dsimp only at hSw); go_simp; (try with_reducible rfl)⟩) (by assumption) ?_
    (try simp only [List.getElem_toArray, List.getElem_cons_succ, List.getElem_cons_zero, Act.put, List.setIfInBounds_toArray, List.set_cons_succ, List.set_cons_zero])
    refine Lasts.take (i := 9) (v := ?_) rfl (by kernel_rfl) (by kernel_rfl) (by kernel_rfl) (by kernel_rfl) (fun _ _ _ h => h) (Or.inl ⟨by rfl, by intro wx hSw; (try dsimp only at hSw); go_simp; (try with_reducible rfl)⟩) (by assumption) ?_
    (try simp only [List.getElem_toArray, List.getElem_cons_succ, List.getElem_cons_zero, Act.put, List.setIfInBounds_toArray, List.set_cons_succ, List.set_cons_zero])
    refine Lasts.take (i := 10) (v := ?_) rfl (by kernel_rfl) (by kernel_rfl) (by kernel_rfl) (by kernel_rfl) (fun _ _ _ h => h) (Or.inl ⟨by rfl, by intro wx hSw; (try dsimp only at hSw); go_simp; (try with_reducible rfl)⟩) (by assumption) ?_
    (try simp only [List.getElem_toArray, List.getElem_cons_succ, List.getElem_cons_zero, Act.put, List.setIfInBounds_toArray, List.set_cons_succ, List.set_cons_zero])
    refine Lasts.take (i := 11) (v := ?_) rfl (by kernel_rfl) (by kernel_rfl) (by kernel_rfl) (by kernel_rfl) (fun _ _ _ h => h) (Or.inl ⟨by rfl, by intro wx hSw; (try dsimp only at hSw); go_simp; (try with_reducible rfl)⟩) (by assumption) ?_
    (try simp only [List.getElem_toArray, List.getElem_cons_succ, List.getElem_cons_zero, Act.put, List.setIfInBounds_toArray, List.set_cons_succ, List.set_cons_zero])
    refine Lasts.tail (i := 12) (by kernel_rfl) (by decide) rfl (fun K hK => ?_)
    go_simp
    refine hK.out _ _ ?_
    clear hK K
    (try simp only [List.getElem_toArray, List.getElem_cons_succ, List.getElem_cons_zero, Act.put, List.setIfInBounds_toArray, List.set_cons_succ, List.set_cons_zero])
    refine Lasts.tail (i := 13) (by kernel_rfl) (by decide) rfl (fun K hK => ?_)
    go_simp
    refine hK.out _ _ ?_
    clear hK K
    (try simp only [List.getElem_toArray, List.getElem_cons_succ, List.getElem_cons_zero, Act.put, List.setIfInBounds_toArray, List.set_cons_succ, List.set_cons_zero])
    refine Lasts.tail (i := 14) (by kernel_rfl) (by decide) rfl (fun K hK => ?_)
    go_simp
    refine hK.out _ _ ?_
    clear hK K
    (try simp only [List.getElem_toArray, List.getElem_cons_succ, List.getElem_cons_zero, Act.put, List.setIfInBounds_toArray, List.set_cons_succ, List.set_cons_zero])
    refine Lasts.done (by kernel_rfl) ?_ _
    refine NoPanic.normal ?_
    obtain ⟨W5, hW5⟩ : ∃ W5, W5 = (W.drewN (nq + 1)).setCell ⟨g, off + k0 * 2 + 1, none⟩ (.int .i64 (x.2 - (ticks - ahead l k0))) := ⟨_, rfl⟩
    obtain ⟨LP, hLP⟩ : ∃ LP, LP = lessAt l k0 (ticks - ahead l k0) := ⟨_, rfl⟩
    obtain ⟨K0, hK0⟩ : ∃ K0, K0 = k0 := ⟨_, rfl⟩
    obtain ⟨a, ha⟩ : ∃ a : Option Addr, a = some ⟨g, off, none⟩ := ⟨_, rfl⟩
    have cW : Ch (fun k => k = g) W W5 := by rw [hW5]; exact (Ch.drewN W _).trans (Ch.setCell (S := fun k => k = g) _ g _ _ rfl)
    have T1 := Lib.hid (HT1.out.keeps cW (Row.ne HT1.out HGR.out (by decide)))
    have T7 : Hid (Row w2.heap.size 3 #[.int .i64 (K0 : Int)] W5) := Lib.hid (by rw [hK0]; exact HT7.out.keeps cW (Row.ne HT7.out HGR.out (by decide)))
    have T8 : Hid (Row (w2.heap.size + 1) 2 #[.int .i64 (ahead l K0)] W5) := Lib.hid (by rw [hK0]; exact HT8.out.keeps cW (Row.ne HT8.out HGR.out (by decide)))
    have HB5 : Hid (Row b 238 #[.slice a l.length cap, .bool true] W5) := Lib.hid (by rw [ha]; exact HROW.out.keeps cW nbg)
    have HV5 : Hid (DV c a LP cap W5) := Lib.hid (by
      have := DV.less hcg (HGR.out.drewN (nq + 1)) hs0 k1 HHH.out HX.out (ticks - ahead l k0)
      rw [Nat.mul_comm 2 k0] at this
      rw [ha, hLP, hW5]
      exact this)
    have K1 : Hid (LP.length ≤ cap) := Lib.hid (by rw [hLP, lessAt_len]; exact k1)
    have K2 := Lib.hid k2
    have HC5 : Hid (Ch (Sd b c w) w W5) := Lib.hid ((HCH.out.mono (fun _ _ e => e.elim)).trans' cW (fun k hk e => .inr ⟨by rw [e]; exact hcg, cs, by rw [e]; exact HGR0.out⟩))
    have HK5 : Hid (W5.heap[D]? = some (.deferred (some []))) := Lib.hid (cW.keeps HK.out (fun e => deferred_no HK.out rfl (by rw [e]; exact HGR.out)))
    have HLEN : Hid (LP.length = l.length) := Lib.hid (by rw [hLP, lessAt_len])
    have HKL : Hid (K0 ≤ LP.length) := Lib.hid (by rw [hLP, hK0, lessAt_len]; omega)
    have HFIN : Hid (ins LP K0 (who, ticks - ahead l K0) = dput who ticks 0 l) := Lib.hid (by
      rw [hLP, hK0, dput_at who ticks l k0 0 (Nat.le_of_lt hkl) (fun j hj => ?_) (fun _ => by have := HY.out; omega)]
      · rw [← ins_less (Nat.le_of_lt hkl), Int.zero_add]
      · have hj2 : ((j : Int), ahead l (j + 1)) ∈ pre' := by
          rw [← HPK.out]
          refine List.mem_of_getElem? (i := j) ?_
          rw [List.getElem?_take_of_lt hj]
          exact naps_at (by omega)
        have := H4.out _ hj2
        simp only at this
        omega)
    rw [← hW5]
    clear hW5 cW qb fm qm q5 q7 q8 hnl hin w1 w2' w3 w4 hcg hs0 k1 k2 hLP hkl
    clear hK0 ha
    have S1 : W5.drew.cell? ⟨b, 0, none⟩ = some (.slice a l.length cap) := (HB5.out.drewN 1).cell (j := 0) rfl
    have S2 : W5.drew.cell? ⟨w.heap.size, 0, none⟩ = some (.int .i64 ticks) := (T1.out.drewN 1).cell (j := 0) rfl
    have S3 : W5.drew.cell? ⟨w2.heap.size, 0, none⟩ = some (.int .i64 (K0 : Nat)) := (T7.out.drewN 1).cell (j := 0) rfl
    have S4 : W5.drew.cell? ⟨w2.heap.size + 1, 0, none⟩ = some (.int .i64 (ahead l K0)) := (T8.out.drewN 1).cell (j := 0) rfl
    have hwr : IntKind.i64.wrap (ticks - ahead l K0) = ticks - ahead l K0 := by rw [IntKind.wrap_i64]; have := HS.out K0 (by have := HKL.out; have := HLEN.out; omega); omega
    gi_wp2_with fail
    refine wpIn_wide.2 ?_
    refine wp_region_noPanic ?_
    refine Lasts.begin (S := fun wx => wx.cell? ⟨b, 0, none⟩ = some (.slice a l.length cap) ∧ wx.cell? ⟨w.heap.size, 0, none⟩ = some (.int .i64 ticks) ∧ wx.cell? ⟨w2.heap.size, 0, none⟩ = some (.int .i64 (K0 : Nat)) ∧ wx.cell? ⟨w2.heap.size + 1, 0, none⟩ = some (.int .i64 (ahead l K0))) [13, 14, 15] (by kernel_rfl) ⟨S1, S2, S3, S4⟩ (fun hHeld => ?_)
    refine Lasts.take (i := 0) (v := ?_) rfl (by kernel_rfl) (by kernel_rfl) (by kernel_rfl) (by kernel_rfl) (fun _ _ _ h => h) (Or.inl ⟨by rfl, by intro wx hSw; (try dsimp only at hSw); go_simp; (try with_reducible rfl)⟩) (by assumption) ?_
    (try simp only [List.getElem_toArray, List.getElem_cons_succ, List.getElem_cons_zero, Act.put, List.setIfInBounds_toArray, List.set_cons_succ, List.set_cons_zero])
    refine Lasts.take (i := 1) (v := ?_) rfl (by kernel_rfl) (by kernel_rfl) (by kernel_rfl) (by kernel_rfl) (fun _ _ _ h => h) (Or.inl ⟨by rfl, by intro wx hSw; (try dsimp only at hSw); go_simp; (try with_reducible rfl)⟩) (by assumption) ?_
    (try simp only [List.getElem_toArray, List.getElem_cons_succ, List.getElem_cons_zero, Act.put, List.setIfInBounds_toArray, List.set_cons_succ, List.set_cons_zero])
    refine Lasts.take (i := 2) (v := ?_) rfl (by kernel_rfl) (by kernel_rfl) (by kernel_rfl) (by kernel_rfl) (fun _ _ _ h => h) (Or.inl ⟨by rfl, by intro wx hSw; (try dsimp only at hSw); go_simp; (try with_reducible rfl)⟩) (by assumption) ?_
    (try simp only [List.getElem_toArray, List.getElem_cons_succ, List.getElem_cons_zero, Act.put, List.setIfInBounds_toArray, List.set_cons_succ, List.set_cons_zero])
    refine Lasts.take (i := 3) (v := ?_) rfl (by kernel_rfl) (by kernel_rfl) (by kernel_rfl) (by kernel_rfl) (fun _ _ _ h => h) (Or.inl ⟨by rfl, by intro wx hSw; (try dsimp only at hSw); go_simp; (try with_reducible rfl)⟩) (by assumption) ?_
    (try simp only [List.getElem_toArray, List.getElem_cons_succ, List.getElem_cons_zero, Act.put, List.setIfInBounds_toArray, List.set_cons_succ, List.set_cons_zero])
    refine Lasts.take (i := 4) (v := ?_) rfl (by kernel_rfl) (by kernel_rfl) (by kernel_rfl) (by kernel_rfl) (fun _ _ _ h => h) (Or.inl ⟨by rfl, by intro wx hSw; (try dsimp only at hSw); go_simp; (try with_reducible rfl)⟩) (by assumption) ?_
    (try simp only [List.getElem_toArray, List.getElem_cons_succ, List.getElem_cons_zero, Act.put, List.setIfInBounds_toArray, List.set_cons_succ, List.set_cons_zero])
    refine Lasts.take (i := 5) (v := ?_) rfl (by kernel_rfl) (by kernel_rfl) (by kernel_rfl) (by kernel_rfl) (fun _ _ _ h => h) (Or.inl ⟨by rfl, by intro wx hSw; (try dsimp only at hSw); go_simp; (try with_reducible rfl)⟩) (by assumption) ?_
    (try simp only [List.getElem_toArray, List.getElem_cons_succ, List.getElem_cons_zero, Act.put, List.setIfInBounds_toArray, List.set_cons_succ, List.set_cons_zero])
    refine Lasts.take (i := 6) (v := ?_) rfl (by kernel_rfl) (by kernel_rfl) (by kernel_rfl) (by kernel_rfl) (fun _ _ _ h => h) (Or.inl ⟨by rfl, by intro wx hSw; (try dsimp only at hSw); go_simp; (try with_reducible rfl)⟩) (by assumption) ?_
    (try simp only [List.getElem_toArray, List.getElem_cons_succ, List.getElem_cons_zero, Act.put, List.setIfInBounds_toArray, List.set_cons_succ, List.set_cons_zero])
    refine Lasts.take (i := 7) (v := ?_) rfl (by kernel_rfl) (by kernel_rfl) (by kernel_rfl) (by kernel_rfl) (fun _ _ _ h => h) (Or.inl ⟨by rfl, by intro wx hSw; (try dsimp only at hSw); go_simp; (try with_reducible rfl)⟩) (by assumption) ?_
    (try simp only [List.getElem_toArray, List.getElem_cons_succ, List.getElem_cons_zero, Act.put, List.setIfInBounds_toArray, List.set_cons_succ, List.set_cons_zero])
    refine Lasts.take (i := 8) (v := ?_) rfl (by kernel_rfl) (by kernel_rfl) (by kernel_rfl) (by kernel_rfl) (fun _ _ _ h => h) (Or.inl ⟨by rfl, by intro wx hSw; (try dsimp only at hSw); go_simp; (try with_reducible rfl)⟩) (by assumption) ?_
    (try simp only [List.getElem_toArray, List.getElem_cons_succ, List.getElem_cons_zero, Act.put, List.setIfInBounds_toArray, List.set_cons_succ, List.set_cons_zero])
    refine Lasts.take (i := 9) (v := ?_) rfl (by kernel_rfl) (by kernel_rfl) (by kernel_rfl) (by kernel_rfl) (fun _ _ _ h => h) (Or.inl ⟨by rfl, by intro wx hSw; (try dsimp only at hSw); go_simp; (try with_reducible rfl)⟩) (by assumption) ?_
    (try simp only [List.getElem_toArray, List.getElem_cons_succ, List.getElem_cons_zero, Act.put, List.setIfInBounds_toArray, List.set_cons_succ, List.set_cons_zero])
    refine Lasts.take (i := 10) (v := ?_) rfl (by kernel_rfl) (by kernel_rfl) (by kernel_rfl) (by kernel_rfl) (fun _ _ _ h => h) (Or.inl ⟨by rfl, by intro wx hSw; (try dsimp only at hSw); go_simp; (try with_reducible rfl)⟩) (by assumption) ?_
    (try simp only [List.getElem_toArray, List.getElem_cons_succ, List.getElem_cons_zero, Act.put, List.setIfInBounds_toArray, List.set_cons_succ, List.set_cons_zero])
    refine Lasts.one (i := 11) (by kernel_rfl) rfl (fun K hK => ?_)
    go_simp
    obtain ⟨W6, hW6⟩ : ∃ W6, W6 = (W5.alloc (.cells #[.int .i64 who, .int .i64 (ticks - ahead l K0)] 289)).drew := ⟨_, rfl⟩
    have c6 : Ch No W5 W6 := by rw [hW6]; exact (Ch.alloc W5 _).trans (Ch.drewN _ 1)
    have HR6 : Hid (Row W5.heap.size 289 #[.int .i64 who, .int .i64 (ticks - ahead l K0)] W6) := Lib.hid (by rw [hW6]; exact (Row.new W5 289 _).drewN 1)
    have HC6 := Lib.hid c6
    have HV6 := Lib.hid (HV5.out.no c6)
    have E1 := Lib.hid (T1.out.keeps c6 (fun x => x))
    have E7 := Lib.hid (T7.out.keeps c6 (fun x => x))
    have E8 := Lib.hid (T8.out.keeps c6 (fun x => x))
    have EB := Lib.hid (HB5.out.keeps c6 (fun x => x))
    have HK6 : Hid (W6.heap[D]? = some (.deferred (some []))) := Lib.hid (c6.keeps HK5.out (fun x => x))
    rw [← hW6]
    refine hK.out _ _ ?_ (fun hHeld2 => ?_)
    · exact ⟨EB.out.cell (j := 0) rfl, E1.out.cell (j := 0) rfl, E7.out.cell (j := 0) rfl, E8.out.cell (j := 0) rfl⟩
    clear hK K hW6 c6
    (try simp only [List.getElem_toArray, List.getElem_cons_succ, List.getElem_cons_zero, Act.put, List.setIfInBounds_toArray, List.set_cons_succ, List.set_cons_zero])
    refine Lasts.one (i := 12) (by kernel_rfl) rfl (fun K hK => ?_)
    go_simp
    have hins := insert_any (i := K0) (vb := W5.heap.size) (x := (who, ticks - ahead l K0)) (l := LP) (by have := HLEN.out; omega) K1.out K2.out HV6.out HKL.out HR6.out (fun g off e hc0 => by
      obtain ⟨g', off', cs', e', _, r, _⟩ := HV5.out hc0
      rw [e] at e'
      cases e'
      have := r.lt
      omega) (by have := HC5.out.size; have := HC6.out.size; omega)
    rw [HLEN.out] at hins
    refine hins.mono ?_
    rintro e w7 ⟨a', cap', rfl, j1, j2, hv7, hch7⟩
    have E1 := Lib.hid (E1.out.keeps hch7 (fun s => by obtain ⟨_, cs', r⟩ := s; exact absurd rfl (Row.ne E1.out r (by decide))))
    have E7 := Lib.hid (E7.out.keeps hch7 (fun s => by obtain ⟨_, cs', r⟩ := s; exact absurd rfl (Row.ne E7.out r (by decide))))
    have E8 := Lib.hid (E8.out.keeps hch7 (fun s => by obtain ⟨_, cs', r⟩ := s; exact absurd rfl (Row.ne E8.out r (by decide))))
    have EB := Lib.hid (EB.out.keeps hch7 (fun s => by obtain ⟨_, cs', r⟩ := s; exact absurd rfl (Row.ne EB.out r (by decide))))
    have HK7 : Hid (w7.heap[D]? = some (.deferred (some []))) := Lib.hid (hch7.keeps HK6.out (fun s => by obtain ⟨_, cs', r⟩ := s; exact deferred_no HK6.out rfl r))
    have HV7 := Lib.hid hv7
    have HC67 : Hid (Ch (Sd b c w) w W6) := Lib.hid (HC5.out.trans' HC6.out (fun _ _ e => e.elim))
    have HC7 : Hid (Ch (Sd b c w) w w7) := Lib.hid (HC67.out.trans' hch7 (fun k hk s => Sd.back HC67.out hk s))
    have J1 := Lib.hid j1
    have J2 := Lib.hid j2
    clear hv7 hch7 hins j1 j2
    refine hK.out _ _ ?_ (fun hHeld2 => ?_)
    · exact ⟨EB.out.cell (j := 0) rfl, E1.out.cell (j := 0) rfl, E7.out.cell (j := 0) rfl, E8.out.cell (j := 0) rfl⟩
    clear hK K
    (try simp only [List.getElem_toArray, List.getElem_cons_succ, List.getElem_cons_zero, Act.put, List.setIfInBounds_toArray, List.set_cons_succ, List.set_cons_zero])
    have e8 := EB.out.cell (j := 0) (v := .slice a l.length cap) rfl
    have f8 := EB.out.free 0
    refine Lasts.tail (i := 13) (by kernel_rfl) (by decide) rfl (fun K hK => ?_)
    go_simp
    refine hK.out _ _ ?_
    clear hK K
    (try simp only [List.getElem_toArray, List.getElem_cons_succ, List.getElem_cons_zero, Act.put, List.setIfInBounds_toArray, List.set_cons_succ, List.set_cons_zero])
    refine Lasts.tail (i := 14) (by kernel_rfl) (by decide) rfl (fun K hK => ?_)
    go_simp
    refine hK.out _ _ ?_
    clear hK K
    (try simp only [List.getElem_toArray, List.getElem_cons_succ, List.getElem_cons_zero, Act.put, List.setIfInBounds_toArray, List.set_cons_succ, List.set_cons_zero])
    refine Lasts.tail (i := 15) (by kernel_rfl) (by decide) rfl (fun K hK => ?_)
    go_simp
    refine hK.out _ _ ?_
    clear hK K
    (try simp only [List.getElem_toArray, List.getElem_cons_succ, List.getElem_cons_zero, Act.put, List.setIfInBounds_toArray, List.set_cons_succ, List.set_cons_zero])
    refine Lasts.done (by kernel_rfl) ?_ _
    refine NoPanic.normal ?_
    gi_wp2_with fail
    have n1 : D ≠ b := fun e => deferred_no HK7.out rfl (by rw [e]; exact EB.out)
    have h8 := EB.out.set 0 (.slice a' (l.length + 1) cap')
    have hc8 := Ch.setCell (S := fun k => k = b) w7 b 0 (.slice a' (l.length + 1) cap') rfl
    have hv8 := HV7.out.keeps hc8 (fun k cs hk r e => by subst e; exact absurd rfl (Row.ne EB.out r (by decide)))
    have hK8 : (w7.setCell ⟨b, 0, none⟩ (.slice a' (l.length + 1) cap')).heap[D]? = some (.deferred (some [])) := by
      rw [Below.heap_setCell _ _ _ _ (by show D ≠ b; exact n1)]
      exact HK7.out
    have hC8 : Ch (Sd b c w) w (w7.setCell ⟨b, 0, none⟩ (.slice a' (l.length + 1) cap')) := HC7.out.trans' hc8 (fun k hk e => .inl e)
    refine ⟨by simp, .inl ⟨_, _, rfl, run_takeDeferred hK8, ?_⟩⟩
    refine ⟨.int .i64 0, by simp [results, Tryz.f178, go_sem], rfl, ?_, hC8.putObj _ (by omega)⟩
    have hil := ins_len (x := (who, ticks - ahead l K0)) HKL.out
    have hdl : DL b c (ins LP K0 (who, ticks - ahead l K0)) (w7.setCell ⟨b, 0, none⟩ (.slice a' (l.length + 1) cap')) :=
      ⟨a', cap', by rw [hil, HLEN.out]; simpa using h8, by rw [hil, HLEN.out]; exact J1.out, J2.out, hv8⟩
    rw [HFIN.out] at hdl
    exact hdl.kd (KD.putObj _ _ _ _ hK8 rfl)
end Go.Proofs.YtcngfaggignmpaaGreatDoor
