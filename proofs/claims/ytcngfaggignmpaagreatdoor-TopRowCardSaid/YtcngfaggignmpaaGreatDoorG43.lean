/-
  The top, part 43: Sent, Top.
-/
import Derived.Test.YtcngfaggignmpaaGreatDoorG40
import Derived.Test.YtcngfaggignmpaaGreatDoorG42

/-
  The top: what the two say and get.
-/
namespace Go.Proofs.YtcngfaggignmpaaGreatDoor
open Go.RowKit

/-- The bytes 1 .. n. -/
def bys (n : Nat) : List UInt8 := (List.range n).map (fun j => UInt8.ofNat (j + 1))
theorem bys_nums {n : Nat} (h : n ≤ 50) : nums 0 n = (bys n).map (fun b => (b.toNat : Int)) := by
  unfold nums bys
  rw [List.map_map]
  refine List.map_congr_left (fun j hj => ?_)
  rw [List.mem_range] at hj
  simp only [Function.comp_apply]
  have e : (UInt8.ofNat (j + 1)).toNat = j + 1 := by
    show (j + 1) % 256 = j + 1
    omega
  rw [e]
  congr 1
  omega
/-- A slice of bytes, as long as nothing is turned. -/
def Cut (v : Value) (L : Nat) (w : World) : Prop := ∃ o cap, v = .slice o L cap ∧ (0 < L → ∃ b off, o = some ⟨b, off, none⟩ ∧ ∀ j, j < L → ∃ x : Int, 0 ≤ x ∧ x ≤ 255 ∧ w.cell? ⟨b, off + j, none⟩ = some (.int .u8 x))
theorem cell_keeps {S : Nat → Prop} {w w' : World} (g : Ch S w w') (hS : ∀ k, S k → w.heap.size ≤ k) {b off : Nat} {v : Value} (h : w.cell? ⟨b, off, none⟩ = some v) : w'.cell? ⟨b, off, none⟩ = some v := by
  have hb : b < w.heap.size := World.block_lt_of_cell? w _ h
  have := g.block b hb (fun s => by have := hS b s; omega)
  unfold World.cell? at h ⊢
  rw [this]
  exact h

theorem rsLess {B T U : Nat} {tb bx : Nat → Nat} {gs : Nat → CG} {tp : Nat} {code : Nat → List IN} {n most : Nat} {R : Nat → Nat} {u u' : Nat} {w : World} (hu : u ≤ u') (h : RS B T U tb bx gs tp code (J n most R) u w) : RS B T U tb bx gs tp code (J n most R) u' w := by
  obtain ⟨m, sv, cs, an, os, clk, h⟩ := h
  obtain ⟨q, s, d, k0, k1, hj, hm⟩ := h.p
  exact ⟨m, sv, cs, an, os, clk, h.st, ⟨q, s, d, k0, k1, hj, Nat.le_trans hm hu⟩, h.tan, h.live, h.own, h.cod, h.tell⟩

set_option maxRecDepth 100000 in
set_option maxHeartbeats 8000000 in
theorem sent_any (w : World) (n most p g s L : Nat) (v : Value) (hn : 1 ≤ n ∧ n ≤ 50) (hm : 1 ≤ most ∧ most ≤ 64) (hp : p < 32) (hg : g < 32) (hs : 1 ≤ s ∧ s ≤ 100) (hv : Cut v L w) (hL : L ≤ 1000) :
    Calls Tryz.prog 6 #[.int .u8 n, .int .u8 most, .int .i64 p, .int .i64 g, .int .i64 s, v] w fun e w' => e = .returned (.tuple #[.string ⟨(bys n).toArray⟩, .bool true]) ∧ Ch No w w' := by
  obtain ⟨o, cap, rfl, hcut⟩ := hv
  have HCUT := Lib.hid hcut
  clear hcut
  go_enter Tryz.func6, Tryz.ntmps6
  go_wp2_with fail
  refine (boardNew_any w s (by omega) (by omega)).mono ?_; rintro e w1 ⟨B, hB, rfl, hkn, hbd, hmp, hsz, hch⟩
  have HB := Lib.hid hB
  have HKN := Lib.hid hkn
  have HBD := Lib.hid hbd
  have HMP := Lib.hid hmp
  have HSZ := Lib.hid hsz
  have C1 := Lib.hid hch
  clear hB hkn hbd hmp hsz hch
  go_wp2_with fail
  refine (bKernel_any HBD.out).mono ?_; rintro e w2 ⟨rfl, rfl⟩
  go_wp2_with fail
  refine (thingNew_any most hm.1 hm.2 (by rw [HSZ.out]; exact Nat.le_refl _) HKN.out).mono ?_; rintro e w2 ⟨T, U, rfl, hks, hT, hU, hch⟩
  have hst : BS B T U (fun i => U + 3 + i) (fun _ => 0) (fun _ => ⟨0, 0, 0, 0, 0, []⟩) (km0 s most) (fun _ => .slice none 0 0) (fun _ => cm0) (fun _ => 0) [] 0 w2 :=
    .first hks (HBD.out.keeps hch (by omega)) (hch.keeps HMP.out (by omega))
  have HST := Lib.hid hst
  have C2 : Hid (Ch (fun k => w.heap.size ≤ k) w w2) := Lib.hid ((C1.out.mono (fun _ _ e => e.elim)).trans (hch.mono (fun k _ e => by have := HB.out; show w.heap.size ≤ k; omega)))
  clear hst hks hT hU hch
  go_wp2_with fail
  have hpu := puts_any w2 n (by omega)
  unfold imV at hpu
  refine hpu.mono ?_; rintro e w3 ⟨b, cp, rfl, hcode, hch⟩
  clear hpu
  obtain ⟨k1, t1, _, _, a1, u1⟩ := (ki0 (R := rk2 p g) s most (by omega) (by omega)).made (i := 0) (r := p) (by decide) rfl rfl hp
  obtain ⟨k2, t2, _, _, a2, u2⟩ := k1.made (i := 1) (r := g) (by decide) (by rw [t1]; rfl) rfl hg
  have hl := load_any (i := 0) (r := p) (cap := cp) (HST.out.no hch) (ki0 (R := rk2 p g) s most (by omega) (by omega)).cons (by decide) rfl rfl rfl (fun j hj => absurd hj (by omega)) hp k1.calm (fun ⟨s, hs⟩ => by cases hs) (Nat.le_of_ble_eq_true rfl) (Nat.le_of_ble_eq_true rfl) hcode (puts_ok n (by omega))
  have HL1 := Lib.hid hl
  have C3 : Hid (Ch (fun k => w.heap.size ≤ k) w w3) := Lib.hid (C2.out.trans (hch.mono (fun _ _ e => e.elim)))
  clear hl hch hcode
  have hl := HL1.out
  unfold imV at hl
  rw [show (putsC n).length = 10 from rfl, show (256 + ((0 : Nat) : Int)) = 256 from rfl] at hl
  go_wp2_with fail
  refine hl.mono ?_; rintro e w4 ⟨nb0, b0, g0, rfl, hg0, hst4, hch⟩
  have HG0 := Lib.hid hg0
  have HST4 := Lib.hid hst4
  have C4 : Hid (Ch (fun k => w.heap.size ≤ k) w w4) := Lib.hid (C3.out.trans (hch.mono (fun k _ e => Nat.le_trans HB.out e)))
  clear hl hg0 hst4 hch HL1
  go_wp2_with fail
  have hpu := gets_any w4 n (by omega)
  unfold imV at hpu
  refine hpu.mono ?_; rintro e w5 ⟨b, cp, rfl, hcode, hch⟩
  clear hpu
  have hl := load_any (i := 1) (r := g) (cap := cp) (HST4.out.no hch) k1.cons (by decide) (by rw [t1]; rfl) (by rw [(a1 1 (by decide)).1]; rfl) (by rw [(a1 1 (by decide)).2]; rfl) (fun j hj => (show j = 0 by omega) ▸ u1) hg k2.calm (fun ⟨s, hs⟩ => by simp at hs) (Nat.le_of_ble_eq_true rfl) (Nat.le_of_ble_eq_true rfl) hcode (gets_ok n (by omega))
  have HL2 := Lib.hid hl
  have C5 : Hid (Ch (fun k => w.heap.size ≤ k) w w5) := Lib.hid (C4.out.trans (hch.mono (fun _ _ e => e.elim)))
  clear hl hch hcode k1 k2 t1 t2 a1 a2 u1 u2
  have hl := HL2.out
  unfold imV at hl
  rw [show (getsC n).length = 10 from rfl, show (256 + ((1 : Nat) : Int)) = 257 from rfl] at hl
  go_wp2_with fail
  refine hl.mono ?_; rintro e w6 ⟨nb1, b1, g1, rfl, hg1, hst6, hch⟩
  have hrs := RS.start (s := s) (by omega) (by omega) hp hg ⟨hn.1, hn.2, hm.1, hm.2⟩ HG0.out hg1 hst6
  have C6 : Hid (Ch (fun k => w.heap.size ≤ k) w w6) := Lib.hid (C5.out.trans (hch.mono (fun k _ e => Nat.le_trans HB.out e)))
  obtain ⟨tb6, htb⟩ : ∃ tb6, tb6 = tb2 (tb2 (fun i => U + 3 + i) (km0 s most) 0 nb0) ((km0 s most).task 0 p) 1 nb1 := ⟨_, rfl⟩
  obtain ⟨bx6, hbx⟩ : ∃ bx6, bx6 = upd (upd (fun _ => 0) 0 b0) 1 b1 := ⟨_, rfl⟩
  obtain ⟨gs6, hgs⟩ : ∃ gs6, gs6 = upd (upd (fun _ => ⟨0, 0, 0, 0, 0, []⟩) 0 g0) 1 g1 := ⟨_, rfl⟩
  rw [← htb, ← hbx, ← hgs] at hrs
  have HRS := Lib.hid hrs
  clear hl hg1 hst6 hch hrs htb hbx hgs HL2 HST HST4 HG0 HKN HBD HMP HSZ
  go_wp2_with fail
  go_loopw [22] (fun i wr => ∃ k : Nat, k ≤ 18 * n + 60 ∧ i = .int .i64 (k : Int) ∧ RS B T U tb6 bx6 gs6 1 (codes2 n) (J n most (rk2 p g)) (14 * n + 5 - k) wr ∧ Ch (fun z => w.heap.size ≤ z) w wr) (fun i _ => 18 * n + 60 - (intOf i).toNat)
  case atStart => exact ⟨0, by omega, rfl, HRS.out, C6.out⟩
  case round =>
    obtain ⟨k, hk, rfl, hrs, hch⟩ := hrel
    by_cases hlt : k < 18 * n + 60
    · by_cases h0 : L = 0
      · subst h0
        have hrun := run_any (w := wr) (fun m cs u (h : J n most (rk2 p g) m cs u) => h.one2) 7 (by decide) hrs
        have HR := Lib.hid hrun
        have HCH := Lib.hid hch
        clear hrun hrs hch
        go_wp2_with fail
        refine HR.out.mono ?_; rintro e w7 ⟨rfl, hrs, hch⟩
        have HRS7 := Lib.hid hrs
        have C7 : Hid (Ch (fun z => w.heap.size ≤ z) w w7) := Lib.hid (HCH.out.trans (hch.mono (fun z _ e => Nat.le_trans HB.out e)))
        clear hrs hch
        go_wp2_with fail
        refine (tickRS HRS7.out).mono ?_; rintro e w8 ⟨rfl, hrs, hch⟩
        have HRS8 := Lib.hid hrs
        have C8 : Hid (Ch (fun z => w.heap.size ≤ z) w w8) := Lib.hid (C7.out.trans (hch.mono (fun z _ e => Nat.le_trans HB.out e)))
        clear hrs hch
        go_wp2_with fail
        go_roundw
        case rel => exact ⟨k + 1, by omega, by go_num, rsLess (by omega) HRS8.out, C8.out⟩
        case measure => simp [intOf]; omega
      · obtain ⟨b, off, rfl, hcut⟩ := HCUT.out (by omega)
        have hm0 : 0 ≤ (k : Int) % (L : Int) ∧ (k : Int) % (L : Int) < (L : Int) := ⟨Int.emod_nonneg _ (by omega), Int.emod_lt_of_pos _ (by omega)⟩
        obtain ⟨q, hq⟩ : ∃ q : Nat, (k : Int) % (L : Int) = (q : Int) := ⟨((k : Int) % (L : Int)).toNat, by omega⟩
        have hqL : q < L := by omega
        obtain ⟨x, x0, x1, hx⟩ := hcut q hqL
        have hxr := cell_keeps hch (fun _ e => e) hx
        obtain ⟨c, hc⟩ : ∃ c : Nat, (c : Int) = 1 + x % 20 := ⟨(1 + x % 20).toNat, by omega⟩
        have hrun := run_any (w := wr) (fun m cs u (h : J n most (rk2 p g) m cs u) => h.one2) c (by omega) hrs
        rw [hc] at hrun
        have HR := Lib.hid hrun
        have HCH := Lib.hid hch
        have HC1 : Hid (1 ≤ c) := Lib.hid (by omega)
        clear hrun hrs hch hcut hx hc
        go_wp2_with fail
        refine HR.out.mono ?_; rintro e w7 ⟨rfl, hrs, hch⟩
        have HRS7 := Lib.hid hrs
        have C7 : Hid (Ch (fun z => w.heap.size ≤ z) w w7) := Lib.hid (HCH.out.trans (hch.mono (fun z _ e => Nat.le_trans HB.out e)))
        clear hrs hch
        go_wp2_with fail
        refine (tickRS HRS7.out).mono ?_; rintro e w8 ⟨rfl, hrs, hch⟩
        have HRS8 := Lib.hid hrs
        have C8 : Hid (Ch (fun z => w.heap.size ≤ z) w w8) := Lib.hid (C7.out.trans (hch.mono (fun z _ e => Nat.le_trans HB.out e)))
        clear hrs hch
        go_wp2_with fail
        go_roundw
        case rel => exact ⟨k + 1, by omega, by go_num, rsLess (by have := HC1.out; omega) HRS8.out, C8.out⟩
        case measure => simp [intOf]; omega
    · obtain rfl : k = 18 * n + 60 := by omega
      have e0 : 14 * n + 5 - (18 * n + 60) = 0 := by omega
      rw [e0] at hrs
      obtain ⟨m, sv, cs, an, os, clk, hri⟩ := hrs
      have hj : (cs 1).says = nums 0 n := hri.p.all
      obtain ⟨t, ht⟩ : ∃ t, m.tk 1 = some t := by
        obtain ⟨_, _, _, _, _, hji, _⟩ := hri.p
        have := hji.get
        cases e : m.tk 1 with
        | none => rw [e] at this; exact this.elim
        | some t => exact ⟨t, rfl⟩
      have hco := console18_any (l := bys n) hri ht (by rw [hj]; exact bys_nums hn.2)
      rw [show (256 + ((1 : Nat) : Int)) = 257 from rfl] at hco
      have HCO := Lib.hid hco
      have HCH := Lib.hid hch
      clear hco hri hch hj ht hlt
      go_wp2_with fail
      refine HCO.out.mono ?_; rintro e w7 ⟨rfl, hch⟩
      have C7 : Hid (Ch (fun z => w.heap.size ≤ z) w w7) := Lib.hid (HCH.out.trans (hch.mono (fun z _ e => Nat.le_trans HB.out e)))
      clear hch
      go_wp2_with fail
      go_ret2
      exact ⟨rfl, C7.out.mono (fun z hz e => absurd e (by omega))⟩
end Go.Proofs.YtcngfaggignmpaaGreatDoor

/-
  The top: TopRow.
-/
namespace Go.Proofs.YtcngfaggignmpaaGreatDoor
open Go.RowKit

set_option maxRecDepth 100000 in
set_option maxHeartbeats 4000000 in
theorem known_any (w : World) : Calls Tryz.prog 5 #[] w fun e w' => e = .returned (.bool true) ∧ Ch No w w' := by
  have hs := sent_any w 3 2 5 5 2 0 (.slice none 0 0) (by decide) (by decide) (by decide) (by decide) (by decide) ⟨none, 0, rfl, fun h => absurd h (by decide)⟩ (by decide)
  rw [show bys 3 = [1, 2, 3] by decide] at hs
  go_enter Tryz.func5, Tryz.ntmps5
  go_wp2_with fail
  refine hs.mono ?_; rintro e w1 ⟨rfl, hch⟩
  go_wp2_with fail
  go_ret
  exact ⟨rfl, hch⟩

theorem bys_at {n j : Nat} (h : j < n) : (bys n).toArray[j]? = some (UInt8.ofNat (j + 1)) := by
  simp [bys, h]
theorem bys_len (n : Nat) : (bys n).length = n := by simp [bys]

set_option maxRecDepth 100000 in
set_option maxHeartbeats 8000000 in
theorem topRow_any (w : World) (x0 x1 x2 x3 x4 : Int) (o : Option Addr) (L cap : Nat) (h0 : 0 ≤ x0 ∧ x0 ≤ 255) (h1 : 0 ≤ x1 ∧ x1 ≤ 255) (h2 : 0 ≤ x2 ∧ x2 ≤ 255) (h3 : 0 ≤ x3 ∧ x3 ≤ 255) (h4 : 0 ≤ x4 ∧ x4 ≤ 255) (hL : L ≤ maxLen)
    (hcut : 0 < L → ∃ b off, o = some ⟨b, off, none⟩ ∧ ∀ j, j < L → ∃ x : Int, 0 ≤ x ∧ x ≤ 255 ∧ w.cell? ⟨b, off + j, none⟩ = some (.int .u8 x)) :
    Calls Tryz.prog 3 #[.agg #[.int .u8 x0, .int .u8 x1, .int .u8 x2, .int .u8 x3, .int .u8 x4, .slice o L cap]] w fun e w' => e = .returned (.bool true) ∧ Ch No w w' := by
  obtain ⟨W0, hW0⟩ : ∃ W0, W0 = w.alloc (.cells #[.int .u8 x0, .int .u8 x1, .int .u8 x2, .int .u8 x3, .int .u8 x4, .slice o L cap] 24) := ⟨_, rfl⟩
  have c0 : Ch No w W0 := by rw [hW0]; exact Ch.alloc w _
  have hcut0 : Cut (.slice o L cap) L W0 := ⟨o, cap, rfl, fun hp => by
    obtain ⟨b, off, ho, hc⟩ := hcut hp
    refine ⟨b, off, ho, fun j hj => ?_⟩
    obtain ⟨x, a, b, c⟩ := hc j hj
    exact ⟨x, a, b, cell_keeps c0 (fun _ e => e.elim) c⟩⟩
  have HW := Lib.hid hW0
  have C0 := Lib.hid c0
  unfold maxLen at hL
  clear hW0 hcut c0
  by_cases hbig : (50 : Int) < (L : Int)
  · go_enter Tryz.func3, Tryz.ntmps3
    go_wp2_with fail
    rw [← HW.out]
    refine (known_any W0).mono ?_; rintro e w1 ⟨rfl, hch⟩
    go_wp2_with fail
    go_ret
    exact ⟨rfl, C0.out.trans hch⟩
  · obtain ⟨n, hn⟩ : ∃ n : Nat, 1 + x0 % 50 = (n : Int) := ⟨(1 + x0 % 50).toNat, by omega⟩
    obtain ⟨most, hmost⟩ : ∃ n : Nat, 1 + x1 % 64 = (n : Int) := ⟨(1 + x1 % 64).toNat, by omega⟩
    obtain ⟨p, hp⟩ : ∃ n : Nat, x2 % 32 = (n : Int) := ⟨(x2 % 32).toNat, by omega⟩
    obtain ⟨g, hg⟩ : ∃ n : Nat, x3 % 32 = (n : Int) := ⟨(x3 % 32).toNat, by omega⟩
    obtain ⟨s, hs⟩ : ∃ n : Nat, 1 + x4 % 100 = (n : Int) := ⟨(1 + x4 % 100).toNat, by omega⟩
    have hn50 : n ≤ 50 := by omega
    have hse := sent_any W0 n most p g s L (.slice o L cap) (by omega) (by omega) (by omega) (by omega) (by omega) hcut0 (by omega)
    rw [← hn, ← hmost, ← hp, ← hg, ← hs] at hse
    have HSE := Lib.hid hse
    have HN := Lib.hid hn
    have HN50 := Lib.hid hn50
    clear hse hcut0 hmost hp hg hs hn hn50
    go_enter Tryz.func3, Tryz.ntmps3
    go_wp2_with fail
    rw [← HW.out]
    refine HSE.out.mono ?_; rintro e w1 ⟨rfl, hch⟩
    have C1 := Lib.hid (C0.out.trans hch)
    have hl := bys_len n
    have hne : ((n : Int) != 1 + x0 % 50) = false := by rw [HN.out]; simp
    clear hch HSE
    go_wp2_with fail
    go_loopw [6] (fun i wr => ∃ k : Nat, k ≤ n ∧ i = .int .i64 (k : Int) ∧ wr = w1) (fun i _ => n - (intOf i).toNat)
    case atStart => exact ⟨0, by omega, rfl, rfl⟩
    case round =>
      obtain ⟨k, hk, rfl, rfl⟩ := hrel
      by_cases hlt : k < n
      · have hsz : k < (⟨(bys n).toArray⟩ : ByteArray).size := by show k < (bys n).toArray.size; simp [bys_len, hlt]
        have hx : (((((⟨(bys n).toArray⟩ : ByteArray)[k]'hsz).toNat : Nat) : Int) != (k : Int) + 1) = false := by
          have hn5 := HN50.out
          have h1 : ((⟨(bys n).toArray⟩ : ByteArray)[k]'hsz) = UInt8.ofNat (k + 1) := by
            have hix := bys_at hlt
            rw [Array.getElem?_eq_some_iff] at hix
            exact hix.2
          rw [h1]
          have h2 : (UInt8.ofNat (k + 1)).toNat = k + 1 := by
            show (k + 1) % 256 = k + 1
            omega
          rw [h2]
          simp
        have hn5 := HN50.out
        go_wp2_with fail
        go_roundw
        case rel => exact ⟨k + 1, by omega, by go_num, trivial⟩
        case measure => simp [intOf]; omega
      · obtain rfl : k = n := by omega
        go_wp2_with fail
        refine (known_any wr).mono ?_; rintro e w2 ⟨rfl, hch⟩
        go_wp2_with fail
        go_ret
        exact ⟨rfl, C1.out.trans hch⟩
end Go.Proofs.YtcngfaggignmpaaGreatDoor
