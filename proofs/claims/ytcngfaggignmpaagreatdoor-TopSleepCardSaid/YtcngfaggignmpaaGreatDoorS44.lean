/-
  The top, part 44: NapTop.
-/
import Derived.Test.YtcngfaggignmpaaGreatDoorS41
import Derived.Test.YtcngfaggignmpaaGreatDoorS43

/-
  The top: TopSleep.
-/
namespace Go.Proofs.YtcngfaggignmpaaGreatDoor
open Go.RowKit

/-- A slice of those that nap: of each one the rank, and the ticks. -/
def Naps (o : Option Addr) (L : Nat) (xr xt : Nat → Nat) (w : World) : Prop := 0 < L → ∃ b off, o = some ⟨b, off, none⟩ ∧ ∀ j, j < L → xr j ≤ 255 ∧ xt j ≤ 255 ∧ w.cell? ⟨b, off + j * 2, none⟩ = some (.int .u8 (xr j : Int)) ∧ w.cell? ⟨b, off + j * 2 + 1, none⟩ = some (.int .u8 (xt j : Int))
theorem Naps.keeps {o : Option Addr} {L : Nat} {xr xt : Nat → Nat} {w w' : World} {S : Nat → Prop} (h : Naps o L xr xt w) (g : Ch S w w') (hS : ∀ k, S k → w.heap.size ≤ k) : Naps o L xr xt w' := fun hp => by
  obtain ⟨b, off, e, hc⟩ := h hp
  refine ⟨b, off, e, fun j hj => ?_⟩
  obtain ⟨h1, h2, h3, h4⟩ := hc j hj
  exact ⟨h1, h2, cell_keeps g hS h3, cell_keeps g hS h4⟩

set_option maxRecDepth 100000 in
set_option maxHeartbeats 8000000 in
theorem topSleep_any (w : World) (o : Option Addr) (L cap : Nat) (x : Int) (xr xt : Nat → Nat) (hL : L ≤ maxLen) (hx : 0 ≤ x ∧ x ≤ 255) (hn : Naps o L xr xt w) :
    Calls Tryz.prog 4 #[.slice o L cap, .int .u8 x] w fun e w' => e = .returned (.bool true) ∧ Ch (fun z => w.heap.size ≤ z) w w' := by
  unfold maxLen at hL
  have HN := Lib.hid hn
  clear hn
  by_cases hbig : (12 : Int) < (L : Int)
  · go_enter Tryz.func4, Tryz.ntmps4
    go_wp2_with fail
    refine (known_any w).mono ?_; rintro e w1 ⟨rfl, hch⟩
    go_wp2_with fail
    go_ret
    exact ⟨rfl, hch.mono (fun _ _ e => e.elim)⟩
  · have hL12 : L ≤ 12 := by omega
    obtain ⟨s, hs⟩ : ∃ n : Nat, 1 + x % 50 = (n : Int) := ⟨(1 + x % 50).toNat, by omega⟩
    have hs1 : 1 ≤ s ∧ s ≤ 50 := by omega
    have HB0 := Lib.hid (boardNew_any w (s : Int) (by omega) (by omega))
    rw [← hs] at HB0
    have HSS := Lib.hid hs
    obtain ⟨RF, hRF⟩ : ∃ RF : Nat → Nat, RF = fun j => xr j % 32 := ⟨_, rfl⟩
    have HRF := Lib.hid hRF
    clear hs hRF
    go_enter Tryz.func4, Tryz.ntmps4
    go_wp2_with fail
    refine HB0.out.mono ?_; rintro e w1 ⟨B, hB, rfl, hkn, hbd, hmp, hsz, hch⟩
    have HB := Lib.hid hB
    have HKN := Lib.hid hkn
    have HBD := Lib.hid hbd
    have HMP := Lib.hid hmp
    have HSZ := Lib.hid hsz
    have C1 := Lib.hid hch
    clear hB hkn hbd hmp hsz hch
    go_wp2_with fail
    refine (bKernel_any HBD.out).mono ?_; rintro e w2 ⟨rfl, rfl⟩
    go_wp2_with fail
    refine (thingNew_any 64 (by decide) (by decide) (by rw [HSZ.out]; exact Nat.le_refl _) HKN.out).mono ?_; rintro e w2 ⟨T, U, rfl, hks, hT, hU, hch⟩
    rw [HSS.out] at hks
    have hst : BS B T U (fun i => U + 3 + i) (fun _ => 0) (fun _ => ⟨0, 0, 0, 0, 0, []⟩) (km0 s 64) (fun _ => .slice none 0 0) (fun _ => cm0) (fun _ => 0) [] 0 w2 :=
      .first hks (HBD.out.keeps hch (by omega)) (hch.keeps HMP.out (by omega))
    have HST : Hid (LS B T U RF xt 0 w2) := Lib.hid (LS.first (by omega) (by omega) hst)
    have C2 : Hid (Ch (fun k => w.heap.size ≤ k) w w2) := Lib.hid ((C1.out.mono (fun _ _ e => e.elim)).trans (hch.mono (fun k _ e => by have := HB.out; show w.heap.size ≤ k; omega)))
    clear hst hks hT hU hch
    go_wp2_with fail
    go_loopw [10, 11, 12] (fun i _ _ wr => ∃ k : Nat, k ≤ L ∧ i = .int .i64 (k : Int) ∧ LS B T U RF xt k wr ∧ Ch (fun z => w.heap.size ≤ z) w wr) (fun i _ _ _ => L - (intOf i).toNat)
    case atStart => exact ⟨0, by omega, rfl, HST.out, C2.out⟩
    case round =>
      obtain ⟨k, hk, rfl, hls, hch⟩ := hrel
      have HLS := Lib.hid hls
      have HCH := Lib.hid hch
      clear hls hch
      by_cases hlt : k < L
      · obtain ⟨b, off, rfl, hcells⟩ := (HN.out.keeps HCH.out (fun _ e => e)) (by omega)
        obtain ⟨hr1, ht1, hcr, hct⟩ := hcells k hlt
        have hin : 0 ≤ (k : Int) ∧ (k : Int) < (L : Int) := by omega
        have hw8 : IntKind.u8.wrap (k : Int) = (k : Int) := by rw [IntKind.wrap_u8]; omega
        have hw64 : IntKind.i64.wrap (xr k : Int) = (xr k : Int) := by rw [IntKind.wrap_i64]; omega
        have hrm : Int.tmod (xr k : Int) 32 = (RF k : Int) := by rw [HRF.out, Int.tmod_eq_emod_of_nonneg (by omega)]; show (xr k : Int) % 32 = ((xr k % 32 : Nat) : Int); omega
        have HCW : Hid (∀ W, Ch (fun z => w.heap.size ≤ z) w W → W.cell? ⟨b, off + k * 2, none⟩ = some (.int .u8 (xr k : Int)) ∧ W.cell? ⟨b, off + k * 2 + 1, none⟩ = some (.int .u8 (xt k : Int))) := Lib.hid (fun W hW => by
          obtain ⟨b', off', e, hc⟩ := (HN.out.keeps hW (fun _ e => e)) (by omega)
          cases e
          exact ⟨(hc k hlt).2.2.1, (hc k hlt).2.2.2⟩)
        clear hcells
        go_wp2_with fail
        go_region_held3 (fun wx => wx.cell? ⟨b, off + k * 2, none⟩ = some (.int .u8 (xr k : Int)) ∧ wx.cell? ⟨b, off + k * 2 + 1, none⟩ = some (.int .u8 (xt k : Int))) (first | exact ⟨by assumption, by assumption⟩ | go_keep) (first
          | (go_at_call 11; refine (askIn_any 2 _).mono ?_; rintro e w3 ⟨rfl, hch3⟩
             have HC3 : Hid (Ch (fun z => w.heap.size ≤ z) w w3) := Lib.hid (HCH.out.trans (((Ch.drewN wr 1).trans hch3).mono (fun _ _ e => e.elim)))
             have HL3 := Lib.hid (HLS.out.no ((Ch.drewN wr 1).trans hch3))
             obtain ⟨e1, e2⟩ := HCW.out w3 HC3.out
             clear hch3
             unfold inV)
          | (go_at_call 11; refine (askIn_any 7 _).mono ?_; rintro e w4 ⟨rfl, hch4⟩
             have HC4 : Hid (Ch (fun z => w.heap.size ≤ z) w w4) := Lib.hid (HC3.out.trans (hch4.mono (fun _ _ e => e.elim)))
             have HL4 := Lib.hid (HL3.out.no hch4)
             obtain ⟨g1, g2⟩ := HCW.out w4 HC4.out
             clear hch4
             unfold inV)
          | (go_at_call 10
             have hl := LS.load (b := w4.heap.size) (cap := 6) (HL4.out.no (Ch.alloc w4 (.cells #[.int .u8 1, .int .u8 3, .int .u8 0, .int .u8 (xt k), .int .u8 21, .int .u8 2, .int .u8 0, .int .u8 0, .int .u8 1, .int .u8 0, .int .u8 1, .int .u8 0, .int .u8 1, .int .u8 1, .int .u8 0, .int .u8 k, .int .u8 21, .int .u8 7, .int .u8 0, .int .u8 0, .int .u8 22, .int .u8 0, .int .u8 0, .int .u8 0] 49))) (by omega) (by rw [HRF.out]; show xr k % 32 < 32; omega) (by omega) ⟨_, Row.new w4 49 _, fun j u hj => by simpa [flat, inCells, napC] using hj⟩
             unfold imV at hl
             refine hl.mono ?_; rintro e w5 ⟨rfl, hls5, hch5⟩
             have HC5 : Hid (Ch (fun z => w.heap.size ≤ z) w w5) := Lib.hid ((HC4.out.trans (Ch.alloc w4 _)).trans (hch5.mono (fun z _ e => Nat.le_trans HB.out e)))
             have HL5 := Lib.hid hls5
             obtain ⟨k1, k2⟩ := HCW.out w5 HC5.out
             clear hl hls5 hch5))
        all_goals
          clear HL3 HL4 HC3 HC4 e1 e2 g1 g2 k1 k2 hcr hct
          go_wp2_with fail
          go_roundw
          case rel => exact ⟨k + 1, by omega, by go_num, HL5.out, HC5.out⟩
          case measure => simp [intOf]; omega
      · have hkL : k = L := by omega
        have hdk : decide ((k : Int) < (L : Int)) = false := by rw [decide_eq_false_iff_not]; omega
        obtain ⟨Z, hZ1, hZ2, hmk⟩ := mkBool L hL12
        have hxt : ∀ i, i < L → xt i ≤ 255 := fun i hi => by
          obtain ⟨b, off, e, hc⟩ := HN.out (by omega)
          exact (hc i hi).2.1
        obtain ⟨tb, bx, gs, hrw⟩ := LS.start (L := L) (by rw [← hkL]; exact HLS.out) hL12 hxt
        obtain ⟨W1, hW1⟩ : ∃ W1, W1 = wr.alloc (.cells Z 4) := ⟨_, rfl⟩
        obtain ⟨hb, hhb⟩ : ∃ hb, hb = wr.heap.size := ⟨_, rfl⟩
        have c1 : Ch No wr W1 := by rw [hW1]; exact Ch.alloc _ _
        have HH1 : Hid (Hd hb L (fun j => decide (xt j < 0)) W1) := Lib.hid ⟨Z, by rw [hW1, hhb]; exact Row.new wr 4 Z, hZ1, fun j hj => by rw [hZ2 j hj]; simp⟩
        have hbU : U + 3 ≤ hb := by
          obtain ⟨m, sv, cs, an, os, clk, h⟩ := hrw
          rw [hhb]
          exact h.st.kern.room
        have hwb : w.heap.size ≤ hb := by rw [hhb]; exact HCH.out.size
        have HR1 := Lib.hid (hrw.no c1)
        have HC1 : Hid (Ch (fun z => w.heap.size ≤ z) w W1) := Lib.hid (HCH.out.trans (c1.mono (fun _ _ e => e.elim)))
        have HW1 := Lib.hid hW1
        have HHB := Lib.hid hhb
        have HXT := Lib.hid hxt
        clear hZ1 hZ2 hrw hW1 hhb c1 hkL hk hxt HLS hdk
        go_wp2_with fail
        rw [← HW1.out, ← HHB.out]
        clear hlt hmk
        go_loopw [14, 15, 16, 17, 18, 19, 20, 21] (fun t _ _ _ _ _ _ _ wx => ∃ q : Nat, q ≤ 256 ∧ t = .int .i64 (q : Int) ∧ RW B T U tb bx gs 16 (napCodes xt) (NP L RF xt q) 72 wx ∧ Hd hb L (fun j => decide (xt j < q)) wx ∧ Ch (fun z => w.heap.size ≤ z) w wx) (fun t _ _ _ _ _ _ _ _ => 256 - (intOf t).toNat)
        case atStart => exact ⟨0, by omega, rfl, HR1.out, HH1.out, HC1.out⟩
        case round =>
          obtain ⟨q, hq, rfl, hrw, hhd, hchq⟩ := hrel
          have HRW := Lib.hid hrw
          have HHD := Lib.hid hhd
          have HCQ := Lib.hid hchq
          clear hrw hhd hchq
          by_cases hq256 : q < 256
          · have HRUN := Lib.hid (run_rest (fun m cs u (h : NP L RF xt q m cs u) => h.one) 1000 (by decide) (by decide) HRW.out)
            go_wp2_with fail
            refine HRUN.out.mono ?_; rintro e w3 ⟨d, hd, rfl, hrs, hch3⟩
            have hd100 : decide (100 < (d : Int)) = false := by rw [decide_eq_false_iff_not]; omega
            have hd100' : decide (100 < d) = false := by rw [decide_eq_false_iff_not]; omega
            have nb3 : ∀ W, Hd hb L (fun j => decide (xt j < q)) W → ¬ Bn B U W hb := fun W h s => by
              obtain ⟨cs, r⟩ := h.row
              rcases s.2 with e | e
              · omega
              · exact e cs r
            have HH3 := Lib.hid (HHD.out.keeps hch3 (nb3 _ HHD.out))
            have HRS3 := Lib.hid hrs
            have HC3 : Hid (Ch (fun z => w.heap.size ≤ z) w w3) := Lib.hid (HCQ.out.trans (hch3.mono (fun z _ e => Nat.le_trans HB.out e.1)))
            clear hrs hch3 HRUN nb3
            go_wp2_with fail
            refine (thingsRS HRS3.out).mono ?_; rintro e w4 ⟨g, v, rows, rfl, hg, ⟨cs4, hrow4, hc6⟩, hu32, hmem, hord, hnod, hrs4, hch4⟩
            obtain ⟨ra, rcap, rfl⟩ := hu32.slice
            rw [List.length_map] at hc6 hu32
            have q6 := hrow4.cell hc6
            have HH4 := Lib.hid (HH3.out.keeps hch4 (fun x => x))
            have HRS4 := Lib.hid hrs4
            have HC4 : Hid (Ch (fun z => w.heap.size ≤ z) w w4) := Lib.hid (HC3.out.trans (hch4.mono (fun _ _ e => e.elim)))
            have HU := Lib.hid hu32
            have HMEM := Lib.hid hmem
            have HORD := Lib.hid hord
            have HNOD := Lib.hid hnod
            clear hrow4 hc6 hu32 hmem hord hnod hrs4 hch4
            have hrl : rows.length ≤ 12 := nodup_leN 12 rows HNOD.out (fun x hx => by have := ((HMEM.out x).1 hx).1; omega)
            have hbase : hb < w3.heap.size := by obtain ⟨cs, r⟩ := HH3.out.row; exact r.lt
            go_wp2_with fail
            go_loopw [19, 20, 21] (fun i _ _ wx => ∃ p : Nat, p ≤ rows.length ∧ i = .int .i64 (p : Int) ∧ Ch (fun z => z = hb) w4 wx ∧ Hd hb L (fun j => decide (xt j < q) || decide (j ∈ rows.take p)) wx) (fun i _ _ _ => rows.length - (intOf i).toNat)
            case atStart => exact ⟨0, by omega, rfl, Ch.refl _ _, HH4.out.congr (fun j _ => by simp)⟩
            case round =>
              obtain ⟨p, hp, rfl, hchp, hhp⟩ := hrel
              have HCP := Lib.hid hchp
              have HHP := Lib.hid hhp
              clear hchp hhp
              by_cases hpl : p < rows.length
              · obtain ⟨i0, hi0⟩ : ∃ i0, rows[p]? = some i0 := ⟨_, List.getElem?_eq_getElem hpl⟩
                have hmi := (HMEM.out i0).1 (List.mem_of_getElem? hi0)
                have hiL : i0 < L := hmi.1
                have hiq : xt i0 ≤ q := hmi.2
                have hno : i0 ∉ rows.take p := fun hx => by
                  have e2 : rows[p] = i0 := (List.getElem?_eq_some_iff.1 hi0).2
                  have hnd := HNOD.out
                  rw [← List.take_append_drop p rows, List.drop_eq_getElem_cons hpl, List.nodup_append, e2] at hnd
                  exact hnd.2.2 i0 hx i0 (by simp) rfl
                have hu2 := HU.out.keepsLt HCP.out (fun z hz _ e => by omega)
                obtain ⟨rg, rc, e, hrg, rcs, hrr, hrc⟩ := hu2.cells (fun e => by have := congrArg List.length e; simp at this; rw [this] at hpl; simp at hpl)
                rw [List.length_map] at e
                cases e
                have y1 := hrr.cell (hrc p (i0 : Int) (by rw [List.getElem?_map, hi0]; rfl))
                have HRR := Lib.hid hrr
                have HRC := Lib.hid hrc
                have hcw : Ch (fun z => w.heap.size ≤ z) w wr := HC4.out.trans (HCP.out.mono (fun z _ e => by rw [e]; exact hwb))
                obtain ⟨b, off, rfl, hcells⟩ := (HN.out.keeps hcw (fun _ e => e)) (by omega)
                obtain ⟨xr1, xt1, y2, y3⟩ := hcells i0 hiL
                have HCELLS := Lib.hid hcells
                have n1 : 0 ≤ (p : Int) ∧ (p : Int) < (rows.length : Int) := by omega
                have n2 : 0 ≤ (i0 : Int) ∧ (i0 : Int) < (L : Int) := by omega
                have t1 : decide (L ≤ i0) = false := by rw [decide_eq_false_iff_not]; omega
                have t2 : decide (q < xt i0) = false := by rw [decide_eq_false_iff_not]; omega
                have hq8 : (q : Int) % 256 = (q : Int) := by omega
                have z1 := HHP.out.cell hiL
                have z2 := HHP.out.free i0
                have hnd : decide (i0 ∈ rows.take p) = false := by rw [decide_eq_false_iff_not]; exact hno
                rw [hnd, Bool.or_false] at z1
                have HI0 := Lib.hid hi0
                have HSET : Hid (∀ W, Ch (fun z => z = hb) wr W → Hd hb L (fun j => decide (xt j < q) || decide (j ∈ rows.take p)) W → Hd hb L (fun j => decide (xt j < q) || decide (j ∈ rows.take (p + 1))) (W.setCell ⟨hb, i0, none⟩ (.bool true))) := Lib.hid (fun W _ h => (h.set hiL).congr (fun j _ => by
                  rw [List.take_add_one, HI0.out]
                  by_cases e : j = i0
                  · subst e; simp
                  · have : (j == i0) = false := by rw [beq_eq_false_iff_ne]; exact e
                    simp [this, e]))
                have hheard : (wr.cell? ⟨hb, i0, none⟩ = some (.bool true)) ∨ (wr.cell? ⟨hb, i0, none⟩ = some (.bool false) ∧ ((xt i0 : Int) != (q : Int)) = false) := by
                  by_cases e : xt i0 < q
                  · exact .inl (by rw [z1, decide_eq_true e])
                  · exact .inr ⟨by rw [z1, decide_eq_false e], by rw [bne_eq_false_iff_eq]; omega⟩
                have hprev : (decide (0 < p) = false) ∨ (decide (0 < p) = true ∧ ∃ (v0 : Nat), 0 < p ∧ wr.cell? ⟨rg, p - 1, none⟩ = some (.int .u32 (v0 : Int)) ∧ (0 ≤ (v0 : Int) ∧ (v0 : Int) < (L : Int)) ∧
                    (xr v0 ≤ 255 ∧ xt v0 ≤ 255) ∧ wr.cell? ⟨b, off + v0 * 2, none⟩ = some (.int .u8 (xr v0 : Int)) ∧ wr.cell? ⟨b, off + v0 * 2 + 1, none⟩ = some (.int .u8 (xt v0 : Int)) ∧ decide (xt i0 < xt v0) = false ∧
                    ((xt v0 == xt i0) = false ∨ ((xt v0 == xt i0) = true ∧ decide (0 < xt v0) = false) ∨ ((xt v0 == xt i0) = true ∧ decide (0 < xt v0) = true ∧ xr i0 % 32 ≤ xr v0 % 32))) := by
                  by_cases e0 : p = 0
                  · subst e0; exact .inl rfl
                  · refine .inr ⟨by rw [decide_eq_true_iff]; omega, ?_⟩
                    obtain ⟨v0, hv0⟩ : ∃ v0, rows[p - 1]? = some v0 := ⟨_, List.getElem?_eq_getElem (by omega)⟩
                    have hmv := (HMEM.out v0).1 (List.mem_of_getElem? hv0)
                    obtain ⟨xr2, xt2, y4, y5⟩ := HCELLS.out v0 hmv.1
                    have hor : Ord RF xt v0 i0 := by
                      have h1 := (List.getElem?_eq_some_iff.1 hv0).2
                      have h2 := (List.getElem?_eq_some_iff.1 HI0.out).2
                      have := List.pairwise_iff_getElem.1 HORD.out (p - 1) p (by omega) hpl (by omega)
                      rw [h1, h2] at this
                      exact this
                    refine ⟨v0, by omega, HRR.out.cell (HRC.out (p - 1) (v0 : Int) (by rw [List.getElem?_map, hv0]; rfl)), by omega, ⟨xr2, xt2⟩, y4, y5, ?_, ?_⟩
                    · rw [decide_eq_false_iff_not]; rcases hor with h | h <;> omega
                    · rcases hor with h | ⟨h, h3 | h3⟩
                      · exact .inl (by rw [beq_eq_false_iff_ne]; omega)
                      · exact .inr (.inl ⟨by rw [beq_iff_eq]; exact h, by rw [decide_eq_false_iff_not]; omega⟩)
                      · rw [HRF.out] at h3
                        by_cases h4 : 0 < xt v0
                        · exact .inr (.inr ⟨by rw [beq_iff_eq]; exact h, by rw [decide_eq_true_iff]; exact h4, h3⟩)
                        · exact .inr (.inl ⟨by rw [beq_iff_eq]; exact h, by rw [decide_eq_false_iff_not]; exact h4⟩)
                clear hrr hrc hu2 hcells hi0 hno hnd hmi z1
                rcases hprev with g3 | ⟨g3, v0, g5, g6, g7, g8, g9, g10, g11, g12⟩
                · rcases hheard with g1 | ⟨g1, g2⟩
                  all_goals
                    go_wp2_with fail
                    exact ⟨⟨p + 1, by omega, by go_num, HCP.out.trans (Ch.set1 _ hb i0 _), HSET.out _ (Ch.refl _ _) HHP.out⟩, by simp [intOf]; omega⟩
                · rcases g12 with g12 | ⟨g12, g13⟩ | ⟨g12, g13, g14⟩
                  · have e1 : ((xt v0 : Int) == (xt i0 : Int)) = false := by rw [beq_eq_false_iff_ne] at g12 ⊢; omega
                    have e2 : ¬ xt v0 = xt i0 := by rw [beq_eq_false_iff_ne] at g12; exact g12
                    rcases hheard with g1 | ⟨g1, g2⟩
                    all_goals
                      go_wp2_with fail
                      go_quiet (fail)
                      go_wp2_with fail
                      exact ⟨⟨p + 1, by omega, by go_num, HCP.out.trans ((Ch.drewN wr _).trans (Ch.set1 _ hb i0 _)), HSET.out _ (Ch.drewN wr _) (HHP.out.keeps (S := No) (Ch.drewN wr _) (fun x => x))⟩, by simp [intOf]; omega⟩
                  · have e := eq_of_beq g12
                    rw [e] at g10 g11 g13
                    clear e g12
                    rcases hheard with g1 | ⟨g1, g2⟩
                    all_goals
                      go_wp2_with fail
                      go_quiet (fail)
                      go_wp2_with fail
                      exact ⟨⟨p + 1, by omega, by go_num, HCP.out.trans ((Ch.drewN wr _).trans (Ch.set1 _ hb i0 _)), HSET.out _ (Ch.drewN wr _) (HHP.out.keeps (S := No) (Ch.drewN wr _) (fun x => x))⟩, by simp [intOf]; omega⟩
                  · have e := eq_of_beq g12
                    rw [e] at g10 g11 g13
                    clear e g12
                    have e1 : Int.tmod (xr v0 : Int) 32 = (xr v0 : Int) % 32 := Int.tmod_eq_emod_of_nonneg (by omega)
                    have e2 : Int.tmod (xr i0 : Int) 32 = (xr i0 : Int) % 32 := Int.tmod_eq_emod_of_nonneg (by omega)
                    have e3 : decide ((xr v0 : Int) % 32 < (xr i0 : Int) % 32) = false := by rw [decide_eq_false_iff_not]; omega
                    have e4 : decide (xr v0 % 32 < xr i0 % 32) = false := by rw [decide_eq_false_iff_not]; omega
                    rcases hheard with g1 | ⟨g1, g2⟩
                    all_goals
                      go_wp2_with fail
                      go_quiet (fail)
                      go_wp2_with fail
                      exact ⟨⟨p + 1, by omega, by go_num, HCP.out.trans ((Ch.drewN wr _).trans (Ch.set1 _ hb i0 _)), HSET.out _ (Ch.drewN wr _) (HHP.out.keeps (S := No) (Ch.drewN wr _) (fun x => x))⟩, by simp [intOf]; omega⟩
              · have hpe : p = rows.length := by omega
                obtain ⟨c4, hr4⟩ := HH4.out.row
                have hrs5 := HRS4.out.beside hbU hr4 HCP.out
                have hh5 : Hd hb L (fun j => decide (xt j < q + 1)) wr := HHP.out.congr (fun j hj => by
                  have hm := HMEM.out j
                  rw [hpe, List.take_length]
                  by_cases e : xt j < q
                  · have e2 : xt j < q + 1 := by omega
                    simp [e, e2]
                  · by_cases e2 : xt j = q
                    · have e3 : j ∈ rows := hm.2 ⟨hj, by omega⟩
                      have e4 : xt j < q + 1 := by omega
                      simp [e3, e4]
                    · have e3 : j ∉ rows := fun hx => by have := (hm.1 hx).2; omega
                      have e4 : ¬ xt j < q + 1 := by omega
                      simp [e, e3, e4])
                have HH5 := Lib.hid hh5
                have HRS5 := Lib.hid hrs5
                have HC5 : Hid (Ch (fun z => w.heap.size ≤ z) w wr) := Lib.hid (HC4.out.trans (HCP.out.mono (fun z _ e => by rw [e]; exact hwb)))
                clear hrs5 hh5 hr4 hpe hp
                go_wp2_with fail
                refine (tickRW HRS5.out).mono ?_; rintro e w6 ⟨rfl, hrw6, hch6⟩
                have HRW6 := Lib.hid hrw6
                have HH6 := Lib.hid (HH5.out.keeps hch6 (fun s => by
                  obtain ⟨cs, r⟩ := HH5.out.row
                  rcases s.2 with e | e
                  · omega
                  · exact e cs r))
                have HC6 : Hid (Ch (fun z => w.heap.size ≤ z) w w6) := Lib.hid (HC5.out.trans (hch6.mono (fun z _ e => Nat.le_trans HB.out e.1)))
                clear hrw6 hch6
                go_wp2_with fail
                go_roundw
                case rel => exact ⟨q + 1, by omega, by go_num, HRW6.out, HH6.out, HC6.out⟩
                case measure => simp [intOf]; omega
          · have hq2 : 256 ≤ q := by omega
            have hall : Hd hb L (fun _ => true) wr := HHD.out.congr (fun j hj => by
              have := HXT.out j hj
              have e : xt j < q := by omega
              simp [e])
            have HALL := Lib.hid hall
            clear hall
            go_wp2_with fail
            go_loopw [22] (fun i wx => ∃ p : Nat, p ≤ L ∧ i = .int .i64 (p : Int) ∧ wx = wr) (fun i _ => L - (intOf i).toNat)
            case atStart => exact ⟨0, by omega, rfl, rfl⟩
            case round =>
              obtain ⟨p, hp, rfl, hwx⟩ := hrel
              subst hwx
              by_cases hpl : p < L
              · have z1 := HALL.out.cell hpl
                have n1 : 0 ≤ (p : Int) ∧ (p : Int) < (L : Int) := by omega
                go_wp2_with fail
                go_roundw
                case rel => exact ⟨p + 1, by omega, by go_num, by first | rfl | trivial⟩
                case measure => simp [intOf]; omega
              · go_wp2_with fail
                refine (thingsRW HRW.out hq2).mono ?_; rintro e w5 ⟨g, ra, rcap, rfl, hg, ⟨cs5, hrow5, hc6⟩, hrw5, hch5⟩
                have HRW5 := Lib.hid hrw5
                have HROW5 := Lib.hid hrow5
                have HC6 := Lib.hid hc6
                have HC5 : Hid (Ch (fun z => w.heap.size ≤ z) w w5) := Lib.hid (HCQ.out.trans (hch5.mono (fun _ _ e => e.elim)))
                clear hrow5 hc6 hrw5 hch5
                go_wp2_with fail
                refine (tasksRW HRW5.out hq2).mono ?_; rintro e w6 ⟨ta, rfl, hch6⟩
                have q6 := (HROW5.out.keeps hch6 (fun x => x)).cell HC6.out
                have HC7 : Hid (Ch (fun z => w.heap.size ≤ z) w w6) := Lib.hid (HC5.out.trans (hch6.mono (fun _ _ e => e.elim)))
                clear hch6
                go_wp2_with fail
                refine (known_any w6).mono ?_; rintro e w7 ⟨rfl, hch7⟩
                have HC8 : Hid (Ch (fun z => w.heap.size ≤ z) w w7) := Lib.hid (HC7.out.trans (hch7.mono (fun _ _ e => e.elim)))
                clear hch7
                go_wp2_with fail
                go_ret
                exact ⟨rfl, HC8.out⟩
end Go.Proofs.YtcngfaggignmpaaGreatDoor
