/-
  The top, part 8: Cons, Joins, Nap1, Stops.
-/
import Derived.Test.YtcngfaggignmpaaGreatDoorS05
import Derived.Test.YtcngfaggignmpaaGreatDoorS07

/-
  Those who may run, plainly: each one stands once, in the ring of its rank.
-/
namespace Go.Proofs.YtcngfaggignmpaaGreatDoor
open Go.RowKit

/-- Each one stands once, in the list of its rank. -/
structure Con (ls : Nat → List Int) (rk : Nat → Int) : Prop where
  mem : ∀ r x, r < 32 → x ∈ ls r → ∃ j : Nat, j < 16 ∧ x = (j : Int) ∧ rk j = r + 1
  nodup : ∀ r, r < 32 → (ls r).Nodup
  inq : ∀ j : Nat, j < 256 → rk j = 0 ∨ ∃ r : Nat, r < 32 ∧ rk j = r + 1 ∧ (j : Int) ∈ ls r
def Cons (m : KM) : Prop := Con m.ls m.rk

theorem nodup_le (n : Nat) : ∀ l : List Int, l.Nodup → (∀ x ∈ l, ∃ j : Nat, j < n ∧ x = (j : Int)) → l.length ≤ n := by
  induction n with
  | zero =>
    intro l _ hm
    cases l with
    | nil => simp
    | cons x l => obtain ⟨j, hj, _⟩ := hm x (by simp); omega
  | succ n ih =>
    intro l hd hm
    have h1 : (l.erase (n : Int)).length ≤ n := ih _ (hd.erase _) (fun x hx => by
      rw [hd.mem_erase_iff] at hx
      obtain ⟨j, hj, e⟩ := hm x hx.2
      refine ⟨j, ?_, e⟩
      have : j ≠ n := fun e2 => hx.1 (by rw [e, e2])
      omega)
    have h2 : l.length ≤ (l.erase (n : Int)).length + 1 := by
      rw [List.length_erase]
      split <;> omega
    omega

namespace KM
variable {m : KM} {i r : Nat}
theorem rm_none (h : m.rk i = 0) : m.rm i = m := by unfold rm; rw [if_pos h]
theorem rm_some (h : m.rk i = r + 1) : m.rm i = { m with ls := upd m.ls r ((m.ls r).erase (i : Int)), rk := upd m.rk i 0 } := by
  have e1 : ¬ m.rk i = 0 := by omega
  have e2 : (m.rk i - 1).toNat = r := by omega
  unfold rm
  rw [if_neg e1, e2]
theorem rm_rk (m : KM) (i : Nat) : (m.rm i).rk i = 0 := by
  unfold rm
  split
  · assumption
  · exact upd_at _ _ _
theorem rm_rk_ne (m : KM) {i j : Nat} (h : j ≠ i) : (m.rm i).rk j = m.rk j := by
  unfold rm
  split
  · rfl
  · exact upd_ne _ _ h
@[simp] theorem rm_tk (m : KM) (i : Nat) : (m.rm i).tk = m.tk := by unfold rm; split <;> rfl
@[simp] theorem rm_wl (m : KM) (i : Nat) : (m.rm i).wl = m.wl := by unfold rm; split <;> rfl
@[simp] theorem rm_sl (m : KM) (i : Nat) : (m.rm i).sl = m.sl := by unfold rm; split <;> rfl
@[simp] theorem rm_row (m : KM) (i : Nat) : (m.rm i).row = m.row := by unfold rm; split <;> rfl
@[simp] theorem rm_most (m : KM) (i : Nat) : (m.rm i).most = m.most := by unfold rm; split <;> rfl
@[simp] theorem rm_slice (m : KM) (i : Nat) : (m.rm i).slice = m.slice := by unfold rm; split <;> rfl
@[simp] theorem rm_now (m : KM) (i : Nat) : (m.rm i).now = m.now := by unfold rm; split <;> rfl
@[simp] theorem rm_age (m : KM) (i : Nat) : (m.rm i).age = m.age := by unfold rm; split <;> rfl
@[simp] theorem rm_used (m : KM) (i : Nat) : (m.rm i).used = m.used := by unfold rm; split <;> rfl
end KM

section
variable {ls : Nat → List Int} {rk : Nat → Int} {i r q : Nat}
theorem Con.len (h : Con ls rk) (hr : r < 32) : (ls r).length ≤ 16 := nodup_le 16 _ (h.nodup r hr) (fun x hx => by obtain ⟨j, h1, h2, _⟩ := h.mem r x hr hx; exact ⟨j, h1, h2⟩)
theorem Con.out (h : Con ls rk) (hr : r < 32) (h0 : rk i = 0) : (i : Int) ∉ ls r := fun hx => by
  obtain ⟨j, _, e, h2⟩ := h.mem r _ hr hx
  have : j = i := by omega
  subst this
  omega
theorem Con.rm (h : Con ls rk) (hq : q < 32) (hrk : rk i = q + 1) : Con (upd ls q ((ls q).erase (i : Int))) (upd rk i 0) := by
    refine ⟨fun r x hr hx => ?_, fun r hr => ?_, fun j hj => ?_⟩
    · by_cases e : r = q
      · subst e
        rw [show upd ls r ((ls r).erase (i : Int)) r = (ls r).erase (i : Int) from upd_at _ _ _, (h.nodup r hr).mem_erase_iff] at hx
        obtain ⟨j, h1, h2, h3⟩ := h.mem r x hr hx.2
        refine ⟨j, h1, h2, ?_⟩
        rw [show upd rk i 0 j = rk j from upd_ne _ _ (fun e => hx.1 (by rw [h2, e]))]; exact h3
      · rw [show upd ls q ((ls q).erase (i : Int)) r = ls r from upd_ne _ _ e] at hx
        obtain ⟨j, h1, h2, h3⟩ := h.mem r x hr hx
        refine ⟨j, h1, h2, ?_⟩
        rw [show upd rk i 0 j = rk j from upd_ne _ _ (fun e2 => by subst e2; omega)]; exact h3
    · by_cases e : r = q
      · subst e
        rw [show upd ls r ((ls r).erase (i : Int)) r = (ls r).erase (i : Int) from upd_at _ _ _]; exact (h.nodup r hr).erase _
      · rw [show upd ls q ((ls q).erase (i : Int)) r = ls r from upd_ne _ _ e]; exact h.nodup r hr
    · by_cases e : j = i
      · subst e; exact .inl (upd_at _ _ _)
      · rw [show upd rk i 0 j = rk j from upd_ne _ _ e]
        rcases h.inq j hj with h1 | ⟨r, h1, h2, h3⟩
        · exact .inl h1
        · refine .inr ⟨r, h1, h2, ?_⟩
          by_cases e2 : r = q
          · subst e2
            rw [show upd ls r ((ls r).erase (i : Int)) r = (ls r).erase (i : Int) from upd_at _ _ _, (h.nodup r h1).mem_erase_iff]; exact ⟨fun e3 => e (by omega), h3⟩
          · rw [show upd ls q ((ls q).erase (i : Int)) r = ls r from upd_ne _ _ e2]; exact h3
theorem Con.put (h : Con ls rk) (hi : i < 16) (hr : r < 32) (h0 : rk i = 0) : Con (upd ls r (ls r ++ [(i : Int)])) (upd rk i (r + 1)) := by
  have ho := h.out hr h0
  refine ⟨fun q x hq hx => ?_, fun q hq => ?_, fun j hj => ?_⟩
  · by_cases e : q = r
    · subst e
      rw [show upd ls q (ls q ++ [(i : Int)]) q = ls q ++ [(i : Int)] from upd_at _ _ _, List.mem_append] at hx
      rcases hx with hx | hx
      · obtain ⟨j, h1, h2, h3⟩ := h.mem q x hq hx
        refine ⟨j, h1, h2, ?_⟩
        rw [show upd rk i ((q : Int) + 1) j = rk j from upd_ne _ _ (fun e => ho (by rw [← e, ← h2]; exact hx))]; exact h3
      · rw [List.mem_singleton] at hx
        exact ⟨i, hi, hx, upd_at _ _ _⟩
    · rw [show upd ls r (ls r ++ [(i : Int)]) q = ls q from upd_ne _ _ e] at hx
      obtain ⟨j, h1, h2, h3⟩ := h.mem q x hq hx
      refine ⟨j, h1, h2, ?_⟩
      rw [show upd rk i ((r : Int) + 1) j = rk j from upd_ne _ _ (fun e2 => by subst e2; omega)]; exact h3
  · by_cases e : q = r
    · subst e
      rw [show upd ls q (ls q ++ [(i : Int)]) q = ls q ++ [(i : Int)] from upd_at _ _ _, List.nodup_append]
      exact ⟨h.nodup q hq, by simp, fun a ha b hb e => ho (by rw [List.mem_singleton] at hb; rw [← hb, ← e]; exact ha)⟩
    · rw [show upd ls r (ls r ++ [(i : Int)]) q = ls q from upd_ne _ _ e]; exact h.nodup q hq
  · by_cases e : j = i
    · subst e
      refine .inr ⟨r, hr, upd_at _ _ _, ?_⟩
      rw [show upd ls r (ls r ++ [(j : Int)]) r = ls r ++ [(j : Int)] from upd_at _ _ _]; simp
    · rw [show upd rk i ((r : Int) + 1) j = rk j from upd_ne _ _ e]
      rcases h.inq j hj with h1 | ⟨q, h1, h2, h3⟩
      · exact .inl h1
      · refine .inr ⟨q, h1, h2, ?_⟩
        by_cases e2 : q = r
        · subst e2
          rw [show upd ls q (ls q ++ [(i : Int)]) q = ls q ++ [(i : Int)] from upd_at _ _ _]; exact List.mem_append_left _ h3
        · rw [show upd ls r (ls r ++ [(i : Int)]) q = ls q from upd_ne _ _ e2]; exact h3
end
theorem Cons.rm {m : KM} {i : Nat} (h : Cons m) (hi : i < 256) : Cons (m.rm i) := by
  rcases h.inq i hi with h0 | ⟨q, hq, hrk, _⟩
  · rw [KM.rm_none h0]; exact h
  · rw [KM.rm_some hrk]; exact Con.rm h hq hrk
theorem Cons.put {m : KM} {i r : Nat} (h : Cons m) (hi : i < 16) (hr : r < 32) (h0 : m.rk i = 0) : Cons (m.put i r) := Con.put h hi hr h0

section
variable {B T U : Nat} {tb : Nat → Nat} {m : KM} {w : World} {i r : Nat}
theorem rm_step (h : KS B T U tb m w) (hc : Cons m) (hi : i < 16) :
    Calls Tryz.prog 95 #[.pointer (some ⟨B, 0, none⟩), .int .i64 i] w fun e w' => (∃ n, e = .returned (.int .i64 n)) ∧ KS B T U tb (m.rm i) w' ∧ Ch (Sk B T U w) w w' := by
  rcases hc.inq i (by omega) with h0 | ⟨q, hq, hrk, hmem⟩
  · refine (rqRemove_none w B m.ls m.rk h.ready i (by omega) h0).mono ?_
    rintro e w' ⟨rfl, rfl⟩
    rw [KM.rm_none h0]
    exact ⟨⟨_, rfl⟩, h, Ch.refl _ _⟩
  · refine (rqRemove_any w B m.ls m.rk h.ready i q (by omega) hq hrk hmem).mono ?_
    rintro e w' ⟨rfl, hr, hch⟩
    rw [KM.rm_some hrk]
    have := h.ready' hch hr
    exact ⟨⟨_, rfl⟩, this.1, this.2⟩
theorem put_step (h : KS B T U tb m w) (hc : Cons m) (hi : i < 16) (hr : r < 32) (h0 : m.rk i = 0) :
    Calls Tryz.prog 96 #[.pointer (some ⟨B, 0, none⟩), .int .i64 i, .int .i64 r] w fun e w' => (∃ n, e = .returned (.int .i64 n)) ∧ KS B T U tb (m.put i r) w' ∧ Ch (Sk B T U w) w w' := by
  refine (rqPut_any w B m.ls m.rk h.ready i r (by omega) hr h0 (Con.out hc hr h0) (by have := Con.len hc hr; omega)).mono ?_
  rintro e w' ⟨rfl, hr, hch⟩
  have := h.ready' hch hr
  exact ⟨⟨_, rfl⟩, this.1, this.2⟩
end
end Go.Proofs.YtcngfaggignmpaaGreatDoor

/-
  The kernel: joins.
-/
namespace Go.Proofs.YtcngfaggignmpaaGreatDoor
open Go.RowKit

section
variable {B T U : Nat} {tb : Nat → Nat} {m : KM} {w : World} {i : Nat} {t : TM}
set_option maxHeartbeats 1000000 in
theorem kThere_any (h : KS B T U tb m w) : Calls Tryz.prog 22 #[.pointer (some ⟨B + 69, 0, none⟩)] w fun e w' => e = .returned (.bool true) ∧ w = w' := by
  have c1 := h.cReady
  clear h
  go_enter Tryz.func22, Tryz.ntmps22
  go_wp2_with fail
  go_ret
  exact ⟨rfl, rfl⟩

theorem tcells_rank (i U : Nat) (t : TM) : (tcells i t U)[4]? = some (.int .i64 t.rank) := rfl
theorem tcells_state (i U : Nat) (t : TM) : (tcells i t U)[1]? = some (.int .u8 (if t.wait then 2 else 1)) := rfl
theorem tcells_on (i U : Nat) (t : TM) : (tcells i t U)[14]? = some (.pointer (if t.on then some ⟨U + 2, 0, none⟩ else none)) := rfl
theorem tcells_ran (i U : Nat) (t : TM) : (tcells i t U)[15]? = some (.int .i64 t.ran) := rfl

set_option maxRecDepth 100000 in
set_option maxHeartbeats 4000000 in
theorem joins_any (h : KS B T U tb m w) (hc : Cons m) (hi : i < 16) (ht : m.tk i = some t) (hr : t.rank < 32) :
    Calls Tryz.prog 58 #[.pointer (some ⟨B + 69, 0, none⟩), .int .i64 i] w fun e w' => e = .returned (.tuple #[]) ∧ KS B T U tb (m.joins i t) w' ∧ Ch (Sk B T U w) w w' := by
  have H := Lib.hid h
  have HC := Lib.hid hc
  have HT := Lib.hid ht
  have c1 := h.cReady
  have hi1 : 0 ≤ (i : Int) ∧ (i : Int) < 16 := by omega
  clear h hc ht
  go_enter Tryz.func58, Tryz.ntmps58
  go_wp2_with fail
  refine (rm_step H.out HC.out hi).mono ?_; rintro e w1 ⟨⟨n, rfl⟩, hk, hch⟩
  have HT1 : Hid ((m.rm i).tk i = some t) := Lib.hid (by rw [KM.rm_tk]; exact HT.out)
  have d1 := hk.cReady
  have d2 := hk.cTask hi HT1.out
  have d3 := hk.tCell hi HT1.out (tcells_rank i U t)
  have HK := Lib.hid hk
  have HCH := Lib.hid hch
  clear hk hch c1
  go_wp2_with fail
  go_region_held3 (fun wx => wx.cell? ⟨B + 69, 52, none⟩ = some (.pointer (some ⟨B, 0, none⟩)) ∧ wx.cell? ⟨B + 69, 4 + i, none⟩ = some (.pointer (some ⟨tb i, 0, none⟩)) ∧ wx.cell? ⟨tb i, 4, none⟩ = some (.int .i64 t.rank)) (first | exact ⟨by assumption, by assumption, by assumption⟩) (first
    | (go_at_call 96; refine (put_step (HK.out.drewN 1) (HC.out.rm (by omega)) hi hr (KM.rm_rk m i)).mono ?_; rintro e w2 ⟨⟨n2, rfl⟩, hk2, hch2⟩; have e1 := hk2.cReady; have e2 := hk2.cTask hi HT1.out; have e3 := hk2.tCell hi HT1.out (tcells_rank i U t); have HK2 := Lib.hid hk2; have HCH2 := Lib.hid hch2; clear hk2 hch2))
  all_goals
    clear d1 d2 d3
    have f1 := HK2.out.tFree hi HT1.out 15
    have f2 := HK2.out.tCell hi HT1.out (tcells_ran i U t)
    go_wp2_with fail
    go_end0
    have hrow := (HK2.out.task i t hi HT1.out).set 15 (.int .i64 0)
    have hfin := HK2.out.task' (Ch.setCell (S := fun k => k = tb i) w2 (tb i) 15 (.int .i64 0) rfl) hi HT1.out (t' := { t with ran := 0 }) hrow
    exact ⟨rfl, hfin.1, (((HCH.out.tr (Ch.ofNo B T U (Ch.drewN w1 1))).tr HCH2.out).tr hfin.2)⟩
end
end Go.Proofs.YtcngfaggignmpaaGreatDoor

/-
  Those who sleep: whoever does not is not found, and not removed.
-/
namespace Go.Proofs.YtcngfaggignmpaaGreatDoor
open Go.RowKit

section
variable {w : World}
set_option maxHeartbeats 1000000 in
theorem isSleeper_any (x who hb : Nat) (y : Int) (b : Bool) (hb2 : ((x : Int) == (who : Int)) = b) (hc : w.cell? ⟨hb, 0, none⟩ = some (.int .i64 who)) :
    Calls Tryz.prog 206 #[.agg #[.int .i64 x, .int .i64 y], .pointer (some ⟨hb, 0, none⟩)] w fun e w' => e = .returned (.bool b) ∧ Ch No w w' := by
  have hc2 : (w.alloc (.cells #[.int .i64 x, .int .i64 y] 289)).cell? ⟨hb, 0, none⟩ = some (.int .i64 who) := by
    rw [World.cell?_alloc_lt _ _ _ (World.block_lt_of_cell? w _ hc)]
    exact hc
  clear hc
  go_enter Tryz.func206, Tryz.ntmps206
  go_wp2_with fail
  go_ret
  exact ⟨rfl, Ch.alloc w _⟩

set_option maxRecDepth 100000 in
set_option maxHeartbeats 1000000 in
theorem dlIndex_out (c hb who cap : Nat) (a : Option Addr) (l : List (Nat × Int)) (hl : l.length ≤ 64) (hlc : l.length ≤ cap) (h : DV c a l cap w) (hm : ∀ x ∈ l, x.1 ≠ who) (hc : w.cell? ⟨hb, 0, none⟩ = some (.int .i64 who)) :
    Calls Tryz.prog 205 #[.slice a l.length cap, .func (.func 206) #[] #[.pointer (some ⟨hb, 0, none⟩)]] w fun e w' => e = .returned (.int .i64 (-1)) ∧ Ch No w w' := by
  have H := Lib.hid h
  have HM := Lib.hid hm
  have HLC := Lib.hid hlc
  have HHC : Hid (∀ W, Ch No w W → W.cell? ⟨hb, 0, none⟩ = some (.int .i64 who)) := Lib.hid (fun W g => by
    have := g.block hb (World.block_lt_of_cell? w _ hc) (fun x => x)
    unfold World.cell? at hc ⊢
    rw [this]
    exact hc)
  clear h hm hc hlc
  generalize hL : l.length = L at hl ⊢
  have HLL := Lib.hid hL
  clear hL
  go_enter Tryz.func205, Tryz.ntmps205
  go_wp2_with fail
  go_loopw [5, 8] (fun _ i wr => ∃ j : Nat, j ≤ L ∧ i = .int .i64 (j : Int) ∧ Ch No w wr) (fun _ i _ => L - (intOf i).toNat)
  case atStart => exact ⟨0, by omega, rfl, Ch.refl _ _⟩
  case round =>
    obtain ⟨j, hj, rfl, hch⟩ := hrel
    by_cases hlt : j < L
    · obtain ⟨x, hx⟩ : ∃ x, l[j]? = some x := ⟨_, List.getElem?_eq_getElem (by have := HLL.out; omega)⟩
      obtain ⟨g, off, rfl, _, q0, q1⟩ := (H.out.no hch).cells HLC.out hx
      have hne : ((x.1 : Int) == (who : Int)) = false := by
        have := HM.out x (List.mem_of_getElem? hx)
        simp; omega
      have hcall := isSleeper_any x.1 who hb x.2 false hne (HHC.out wr hch)
      have HCH := Lib.hid hch
      have HCA := Lib.hid hcall
      clear hch hx hne hcall
      rw [Nat.mul_comm] at q0 q1
      go_wp2_with fail
      refine HCA.out.mono ?_; rintro e w2 ⟨rfl, hch2⟩
      have HC2 := Lib.hid (HCH.out.trans hch2)
      clear hch2 q0 q1
      go_wp2_with fail
      go_roundw
      case rel => exact ⟨j + 1, by omega, by go_num, HC2.out⟩
      case measure => simp [intOf]; omega
    · obtain rfl : j = L := by omega
      have HCH := Lib.hid hch
      clear hch
      go_wp2_with fail
      go_ret
      exact ⟨rfl, HCH.out⟩

set_option maxHeartbeats 1000000 in
theorem dlFind_out (b c who : Nat) (l : List (Nat × Int)) (hl : l.length ≤ 64) (h : DL b c l w) (hm : ∀ x ∈ l, x.1 ≠ who) :
    Calls Tryz.prog 169 #[.pointer (some ⟨b, 0, none⟩), .int .i64 who] w fun e w' => e = .returned (.int .i64 (-1)) ∧ Ch No w w' := by
  have hmf := mkFn
  obtain ⟨a, cap, r, hlc, _, hr⟩ := h
  have c1 : (w.alloc (.cells #[.int .i64 who] 3)).cell? ⟨b, 0, none⟩ = some (.slice a l.length cap) := (r.alloc _).cell (j := 0) rfl
  have hI := dlIndex_out (w := w.alloc (.cells #[.int .i64 who] 3)) c w.heap.size who cap a l hl hlc (hr.no (Ch.alloc w _)) hm ((Row.new w 3 #[.int .i64 who]).cell (j := 0) rfl)
  have HI := Lib.hid hI
  clear r hr hlc hm hI
  go_enter Tryz.func169, Tryz.ntmps169
  go_wp2_with fail
  refine HI.out.mono ?_; rintro e w1 ⟨rfl, hch⟩
  go_wp2_with fail
  go_ret
  exact ⟨rfl, (Ch.alloc w _).trans hch⟩

set_option maxHeartbeats 1000000 in
theorem dlRemove_out (b c who : Nat) (l : List (Nat × Int)) (hl : l.length ≤ 64) (h : DL b c l w) (hm : ∀ x ∈ l, x.1 ≠ who) :
    Calls Tryz.prog 125 #[.pointer (some ⟨b, 0, none⟩), .int .i64 who] w fun e w' => e = .returned (.int .i64 1) ∧ Ch No w w' := by
  have H := Lib.hid h
  have HM := Lib.hid hm
  clear h hm
  go_enter Tryz.func125, Tryz.ntmps125
  go_wp2_with fail
  refine (dlThere_any _ b c l H.out).mono ?_; rintro e w1 ⟨rfl, rfl⟩
  go_wp2_with fail
  refine (dlFind_out b c who l hl H.out HM.out).mono ?_; rintro e w1 ⟨rfl, hch⟩
  go_wp2_with fail
  go_ret
  exact ⟨rfl, hch⟩
end
end Go.Proofs.YtcngfaggignmpaaGreatDoor

/-
  The kernel: stops.
-/
namespace Go.Proofs.YtcngfaggignmpaaGreatDoor
open Go.RowKit

/-- A task is none of those who sleep. -/
def Awake (m : KM) (i : Nat) : Prop := m.sl.length ≤ 64 ∧ ∀ x ∈ m.sl, x.1 ≠ i

section
variable {B T U : Nat} {tb : Nat → Nat} {m : KM} {w : World} {i : Nat} {t : TM}
theorem Awake.none (h : m.sl = []) : Awake m i := ⟨by rw [h]; exact Nat.zero_le _, fun x hx => by rw [h] at hx; cases hx⟩
theorem KM.noWait_no (m : KM) : m.noWait false = m := rfl
theorem KS.asWait (h : KS B T U tb m w) : KS B T U tb (m.noWait false) w := h
theorem Ch.set1 (w : World) (p j : Nat) (v : Value) : Ch (fun k => k = p) w (w.setCell ⟨p, j, none⟩ v) := Ch.setCell w p j v rfl
theorem cut_cells (U i : Nat) (t : TM) : ((((((((tcells i t U).setIfInBounds 14 (.pointer none)).setIfInBounds 5 (.int .u8 0)).setIfInBounds 6 (.int .u32 0)).setIfInBounds 7 (.int .u32 0)).setIfInBounds 8 (.int .u32 0)).setIfInBounds 9 (.int .i64 0)).setIfInBounds 10 (.int .i64 0)) = tcells i (KM.cut t) U := by
  cases h : t.wait <;> simp [tcells, KM.cut, h]
theorem cut_row {U i : Nat} {t : TM} {w : World} {p : Nat} (h : Row p 127 (tcells i t U) w) :
    Row p 127 (tcells i (KM.cut t) U) (((((((w.setCell ⟨p, 14, none⟩ (.pointer none)).setCell ⟨p, 5, none⟩ (.int .u8 0)).setCell ⟨p, 6, none⟩ (.int .u32 0)).setCell ⟨p, 7, none⟩ (.int .u32 0)).setCell ⟨p, 8, none⟩ (.int .u32 0)).setCell ⟨p, 9, none⟩ (.int .i64 0)).setCell ⟨p, 10, none⟩ (.int .i64 0)) := by
  have := ((((((h.set 14 (.pointer none)).set 5 (.int .u8 0)).set 6 (.int .u32 0)).set 7 (.int .u32 0)).set 8 (.int .u32 0)).set 9 (.int .i64 0)).set 10 (.int .i64 0)
  rw [cut_cells] at this
  exact this
theorem cut_ch (w : World) (p : Nat) :
    Ch (fun k => k = p) w (((((((w.setCell ⟨p, 14, none⟩ (.pointer none)).setCell ⟨p, 5, none⟩ (.int .u8 0)).setCell ⟨p, 6, none⟩ (.int .u32 0)).setCell ⟨p, 7, none⟩ (.int .u32 0)).setCell ⟨p, 8, none⟩ (.int .u32 0)).setCell ⟨p, 9, none⟩ (.int .i64 0)).setCell ⟨p, 10, none⟩ (.int .i64 0)) :=
  ((((((Ch.set1 w p _ _).trans (Ch.set1 _ p _ _)).trans (Ch.set1 _ p _ _)).trans (Ch.set1 _ p _ _)).trans (Ch.set1 _ p _ _)).trans (Ch.set1 _ p _ _)).trans (Ch.set1 _ p _ _)

set_option maxRecDepth 100000 in
set_option maxHeartbeats 4000000 in
theorem stops_off (h : KS B T U tb m w) (hc : Cons m) (hi : i < 16) (ht : m.tk i = some t) (hon : t.on = false) (hs : Awake m i) :
    Calls Tryz.prog 66 #[.pointer (some ⟨B + 69, 0, none⟩), .int .i64 i] w fun e w' => e = .returned (.tuple #[]) ∧ KS B T U tb (m.stops i t) w' ∧ Ch (Sk B T U w) w w' := by
  have H := Lib.hid h
  have HC := Lib.hid hc
  have HT := Lib.hid ht
  have HS := Lib.hid h.sleeps
  have HAW := Lib.hid hs
  have c1 := h.cReady
  have c2 := h.cTask hi ht
  have c3 := h.tCell hi ht (tcells_on i U t)
  have c4 := h.cSleeps
  rw [hon] at c3
  have HON := Lib.hid hon
  have hi1 : 0 ≤ (i : Int) ∧ (i : Int) < 16 := by omega
  clear h hc ht hs hon
  go_enter Tryz.func66, Tryz.ntmps66
  go_wp2_with fail
  refine (dlRemove_out (B + 65) (U + 3) i m.sl HAW.out.1 HS.out HAW.out.2).mono ?_; rintro e w1 ⟨rfl, hch⟩
  have hk := H.out.no hch
  have d1 := hk.cReady
  have HK := Lib.hid hk
  have HCH := Lib.hid hch
  clear hk hch c1 c2 c3 c4
  go_wp2_with fail
  refine (rm_step HK.out HC.out hi).mono ?_; rintro e w2 ⟨⟨n, rfl⟩, hk2, hch2⟩
  have HT1 : Hid ((m.rm i).tk i = some t) := Lib.hid (by rw [KM.rm_tk]; exact HT.out)
  have hrow := hk2.task i t hi HT1.out
  have f1 := hrow.free 14
  have f2 := hrow.free 5
  have f3 := hrow.free 6
  have f4 := hrow.free 7
  have f5 := hrow.free 8
  have f6 := hrow.free 9
  have f7 := hrow.free 10
  have e1 := hrow.cell (j := 14) rfl
  have e2 := hrow.cell (j := 5) rfl
  have e3 := hrow.cell (j := 6) rfl
  have e4 := hrow.cell (j := 7) rfl
  have e5 := hrow.cell (j := 8) rfl
  have e6 := hrow.cell (j := 9) rfl
  have e7 := hrow.cell (j := 10) rfl
  have HR := Lib.hid hrow
  have HK2 := Lib.hid hk2
  have HCH2 := Lib.hid hch2
  clear hk2 hch2 hrow d1
  go_wp2_with fail
  go_end0
  have hfin := HK2.out.task' (cut_ch w2 (tb i)) hi HT1.out (t' := KM.cut t) (cut_row HR.out)
  have he : m.stops i t = (m.rm i).setT i (KM.cut t) := by unfold KM.stops; rw [HON.out, KM.noWait_no]
  rw [he]
  exact ⟨rfl, hfin.1, ((Ch.ofNo B T U HCH.out).tr HCH2.out).tr hfin.2⟩
set_option maxRecDepth 100000 in
set_option maxHeartbeats 4000000 in
theorem stops_on {r : Nat} (h : KS B T U tb m w) (hc : Cons m) (hi : i < 16) (ht : m.tk i = some t) (hon : t.on = true) (hw : m.wl = some (i, r)) (hs : Awake m i) :
    Calls Tryz.prog 66 #[.pointer (some ⟨B + 69, 0, none⟩), .int .i64 i] w fun e w' => e = .returned (.tuple #[]) ∧ KS B T U tb (m.stops i t) w' ∧ Ch (Sk B T U w) w w' := by
  have H := Lib.hid h
  have HC := Lib.hid hc
  have HT := Lib.hid ht
  have HS := Lib.hid h.sleeps
  have HAW := Lib.hid hs
  have c1 := h.cReady
  have c2 := h.cTask hi ht
  have c3 := h.tCell hi ht (tcells_on i U t)
  have c4 := h.cSleeps
  rw [hon] at c3
  have HON := Lib.hid hon
  have hi1 : 0 ≤ (i : Int) ∧ (i : Int) < 16 := by omega
  have HW : Hid (WQ U (U + 3) (some (i, r)) w) := Lib.hid (by have := h.wait; rw [hw] at this; exact this)
  have c5 := h.thing.cell (j := 5) rfl
  clear h hc ht hs hon hw
  go_enter Tryz.func66, Tryz.ntmps66
  go_wp2_with fail
  refine (wqRemove_any _ U (U + 3) i r HW.out).mono ?_; rintro e w0 ⟨rfl, hwq, hch0⟩
  have hk0 := H.out.wait' hch0 hwq
  have b4 := hk0.1.cSleeps
  have HK0 := Lib.hid hk0
  have HS0 : Hid (DL (B + 65) (U + 3) m.sl w0) := Lib.hid hk0.1.sleeps
  clear hk0 hwq hch0 c1 c2 c3 c4 c5
  go_wp2_with fail
  refine (dlRemove_out (B + 65) (U + 3) i m.sl HAW.out.1 HS0.out HAW.out.2).mono ?_; rintro e w1 ⟨rfl, hch⟩
  have hk := HK0.out.1.no hch
  have d1 := hk.cReady
  have HK := Lib.hid hk
  have HCH := Lib.hid hch
  clear hk hch b4
  go_wp2_with fail
  refine (rm_step (m := { m with wl := none }) HK.out HC.out hi).mono ?_; rintro e w2 ⟨⟨n, rfl⟩, hk2, hch2⟩
  have HT1 : Hid (({ m with wl := none }.rm i).tk i = some t) := Lib.hid (by rw [KM.rm_tk]; exact HT.out)
  have hrow := hk2.task i t hi HT1.out
  have f1 := hrow.free 14
  have f2 := hrow.free 5
  have f3 := hrow.free 6
  have f4 := hrow.free 7
  have f5 := hrow.free 8
  have f6 := hrow.free 9
  have f7 := hrow.free 10
  have e1 := hrow.cell (j := 14) rfl
  have e2 := hrow.cell (j := 5) rfl
  have e3 := hrow.cell (j := 6) rfl
  have e4 := hrow.cell (j := 7) rfl
  have e5 := hrow.cell (j := 8) rfl
  have e6 := hrow.cell (j := 9) rfl
  have e7 := hrow.cell (j := 10) rfl
  have HR := Lib.hid hrow
  have HK2 := Lib.hid hk2
  have HCH2 := Lib.hid hch2
  clear hk2 hch2 hrow d1
  go_wp2_with fail
  go_end0
  have hfin := HK2.out.task' (cut_ch w2 (tb i)) hi HT1.out (t' := KM.cut t) (cut_row HR.out)
  have he : m.stops i t = ({ m with wl := none }.rm i).setT i (KM.cut t) := by unfold KM.stops KM.noWait; rw [HON.out]; rfl
  rw [he]
  exact ⟨rfl, hfin.1, ((HK0.out.2.tr (Ch.ofNo B T U HCH.out)).tr HCH2.out).tr hfin.2⟩
theorem stops_any (h : KS B T U tb m w) (hc : Cons m) (hi : i < 16) (ht : m.tk i = some t) (hw : t.on = true → ∃ r, m.wl = some (i, r)) (hs : Awake m i) :
    Calls Tryz.prog 66 #[.pointer (some ⟨B + 69, 0, none⟩), .int .i64 i] w fun e w' => e = .returned (.tuple #[]) ∧ KS B T U tb (m.stops i t) w' ∧ Ch (Sk B T U w) w w' := by
  cases hon : t.on
  · exact stops_off h hc hi ht hon hs
  · obtain ⟨r, hr⟩ := hw hon
    exact stops_on h hc hi ht hon hr hs
end
end Go.Proofs.YtcngfaggignmpaaGreatDoor
