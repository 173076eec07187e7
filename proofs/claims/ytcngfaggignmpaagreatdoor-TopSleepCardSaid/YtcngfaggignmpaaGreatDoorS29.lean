/-
  The top, part 29: Nap2.
-/
import Derived.Test.YtcngfaggignmpaaGreatDoorS08
import Derived.BigFrame

/-
  Those who sleep: a tick.
-/
namespace Go.Proofs.YtcngfaggignmpaaGreatDoor
open Go.RowKit

/-- The first one has a tick less. -/
def dec : List (Nat × Int) → List (Nat × Int)
  | [] => []
  | (a, x) :: r => (a, x - 1) :: r
theorem dec_len : ∀ l, (dec l).length = l.length
  | [] => rfl
  | (_, _) :: _ => rfl
/-- Who they are. -/
def whoV (l : List (Nat × Int)) : List Value := l.map (fun z => .int .i64 (z.1 : Int))
/-- The blocks that a list of those who sleep turns. -/
def Sd (b c : Nat) (w : World) : Nat → Prop := fun k => k = b ∨ (c ≤ k ∧ ∃ cs, Row k 289 cs w)

theorem Ch.grew {w w' : World} {o : Option Nat} (h : w.grownBy w' o) : Ch (fun k => o = some k) w w' := ⟨h.os, h.tape, h.output, h.size, fun k hk hn => h.block k hk (fun e => hn (by first | exact e | exact e.symm))⟩
theorem own_ty3 {w : World} {base n p : Nat} {v : Value} {xs : List Value} (h : w.ownsRow base 3 1 v n xs) (hp : v.ownBlock = some p) : base ≤ p ∧ ∃ cur, Row p 3 cur w := by
  rcases h.2 with ⟨e, _⟩ | ⟨g, cap, cur, e, hb, hg, _⟩
  · rw [e] at hp; simp [Value.ownBlock] at hp
  · rw [e] at hp; simp [Value.ownBlock] at hp; subst hp; exact ⟨hb, cur, hg⟩
section
variable {w : World} {b c : Nat} {l : List (Nat × Int)}
/-- The first one's number turns. -/
theorem DL.dec {g off cap x : Nat} {y : Int} {r : List (Nat × Int)} {cs : Array Value} (h : Row b 238 #[.slice (some ⟨g, off, none⟩) (((x, y) :: r : List (Nat × Int)).length) cap, .bool true] w) (h1 : ((x, y) :: r : List (Nat × Int)).length ≤ cap) (h2 : cap ≤ maxLen)
    (hc : c ≤ g) (hr : Row g 289 cs w) (hs : cs.size = off + 2 * cap) (hh : ∀ (j : Nat) z, ((x, y) :: r : List (Nat × Int))[j]? = some z → cs[off + 2 * j]? = some (.int .i64 z.1) ∧ cs[off + 2 * j + 1]? = some (.int .i64 z.2)) (v : Int) :
    DL b c ((x, v) :: r) (w.setCell ⟨g, off + 1, none⟩ (.int .i64 v)) := by
  have hne : b ≠ g := h.ne hr (by decide)
  refine ⟨some ⟨g, off, none⟩, cap, h.other hne _ _, h1, h2, fun _ => ⟨g, off, _, rfl, hc, hr.set (off + 1) _, by simp [hs], fun j z hz => ?_⟩⟩
  simp only [List.length_cons] at h1
  cases j with
  | zero =>
    cases hz
    have := hh 0 (x, y) rfl
    refine ⟨?_, ?_⟩
    · rw [set_get (by omega), if_neg (by omega)]; exact this.1
    · rw [set_get (by omega), if_pos (by omega)]
  | succ j =>
    have := hh (j + 1) z hz
    refine ⟨?_, ?_⟩
    · rw [set_get (by omega), if_neg (by omega)]; exact this.1
    · rw [set_get (by omega), if_neg (by omega)]; exact this.2

/-- The first one goes. -/
theorem DL.pop {g off cap : Nat} {z : Nat × Int} {r : List (Nat × Int)} {a' : Option Addr} (h : Row b 238 #[.slice (some ⟨g, off, none⟩) (r.length + 1) (cap + 1), .bool true] w) (h1 : r.length ≤ cap) (h2 : cap + 1 ≤ maxLen)
    (hv : DV c (some ⟨g, off, none⟩) (z :: r) (cap + 1) w) (ha : cap ≠ 0 → a' = some ⟨g, off + 2, none⟩) : DL b c r (w.setCell ⟨b, 0, none⟩ (.slice a' r.length cap)) := by
  obtain ⟨g', off', cs, e, hc, hr, hs, hh⟩ := hv (by omega)
  cases e
  have hne : g ≠ b := hr.ne h (by decide)
  refine ⟨a', cap, h.set 0 _, h1, by omega, fun hcap => ⟨g, off + 2, cs, ha hcap, hc, hr.other hne _ _, by omega, fun j x hj => ?_⟩⟩
  have := hh (j + 1) x hj
  rw [show off + 2 + 2 * j = off + 2 * (j + 1) by omega]
  exact this
theorem own_far {base n : Nat} {v : Value} {xs : List Value} {w : World} (h : w.ownsRow base 3 1 v n xs) (q : Nat) (hq : ∀ p, v.ownBlock = some p → p ≠ q) (j : Nat) (u : Value) : (w.setCell ⟨q, j, none⟩ u).ownsRow base 3 1 v n xs := by
  refine ⟨h.1, ?_⟩
  rcases h.2 with h0 | ⟨g, cap, cur, rfl, hb, hg, r⟩
  · exact .inl h0
  · exact .inr ⟨g, cap, cur, rfl, hb, (show Row g 3 cur _ from Row.other (show Row g 3 cur w from hg) (hq g (by simp [Value.ownBlock])) j u), r⟩
/-- How long a slice is. -/
def sLen : Value → Nat
  | .slice _ k _ => k
  | _ => 0
theorem own_len {base n : Nat} {v : Value} {xs : List Value} (h : w.ownsRow base 3 1 v n xs) : sLen v = n := by
  rcases h.2 with ⟨e, h0⟩ | ⟨g, cap, cur, e, _⟩
  · rw [e, h0]; rfl
  · rw [e]; rfl

set_option maxRecDepth 100000 in
set_option maxHeartbeats 4000000 in
theorem dlTick_any (hl : l.length ≤ 64) (h : DL b c l w) (hb : ∀ x ∈ l, 0 ≤ x.2 ∧ x.2 ≤ 1073741824) (hne : l ≠ []) :
    Calls Tryz.prog 82 #[.pointer (some ⟨b, 0, none⟩)] w fun e w' => ∃ (v : Value) (k : Nat), e = .returned v ∧ k ≤ l.length ∧ (∀ x ∈ (dec l).take k, x.2 = 0) ∧ (∀ x, (dec l)[k]? = some x → x.2 ≠ 0) ∧
      Ints w.heap.size v (((dec l).take k).map (fun x => (x.1 : Int))) w' ∧ DL b c ((dec l).drop k) w' ∧ Ch (Sd b c w) w w' := by
  obtain ⟨i0, hi, hz0', hz1, hz2⟩ := info_parts info3
  obtain ⟨x, y, r, rfl⟩ : ∃ x y r, l = (x, y) :: r := by
    cases l with
    | nil => exact absurd rfl hne
    | cons z r => exact ⟨z.1, z.2, r, rfl⟩
  have H := Lib.hid h
  obtain ⟨a, cap, hrow, h1, h2, hv⟩ := h
  have hcap : cap ≠ 0 := by simp only [List.length_cons] at h1; omega
  obtain ⟨g, off, cs, rfl, hcg, hr, hs, hh⟩ := hv hcap
  have c1 := hrow.cell (j := 0) rfl
  have q1 : w.cell? ⟨g, off + 1, none⟩ = some (.int .i64 y) := hr.cell (hh 0 (x, y) rfl).2
  have f1 := hr.free (off + 1)
  have hy := hb (x, y) (by simp)
  simp only at hy
  have hw1 : wrap64 (y - 1) = y - 1 := by unfold wrap64; omega
  have hdl := DL.dec hrow h1 h2 hcg hr hs hh (y - 1)
  have hch : Ch (Sd b c w) w (w.setCell ⟨g, off + 1, none⟩ (.int .i64 (y - 1))) := Ch.setCell w g _ _ (.inr ⟨hcg, cs, hr⟩)
  have HB := Lib.hid hb
  have hb0 : b < w.heap.size := hrow.lt
  have HDL := Lib.hid hdl
  have HCH := Lib.hid hch
  clear hrow h1 h2 hv hr hs hh hb hdl hch hne
  have hlen : ((x, y) :: r : List (Nat × Int)).length = r.length + 1 := rfl
  have hlen0 : (((r.length : Nat) : Int) + 1 == 0) = false := by rw [beq_eq_false_iff_ne]; omega
  go_enter Tryz.func82, Tryz.ntmps82
  go_wp2_with fail
  refine (dlThere_any _ b c _ H.out).mono ?_; rintro e w1 ⟨rfl, rfl⟩
  go_wp2_with fail
  go_loopw [2] (fun v wr => ∃ k : Nat, k ≤ r.length + 1 ∧ (∀ z ∈ ((x, y - 1) :: r : List (Nat × Int)).take k, z.2 = 0) ∧ wr.ownsRow w.heap.size 3 1 v k (whoV (((x, y - 1) :: r : List (Nat × Int)).take k)) ∧ DL b c (((x, y - 1) :: r : List (Nat × Int)).drop k) wr ∧ Ch (Sd b c w) w wr)
    (fun v _ => r.length + 1 - sLen v)
  case atStart => exact ⟨0, by omega, fun z hz => (by simp at hz), World.ownsRow_nil _ _ _ _, HDL.out, HCH.out⟩
  case round =>
    obtain ⟨k, hk, hz, hown, hd, hch⟩ := hrel
    have HD := Lib.hid hd
    obtain ⟨ak, capk, hrow, h1, h2, hv⟩ := hd
    have hlk : (((x, y - 1) :: r : List (Nat × Int)).drop k).length = r.length + 1 - k := by simp
    rw [hlk] at hrow h1
    have c1 := hrow.cell (j := 0) (v := .slice ak (r.length + 1 - k) capk) rfl
    by_cases hlt : k < r.length + 1
    · obtain ⟨z, hzk⟩ : ∃ z, ((x, y - 1) :: r : List (Nat × Int))[k]? = some z := ⟨_, List.getElem?_eq_getElem (by simpa using hlt)⟩
      have hz0 : (((x, y - 1) :: r : List (Nat × Int)).drop k)[0]? = some z := by rw [List.getElem?_drop]; exact hzk
      obtain ⟨gk, ofk, rfl, hgk, q0, q1⟩ := hv.cells (by rw [hlk]; exact h1) hz0
      by_cases hzero : z.2 = 0
      · rw [hzero] at q1
        simp only [Nat.mul_zero, Nat.add_zero] at q0 q1
        obtain ⟨Lk, hLk⟩ : ∃ Lk, r.length + 1 - k = Lk + 1 := ⟨r.length - k, by omega⟩
        rw [hLk] at c1 h1
        have HT : Hid (whoV (((x, y - 1) :: r : List (Nat × Int)).take (k + 1)) = whoV (((x, y - 1) :: r : List (Nat × Int)).take k) ++ [.int .i64 (z.1 : Int)]) := Lib.hid (by rw [List.take_add_one, hzk]; simp [whoV])
        have HZ : Hid (∀ u ∈ ((x, y - 1) :: r : List (Nat × Int)).take (k + 1), u.2 = 0) := Lib.hid (by
          rw [List.take_add_one, hzk]
          intro u hu
          rw [List.mem_append] at hu
          rcases hu with hu | hu
          · exact hz u hu
          · simp at hu; subst hu; exact hzero)
        have HOW := Lib.hid hown
        have HC := Lib.hid hch
        have hsz := hch.size
        have HV := Lib.hid hv
        have H2 := Lib.hid h2
        have HROW := Lib.hid hrow
        have HZK := Lib.hid hzk
        clear hz hv hrow hzk hz0 hch h2 hown
        go_wp2_with (first
          | (at_builtin; refine wpList_append_own _ rfl _ _ 120 rfl w.heap.size 3 i0 (.int .i64 0) 1 8 Tryz.underlying120 hi hz0' hz1 hz2 rfl (by decide) _ _ _ rfl (World.ownsRow.alloc (w := wr) HOW.out _) ⟨wr.heap.size, 0, none⟩ 1 1 [.int .i64 (z.1 : Int)] rfl rfl ?c1 ?c2 ?c3 ?c4 ?c5 ?_))
        case c1 =>
          intro j u hj
          match j, hj with
          | 0, hj => simp at hj; subst hj; exact (Row.new wr 3 #[.int .i64 (z.1 : Int)]).cell (j := 0) rfl
        case c2 => intro u hu; simp at hu; subst hu; rfl
        case c3 => unfold maxLen; simp only [List.length_cons] at hl; omega
        case c4 => simp only [List.length_cons] at hl; omega
        case c5 => simp; omega
        · intro v' w2 hown' hgrow _
          have G2 : Ch (fun p => u2.ownBlock = some p) wr w2 := (Ch.alloc _ _).trans (Ch.grew hgrow)
          have hn1 : ¬ u2.ownBlock = some b := fun e => by
            obtain ⟨_, cur, rc⟩ := own_ty3 HOW.out e
            exact absurd rfl (Row.ne rc HROW.out (by decide))
          have hn2 : ∀ p cs, c ≤ p → Row p 289 cs wr → ¬ u2.ownBlock = some p := fun p cs _ rp e => by
            obtain ⟨_, cur, rc⟩ := own_ty3 HOW.out e
            exact absurd rfl (Row.ne rc rp (by decide))
          have hrow2 := HROW.out.keeps G2 hn1
          have hv2 := HV.out.keeps G2 hn2
          rw [hLk] at hrow2
          have d1 := hrow2.cell (j := 0) (v := .slice (some ⟨gk, ofk, none⟩) (Lk + 1) capk) rfl
          have f2 := hrow2.free 0
          have HR2 := Lib.hid hrow2
          have HV2 := Lib.hid hv2
          have HO2 := Lib.hid hown'
          have HC2 : Hid (Ch (Sd b c w) w w2) := Lib.hid (HC.out.trans' G2 (fun p hp e => by
            have := (own_ty3 HOW.out e).1
            omega))
          obtain ⟨c1k, hck⟩ : ∃ c1k, capk = c1k + 1 := ⟨capk - 1, by omega⟩
          subst hck
          have HDR : Hid (((x, y - 1) :: r : List (Nat × Int)).drop k = z :: ((x, y - 1) :: r : List (Nat × Int)).drop (k + 1)) := Lib.hid (by rw [List.drop_eq_getElem_cons (by simpa using hlt)]; congr 1; exact (Option.some.inj (HZK.out.symm.trans (List.getElem?_eq_getElem _))).symm)
          have HLR : Hid ((((x, y - 1) :: r : List (Nat × Int)).drop (k + 1)).length = Lk) := Lib.hid (by simp; omega)
          have hlow : Lk ≤ c1k := by omega
          have HM1 := Lib.hid (own_len HOW.out)
          have HM2 := Lib.hid (own_len hown')
          clear hown' hgrow hn1 hn2 hrow2 hv2 c1 q0 q1
          by_cases hcz : c1k = 0
          · subst hcz
            obtain rfl : Lk = 0 := by omega
            go_wp2_with fail
            go_roundw
            case rel =>
              refine ⟨k + 1, by omega, HZ.out, ?_, ?_, ?_⟩
              · rw [HT.out]
                exact own_far HO2.out b (fun p e => by
                  have := (own_ty3 HO2.out e).1
                  omega) _ _
              · have hpop := DL.pop (g := gk) (off := ofk) (z := z) (r := ((x, y - 1) :: r : List (Nat × Int)).drop (k + 1)) (a' := some ⟨gk, ofk, none⟩) (by rw [HLR.out]; exact HR2.out) (by rw [HLR.out]; omega) H2.out (by rw [← HDR.out]; exact HV2.out) (by exact fun e => absurd rfl e)
                rw [HLR.out] at hpop
                exact hpop
              · exact HC2.out.trans (Ch.setCell w2 b _ _ (.inl rfl))
            case measure =>
              have e1 := HM1.out
              have e2 := HM2.out
              simp only [e1, e2]
              omega
          · go_wp2_with fail
            go_roundw
            case rel =>
              refine ⟨k + 1, by omega, HZ.out, ?_, ?_, ?_⟩
              · rw [HT.out]
                exact own_far HO2.out b (fun p e => by
                  have := (own_ty3 HO2.out e).1
                  omega) _ _
              · have hpop := DL.pop (g := gk) (off := ofk) (z := z) (r := ((x, y - 1) :: r : List (Nat × Int)).drop (k + 1)) (a' := some ⟨gk, ofk + 2, none⟩) (by rw [HLR.out]; exact HR2.out) (by rw [HLR.out]; omega) H2.out (by rw [← HDR.out]; exact HV2.out) (by exact fun _ => rfl)
                rw [HLR.out] at hpop
                exact hpop
              · exact HC2.out.trans (Ch.setCell w2 b _ _ (.inl rfl))
            case measure =>
              have e1 := HM1.out
              have e2 := HM2.out
              simp only [e1, e2]
              omega
      · have hzf : (z.2 == 0) = false := by simpa using hzero
        simp only [Nat.mul_zero, Nat.add_zero] at q0 q1
        obtain ⟨Lk, hLk⟩ : ∃ Lk, r.length + 1 - k = Lk + 1 := ⟨r.length - k, by omega⟩
        rw [hLk] at c1 h1
        have HOW := Lib.hid hown
        have HC := Lib.hid hch
        have HZ := Lib.hid hz
        have HZK := Lib.hid hzk
        have HNE := Lib.hid hzero
        clear hz hv hrow hzk hz0 hch h2 hown
        go_wp2_with fail
        go_ret
        refine ⟨u2, k, rfl, hk, HZ.out, fun u hu => ?_, ?_, HD.out, HC.out⟩
        · have e := HZK.out.symm.trans hu
          cases e
          exact HNE.out
        · have hlen2 : ((((x, y - 1) :: r : List (Nat × Int)).take k).map (fun x => (x.1 : Int))).length = k := by simp; omega
          unfold Ints
          rw [show (dec ((x, y) :: r)) = (x, y - 1) :: r from rfl, hlen2, List.map_map]
          exact HOW.out
    · obtain rfl : k = r.length + 1 := by omega
      have HOW := Lib.hid hown
      have HC := Lib.hid hch
      have HZ := Lib.hid hz
      rw [Nat.sub_self] at c1
      clear hz hv hrow hch h2 hown hlt
      go_wp2_with fail
      go_ret
      refine ⟨u2, r.length + 1, rfl, hk, HZ.out, fun u hu => ?_, ?_, HD.out, HC.out⟩
      · have := (List.getElem?_eq_some_iff.1 hu).1
        simp [dec] at this
      · have hlen2 : ((((x, y - 1) :: r : List (Nat × Int)).take (r.length + 1)).map (fun x => (x.1 : Int))).length = r.length + 1 := by simp
        unfold Ints
        rw [show (dec ((x, y) :: r)) = (x, y - 1) :: r from rfl, hlen2, List.map_map]
        exact HOW.out
end
end Go.Proofs.YtcngfaggignmpaaGreatDoor
