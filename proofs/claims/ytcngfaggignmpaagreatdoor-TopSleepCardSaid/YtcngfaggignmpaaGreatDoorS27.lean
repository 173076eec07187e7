/-
  The top, part 27: Told2.
-/
import Derived.Test.YtcngfaggignmpaaGreatDoorS25
import Derived.Test.YtcngfaggignmpaaGreatDoorS26
import Derived.Laws.EntriesVeiled

/-
  The board: what tasks were answered stands in their registers; cores of tasks that are no more go.
-/
namespace Go.Proofs.YtcngfaggignmpaaGreatDoor
open Go.RowKit Go.ChangeMaps Go.MapKept

/-- The blocks that the board's told turns. -/
def Fz (B : Nat) (bx : Nat → Nat) (gs : Nat → CG) (os : List (Nat × Nat)) : Nat → Prop := fun j => j = B + 73 ∨ ∃ i, Live os i ∧ (j = bx i ∨ j = (gs i).b)
/-- The state of the loop over the tasks. -/
def T1 (B T U : Nat) (tb bx : Nat → Nat) (gs : Nat → CG) (m : KM) (sv : Nat → Value) (cs : Nat → CM) (an : Nat → Int) (os : List (Nat × Nat)) (clk LV : Nat) (tv : Value) (w0 : World) (k : Nat) (wr : World) : Prop :=
  ∃ an' cs', BS B T U tb bx gs m sv cs' an' os clk wr ∧ SoFar m cs an ((tl m 16).take k) cs' an' ∧ wr.heap[LV]? = some (.map (liveE ((tl m 16).take k)) k) ∧ TSl (LV + 1) tv (tl m 16) wr ∧ Ch (Fz B bx gs os) w0 wr

section
variable {B T U : Nat} {tb bx : Nat → Nat} {gs : Nat → CG} {m : KM} {sv : Nat → Value} {cs : Nat → CM} {an : Nat → Int} {os : List (Nat × Nat)} {clk : Nat} {w : World}
theorem upd_self {α : Type} (f : Nat → α) (i : Nat) : upd f i (f i) = f := by
  funext k
  unfold upd
  by_cases e : k = i
  · rw [if_pos e, e]
  · rw [if_neg e]
/-- A block that is no row turns. -/
theorem BS.far {w' : World} {q : Nat} (h : BS B T U tb bx gs m sv cs an os clk w) (g : Ch (fun k => k = q) w w') (hq : U + 3 ≤ q) (hm : ∀ ty cur, ¬ Row q ty cur w) : BS B T U tb bx gs m sv cs an os clk w' := by
  have l1 := h.kern.lay1
  have l2 := h.kern.lay2
  have no : ∀ k ty cur, Row k ty cur w → ¬ (k = q) := fun k ty cur r e => by
    subst e
    exact hm ty cur r
  exact ⟨h.board.keeps g (fun (e : B + 74 = q) => by omega), h.kern.keeps g (fun k e => by omega) (fun k cur ty e r => absurd e (no k ty cur r)), g.keeps h.map (fun (e : B + 73 = q) => by omega), h.one, h.two, h.low,
    fun i hi => (h.core i hi).apart g (fun k ty cur _ r _ => no k ty cur r), h.sep⟩
theorem map_noRow {w : World} {q : Nat} {es : Array MapEntry} {c : Nat} (h : w.heap[q]? = some (.map es c)) : ∀ ty cur, ¬ Row q ty cur w := fun ty cur r => by
  rw [show w.heap[q]? = some (.cells cur ty) from r] at h
  cases h
theorem iter_noRow {w : World} {q : Nat} {a : Option Nat} {b c : Nat} {e : Array Nat} (h : w.heap[q]? = some (.mapIter a b e c)) : ∀ ty cur, ¬ Row q ty cur w := fun ty cur r => by
  rw [show w.heap[q]? = some (.cells cur ty) from r] at h
  cases h
/-- The map of the cores turns: some go. -/
theorem BS.fewer {w' : World} {p : Nat × Nat → Bool} (h : BS B T U tb bx gs m sv cs an os clk w) (g : Ch (fun k => k = B + 73) w w') (hm : w'.heap[B + 73]? = some (.map (entA bx (os.filter p)) clk)) : BS B T U tb bx gs m sv cs an (os.filter p) clk w' := by
  have l1 := h.kern.lay1
  have l2 := h.kern.lay2
  have no : ∀ k ty cur, Row k ty cur w → ¬ (k = B + 73) := fun k ty cur r e => by
    subst e
    exact map_noRow h.map ty cur r
  have live : ∀ i, Live (os.filter p) i → Live os i := fun i ⟨s, hs⟩ => ⟨s, (List.mem_filter.1 hs).1⟩
  have hcs : ∀ i, Live os i → CS U bx gs sv cs an i w' := fun i hi => (h.core i hi).apart g (fun k ty cur _ r _ => no k ty cur r)
  refine ⟨h.board.keeps g (fun (e : B + 74 = B + 73) => by omega), ?_, hm, h.one.sublist (List.Sublist.map _ List.filter_sublist), h.two.sublist (List.Sublist.map _ List.filter_sublist), fun x hx => h.low x (List.mem_filter.1 hx).1, fun i hi => hcs i (live i hi), fun i j hi hj => h.sep i j (live i hi) (live j hj)⟩
  have k := h.kern
  refine ⟨k.lay1, k.lay2, k.lay3, k.lay4, ?_, k.th.keeps g (fun (e : B + 70 = B + 73) => by omega), k.oh.keeps g (fun (e : B + 71 = B + 73) => by omega), k.ready.keeps g (fun k e hb => by simp only [Rqb] at hb; omega), k.sleeps.keeps g (fun (e : B + 65 = B + 73) => by omega) (fun k cs hk r => no k _ _ r), k.alarms.keeps g (fun (e : B + 66 = B + 73) => by omega) (fun (e : B + 66 + 2 = B + 73) => by omega),
    k.thing.keeps g (fun (e : U + 2 = B + 73) => by omega), k.obj.keeps g (fun (e : T = B + 73) => by omega) (fun (e : T + 1 = B + 73) => by omega) (fun (e : T + 2 = B + 73) => by omega), k.wait.keeps g (fun (e : U = B + 73) => by omega) (fun (e : U + 1 = B + 73) => by omega) (fun k cs _ r => no k _ _ r), fun i t hi ht => (k.task i t hi ht).keeps g (no _ _ _ (k.task i t hi ht))⟩
  obtain ⟨c, r, kb⟩ := k.kern
  exact ⟨c, r.keeps g (fun (e : B + 69 = B + 73) => by omega), kb⟩
/-- The state of the loop over the cores. -/
def T2 (B T U : Nat) (tb bx : Nat → Nat) (gs : Nat → CG) (m : KM) (sv : Nat → Value) (cs : Nat → CM) (an : Nat → Int) (os : List (Nat × Nat)) (clk LV IT : Nat) (w0 : World) (wr : World) : Prop :=
  ∃ seen c0, clk ≤ c0 ∧ BS B T U tb bx gs m sv cs an (os.filter (keepB m seen)) clk wr ∧ wr.heap[LV]? = some (.map (liveE (tl m 16)) (tl m 16).length) ∧ wr.heap[IT]? = some (.mapIter (some (B + 73)) clk seen c0) ∧ Ch (Fz B bx gs os) w0 wr

set_option maxRecDepth 100000 in
set_option maxHeartbeats 4000000 in
theorem told_any (h : BS B T U tb bx gs m sv cs an os clk w) (hlive : ∀ i t, m.tk i = some t → i < 16 ∧ Live os i) (hask : ∀ i t, m.tk i = some t → an i < t.ans → (cs i).asked = true ∧ 0 ≤ t.last ∧ t.last < 16) :
    Calls Tryz.prog 30 #[.pointer (some ⟨B + 74, 0, none⟩)] w fun e w' => e = .returned (.tuple #[]) ∧
      BS B T U tb bx gs m sv (fun i => toldC (m.tk i) (cs i) (an i)) (fun i => toldA (m.tk i) (an i)) (os.filter (fun x => (m.tk x.1).isSome)) clk w' ∧ Ch (Fz B bx gs os) w w' := by
  have hmm := @run_makeMap Tryz.prog
  have H := Lib.hid h
  have HL := Lib.hid hlive
  have HA := Lib.hid hask
  have hBw : B + 75 ≤ w.heap.size := by have := h.kern.room; have := h.kern.lay1; have := h.kern.lay2; omega
  clear h hlive hask
  obtain ⟨LV, hLV⟩ : ∃ LV, LV = w.heap.size := ⟨_, rfl⟩
  obtain ⟨W0, hW0⟩ : ∃ W0, W0 = w.alloc (.map #[] 0) := ⟨_, rfl⟩
  have m0 : W0.heap[LV]? = some (.map #[] 0) := by rw [hW0, hLV]; exact (MapKept.heap_alloc _ _).1
  have c0 : Ch No w W0 := by rw [hW0]; exact Ch.alloc w _
  have z0 : W0.heap.size = LV + 1 := by rw [hW0, hLV]; exact Array.size_push _
  have HLV := Lib.hid hLV
  have HW := Lib.hid hW0
  have M0 := Lib.hid m0
  have C0 := Lib.hid c0
  have Z0 := Lib.hid z0
  have H0 := Lib.hid (H.out.no c0)
  clear hLV hW0 m0 c0 z0
  have cK := H0.out.board.cK
  rw [HW.out] at cK
  go_enter Tryz.func30, Tryz.ntmps30
  go_wp2_with fail
  rw [← HW.out, ← HLV.out]
  refine (tasks_any H0.out.kern).mono ?_; rintro e w1 ⟨tv, rfl, hts, hch⟩
  rw [Z0.out] at hts
  have M1 := Lib.hid (hch.keeps M0.out (fun x => x))
  have C1 := Lib.hid (C0.out.trans hch)
  have H1 := Lib.hid (H0.out.no hch)
  have HTS := Lib.hid hts
  obtain ⟨ta, hta, _⟩ := hts
  subst hta
  have hlen := tl_len m 16
  obtain ⟨L, hL⟩ : ∃ L, L = (tl m 16).length := ⟨_, rfl⟩
  rw [← hL] at hlen HTS ⊢
  have HLL := Lib.hid hL
  clear hL hch cK
  go_wp2_with fail
  have HR0 : Hid (T1 B T U tb bx gs m sv cs an os clk LV (.slice ta L L) w 0 w1) := Lib.hid ⟨an, cs, H1.out, SoFar.nil m cs an, M1.out, HTS.out, C1.out.mono (fun _ _ e => e.elim)⟩
  go_loopw [4, 5, 14] (fun _ _ i wr => ∃ k : Nat, k ≤ L ∧ i = .int .i64 (k : Int) ∧ T1 B T U tb bx gs m sv cs an os clk LV (.slice ta L L) w k wr) (fun _ _ i _ => L - (intOf i).toNat)
  case atStart => exact ⟨0, by omega, rfl, HR0.out⟩
  case round =>
    obtain ⟨k, hk, rfl, an', cs', hb, hso, hml, hts, hch⟩ := hrel
    by_cases hlt : k < L
    · obtain ⟨x, hx⟩ : ∃ x, (tl m 16)[k]? = some x := ⟨_, List.getElem?_eq_getElem (by have := HLL.out; omega)⟩
      obtain ⟨i, t⟩ := x
      have hmem := (tl_mem m 16 i t).1 (List.mem_of_getElem? hx)
      have hnew := tl_new hx
      have htake : (tl m 16).take (k + 1) = (tl m 16).take k ++ [(i, t)] := by rw [List.take_add_one, hx]; rfl
      have hlk : ((tl m 16).take k).length = k := by rw [List.length_take]; have := HLL.out; omega
      obtain ⟨hi, hli⟩ := HL.out i t hmem.2
      have hts0 := hts
      obtain ⟨a2, ea, hcells⟩ := hts
      obtain ⟨gt, hgt, ea2, cc, rr, hcc⟩ := hcells k (i, t) hx
      have eta : ta = some ⟨gt, 0, none⟩ := by
        have := (Value.slice.inj ea).1
        rw [this]
        exact ea2
      subst eta
      obtain ⟨st, hst⟩ : ∃ st : Int, st = if t.wait then 2 else 1 := ⟨_, rfl⟩
      have q0 : wr.cell? ⟨gt, k * 14, none⟩ = some (.int .u32 (256 + i)) := rr.cell (hcc 0 _ rfl)
      have q1 : wr.cell? ⟨gt, k * 14 + 1, none⟩ = some (.int .u8 st) := by rw [hst]; exact rr.cell (hcc 1 _ rfl)
      have q2 : wr.cell? ⟨gt, k * 14 + 2, none⟩ = some (.bool false) := rr.cell (hcc 2 _ rfl)
      have q3 : wr.cell? ⟨gt, k * 14 + 3, none⟩ = some (.int .i64 t.rank) := rr.cell (hcc 3 _ rfl)
      have q4 : wr.cell? ⟨gt, k * 14 + 4, none⟩ = some (.int .i64 t.rank) := rr.cell (hcc 4 _ rfl)
      have q5 : wr.cell? ⟨gt, k * 14 + 5, none⟩ = some (.int .u8 t.what) := rr.cell (hcc 5 _ rfl)
      have q6 : wr.cell? ⟨gt, k * 14 + 6, none⟩ = some (.int .u32 t.hh) := rr.cell (hcc 6 _ rfl)
      have q7 : wr.cell? ⟨gt, k * 14 + 7, none⟩ = some (.int .u32 t.v) := rr.cell (hcc 7 _ rfl)
      have q8 : wr.cell? ⟨gt, k * 14 + 8, none⟩ = some (.int .u32 t.mm) := rr.cell (hcc 8 _ rfl)
      have q9 : wr.cell? ⟨gt, k * 14 + 9, none⟩ = some (.int .i64 t.wt) := rr.cell (hcc 9 _ rfl)
      have q10 : wr.cell? ⟨gt, k * 14 + 10, none⟩ = some (.int .i64 t.left) := rr.cell (hcc 10 _ rfl)
      have q11 : wr.cell? ⟨gt, k * 14 + 11, none⟩ = some (.int .i64 t.ans) := rr.cell (hcc 11 _ rfl)
      have q12 : wr.cell? ⟨gt, k * 14 + 12, none⟩ = some (.int .i64 t.last) := rr.cell (hcc 12 _ rfl)
      have q13 : wr.cell? ⟨gt, k * 14 + 13, none⟩ = some (.int .u32 t.val) := rr.cell (hcc 13 _ rfl)
      obtain ⟨ex1, ex2⟩ := hso.no i hnew
      have hLw : LV < wr.heap.size := lt_of_blk hml
      have hroom := hb.kern.room
      have hLB : U + 3 ≤ LV := by have := H.out.kern.room; have := HLV.out; omega
      have cx := Row.new wr 125 #[.int .u32 (256 + i), .int .u8 st, .bool false, .int .i64 t.rank, .int .i64 t.rank, .int .u8 t.what, .int .u32 t.hh, .int .u32 t.v, .int .u32 t.mm, .int .i64 t.wt, .int .i64 t.left, .int .i64 t.ans, .int .i64 t.last, .int .u32 t.val]
      have gx : Ch No wr (wr.alloc (.cells #[.int .u32 (256 + i), .int .u8 st, .bool false, .int .i64 t.rank, .int .i64 t.rank, .int .u8 t.what, .int .u32 t.hh, .int .u32 t.v, .int .u32 t.mm, .int .i64 t.wt, .int .i64 t.left, .int .i64 t.ans, .int .i64 t.last, .int .u32 t.val] 125)) := Ch.alloc _ _
      have pp := run_put_at (P := Tryz.prog) Tryz.underlying193 Tryz.underlying34 (256 + (i : Int)) (.bool true) (gx.keeps hml (fun x => x)) (by
        rcases liveE_find ((tl m 16).take k) i with ⟨hf, _⟩ | ⟨j, _, t', ht'⟩
        · exact hf
        · exact absurd ht' (hnew t'))
      obtain ⟨WX, hWX⟩ : ∃ WX, WX = wr.alloc (.cells #[.int .u32 (256 + i), .int .u8 st, .bool false, .int .i64 t.rank, .int .i64 t.rank, .int .u8 t.what, .int .u32 t.hh, .int .u32 t.v, .int .u32 t.mm, .int .i64 t.wt, .int .i64 t.left, .int .i64 t.ans, .int .i64 t.last, .int .u32 t.val] 125) := ⟨_, rfl⟩
      obtain ⟨WY, hWY⟩ : ∃ WY, WY = putMap WX LV ((liveE ((tl m 16).take k)).push ⟨.int .u32 (256 + (i : Int)), .bool true, k⟩) (k + 1) := ⟨_, rfl⟩
      rw [← hWX] at cx gx
      have hmx := gx.keeps hml (fun x => x)
      have gy : Ch (fun j => j = LV) WX WY := by rw [hWY]; exact putMap_ch
      have hmy : WY.heap[LV]? = some (.map (liveE ((tl m 16).take (k + 1))) (k + 1)) := by
        rw [hWY, htake, liveE_push, hlk]
        exact putMap_at (lt_of_blk hmx)
      rw [← hWX, ← hWY] at pp
      rw [hWX] at pp
      have hby := (hb.no gx).far gy hLB (map_noRow hmx)
      have cy := cx.keeps gy (by omega)
      have htsy := (hts0.keeps gx (fun _ _ _ x => x)).keeps gy (fun j hj _ e => by omega)
      have gwy : Ch (Fz B bx gs os) w WY := (hch.trans (gx.mono (fun _ _ e => e.elim))).trans' gy (fun j hj e => absurd e (by have := HLV.out; omega))
      have y0 := cy.cell (j := 0) rfl
      have y11 := cy.cell (j := 11) rfl
      have y12 := cy.cell (j := 12) rfl
      have y13 := cy.cell (j := 13) rfl
      have cM := hby.board.cMap
      have hlook := hby.look hli
      have hlook1 : (Instr.lookup 79 (.map (some (B + 73))) (.int .u32 (256 + (i : Int))) false).run Tryz.prog WY.drew = .ok (.pointer (some ⟨bx i, 0, none⟩)) WY.drew := (hby.drewN 1).look hli
      have hlookN : ∀ n, (Instr.lookup 79 (.map (some (B + 73))) (.int .u32 (256 + (i : Int))) false).run Tryz.prog (WY.drewN n) = .ok (.pointer (some ⟨bx i, 0, none⟩)) (WY.drewN n) := fun n => (hby.drewN n).look hli
      have hcs := hby.core i hli
      have b0 := hcs.box.cell (j := 0) rfl
      have b1 : WY.cell? ⟨bx i, 1, none⟩ = some (.int .i64 (an i)) := by rw [← ex1]; exact hcs.box.cell (j := 1) rfl
      have bf := hcs.box.free 1
      have HB := Lib.hid hby
      have HSO := Lib.hid hso
      have HMY := Lib.hid hmy
      have HTY := Lib.hid htsy
      have HGY := Lib.hid gwy
      have HX1 := Lib.hid ex1
      have HX2 := Lib.hid ex2
      have HTK := Lib.hid htake
      have HST := Lib.hid hst
      have HMEM := Lib.hid hmem
      have HNEW := Lib.hid hnew
      have HCS := Lib.hid hcs
      have HCY := Lib.hid cy
      clear hb hso hml hts0 hch hx hmem hnew htake hlk hcells rr hcc hst ex1 ex2 cx gx hWX hWY gy hmx hmy hby cy htsy gwy ea ea2 hcs
      have HRELN : Hid (∀ W, Ch No WY W → BS B T U tb bx gs m sv cs' an' os clk W ∧ W.heap[LV]? = some (.map (liveE ((tl m 16).take (k + 1))) (k + 1)) ∧ TSl (LV + 1) (.slice (some ⟨gt, 0, none⟩) L L) (tl m 16) W ∧ Ch (Fz B bx gs os) w W ∧ Row wr.heap.size 125 #[.int .u32 (256 + i), .int .u8 st, .bool false, .int .i64 t.rank, .int .i64 t.rank, .int .u8 t.what, .int .u32 t.hh, .int .u32 t.v, .int .u32 t.mm, .int .i64 t.wt, .int .i64 t.left, .int .i64 t.ans, .int .i64 t.last, .int .u32 t.val] W) :=
        Lib.hid (fun W c => ⟨HB.out.no c, c.keeps HMY.out (fun x => x), HTY.out.keeps c (fun _ _ _ x => x), HGY.out.trans (c.mono (fun _ _ e => e.elim)), HCY.out.keeps c (fun x => x)⟩)
      have hBXT : LV + 1 ≤ wr.heap.size := hLw
      by_cases hnews : an i < t.ans
      · have d1 : decide (an i < t.ans) = true := by rw [decide_eq_true_iff]; exact hnews
        go_wp2_with fail
        go_quiet (fail)
        obtain ⟨n1, hn1⟩ : ∃ n1, n1 = nq := ⟨_, rfl⟩
        rw [← hn1]
        clear hn1
        clear hlook hlook1 hlookN
        go_wp2_with fail
        go_quiet (fail)
        obtain ⟨n2, hn2⟩ : ∃ n2, n2 = nq := ⟨_, rfl⟩
        rw [← hn2]
        clear hn2
        obtain ⟨W6, hW6⟩ : ∃ W6, W6 = (WY.drewN n1).drewN n2 := ⟨_, rfl⟩
        have c6 : Ch No WY W6 := by rw [hW6]; exact (Ch.drewN _ _).trans (Ch.drewN _ _)
        rw [← hW6]
        obtain ⟨hb6, hm6, ht6, hg6, hx6⟩ := HRELN.out W6 c6
        have hc6 := hb6.core i hli
        have e0 := hc6.box.cell (j := 0) rfl
        have e1 : W6.cell? ⟨bx i, 1, none⟩ = some (.int .i64 (an i)) := by rw [← HX1.out]; exact hc6.box.cell (j := 1) rfl
        have ef := hc6.box.free 1
        have x0 := hx6.cell (j := 0) rfl
        have x11 : W6.cell? ⟨wr.heap.size, 11, none⟩ = some (.int .i64 t.ans) := hx6.cell (j := 11) rfl
        have hb7 := hb6.boxed hli t.ans
        have hne : wr.heap.size ≠ bx i := fun e => absurd (hx6.ty (e ▸ hc6.box)) (by decide)
        have hx7 := hx6.other hne 1 (.int .i64 t.ans)
        have g7 := Ch.set1 W6 (bx i) 1 (.int .i64 t.ans)
        have hlb := hc6.hi
        have hm7 := g7.keeps hm6 (fun e => by
          subst e
          rw [show W6.heap[bx i]? = some (.cells _ 109) from hc6.box] at hm6
          cases hm6)
        have ht7 := ht6.keeps g7 (fun j hj _ e => by subst e; have := (H.out.core i hli).box.lt; have := HLV.out; omega)
        have hg7 : Ch (Fz B bx gs os) w _ := hg6.trans (g7.mono (fun j _ e => .inr ⟨i, hli, .inl e⟩))
        have hc7 := hb7.core i hli
        have HB7 := Lib.hid hb7
        have HM7 := Lib.hid hm7
        have HT7 := Lib.hid ht7
        have HG7 := Lib.hid hg7
        have HX7 := Lib.hid hx7
        clear hW6 c6 hb6 hm6 ht6 hg6 hx6 hc6 hb7 hx7 g7 hm7 ht7 hg7 hc7 b0 b1 bf y0 y11 y12 y13 cM
        go_wp2_with fail
        clear e0 e1 ef x0 x11
        obtain ⟨W7, hW7⟩ : ∃ W7, W7 = W6.setCell ⟨bx i, 1, none⟩ (.int .i64 t.ans) := ⟨_, rfl⟩
        have HRELM : Hid (∀ W, Ch (fun j => j = (gs i).b) W7 W → BS B T U tb bx gs m sv cs' (upd an' i t.ans) os clk W7 ∧ W.heap[LV]? = some (.map (liveE ((tl m 16).take (k + 1))) (k + 1)) ∧ TSl (LV + 1) (.slice (some ⟨gt, 0, none⟩) L L) (tl m 16) W ∧ Ch (Fz B bx gs os) w W ∧ Row wr.heap.size 125 #[.int .u32 (256 + i), .int .u8 st, .bool false, .int .i64 t.rank, .int .i64 t.rank, .int .u8 t.what, .int .u32 t.hh, .int .u32 t.v, .int .u32 t.mm, .int .i64 t.wt, .int .i64 t.left, .int .i64 t.ans, .int .i64 t.last, .int .u32 t.val] W ∧ Row (bx i) 109 #[.pointer (some ⟨(gs i).b, 0, none⟩), .int .i64 t.ans] W) :=
          Lib.hid (fun W c => by
            have hc := HB7.out.core i hli
            have hm7 := HM7.out
            have h7 := HB7.out
            rw [← hW7] at hc hm7 h7
            have hbox := hc.box
            rw [upd_at] at hbox
            have hlo := hc.hi
            refine ⟨h7, c.keeps hm7 (fun e => ?_), ?_, ?_, ?_, hbox.keeps c (fun e => absurd (hc.core.core.ty (e ▸ hc.box)) (by decide))⟩
            · subst e
              rw [show W7.heap[(gs i).b]? = some (.cells _ 191) from hc.core.core] at hm7
              cases hm7
            · have := HT7.out
              rw [← hW7] at this
              exact this.keeps c (fun j hj _ e => by subst e; have := (H.out.core i hli).core.core.lt; have := HLV.out; omega)
            · have := HG7.out
              rw [← hW7] at this
              exact this.trans (c.mono (fun j _ e => .inr ⟨i, hli, .inr e⟩))
            · have := HX7.out
              rw [← hW7] at this
              exact this.keeps c (fun e => absurd (this.ty (e ▸ hc.core.core)) (by decide)))
        have hw0 := HRELM.out W7 (Ch.refl _ _)
        obtain ⟨hb7, hm7, ht7, hg7, hx7, hbox7⟩ := hw0
        have e0 := hbox7.cell (j := 0) rfl
        have x12 : W7.cell? ⟨wr.heap.size, 12, none⟩ = some (.int .i64 t.last) := hx7.cell (j := 12) rfl
        have x13 : W7.cell? ⟨wr.heap.size, 13, none⟩ = some (.int .u32 t.val) := hx7.cell (j := 13) rfl
        have HCO := Lib.hid (hb7.core i hli).core
        have HASK : Hid ((cs' i).asked = true ∧ 0 ≤ t.last ∧ t.last < 4294967296) := Lib.hid (by
          have := HA.out i t HMEM.out.2 hnews
          rw [HX2.out]
          exact ⟨this.1, this.2.1, by omega⟩)
        have HB7' := Lib.hid hb7
        rw [← hW7]
        clear hW7 hb7 hm7 ht7 hg7 hx7 hbox7 HB7 HM7 HT7 HG7 HX7
        go_region_held3 (fun wx => wx.cell? ⟨bx i, 0, none⟩ = some (.pointer (some ⟨(gs i).b, 0, none⟩)) ∧ wx.cell? ⟨wr.heap.size, 12, none⟩ = some (.int .i64 t.last) ∧ wx.cell? ⟨wr.heap.size, 13, none⟩ = some (.int .u32 t.val)) (first | exact ⟨by assumption, by assumption, by assumption⟩) (first
          | (go_at_call 59; refine (answer_any t.last t.val HASK.out.2 (HCO.out.drewN 1) HASK.out.1).mono ?_; rintro e w8 ⟨rfl, hco8, hch8⟩; have HC8 := Lib.hid hco8; have HG8 := Lib.hid (Ch.trans (w1 := W7.drew) (Ch.drewN W7 1) hch8); have z0 := (HRELM.out _ HG8.out).2.2.2.2.2.cell (j := 0) (v := .pointer (some ⟨(gs i).b, 0, none⟩)) rfl; have z12 := (HRELM.out _ HG8.out).2.2.2.2.1.cell (j := 12) (v := .int .i64 t.last) rfl; have z13 := (HRELM.out _ HG8.out).2.2.2.2.1.cell (j := 13) (v := .int .u32 t.val) rfl; clear hco8 hch8))
        go_wp2_with fail
        go_roundw
        case rel =>
          obtain ⟨h7, r2, r3, r4, _⟩ := HRELM.out w8 HG8.out
          have h8 := h7.step hli (HG8.out.mono (fun _ _ e => .inl e)) HC8.out (.inl rfl)
          rw [upd_self] at h8
          refine ⟨k + 1, by omega, by go_num, _, _, h8, ?_, r2, r3, r4⟩
          rw [HTK.out]
          refine HSO.out.next HMEM.out.2 HNEW.out ?_ ?_ (fun j hj => ⟨upd_ne _ _ hj, upd_ne _ _ hj⟩)
          · rw [upd_at]
            show _ = if an i < t.ans then _ else an i
            rw [if_pos hnews]
          · rw [upd_at, HX2.out]
            show _ = if an i < t.ans then _ else cs i
            rw [if_pos hnews]
        case measure => simp [intOf]; omega
      · have d1 : decide (an i < t.ans) = false := by rw [decide_eq_false_iff_not]; exact hnews
        go_wp2_with fail
        go_quiet (fail)
        obtain ⟨n1, hn1⟩ : ∃ n1, n1 = nq := ⟨_, rfl⟩
        rw [← hn1]
        clear hn1
        clear hlook hlook1 hlookN
        go_wp2_with fail
        go_quiet (fail)
        obtain ⟨n2, hn2⟩ : ∃ n2, n2 = nq := ⟨_, rfl⟩
        rw [← hn2]
        clear hn2
        go_wp2_with fail
        go_roundw
        case rel =>
          obtain ⟨r1, r2, r3, r4, _⟩ := HRELN.out (WY.drewN (n1 + n2)) (Ch.drewN _ _)
          refine ⟨k + 1, by omega, by go_num, an', cs', r1, ?_, r2, r3, r4⟩
          rw [HTK.out]
          refine HSO.out.next HMEM.out.2 HNEW.out ?_ ?_ (fun j _ => ⟨rfl, rfl⟩)
          · rw [HX1.out]
            show _ = if an i < t.ans then _ else an i
            rw [if_neg (by omega)]
          · rw [HX2.out]
            show _ = if an i < t.ans then _ else cs i
            rw [if_neg (by omega)]
        case measure => simp [intOf]; omega
    · obtain rfl : k = L := by omega
      have hfull : (tl m 16).take k = tl m 16 := by rw [HLL.out, List.take_length]
      rw [hfull] at hso hml
      obtain ⟨rfl, rfl⟩ := hso.all (fun i t e => (HL.out i t e).1)
      have cM := hb.board.cMap
      have hrg := run_range_map (P := Tryz.prog) wr 79 34 107 (B + 73) (entA bx os) clk Tryz.underlying79 hb.map
      obtain ⟨IT, hIT⟩ : ∃ IT, IT = wr.heap.size := ⟨_, rfl⟩
      obtain ⟨WI, hWI⟩ : ∃ WI, WI = wr.alloc (.mapIter (some (B + 73)) clk #[] clk) := ⟨_, rfl⟩
      have gi : Ch No wr WI := by rw [hWI]; exact Ch.alloc _ _
      have mi : WI.heap[IT]? = some (.mapIter (some (B + 73)) clk #[] clk) := by rw [hWI, hIT]; exact (MapKept.heap_alloc _ _).1
      rw [← hWI, ← hIT] at hrg
      have hLIT : LV < IT := by rw [hIT]; exact lt_of_blk hml
      have HT2 : Hid (T2 B T U tb bx gs m sv (fun i => toldC (m.tk i) (cs i) (an i)) (fun i => toldA (m.tk i) (an i)) os clk LV IT w WI) := Lib.hid ⟨#[], clk, Nat.le_refl _, by rw [keep_none]; exact hb.no gi, by rw [← HLL.out]; exact gi.keeps hml (fun x => x), mi, hch.trans (gi.mono (fun _ _ e => e.elim))⟩
      have hLB : U + 3 ≤ LV := by have := H.out.kern.room; have := HLV.out; omega
      have hBL : B + 75 ≤ LV := by have := H.out.kern.lay1; have := H.out.kern.lay2; omega
      clear hIT hWI gi mi hb hso hml hts hch hfull
      go_wp2_with fail
      obtain ⟨wo, rfl⟩ : ∃ wo : World, wo = wr := ⟨_, rfl⟩
      go_loopw [6] (fun _ wx => T2 B T U tb bx gs m sv (fun i => toldC (m.tk i) (cs i) (an i)) (fun i => toldA (m.tk i) (an i)) os clk LV IT w wx) (fun _ wx => match wx.heap[IT]? with | some (.mapIter _ _ seen _) => (os.filter (fun y => !seen.contains y.2)).length | _ => 0)
      case atStart => exact HT2.out
      case round =>
        obtain ⟨seen, c0, hc0, hb, hml, hit, hch⟩ := hrel
        have hold : ∀ x ∈ (entA bx (os.filter (keepB m seen))).toList, x.born < clk := fun x hx => by
          unfold entA at hx
          simp only [List.mem_map] at hx
          obtain ⟨y, hy, rfl⟩ := hx
          exact (hb.low y hy).2
        have hborn : ((entA bx (os.filter (keepB m seen))).toList.map (·.born)).Nodup := by
          unfold entA
          simp only [List.map_map]
          exact hb.two
        rcases run_next_at (P := Tryz.prog) wr 0 IT (B + 73) clk c0 seen (entA bx (os.filter (keepB m seen))) clk hit hb.map hold hc0 with ⟨h0, hrun⟩ | ⟨e, he, w1, hal, hrun⟩
        · have hend : os.filter (keepB m seen) = os.filter (fun x => (m.tk x.1).isSome) := keep_end (fun x hx => by
            refine all_seen _ seen h0 (entC bx x) ?_
            unfold entA
            exact List.mem_map.2 ⟨x, hx, rfl⟩)
          rw [hend] at hb
          have HB := Lib.hid hb
          have HCH := Lib.hid hch
          clear hb hch hml hit hold hborn hend h0
          go_wp2_with fail
          go_end0
          exact ⟨rfl, HB.out, HCH.out⟩
        · obtain ⟨hem, hes⟩ := mem_left he
          obtain ⟨x, hx, rfl⟩ : ∃ x ∈ os.filter (keepB m seen), e = entC bx x := by
            unfold entA at hem
            simp only [List.mem_map] at hem
            obtain ⟨y, hy, rfl⟩ := hem
            exact ⟨y, hy, rfl⟩
          obtain ⟨i, s⟩ := x
          have hxo : (i, s) ∈ os := (List.mem_filter.1 hx).1
          have hss : seen.contains s = false := hes
          obtain ⟨W2, hW2⟩ : ∃ W2, W2 = setBlock w1 IT (.mapIter (some (B + 73)) clk (seen.push s) clk) := ⟨_, rfl⟩
          have hrun2 : (Instr.next (.pointer (some ⟨IT, 0, none⟩)) false 0).run Tryz.prog wr = .ok (.tuple #[.bool true, .int .u32 (256 + (i : Int)), .pointer (some ⟨bx i, 0, none⟩)]) W2 := by rw [hW2]; exact hrun
          have g1 : Ch No wr w1 := by rcases hal with rfl | rfl <;> first | exact Ch.refl _ _ | exact Ch.drewN _ 1
          have g2 : Ch (fun j => j = IT) w1 W2 := by rw [hW2]; exact setBlock_ch _ _ _
          have hit2 : W2.heap[IT]? = some (.mapIter (some (B + 73)) clk (seen.push s) clk) := by rw [hW2]; exact setBlock_at (g1.keeps hit (fun x => x))
          have hb2 := (hb.no g1).far g2 (by omega) (iter_noRow (g1.keeps hit (fun x => x)))
          have hml2 := g2.keeps (g1.keeps hml (fun x => x)) (by omega)
          have hch2 : Ch (Fz B bx gs os) w W2 := (hch.trans (g1.mono (fun _ _ e => e.elim))).trans' g2 (fun j hj e => absurd e (by have := HLV.out; omega))
          have hen := run_entry_at (P := Tryz.prog) W2 IT (B + 73) clk seen (entA bx (os.filter (keepB m seen))) clk (entC bx (i, s)) hit2 hb2.map hem hborn
          have hen2 : (Instr.entry (.pointer (some ⟨IT, 0, none⟩))).run Tryz.prog W2 = .ok (.tuple #[.int .u32 (256 + (i : Int)), .pointer (some ⟨bx i, 0, none⟩)]) W2 := hen
          have cM := hb2.board.cMap
          have one := H.out.one
          have two := H.out.two
          have HONE := Lib.hid one
          have HTWO := Lib.hid two
          have HXO := Lib.hid hxo
          have HSS := Lib.hid hss
          have HB2 := Lib.hid hb2
          have HML2 := Lib.hid hml2
          have HIT2 := Lib.hid hit2
          have HIT := Lib.hid hit
          have HCH2 := Lib.hid hch2
          clear hrun hW2 g1 g2 hal he hem hes hx hold hborn hb hml hch hen one two hxo hss hit
          rcases live_look hml2 i with ⟨hlk, hnot⟩ | ⟨hlk, hyes⟩
          · have htk : (m.tk i).isSome = false := by
              cases e : m.tk i with
              | none => rfl
              | some t => exact absurd ((tl_mem m 16 i t).2 ⟨(HL.out i t e).1, e⟩) (hnot t)
            obtain ⟨W3, hW3⟩ : ∃ W3, W3 = putMap W2 (B + 73) (entA bx ((os.filter (keepB m seen)).filter (fun x => x.1 != i))) clk := ⟨_, rfl⟩
            have hdel : ∀ ty, (Builtin.delete_ #[79, 34] ty #[.map (some (B + 73)), .int .u32 (256 + (i : Int))]).run Tryz.prog W2 = .ok (.tuple #[]) W3 := fun ty => by rw [hW3]; exact hb2.drop i ty
            have g3 : Ch (fun j => j = B + 73) W2 W3 := by rw [hW3]; exact putMap_ch
            have hm3 : W3.heap[B + 73]? = some (.map (entA bx ((os.filter (keepB m seen)).filter (fun x => x.1 != i))) clk) := by rw [hW3]; exact putMap_at (lt_of_blk hb2.map)
            have hb3 := hb2.fewer g3 hm3
            rw [← keep_drop HONE.out HTWO.out HXO.out htk] at hb3
            have HB3 := Lib.hid hb3
            have HML3 := Lib.hid (g3.keeps hml2 (by omega))
            have HIT3 := Lib.hid (g3.keeps hit2 (by omega))
            have HCH3 : Hid (Ch (Fz B bx gs os) w W3) := Lib.hid (hch2.trans (g3.mono (fun j _ e => .inl e)))
            clear hb2 hml2 hit2 hch2 hW3 g3 hm3 hb3 hnot htk
            go_wp2_with fail
            go_roundw
            case rel => exact ⟨seen.push s, clk, Nat.le_refl _, HB3.out, HML3.out, HIT3.out, HCH3.out⟩
            case measure =>
              rw [HIT3.out, HIT.out]
              exact left_less HXO.out HSS.out
          · have htk : (m.tk i).isSome = true := by
              obtain ⟨t, ht⟩ := hyes
              rw [((tl_mem m 16 i t).1 ht).2]
              rfl
            have HTK2 := Lib.hid htk
            clear hb2 hml2 hit2 hch2 hyes htk
            go_wp2_with fail
            go_roundw
            case rel => exact ⟨seen.push s, clk, Nat.le_refl _, by rw [keep_live HTWO.out HXO.out HTK2.out]; exact HB2.out, HML2.out, HIT2.out, HCH2.out⟩
            case measure =>
              rw [HIT2.out, HIT.out]
              exact left_less HXO.out HSS.out
end
end Go.Proofs.YtcngfaggignmpaaGreatDoor
