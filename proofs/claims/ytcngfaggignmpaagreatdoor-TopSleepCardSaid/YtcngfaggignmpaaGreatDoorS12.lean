/-
  The top, part 12: Of, Deeds.
-/
import Derived.Test.YtcngfaggignmpaaGreatDoorS11
import Derived.Maps.OwnOps

/-
  The kernel: of what something is asked.
-/
namespace Go.Proofs.YtcngfaggignmpaaGreatDoor
open Go.RowKit

/-- What is asked, in block xb: by whom, what, of which place. -/
def AK (xb B i : Nat) (tb : Nat → Nat) (what hh v mm wt o : Int) (w : World) : Prop :=
  Row xb 208 #[.pointer (some ⟨B + 69, 0, none⟩), .int .i64 i, .pointer (some ⟨tb i, 0, none⟩), .int .u8 what, .int .u32 hh, .int .u32 v, .int .u32 mm, .int .i64 wt, .int .i64 o] w

section
variable {B T U : Nat} {tb : Nat → Nat} {m : KM} {w : World} {i xb : Nat} {what hh v mm wt o : Int}
theorem AK.keeps {w' : World} {S : Nat → Prop} (h : AK xb B i tb what hh v mm wt o w) (g : Ch S w w') (hn : ¬ S xb) : AK xb B i tb what hh v mm wt o w' := Row.keeps h g hn
theorem Row.ty {w : World} {p : Nat} {t t' : TypeId} {cs cs' : Array Value} (h : Row p t cs w) (g : Row p t' cs' w) : t = t' := by
  have h' : w.heap[p]? = some (.cells cs t) := h
  rw [show w.heap[p]? = some (.cells cs' t') from g] at h'
  cases h'
  rfl
theorem KS.onAsked {w' : World} (h : KS B T U tb m w) (a : AK xb B i tb what hh v mm wt o w) (hx : U + 3 ≤ xb) (g : Ch (fun x => x = xb) w w') : KS B T U tb m w' :=
  h.keeps g (fun k e => by rw [e]; exact hx) (fun k cs t e r => by
    subst e
    have := r.ty a
    subst this
    decide)
theorem ofS (h : KS B T U tb m w) (a : AK xb B i tb what 256 v mm wt 0 w) (hx : U + 3 ≤ xb) :
    w.cell? ⟨xb, 0, none⟩ = some (.pointer (some ⟨B + 69, 0, none⟩)) ∧ w.cell? ⟨xb, 3, none⟩ = some (.int .u8 what) ∧ w.cell? ⟨xb, 4, none⟩ = some (.int .u32 256) ∧ w.cell? ⟨xb, 5, none⟩ = some (.int .u32 v) ∧ w.cell? ⟨xb, 6, none⟩ = some (.int .u32 mm) ∧ w.cell? ⟨xb, 7, none⟩ = some (.int .i64 wt) ∧ w.cell? ⟨xb, 8, none⟩ = some (.int .i64 0) ∧ w.cell? ⟨B + 69, 20, none⟩ = some (.pointer (some ⟨U + 2, 0, none⟩)) ∧ w.cell? ⟨U + 2, 1, none⟩ = some (.int .u8 3) :=
  have a' : Row xb 208 #[.pointer (some ⟨B + 69, 0, none⟩), .int .i64 i, .pointer (some ⟨tb i, 0, none⟩), .int .u8 what, .int .u32 256, .int .u32 v, .int .u32 mm, .int .i64 wt, .int .i64 0] w := a
  have _ := hx
  ⟨a'.cell (j := 0) rfl, a'.cell (j := 3) rfl, a'.cell (j := 4) rfl, a'.cell (j := 5) rfl, a'.cell (j := 6) rfl, a'.cell (j := 7) rfl, a'.cell (j := 8) rfl, h.cThing, h.thing.cell (j := 1) rfl⟩

set_option linter.unusedSimpArgs false in
set_option maxRecDepth 100000 in
set_option maxHeartbeats 4000000 in
theorem of_row (k : Nat) (hk : k < 4) (hw : (what == allX (4 + k)) = true) (hn : ∀ j, j < k → (what == allX (4 + j)) = false) (h1 : (what == 1) = false) (h2 : (what == 2) = false) (h18 : (what == 18) = false) (h19 : (what == 19) = false) (h11 : (what == 11) = false)
    (h : KS B T U tb m w) (ha : AK xb B i tb what 256 v mm wt 0 w) (hx : U + 3 ≤ xb) :
    Calls Tryz.prog 69 #[.pointer (some ⟨xb, 0, none⟩)] w fun e w' => e = .returned (.tuple #[.bool true, .int .i64 0]) ∧ AK xb B i tb what 256 v mm wt 0 w' ∧ KS B T U tb m w' ∧ Ch (fun x => x = xb) w w' := by
  have H := Lib.hid h
  have HA := Lib.hid ha
  have HW := Lib.hid hw
  have HN := Lib.hid hn
  have ha' : Row xb 208 #[.pointer (some ⟨B + 69, 0, none⟩), .int .i64 i, .pointer (some ⟨tb i, 0, none⟩), .int .u8 what, .int .u32 256, .int .u32 v, .int .u32 mm, .int .i64 wt, .int .i64 0] w := ha
  have c0 := ha'.cell (j := 0) rfl
  have c3 := ha'.cell (j := 3) rfl
  have c4 := ha'.cell (j := 4) rfl
  clear h ha hw hn ha'
  go_enter Tryz.func69, Tryz.ntmps69
  go_wp2_with fail
  go_region_held3 (fun wx => wx.cell? ⟨xb, 0, none⟩ = some (.pointer (some ⟨B + 69, 0, none⟩)) ∧ wx.cell? ⟨xb, 4, none⟩ = some (.int .u32 256)) (first | exact ⟨by assumption, by assumption⟩ | go_keep) (first
    | (go_at_call 49; refine (spot_any (H.out.drewN 1)).mono ?_; rintro e w1 ⟨rfl, hch1⟩; have ha1 := HA.out.keeps ((Ch.drewN (S := No) w 1).trans hch1) (fun x => x); have q0 : w1.cell? ⟨xb, 0, none⟩ = some (.pointer (some ⟨B + 69, 0, none⟩)) := Row.cell ha1 (j := 0) rfl; have q4 : w1.cell? ⟨xb, 4, none⟩ = some (.int .u32 256) := Row.cell ha1 (j := 4) rfl; have q8 := Row.cell ha1 (j := 8) rfl; have z := Row.set ha1 8 (.int .i64 0); have z0 : (w1.setCell ⟨xb, 8, none⟩ (.int .i64 0)).cell? ⟨xb, 0, none⟩ = some (.pointer (some ⟨B + 69, 0, none⟩)) := z.cell (j := 0) rfl; have z4 : (w1.setCell ⟨xb, 8, none⟩ (.int .i64 0)).cell? ⟨xb, 4, none⟩ = some (.int .u32 256) := z.cell (j := 4) rfl; have f8 := Row.free ha1 8; have HCH1 : Hid (Ch No w w1) := Lib.hid ((Ch.drewN (S := No) w 1).trans hch1); have HAA := Lib.hid ha1; clear ha1 hch1 z))
  all_goals
    go_wp2_with fail
    have HK1 : Hid (KS B T U tb m (w1.setCell ⟨xb, 8, none⟩ (.int .i64 0))) := Lib.hid ((H.out.no HCH1.out).onAsked HAA.out hx (Ch.set1 w1 xb 8 _))
    have HA1 : Hid (AK xb B i tb what 256 v mm wt 0 (w1.setCell ⟨xb, 8, none⟩ (.int .i64 0))) := Lib.hid (Row.set HAA.out 8 (.int .i64 0))
    have HC1 : Hid (Ch (fun x => x = xb) w (w1.setCell ⟨xb, 8, none⟩ (.int .i64 0))) := Lib.hid ((HCH1.out.mono (fun _ _ s => s.elim)).trans (Ch.set1 w1 xb 8 _))
    clear c0 c3 c4 q0 q4 q8 z0 z4 f8
    obtain ⟨W1, hW1⟩ : ∃ W1, W1 = w1.setCell ⟨xb, 8, none⟩ (.int .i64 0) := ⟨_, rfl⟩
    rw [← hW1] at HK1 HA1 HC1 ⊢
    clear hW1
    refine wp_region_held_drew (S := (fun wx => wx.cell? ⟨xb, 0, none⟩ = some (.pointer (some ⟨B + 69, 0, none⟩)) ∧ wx.cell? ⟨xb, 3, none⟩ = some (.int .u8 what) ∧ wx.cell? ⟨xb, 4, none⟩ = some (.int .u32 256) ∧ wx.cell? ⟨xb, 5, none⟩ = some (.int .u32 v) ∧ wx.cell? ⟨xb, 6, none⟩ = some (.int .u32 mm) ∧ wx.cell? ⟨xb, 7, none⟩ = some (.int .i64 wt) ∧ wx.cell? ⟨xb, 8, none⟩ = some (.int .i64 0) ∧ wx.cell? ⟨B + 69, 20, none⟩ = some (.pointer (some ⟨U + 2, 0, none⟩)) ∧ wx.cell? ⟨U + 2, 1, none⟩ = some (.int .u8 3))) (by kernel_rfl) ?_ (fun hHeld => ?_)
    · first | exact ofS (HK1.out.drewN 1) (HA1.out.keeps (S := No) (Ch.drewN W1 1) (fun x => x)) hx | exact ofS HK2.out HA2.out hx
    refine wpAnyH_take (i := 0) (v := ?_) rfl (by kernel_rfl) (by kernel_rfl) (by kernel_rfl) (fun _ _ _ h => h) (Or.inl ⟨by rfl, by intro wx hSw; (try dsimp only at hSw); go_simp; (try with_reducible rfl)⟩) (by assumption) ?_
    (try simp only [List.getElem_toArray, List.getElem_cons_succ, List.getElem_cons_zero, Act.put, List.setIfInBounds_toArray, List.set_cons_succ, List.set_cons_zero])
    refine wpAnyH_take (i := 1) (v := ?_) rfl (by kernel_rfl) (by kernel_rfl) (by kernel_rfl) (fun _ _ _ h => h) (Or.inl ⟨by rfl, by intro wx hSw; (try dsimp only at hSw); go_simp; (try with_reducible rfl)⟩) (by assumption) ?_
    (try simp only [List.getElem_toArray, List.getElem_cons_succ, List.getElem_cons_zero, Act.put, List.setIfInBounds_toArray, List.set_cons_succ, List.set_cons_zero])
    refine wpAnyH_take (i := 2) (v := ?_) rfl (by kernel_rfl) (by kernel_rfl) (by kernel_rfl) (fun _ _ _ h => h) (Or.inl ⟨by rfl, by intro wx hSw; (try dsimp only at hSw); go_simp; (try with_reducible rfl)⟩) (by assumption) ?_
    (try simp only [List.getElem_toArray, List.getElem_cons_succ, List.getElem_cons_zero, Act.put, List.setIfInBounds_toArray, List.set_cons_succ, List.set_cons_zero])
    refine wpAnyH_take (i := 3) (v := ?_) rfl (by kernel_rfl) (by kernel_rfl) (by kernel_rfl) (fun _ _ _ h => h) (Or.inl ⟨by rfl, by intro wx hSw; (try dsimp only at hSw); go_simp; (try with_reducible rfl)⟩) (by assumption) ?_
    (try simp only [List.getElem_toArray, List.getElem_cons_succ, List.getElem_cons_zero, Act.put, List.setIfInBounds_toArray, List.set_cons_succ, List.set_cons_zero])
    refine wpAnyH_take (i := 4) (v := ?_) rfl (by kernel_rfl) (by kernel_rfl) (by kernel_rfl) (fun _ _ _ h => h) (Or.inl ⟨by rfl, by intro wx hSw; (try dsimp only at hSw); go_simp; (try with_reducible rfl)⟩) (by assumption) ?_
    (try simp only [List.getElem_toArray, List.getElem_cons_succ, List.getElem_cons_zero, Act.put, List.setIfInBounds_toArray, List.set_cons_succ, List.set_cons_zero])
    refine wpAnyH_take (i := 5) (v := ?_) rfl (by kernel_rfl) (by kernel_rfl) (by kernel_rfl) (fun _ _ _ h => h) (Or.inl ⟨by rfl, by intro wx hSw; (try dsimp only at hSw); go_simp; (try with_reducible rfl)⟩) (by assumption) ?_
    (try simp only [List.getElem_toArray, List.getElem_cons_succ, List.getElem_cons_zero, Act.put, List.setIfInBounds_toArray, List.set_cons_succ, List.set_cons_zero])
    refine wpAnyH_take (i := 6) (v := ?_) rfl (by kernel_rfl) (by kernel_rfl) (by kernel_rfl) (fun _ _ _ h => h) (Or.inl ⟨by rfl, by intro wx hSw; (try dsimp only at hSw); go_simp; (try with_reducible rfl)⟩) (by assumption) ?_
    (try simp only [List.getElem_toArray, List.getElem_cons_succ, List.getElem_cons_zero, Act.put, List.setIfInBounds_toArray, List.set_cons_succ, List.set_cons_zero])
    refine wpAnyH_take (i := 7) (v := ?_) rfl (by kernel_rfl) (by kernel_rfl) (by kernel_rfl) (fun _ _ _ h => h) (Or.inl ⟨by rfl, by intro wx hSw; (try dsimp only at hSw); go_simp; (try with_reducible rfl)⟩) (by assumption) ?_
    (try simp only [List.getElem_toArray, List.getElem_cons_succ, List.getElem_cons_zero, Act.put, List.setIfInBounds_toArray, List.set_cons_succ, List.set_cons_zero])
    refine wpAnyH_take (i := 8) (v := ?_) rfl (by kernel_rfl) (by kernel_rfl) (by kernel_rfl) (fun _ _ _ h => h) (Or.inl ⟨by rfl, by intro wx hSw; (try dsimp only at hSw); go_simp; (try with_reducible rfl)⟩) (by assumption) ?_
    (try simp only [List.getElem_toArray, List.getElem_cons_succ, List.getElem_cons_zero, Act.put, List.setIfInBounds_toArray, List.set_cons_succ, List.set_cons_zero])
    refine wpAnyH_take (i := 9) (v := ?_) rfl (by kernel_rfl) (by kernel_rfl) (by kernel_rfl) (fun _ _ _ h => h) (Or.inl ⟨by rfl, by intro wx hSw; (try dsimp only at hSw); go_simp; (try with_reducible rfl)⟩) (by assumption) ?_
    (try simp only [List.getElem_toArray, List.getElem_cons_succ, List.getElem_cons_zero, Act.put, List.setIfInBounds_toArray, List.set_cons_succ, List.set_cons_zero])
    refine wpAnyH_take (i := 10) (v := ?_) rfl (by kernel_rfl) (by kernel_rfl) (by kernel_rfl) (fun _ _ _ h => h) (Or.inl ⟨by rfl, by intro wx hSw; (try dsimp only at hSw); go_simp; (try with_reducible rfl)⟩) (by assumption) ?_
    (try simp only [List.getElem_toArray, List.getElem_cons_succ, List.getElem_cons_zero, Act.put, List.setIfInBounds_toArray, List.set_cons_succ, List.set_cons_zero])
    refine wpAnyH_take (i := 11) (v := ?_) rfl (by kernel_rfl) (by kernel_rfl) (by kernel_rfl) (fun _ _ _ h => h) (Or.inl ⟨by rfl, by intro wx hSw; (try dsimp only at hSw); go_simp; (try with_reducible rfl)⟩) (by assumption) ?_
    (try simp only [List.getElem_toArray, List.getElem_cons_succ, List.getElem_cons_zero, Act.put, List.setIfInBounds_toArray, List.set_cons_succ, List.set_cons_zero])
    refine wpAnyH_take (i := 12) (v := ?_) rfl (by kernel_rfl) (by kernel_rfl) (by kernel_rfl) (fun _ _ _ h => h) (Or.inl ⟨by rfl, by intro wx hSw; (try dsimp only at hSw); go_simp; (try with_reducible rfl)⟩) (by assumption) ?_
    (try simp only [List.getElem_toArray, List.getElem_cons_succ, List.getElem_cons_zero, Act.put, List.setIfInBounds_toArray, List.set_cons_succ, List.set_cons_zero])
    refine wpAnyH_take (i := 13) (v := ?_) rfl (by kernel_rfl) (by kernel_rfl) (by kernel_rfl) (fun _ _ _ h => h) (Or.inl ⟨by rfl, by intro wx hSw; (try dsimp only at hSw); go_simp; (try with_reducible rfl)⟩) (by assumption) ?_
    (try simp only [List.getElem_toArray, List.getElem_cons_succ, List.getElem_cons_zero, Act.put, List.setIfInBounds_toArray, List.set_cons_succ, List.set_cons_zero])
    refine wpAnyH_take (i := 14) (v := ?_) rfl (by kernel_rfl) (by kernel_rfl) (by kernel_rfl) (fun _ _ _ h => h) (Or.inl ⟨by rfl, by intro wx hSw; (try dsimp only at hSw); go_simp; (try with_reducible rfl)⟩) (by assumption) ?_
    (try simp only [List.getElem_toArray, List.getElem_cons_succ, List.getElem_cons_zero, Act.put, List.setIfInBounds_toArray, List.set_cons_succ, List.set_cons_zero])
    refine wpAnyH_take (i := 15) (v := ?_) rfl (by kernel_rfl) (by kernel_rfl) (by kernel_rfl) (fun _ _ _ h => h) (Or.inl ⟨by rfl, by intro wx hSw; (try dsimp only at hSw); go_simp; (try with_reducible rfl)⟩) (by assumption) ?_
    (try simp only [List.getElem_toArray, List.getElem_cons_succ, List.getElem_cons_zero, Act.put, List.setIfInBounds_toArray, List.set_cons_succ, List.set_cons_zero])
    refine wpAnyH_take (i := 16) (v := ?_) rfl (by kernel_rfl) (by kernel_rfl) (by kernel_rfl) (fun _ _ _ h => h) (Or.inl ⟨by rfl, by intro wx hSw; (try dsimp only at hSw); go_simp; (try with_reducible rfl)⟩) (by assumption) ?_
    (try simp only [List.getElem_toArray, List.getElem_cons_succ, List.getElem_cons_zero, Act.put, List.setIfInBounds_toArray, List.set_cons_succ, List.set_cons_zero])
    refine wpAnyH_take (i := 17) (v := ?_) rfl (by kernel_rfl) (by kernel_rfl) (by kernel_rfl) (fun _ _ _ h => h) (Or.inl ⟨by rfl, by intro wx hSw; (try dsimp only at hSw); go_simp; (try with_reducible rfl)⟩) (by assumption) ?_
    (try simp only [List.getElem_toArray, List.getElem_cons_succ, List.getElem_cons_zero, Act.put, List.setIfInBounds_toArray, List.set_cons_succ, List.set_cons_zero])
    refine wpAnyH_take (i := 18) (v := ?_) rfl (by kernel_rfl) (by kernel_rfl) (by kernel_rfl) (fun _ _ _ h => h) (Or.inl ⟨by rfl, by intro wx hSw; (try dsimp only at hSw); go_simp; (try with_reducible rfl)⟩) (by assumption) ?_
    (try simp only [List.getElem_toArray, List.getElem_cons_succ, List.getElem_cons_zero, Act.put, List.setIfInBounds_toArray, List.set_cons_succ, List.set_cons_zero])
    refine wpAnyH_take (i := 19) (v := ?_) rfl (by kernel_rfl) (by kernel_rfl) (by kernel_rfl) (fun _ _ _ h => h) (Or.inl ⟨by rfl, by intro wx hSw; (try dsimp only at hSw); go_simp; (try with_reducible rfl)⟩) (by assumption) ?_
    (try simp only [List.getElem_toArray, List.getElem_cons_succ, List.getElem_cons_zero, Act.put, List.setIfInBounds_toArray, List.set_cons_succ, List.set_cons_zero])
    refine wpAnyH_ready (rs := [20]) (by kernel_rfl) (by simp) ?_
    refine AllReadyH.cons rfl (fun K hK => ?_) AllReadyH.nil
    go_simp
    refine (fits_row _ what 256 v mm wt k hk HW.out HN.out).mono ?_; rintro e w2 ⟨rfl, hch2⟩
    have HCH2 := Lib.hid hch2
    have HK2 := Lib.hid ((HK1.out.drewN 1).no hch2)
    have HA2 : Hid (AK xb B i tb what 256 v mm wt 0 w2) := Lib.hid ((HA1.out.keeps (S := No) (Ch.drewN W1 1) (fun x => x)).keeps hch2 (fun x => x))
    clear hch2
    refine hK.out _ _ ?_ (fun hHeld2 => ?_)
    · first | exact ofS (HK1.out.drewN 1) (HA1.out.keeps (S := No) (Ch.drewN W1 1) (fun x => x)) hx | exact ofS HK2.out HA2.out hx
    clear hK K
    (try simp only [List.getElem_toArray, List.getElem_cons_succ, List.getElem_cons_zero, Act.put, List.setIfInBounds_toArray, List.set_cons_succ, List.set_cons_zero])
    refine wpAnyH_take (i := 21) (v := ?_) rfl (by kernel_rfl) (by kernel_rfl) (by kernel_rfl) (fun _ _ _ h => h) (Or.inl ⟨by rfl, by intro wx hSw; (try dsimp only at hSw); go_simp; (try with_reducible rfl)⟩) (by assumption) ?_
    (try simp only [List.getElem_toArray, List.getElem_cons_succ, List.getElem_cons_zero, Act.put, List.setIfInBounds_toArray, List.set_cons_succ, List.set_cons_zero])
    refine wpAnyH_take (i := 22) (v := ?_) rfl (by kernel_rfl) (by kernel_rfl) (by kernel_rfl) (fun _ _ _ h => h) (Or.inl ⟨by rfl, by intro wx hSw; (try dsimp only at hSw); go_simp; (try with_reducible rfl)⟩) (by assumption) ?_
    (try simp only [List.getElem_toArray, List.getElem_cons_succ, List.getElem_cons_zero, Act.put, List.setIfInBounds_toArray, List.set_cons_succ, List.set_cons_zero])
    refine wpAnyH_take (i := 23) (v := ?_) rfl (by kernel_rfl) (by kernel_rfl) (by kernel_rfl) (fun _ _ _ h => h) (Or.inl ⟨by rfl, by intro wx hSw; (try dsimp only at hSw); go_simp; (try with_reducible rfl)⟩) (by assumption) ?_
    (try simp only [List.getElem_toArray, List.getElem_cons_succ, List.getElem_cons_zero, Act.put, List.setIfInBounds_toArray, List.set_cons_succ, List.set_cons_zero])
    refine wpAnyH_take (i := 24) (v := ?_) rfl (by kernel_rfl) (by kernel_rfl) (by kernel_rfl) (fun _ _ _ h => h) (Or.inl ⟨by rfl, by intro wx hSw; (try dsimp only at hSw); go_simp; (try with_reducible rfl)⟩) (by assumption) ?_
    (try simp only [List.getElem_toArray, List.getElem_cons_succ, List.getElem_cons_zero, Act.put, List.setIfInBounds_toArray, List.set_cons_succ, List.set_cons_zero])
    refine wpAnyH_take (i := 25) (v := ?_) rfl (by kernel_rfl) (by kernel_rfl) (by kernel_rfl) (fun _ _ _ h => h) (Or.inl ⟨by rfl, by intro wx hSw; (try dsimp only at hSw); go_simp; (try with_reducible rfl)⟩) (by assumption) ?_
    (try simp only [List.getElem_toArray, List.getElem_cons_succ, List.getElem_cons_zero, Act.put, List.setIfInBounds_toArray, List.set_cons_succ, List.set_cons_zero])
    refine wpAnyH_take (i := 26) (v := ?_) rfl (by kernel_rfl) (by kernel_rfl) (by kernel_rfl) (fun _ _ _ h => h) (Or.inl ⟨by rfl, by intro wx hSw; (try dsimp only at hSw); go_simp; (try with_reducible rfl)⟩) (by assumption) ?_
    (try simp only [List.getElem_toArray, List.getElem_cons_succ, List.getElem_cons_zero, Act.put, List.setIfInBounds_toArray, List.set_cons_succ, List.set_cons_zero])
    refine wpAnyH_take (i := 27) (v := ?_) rfl (by kernel_rfl) (by kernel_rfl) (by kernel_rfl) (fun _ _ _ h => h) (Or.inl ⟨by rfl, by intro wx hSw; (try dsimp only at hSw); go_simp; (try with_reducible rfl)⟩) (by assumption) ?_
    (try simp only [List.getElem_toArray, List.getElem_cons_succ, List.getElem_cons_zero, Act.put, List.setIfInBounds_toArray, List.set_cons_succ, List.set_cons_zero])
    refine wpAnyH_take (i := 28) (v := ?_) rfl (by kernel_rfl) (by kernel_rfl) (by kernel_rfl) (fun _ _ _ h => h) (Or.inl ⟨by rfl, by intro wx hSw; (try dsimp only at hSw); go_simp; (try with_reducible rfl)⟩) (by assumption) ?_
    (try simp only [List.getElem_toArray, List.getElem_cons_succ, List.getElem_cons_zero, Act.put, List.setIfInBounds_toArray, List.set_cons_succ, List.set_cons_zero])
    refine wpAnyH_take (i := 29) (v := ?_) rfl (by kernel_rfl) (by kernel_rfl) (by kernel_rfl) (fun _ _ _ h => h) (Or.inl ⟨by rfl, by intro wx hSw; (try dsimp only at hSw); go_simp; (try with_reducible rfl)⟩) (by assumption) ?_
    (try simp only [List.getElem_toArray, List.getElem_cons_succ, List.getElem_cons_zero, Act.put, List.setIfInBounds_toArray, List.set_cons_succ, List.set_cons_zero])
    refine wpAnyH_take (i := 30) (v := undef) rfl (by kernel_rfl) (by kernel_rfl) (by kernel_rfl) (fun _ _ _ h => h) (Or.inr ⟨by rfl, rfl⟩) (by assumption) ?_
    (try simp only [List.getElem_toArray, List.getElem_cons_succ, List.getElem_cons_zero, Act.put, List.setIfInBounds_toArray, List.set_cons_succ, List.set_cons_zero])
    refine wpAnyH_take (i := 31) (v := undef) rfl (by kernel_rfl) (by kernel_rfl) (by kernel_rfl) (fun _ _ _ h => h) (Or.inr ⟨by rfl, rfl⟩) (by assumption) ?_
    (try simp only [List.getElem_toArray, List.getElem_cons_succ, List.getElem_cons_zero, Act.put, List.setIfInBounds_toArray, List.set_cons_succ, List.set_cons_zero])
    refine wpAnyH_take (i := 32) (v := undef) rfl (by kernel_rfl) (by kernel_rfl) (by kernel_rfl) (fun _ _ _ h => h) (Or.inr ⟨by rfl, rfl⟩) (by assumption) ?_
    (try simp only [List.getElem_toArray, List.getElem_cons_succ, List.getElem_cons_zero, Act.put, List.setIfInBounds_toArray, List.set_cons_succ, List.set_cons_zero])
    refine wpAnyH_take (i := 33) (v := undef) rfl (by kernel_rfl) (by kernel_rfl) (by kernel_rfl) (fun _ _ _ h => h) (Or.inr ⟨by rfl, rfl⟩) (by assumption) ?_
    (try simp only [List.getElem_toArray, List.getElem_cons_succ, List.getElem_cons_zero, Act.put, List.setIfInBounds_toArray, List.set_cons_succ, List.set_cons_zero])
    refine wpAnyH_take (i := 34) (v := undef) rfl (by kernel_rfl) (by kernel_rfl) (by kernel_rfl) (fun _ _ _ h => h) (Or.inr ⟨by rfl, rfl⟩) (by assumption) ?_
    (try simp only [List.getElem_toArray, List.getElem_cons_succ, List.getElem_cons_zero, Act.put, List.setIfInBounds_toArray, List.set_cons_succ, List.set_cons_zero])
    refine wpAnyH_take (i := 35) (v := undef) rfl (by kernel_rfl) (by kernel_rfl) (by kernel_rfl) (fun _ _ _ h => h) (Or.inr ⟨by rfl, rfl⟩) (by assumption) ?_
    (try simp only [List.getElem_toArray, List.getElem_cons_succ, List.getElem_cons_zero, Act.put, List.setIfInBounds_toArray, List.set_cons_succ, List.set_cons_zero])
    refine wpAnyH_take (i := 36) (v := ?_) rfl (by kernel_rfl) (by kernel_rfl) (by kernel_rfl) (fun _ _ _ h => h) (Or.inl ⟨by rfl, by intro wx hSw; (try dsimp only at hSw); go_simp; (try with_reducible rfl)⟩) (by assumption) ?_
    (try simp only [List.getElem_toArray, List.getElem_cons_succ, List.getElem_cons_zero, Act.put, List.setIfInBounds_toArray, List.set_cons_succ, List.set_cons_zero])
    refine wpAnyH_take (i := 37) (v := ?_) rfl (by kernel_rfl) (by kernel_rfl) (by kernel_rfl) (fun _ _ _ h => h) (Or.inl ⟨by rfl, by intro wx hSw; (try dsimp only at hSw); go_simp; (try with_reducible rfl)⟩) (by assumption) ?_
    (try simp only [List.getElem_toArray, List.getElem_cons_succ, List.getElem_cons_zero, Act.put, List.setIfInBounds_toArray, List.set_cons_succ, List.set_cons_zero])
    refine wpAnyH_done (by kernel_rfl) ?_ _
    go_wp2_with fail
    go_ret2
    exact ⟨rfl, HA2.out, HK2.out, (HC1.out.trans ((Ch.drewN (S := No) W1 1).mono (fun _ _ s => s.elim))).trans (HCH2.out.mono (fun _ _ s => s.elim))⟩
end
end Go.Proofs.YtcngfaggignmpaaGreatDoor

/-
  A map literal of functions, keyed by whole numbers of 8 bits: what a store at a new key and a look-up do; the kernel's deeds.
-/
namespace Go.Proofs.YtcngfaggignmpaaGreatDoor
open Go.RowKit Go.ChangeMaps Go.MapKept

section
variable {P : Program} {T K E : TypeId} {q : IntKind}

/-- A store at a new key into the map that was laid last. -/
theorem run_put_new (ht : P.underlying T = some (.map K E)) (hk : P.underlying K = some (.int q)) (w : World) (es : Array MapEntry) (c : Nat) (k : Int) (v : Value)
    (hnew : Instr.findNow (.int q) (.int q k) es.toList 0 = some none) :
    (Instr.mapUpdate T (.map (some w.heap.size)) (.int q k) v).run P (w.alloc (.map es c)) = .ok () (w.alloc (.map (es.push ⟨.int q k, v, c⟩) (c + 1))) := by
  have hb : (w.alloc (.map es c)).heap[w.heap.size]? = some (.map es c) := (MapKept.heap_alloc w _).1
  have hkey : IsKey (.int q) (.int q k) := by simp [IsKey]
  have e1 : ∀ (o o' : Obj), ({ (w.alloc o) with heap := (w.alloc o).heap.setIfInBounds w.heap.size o' } : World) = w.alloc o' := by
    intro o o'
    have h : (w.heap.push o).setIfInBounds w.heap.size o' = w.heap.push o' := by
      apply Array.ext_getElem?
      intro i
      rw [Array.getElem?_setIfInBounds, Array.getElem?_push, Array.getElem?_push, Array.size_push]
      by_cases h : w.heap.size = i
      · subst h; simp
      · rw [if_neg h, if_neg (fun e => h e.symm), if_neg (fun e => h e.symm)]
    show ({ (w.alloc o) with heap := (w.heap.push o).setIfInBounds w.heap.size o' } : World) = _
    rw [h]
    rfl
  simp [Instr.mapUpdate, run_underlying ht, MapKept.run_getObj_map hb, run_checkKey hk hkey, run_findKey hk hnew, MapKept.run_setObj_map _ hb, Result.andThen]
  exact e1 _ _

/-- A look-up without 'ok'. -/
theorem run_look1 (ht : P.underlying T = some (.map K E)) (hk : P.underlying K = some (.int q)) (w : World) (b : Nat) (es : Array MapEntry) (c : Nat) (k : Int) (i : Nat) (v : Value)
    (hb : w.heap[b]? = some (.map es c)) (hf : Instr.findNow (.int q) (.int q k) es.toList 0 = some (some (i, v))) :
    (Instr.lookup T (.map (some b)) (.int q k) false).run P w = .ok v w := by
  have hkey : IsKey (.int q) (.int q k) := by simp [IsKey]
  simp [Instr.lookup, run_underlying ht, MapKept.run_getObj_map hb, run_checkKey hk hkey, run_findKey hk hf, Result.andThen]

theorem run_look1_none (ht : P.underlying T = some (.map K E)) (hk : P.underlying K = some (.int q)) (w : World) (b : Nat) (es : Array MapEntry) (c : Nat) (k : Int) (z : Value)
    (hb : w.heap[b]? = some (.map es c)) (hz : (zeroValue E).run P w = .ok z w) (hf : Instr.findNow (.int q) (.int q k) es.toList 0 = some none) :
    (Instr.lookup T (.map (some b)) (.int q k) false).run P w = .ok z w := by
  have hkey : IsKey (.int q) (.int q k) := by simp [IsKey]
  simp [Instr.lookup, run_underlying ht, MapKept.run_getObj_map hb, run_checkKey hk hkey, run_findKey hk hf, hz, Result.andThen]
end

/-- An entry: at a key the function of a number, the so many'th one. -/
def ent (k : Int) (f c : Nat) : MapEntry := ⟨.int .u8 k, .func (.func f) #[] #[], c⟩
/-- The kernel's deeds, as they are laid. -/
def deedsArr : Array MapEntry := #[ent 1 129 0, ent 2 130 1, ent 18 131 2, ent 19 132 3, ent 16 133 4, ent 17 134 5]

set_option maxHeartbeats 400000 in
theorem deeds_any (w : World) : Calls Tryz.prog 71 #[] w fun e w' => e = .returned (.map (some w.heap.size)) ∧ w.alloc (.map deedsArr 6) = w' := by
  have hmm := @run_makeMap Tryz.prog
  have i0 := run_put_new Tryz.underlying212 Tryz.underlying51 w #[] 0 1 (.func (.func 129) #[] #[]) rfl
  have i1 := run_put_new Tryz.underlying212 Tryz.underlying51 w #[ent 1 129 0] 1 2 (.func (.func 130) #[] #[]) rfl
  have i2 := run_put_new Tryz.underlying212 Tryz.underlying51 w #[ent 1 129 0, ent 2 130 1] 2 18 (.func (.func 131) #[] #[]) rfl
  have i3 := run_put_new Tryz.underlying212 Tryz.underlying51 w #[ent 1 129 0, ent 2 130 1, ent 18 131 2] 3 19 (.func (.func 132) #[] #[]) rfl
  have i4 := run_put_new Tryz.underlying212 Tryz.underlying51 w #[ent 1 129 0, ent 2 130 1, ent 18 131 2, ent 19 132 3] 4 16 (.func (.func 133) #[] #[]) rfl
  have i5 := run_put_new Tryz.underlying212 Tryz.underlying51 w #[ent 1 129 0, ent 2 130 1, ent 18 131 2, ent 19 132 3, ent 16 133 4] 5 17 (.func (.func 134) #[] #[]) rfl
  simp [ent] at i0 i1 i2 i3 i4 i5
  go_enter Tryz.func71, Tryz.ntmps71
  go_wp2
  go_ret
  exact ⟨rfl, rfl⟩
theorem zeroDeed (w : World) : (zeroValue 211).run Tryz.prog w = .ok (.nilFunc) w := by kernel_rfl
theorem deed_put (w : World) (b : Nat) (hb : w.heap[b]? = some (.map deedsArr 6)) : (Instr.lookup 212 (.map (some b)) (.int .u8 7) false).run Tryz.prog w = .ok .nilFunc w :=
  run_look1_none Tryz.underlying212 Tryz.underlying51 w b deedsArr 6 7 _ hb (zeroDeed w) rfl
theorem deed_get (w : World) (b : Nat) (hb : w.heap[b]? = some (.map deedsArr 6)) : (Instr.lookup 212 (.map (some b)) (.int .u8 9) false).run Tryz.prog w = .ok .nilFunc w :=
  run_look1_none Tryz.underlying212 Tryz.underlying51 w b deedsArr 6 9 _ hb (zeroDeed w) rfl
theorem deed_sleep (w : World) (b : Nat) (hb : w.heap[b]? = some (.map deedsArr 6)) : (Instr.lookup 212 (.map (some b)) (.int .u8 2) false).run Tryz.prog w = .ok (.func (.func 130) #[] #[]) w :=
  run_look1 Tryz.underlying212 Tryz.underlying51 w b deedsArr 6 2 1 _ hb rfl
end Go.Proofs.YtcngfaggignmpaaGreatDoor
