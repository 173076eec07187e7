/-
  The top, part 36: Chk, CoreNew.
-/
import Derived.Test.YtcngfaggignmpaaGreatDoorG35

/-
  Instructions and images: may they be?
-/
namespace Go.Proofs.YtcngfaggignmpaaGreatDoor
open Go.RowKit

/-- An instruction that may be. -/
def OkI (x : IN) : Prop := ∃ (wd s : ByteArray) (fs : List Nat), x.op ≤ 22 ∧ (x.a < 256 ∧ x.b < 256 ∧ x.c < 256) ∧
  (∀ W, (Instr.index 334 (.agg formArr) (.int .u8 x.op)).run Tryz.prog W = .ok (.agg #[.string wd, .string s]) W) ∧ s.size = fs.length ∧ fs.length ≤ 3 ∧
  (∀ j (h : j < s.size), fs[j]? = some (s[j]'h).toNat ∧ (s[j]'h).toNat < 128) ∧ OkB fs [x.a, x.b, x.c]

set_option maxRecDepth 100000 in
set_option maxHeartbeats 1000000 in
theorem check_any (w : World) (x : IN) (h : OkI x) : Calls Tryz.prog 90 #[inV x] w fun e w' => e = .returned (.bool true) ∧ Ch No w w' := by
  obtain ⟨wd, s, fs, h1, h2, h3, h4, h5, h6, h7⟩ := h
  have HC : Hid (∀ W, Calls Tryz.prog 151 #[inV x] W fun e w' => (∃ v, e = .returned (.tuple #[v, .bool true])) ∧ Ch No W w') := Lib.hid (fun W => split_any W x wd s fs h1 h2 h3 h4 h5 h6 h7)
  have HA := Lib.hid (Ch.alloc (S := No) w (.cells #[.int .u8 x.op, .int .u8 x.a, .int .u8 x.b, .int .u8 x.c] 49))
  clear h1 h2 h3 h4 h5 h6 h7
  unfold inV at HC ⊢
  go_enter Tryz.func90, Tryz.ntmps90
  go_wp2_with fail
  refine (HC.out _).mono ?_; rintro e w1 ⟨⟨v, rfl⟩, hch⟩
  have HD := Lib.hid (HA.out.trans hch)
  clear hch
  go_wp2_with fail
  go_ret
  exact ⟨rfl, HD.out⟩
set_option maxRecDepth 100000 in
set_option maxHeartbeats 1000000 in
theorem uncheck_any (w : World) (x : IN) (h : OkI x) : Calls Tryz.prog 89 #[inV x] w fun e w' => e = .returned (.bool false) ∧ Ch No w w' := by
  have HC : Hid (∀ W, Calls Tryz.prog 90 #[inV x] W fun e w' => e = .returned (.bool true) ∧ Ch No W w') := Lib.hid (fun W => check_any W x h)
  have HA := Lib.hid (Ch.alloc (S := No) w (.cells #[.int .u8 x.op, .int .u8 x.a, .int .u8 x.b, .int .u8 x.c] 49))
  clear h
  unfold inV at HC ⊢
  go_enter Tryz.func89, Tryz.ntmps89
  go_wp2_with fail
  refine (HC.out _).mono ?_; rintro e w1 ⟨rfl, hch⟩
  have HD := Lib.hid (HA.out.trans hch)
  clear hch
  go_wp2_with fail
  go_ret
  exact ⟨rfl, HD.out⟩
theorem Code49.cell {b : Nat} {l : List IN} {w : World} (h : Code49 b l w) {i : Nat} {x : IN} (hi : l[i]? = some x) :
    w.cell? ⟨b, i * 4, none⟩ = some (.int .u8 x.op) ∧ w.cell? ⟨b, i * 4 + 1, none⟩ = some (.int .u8 x.a) ∧ w.cell? ⟨b, i * 4 + 2, none⟩ = some (.int .u8 x.b) ∧ w.cell? ⟨b, i * 4 + 3, none⟩ = some (.int .u8 x.c) := by
  obtain ⟨cs, r, hc⟩ := h
  obtain ⟨f0, f1, f2, f3⟩ := flat_get l i x hi
  exact ⟨r.cell (hc _ _ f0), r.cell (hc _ _ f1), r.cell (hc _ _ f2), r.cell (hc _ _ f3)⟩
theorem Code49.keeps {b : Nat} {l : List IN} {w w' : World} {S : Nat → Prop} (h : Code49 b l w) (g : Ch S w w') (hn : ¬ S b) : Code49 b l w' := by
  obtain ⟨cs, r, hc⟩ := h
  exact ⟨cs, r.keeps g hn, hc⟩
set_option maxRecDepth 100000 in
set_option maxHeartbeats 1000000 in
theorem index_any (w : World) (b cap : Nat) (l : List IN) (hl : l.length ≤ 1000) (h : Code49 b l w) (hok : ∀ x ∈ l, OkI x) :
    Calls Tryz.prog 150 #[.slice (some ⟨b, 0, none⟩) l.length cap, .func (.func 89) #[] #[]] w fun e w' => e = .returned (.int .i64 (-1)) ∧ Ch No w w' := by
  have H := Lib.hid h
  have HO := Lib.hid hok
  clear h hok
  go_enter Tryz.func150, Tryz.ntmps150
  go_wp2_with fail
  go_loopw [5, 8] (fun _ i wr => ∃ k : Nat, k ≤ l.length ∧ i = .int .i64 (k : Int) ∧ Ch No w wr) (fun _ i _ => l.length - (intOf i).toNat)
  case atStart => exact ⟨0, by omega, rfl, Ch.refl _ _⟩
  case round =>
    obtain ⟨k, hk, rfl, hch⟩ := hrel
    by_cases hlt : k < l.length
    · obtain ⟨x, hx⟩ : ∃ x, l[k]? = some x := ⟨_, List.getElem?_eq_getElem hlt⟩
      obtain ⟨c0, c1, c2, c3⟩ := (H.out.keeps hch (fun x => x)).cell hx
      have HX : Hid (∀ W, Calls Tryz.prog 89 #[inV x] W fun e w' => e = .returned (.bool false) ∧ Ch No W w') := Lib.hid (fun W => uncheck_any W x (HO.out x (List.mem_of_getElem? hx)))
      have HCH := Lib.hid hch
      clear hch hx
      unfold inV at HX
      go_wp2_with fail
      refine (HX.out _).mono ?_; rintro e w1 ⟨rfl, hch1⟩
      have HD := Lib.hid (HCH.out.trans hch1)
      clear hch1 c0 c1 c2 c3
      go_wp2_with fail
      go_roundw
      case rel => exact ⟨k + 1, by omega, by go_num, HD.out⟩
      case measure => simp [intOf]; omega
    · obtain rfl : k = l.length := by omega
      have HCH := Lib.hid hch
      clear hch
      go_wp2_with fail
      go_ret
      exact ⟨rfl, HCH.out⟩
set_option maxRecDepth 100000 in
set_option maxHeartbeats 1000000 in
theorem contains_any (w : World) (b cap : Nat) (l : List IN) (hl : l.length ≤ 1000) (h : Code49 b l w) (hok : ∀ x ∈ l, OkI x) :
    Calls Tryz.prog 88 #[.slice (some ⟨b, 0, none⟩) l.length cap, .func (.func 89) #[] #[]] w fun e w' => e = .returned (.bool false) ∧ Ch No w w' := by
  have HI := Lib.hid (index_any w b cap l hl h hok)
  clear h hok
  go_enter Tryz.func88, Tryz.ntmps88
  go_wp2_with fail
  refine HI.out.mono ?_; rintro e w1 ⟨rfl, hch⟩
  have HD := Lib.hid hch
  clear hch
  go_wp2_with fail
  go_ret
  exact ⟨rfl, HD.out⟩
/-- An image of no bytes. -/
def imV (b n cap : Nat) : Value := .agg #[.int .i64 0, .slice none 0 0, .slice (some ⟨b, 0, none⟩) n cap]
set_option maxRecDepth 100000 in
set_option maxHeartbeats 1000000 in
theorem image_any (w : World) (b cap : Nat) (l : List IN) (hl : l.length ≤ 1000) (h : Code49 b l w) (hok : ∀ x ∈ l, OkI x) :
    Calls Tryz.prog 54 #[imV b l.length cap] w fun e w' => e = .returned (.bool true) ∧ Ch No w w' := by
  have HA := Lib.hid (Ch.alloc (S := No) w (.cells #[.int .i64 0, .slice none 0 0, .slice (some ⟨b, 0, none⟩) l.length cap] 54))
  have HI := Lib.hid (contains_any (w.alloc (.cells #[.int .i64 0, .slice none 0 0, .slice (some ⟨b, 0, none⟩) l.length cap] 54)) b cap l hl (h.keeps HA.out (fun x => x)) hok)
  have d1 : decide ((1024 : Int) < (l.length : Int)) = false := by rw [decide_eq_false_iff_not]; omega
  have d2 : decide (1024 < l.length) = false := by rw [decide_eq_false_iff_not]; omega
  clear h hok
  unfold imV
  go_enter Tryz.func54, Tryz.ntmps54
  go_wp2_with fail
  refine HI.out.mono ?_; rintro e w1 ⟨rfl, hch⟩
  have HD := Lib.hid (HA.out.trans hch)
  clear hch
  go_wp2_with fail
  go_ret
  exact ⟨rfl, HD.out⟩
end Go.Proofs.YtcngfaggignmpaaGreatDoor

/-
  The core of a task: a new one, of an image.
-/
namespace Go.Proofs.YtcngfaggignmpaaGreatDoor
open Go.RowKit

/-- A core at its start. -/
def cm0 : CM := ⟨fun _ => 0, 0, [], false⟩
set_option maxRecDepth 100000 in
set_option maxHeartbeats 1000000 in
theorem coreNew_any (w : World) (b cap : Nat) (l : List IN) (hl : l.length ≤ 1000) (h1 : 1 ≤ l.length) (h : Code49 b l w) (hok : ∀ x ∈ l, OkI x) :
    Calls Tryz.prog 28 #[imV b l.length cap] w fun e w' => ∃ g : CG, e = .returned (.tuple #[.pointer (some ⟨g.b, 0, none⟩), .int .i64 0]) ∧ g.code = l ∧ g.lo = w'.heap.size ∧ w.heap.size ≤ g.b ∧ w.heap.size ≤ g.cb ∧ CO g (.slice none 0 0) cm0 w' ∧ Ch No w w' := by
  have HA := Lib.hid (Ch.alloc (S := No) w (.cells #[.int .i64 0, .slice none 0 0, .slice (some ⟨b, 0, none⟩) l.length cap] 54))
  have hz := (Row.new w 54 #[.int .i64 0, .slice none 0 0, .slice (some ⟨b, 0, none⟩) l.length cap])
  obtain ⟨W0, hW0⟩ : ∃ W0, W0 = w.alloc (.cells #[.int .i64 0, .slice none 0 0, .slice (some ⟨b, 0, none⟩) l.length cap] 54) := ⟨_, rfl⟩
  rw [← hW0] at HA hz
  have HI := Lib.hid (image_any W0 b cap l hl (h.keeps HA.out (fun x => x)) hok)
  have HCODE := Lib.hid (h.keeps HA.out (fun x => x))
  have HZ := Lib.hid hz
  have HW := Lib.hid hW0
  clear h hok hz hW0
  have HI2 : Hid (∀ W, Ch No W0 W → Calls Tryz.prog 54 #[imV b l.length cap] W0 fun e w' => e = .returned (.bool true) ∧ Ch No W0 w') := Lib.hid (fun _ _ => HI.out)
  clear HI2
  unfold imV at HI ⊢
  go_enter Tryz.func28, Tryz.ntmps28
  go_wp2_with fail
  rw [← HW.out]
  refine HI.out.mono ?_; rintro e w1 ⟨rfl, hch⟩
  have z1 := HZ.out.keeps hch (fun x => x)
  have q0 := z1.cell (j := 0) rfl
  have q1 := z1.cell (j := 1) rfl
  have q2 := z1.cell (j := 2) rfl
  have HC1 := Lib.hid hch
  clear hch z1
  go_wp2_with fail
  refine (regNew_any _).mono ?_; rintro e w2 ⟨⟨r, rfl⟩, hch⟩
  have HC2 := Lib.hid (HC1.out.trans hch)
  clear hch q0 q1 q2
  have q2 := (HZ.out.keeps HC2.out (fun x => x)).cell (j := 2) rfl
  go_wp2_with fail
  refine (code_clone _ b cap l hl h1 (HCODE.out.keeps HC2.out (fun x => x))).mono ?_; rintro e w3 ⟨⟨cb, cap', rfl, hcap, hge, hcode⟩, hch⟩
  have HC3 := Lib.hid (HC2.out.trans hch)
  have HCD := Lib.hid hcode
  have HGE := Lib.hid hge
  have HSZ := Lib.hid (HC2.out.size)
  clear hch hcode q2 hge
  go_wp2_with fail
  go_ret2
  have s0 := HA.out.size
  have s1 := HGE.out
  have s2 := HSZ.out
  have s3 := HC3.out.size
  refine ⟨⟨w3.heap.size, r, cb, cap', _, l⟩, rfl, rfl, rfl, by show w.heap.size ≤ w3.heap.size; omega, by show w.heap.size ≤ cb; omega, ⟨Row.new w3 191 _, ?_, World.ownsRow_nil _ _ _ _⟩, (HA.out.trans HC3.out).trans (Ch.alloc _ _)⟩
  obtain ⟨cs, hr, hc⟩ := HCD.out
  exact ⟨cs, hr.alloc _, fun i x hi => by
    obtain ⟨f0, f1, f2, f3⟩ := flat_get l i x hi
    exact ⟨hc _ _ f0, hc _ _ f1, hc _ _ f2, hc _ _ f3⟩⟩
end Go.Proofs.YtcngfaggignmpaaGreatDoor
