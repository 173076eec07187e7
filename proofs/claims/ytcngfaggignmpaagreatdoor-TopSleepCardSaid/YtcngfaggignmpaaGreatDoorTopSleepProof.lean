/- TopSleep: for every input the call returns true, and its arguments are as they were; no condition but what the listed variables hold (the row's own cells).
   The frame round the walk is turned from that of the seat's other statement, and from LinesPlay's. -/
import Derived.Test.YtcngfaggignmpaaGreatDoorRows
import Derived.Test.YtcngfaggignmpaaGreatDoorCards
import Derived.Test.YtcngfaggignmpaaGreatDoorTie
import Derived.Test.YtcngfaggignmpaaGreatDoorS44
import Derived.WalkKit
import Derived.ProofKit
import Derived.LaidMore
import Derived.OpenShut
import Derived.ChangeOld
import Derived.Deep.Slices
import Derived.Deep.Fields
import Derived.Below
import Derived.SevenTiedAt
import Derived.Stop.Joined
namespace Go.Proofs.YtcngfaggignmpaaGreatDoor.topSleep
open Go.ChangeShapes Go.WideShapes Go.ChangeAt Go.RowKit
set_option linter.unusedVariables false

theorem own : ownKnob Tryz.prog.godebug = none := by kernel_rfl
theorem laidOut : laidOutB Tryz.prog = true := by kernel_rfl
theorem cells47 : Tryz.prog.cellsOf 47 = 2 := by kernel_rfl
theorem cells5 : Tryz.prog.cellsOf 5 = 1 := by kernel_rfl
theorem bd_u8 {a : Int} (w : (Lit.int .u8 a).wf = true) : 0 ≤ a ∧ a ≤ 255 := by
  have hmin : IntKind.u8.min = 0 := rfl
  have hmax : IntKind.u8.max = 255 := rfl
  simp only [Lit.wf, Bool.and_eq_true, decide_eq_true_eq] at w
  omega
set_option maxRecDepth 100000 in
theorem two_fields {H : Type} {enc : TypeId × Value → H} {w : World} {n : Nat} {cs : List Value} {x : DataW H × List MemPlace} (h : DataW.trod enc Tryz.prog w 0 (fun _ => true) true n 47 cs = some x) :
    ∃ k l : Int, cs = [.int .u8 k, .int .u8 l] ∧ (Lit.int .u8 k).wf = true ∧ (Lit.int .u8 l).wf = true := by
  obtain ⟨ys, m, _, _, hlen, hyl, hf⟩ := DataW.trod_struct Tryz.underlying47 h
  rw [cells47] at hlen
  match cs, hlen, ys, hyl with
  | [v0, v1], _, [y0, y1], _ =>
    have h0 := hf 0 _ rfl
    have h1 := hf 1 _ rfl
    simp [cells5] at h0 h1
    obtain ⟨k, e0, _, k0⟩ := DataW.trod_int Tryz.underlying5 h0
    obtain ⟨l, e1, _, k1⟩ := DataW.trod_int Tryz.underlying5 h1
    simp at e0 e1
    subst e0 e1
    exact ⟨k, l, rfl, k0, k1⟩
/-- A number that lies somewhere. -/
def rdN (o : Option Value) : Nat := match o with
  | some (.int _ k) => k.toNat
  | _ => 0
set_option maxRecDepth 100000 in
/-- The slice that came in, opened. -/
theorem naps_of {H : Type} {enc : TypeId × Value → H} {w : World} {a : Option Addr} {len cap : Nat} {d : DataW H} {p : List MemPlace} (h : DataW.Trod enc Tryz.prog w 0 (fun _ => true) true 29 (.slice a len cap) d p) :
    len ≤ maxLen ∧ ∃ xr xt, Naps a len xr xt w := by
  obtain ⟨fuel, hf⟩ := h
  rcases Go.Deep.open_slice Tryz.underlying29 hf with ⟨hcs, _⟩ | ⟨x, l, c, m, n, D, Pl, hcs, _, hl, hm, hmm, _, hi⟩
  · simp [Value.cells] at hcs
    obtain ⟨_, rfl, _⟩ := hcs
    exact ⟨by unfold maxLen; omega, fun _ => 0, fun _ => 0, fun h => absurd h (by omega)⟩
  · simp [Value.cells] at hcs
    obtain ⟨rfl, rfl, rfl⟩ := hcs
    rw [cells47] at hi
    simp only [if_true] at hmm
    subst hmm
    refine ⟨by omega, ?_⟩
    have key : ∀ j, j < len → ∃ k l : Int, (0 ≤ k ∧ k ≤ 255) ∧ (0 ≤ l ∧ l ≤ 255) ∧ w.cell? (x.add (j * 2)) = some (.int .u8 k) ∧ w.cell? (x.add (j * 2 + 1)) = some (.int .u8 l) := by
      intro j hj
      obtain ⟨cs', hcells, ht⟩ := hi j (by omega)
      obtain ⟨k, l, rfl, wk, wl⟩ := two_fields ht
      obtain ⟨_, _, hat⟩ := World.cells?_some hcells
      have a0 := hat 0 (by decide)
      have a1 := hat 1 (by decide)
      rw [Go.Deep.add_add] at a0 a1
      exact ⟨k, l, bd_u8 wk, bd_u8 wl, a0, a1⟩
    by_cases h0 : len = 0
    · subst h0
      exact ⟨fun _ => 0, fun _ => 0, fun h => absurd h (by omega)⟩
    · obtain ⟨b, off, spot⟩ := x
      obtain ⟨k0, l0, _, _, hc0, _⟩ := key 0 (by omega)
      have hspot : spot = none := by simpa [Addr.add] using World.cell?_spot hc0
      subst hspot
      refine ⟨fun j => rdN (w.cell? ⟨b, off + j * 2, none⟩), fun j => rdN (w.cell? ⟨b, off + j * 2 + 1, none⟩), fun _ => ⟨b, off, rfl, fun j hj => ?_⟩⟩
      obtain ⟨k, l, hk, hl, c0, c1⟩ := key j hj
      rw [Go.WideShapes.add_plain] at c0 c1
      have c1' : w.cell? ⟨b, off + j * 2 + 1, none⟩ = some (.int .u8 l) := by rw [Nat.add_assoc]; exact c1
      have ek : ((k.toNat : Nat) : Int) = k := by omega
      have el : ((l.toNat : Nat) : Int) = l := by omega
      refine ⟨?_, ?_, ?_, ?_⟩
      · show rdN (w.cell? ⟨b, off + j * 2, none⟩) ≤ 255
        rw [c0]; show k.toNat ≤ 255; omega
      · show rdN (w.cell? ⟨b, off + j * 2 + 1, none⟩) ≤ 255
        rw [c1']; show l.toNat ≤ 255; omega
      · show w.cell? ⟨b, off + j * 2, none⟩ = some (.int .u8 ((rdN (w.cell? ⟨b, off + j * 2, none⟩) : Nat) : Int))
        rw [c0]; show some (Value.int .u8 k) = some (.int .u8 ((k.toNat : Nat) : Int)); rw [ek]
      · show w.cell? ⟨b, off + j * 2 + 1, none⟩ = some (.int .u8 ((rdN (w.cell? ⟨b, off + j * 2 + 1, none⟩) : Nat) : Int))
        rw [c1']; show some (Value.int .u8 l) = some (.int .u8 ((l.toNat : Nat) : Int)); rw [el]

/-- What the row lists. -/
def listed : List (String × DataW Unit) := [("math/bits.deBruijn32tab", Rows.laid_math_bits_deBruijn32tab), ("math/bits.deBruijn64tab", Rows.laid_math_bits_deBruijn64tab), ("internal/strconv.uint64pow10", Rows.laid_internal_strconv_uint64pow10), ("strconv.ErrRange", Rows.laid_strconv_ErrRange), ("strconv.ErrSyntax", Rows.laid_strconv_ErrSyntax)]
/-- The door's own heap meets the condition. -/
theorem door_met (os : Os) (args : Array Value) : laidMetH Tryz.prog listed ((World.doorLaid Tryz.prog 62 os).forCall (fun _ _ => 0) ⟨#[], args, []⟩).memory :=
  laidMetH_of_parts3 (fuel := 8) (laidMet_of_run' 8 (by kernel_rfl) (by kernel_rfl)) (by kernel_rfl) (by kernel_rfl)

set_option maxRecDepth 100000 in
theorem lifted (os : Os) (started : os.Started) (H : Type) (enc : TypeId × Value → H) :
    ReturnsInHanded {} Tryz.checked os 4 .any (fun w args => (Rows.topSleepSpec.pre enc Tryz.prog Tryz.f4 [] false w args ∧ laidMetH Tryz.prog listed w) ∧ sizedMet enc Tryz.prog Tryz.f4 (OpenSpec.ofChange Rows.topSleepSpec) false w args)
      (Rows.topSleepSpec.post enc Tryz.prog Tryz.f4 false true false false) := by
  refine returnsInHanded_of_change_and (C := Tryz.checked) (X := fun w _ => laidMetH Tryz.prog listed w) (fun _ _ _ hh h => h.of_heap hh) own started (by kernel_rfl) Tryz.func4
    (ChangeSpec.witness_shaped (enc := enc) (C := Tryz.checked) (os := os) (X := fun w _ => laidMetH Tryz.prog listed w) false (World.doorLaid Tryz.prog 62 os) #[.slice none 0 0, .int .u8 0] 8 rfl (World.shaped_of_RefB (by kernel_rfl) (by kernel_rfl)) (by kernel_rfl) (by kernel_rfl) (by kernel_rfl) (door_met os _)) ?_
  intro W base args ds gs before hval0 hW _ _ hL _
  have hval : ∀ (j : Nat) t v, Tryz.f4.params[j]? = some t → args[j]? = some v → Value.okWide Tryz.prog W .any base t v := hval0
  have hW' := hW
  obtain ⟨p, q, hA0, hV, rfl, hfz, hnd⟩ := hW
  have hA : DataW.TrodAll enc Tryz.prog W 0 (fun _ => true) true Tryz.f4.params.toList args.toList ds p := hA0
  rw [Tryz.params4] at hA hval
  obtain ⟨v0, vs0, d0, ds0, p0, q0, hargs, rfl, rfl, h0, r0⟩ := trodAll_cons hA
  obtain ⟨v1, vs1, d1, ds1, p1, q1, rfl, rfl, rfl, h1, r1⟩ := trodAll_cons r0
  obtain ⟨rfl, rfl, rfl⟩ := trodAll_nil r1
  obtain rfl : args = #[v0, v1] := by cases args; simp_all
  obtain ⟨rfl, rfl⟩ := trodVars_none hV
  obtain ⟨a0, len0, cap0, rfl⟩ := okWide_slice Tryz.underlying29 (hval 0 29 v0 rfl rfl)
  have k0 := h0
  have lt0 : ∀ x ∈ p0, x.block < W.heap.size := by obtain ⟨m, hm⟩ := k0; exact DataW.trod_lt m _ _ _ hm
  obtain ⟨hlen, xr, xt, hnaps⟩ := naps_of h0
  obtain ⟨a1, rfl, rfl, rfl, w1⟩ := open_int Tryz.underlying5 (hval 1 5 v1 rfl rfl) h1
  clear hA0 hval0
  refine (topSleep_any W a0 len0 cap0 a1 xr xt hlen (bd_u8 w1) hnaps).mono fun e W' ⟨he, hch⟩ => ?_
  subst he
  have bel : Below W.heap.size W W' := hch.toBelow (fun k e => e) (Nat.le_refl _)
  exact ⟨_, rfl, _, _, _, [], _, [], hW', trodAll_mk1 (shut_bool Tryz.underlying4 _), (trodAll_cons_mk (Below.trod laidOut (by kernel_rfl) (of_decide_eq_true (by kernel_rfl)) k0 bel lt0) (trodAll_cons_mk (shut_int Tryz.underlying5 w1) trodAll_mk0)), rfl, bel.frame _, fun h => by cases h⟩

theorem said : Rows.TopSleepSaid :=
  OpenClaim.holds_of_wide 4 Tryz.f4 rfl rfl rfl rfl rfl rfl rfl ⟨rfl, rfl, rfl, rfl, rfl⟩ rfl rfl rfl rfl rfl (by kernel_rfl) Tryz.func4 (by kernel_rfl)
    (of_decide_eq_true (by kernel_rfl)) (by unfold Func.isWrapper; first | (rw [if_pos (by decide +kernel)]; kernel_rfl) | (rw [if_neg (by decide +kernel)]; exact ⟨rfl, rfl⟩))
    (fun os started H enc _ => lifted os started H enc)

theorem proved : Rows.TopSleepCardSaid :=
  Claim7.holds_tied_plain_at .later [] [.data, .data, .data, .sentinel, .sentinel] true (true, "c8233a8ebc46bfd009709c4f37ca0688e3fb40809988520d821800a3fdf5cab5") true
    said (fun _ h => by cases h) (by kernel_rfl) (fun _ h => by cases h) topSleep_row_tie rfl ⟨rfl, rfl⟩ (by kernel_rfl) rfl
    (fun f fn hf hfn => by
      obtain rfl : f = 4 := Option.some.inj ((show Tryz.prog.funcNamed "timekeeper/timekeepertop.TopSleep" = some 4 by kernel_rfl).symm.trans hf) |>.symm
      obtain rfl : fn = Tryz.f4 := (Option.some.inj (Tryz.func4.symm.trans hfn)).symm
      exact ⟨by kernel_rfl, fun j t ht => by
        rw [Tryz.params4] at ht
        have hm : t ∈ [29, 5] := by simpa using Array.mem_of_getElem? ht
        have hall : ([29, 5].all fun u => !Tryz.prog.wantsStandIn u) = true := by kernel_rfl
        exact (show Tryz.prog.wantsStandIn t = false by simpa using List.all_eq_true.1 hall t hm)⟩)
    (by kernel_rfl)
end Go.Proofs.YtcngfaggignmpaaGreatDoor.topSleep
