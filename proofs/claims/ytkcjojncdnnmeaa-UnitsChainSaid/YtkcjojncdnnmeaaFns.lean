/-
  A map literal of functions, keyed by whole numbers of 8 bits: what a store at a new key and a look-up do; the closures of package units; 'deeds' and 'questions'. No condition.
-/
import Derived.Test.YtkcjojncdnnmeaaRows
import Derived.WalkKit
import Derived.WalkLawsBesides
import Derived.Carry
import Derived.Maps.OwnOps
namespace Go.Proofs.Ytkcjojncdnnmeaa
open Go.RowKit Go.ChangeMaps Go.MapKept

section
variable {P : Program} {T K E : TypeId} {q : IntKind}

/-- A store at a new key into the map that was laid last. -/
theorem run_put_new (ht : P.underlying T = some (.map K E)) (hk : P.underlying K = some (.int q)) (w : World) (es : Array MapEntry) (c : Nat) (k : Int) (v : Value)
    (hnew : Instr.findNow (.int q) (.int q k) es.toList 0 = some none) :
    (Instr.mapUpdate T (.map (some w.heap.size)) (.int q k) v).run P (w.alloc (.map es c)) = .ok () (w.alloc (.map (es.push ⟨.int q k, v, c⟩) (c + 1))) := by
  have hb : (w.alloc (.map es c)).heap[w.heap.size]? = some (.map es c) := (MapKept.heap_alloc w _).1
  have hkey : IsKey (.int q) (.int q k) := by simp [IsKey]
  have e1 : ∀ (o o' : Obj), ({ (w.alloc o) with heap := (w.alloc o).heap.setIfInBounds w.heap.size o' } : World) = w.alloc o' := by
    intro o o'
    have h : (w.heap.push o).setIfInBounds w.heap.size o' = w.heap.push o' := by
      apply Array.ext_getElem?
      intro i
      rw [Array.getElem?_setIfInBounds, Array.getElem?_push, Array.getElem?_push, Array.size_push]
      by_cases h : w.heap.size = i
      · subst h; simp
      · rw [if_neg h, if_neg (fun e => h e.symm), if_neg (fun e => h e.symm)]
    show ({ (w.alloc o) with heap := (w.heap.push o).setIfInBounds w.heap.size o' } : World) = _
    rw [h]
    rfl
  simp [Instr.mapUpdate, run_underlying ht, MapKept.run_getObj_map hb, run_checkKey hk hkey, run_findKey hk hnew, MapKept.run_setObj_map _ hb, Result.andThen]
  exact e1 _ _

/-- A look-up with 'ok'. -/
theorem run_look (ht : P.underlying T = some (.map K E)) (hk : P.underlying K = some (.int q)) (w : World) (b : Nat) (es : Array MapEntry) (c : Nat) (k : Int) (i : Nat) (v : Value)
    (hb : w.heap[b]? = some (.map es c)) (hf : Instr.findNow (.int q) (.int q k) es.toList 0 = some (some (i, v))) :
    (Instr.lookup T (.map (some b)) (.int q k) true).run P w = .ok (.tuple #[v, .bool true]) w := by
  have hkey : IsKey (.int q) (.int q k) := by simp [IsKey]
  simp [Instr.lookup, run_underlying ht, MapKept.run_getObj_map hb, run_checkKey hk hkey, run_findKey hk hf, Result.andThen]

theorem run_look_none (ht : P.underlying T = some (.map K E)) (hk : P.underlying K = some (.int q)) (w : World) (b : Nat) (es : Array MapEntry) (c : Nat) (k : Int) (z : Value)
    (hb : w.heap[b]? = some (.map es c)) (hz : (zeroValue E).run P w = .ok z w) (hf : Instr.findNow (.int q) (.int q k) es.toList 0 = some none) :
    (Instr.lookup T (.map (some b)) (.int q k) true).run P w = .ok (.tuple #[z, .bool false]) w := by
  have hkey : IsKey (.int q) (.int q k) := by simp [IsKey]
  simp [Instr.lookup, run_underlying ht, MapKept.run_getObj_map hb, run_checkKey hk hkey, run_findKey hk hf, hz, Result.andThen]
end

set_option maxHeartbeats 400000 in
theorem f30_any (a b : Int) (w : World) : Calls Try.prog 30 #[.int .u32 a, .int .u32 b] w fun e w' => e = .returned (.int .u32 ((a + b) % 4294967296)) ∧ w = w' := by
  go_enter Try.func30, Try.ntmps30
  go_wp2
  go_ret
  exact ⟨rfl, rfl⟩

set_option maxHeartbeats 400000 in
theorem f31_any (a b : Int) (w : World) : Calls Try.prog 31 #[.int .u32 a, .int .u32 b] w fun e w' => e = .returned (.int .u32 ((a - b) % 4294967296)) ∧ w = w' := by
  go_enter Try.func31, Try.ntmps31
  go_wp2
  go_ret
  exact ⟨rfl, rfl⟩

set_option maxHeartbeats 400000 in
theorem f32_any (a b : Int) (w : World) : Calls Try.prog 32 #[.int .u32 a, .int .u32 b] w fun e w' => e = .returned (.int .u32 ((a * b) % 4294967296)) ∧ w = w' := by
  go_enter Try.func32, Try.ntmps32
  go_wp2
  go_ret
  exact ⟨rfl, rfl⟩

set_option maxHeartbeats 400000 in
theorem f33_any (a b : Int) (w : World) : Calls Try.prog 33 #[.int .u32 a, .int .u32 b] w fun e w' => e = .returned (.int .u32 (bits BinOp.and .u32 a b)) ∧ w = w' := by
  go_enter Try.func33, Try.ntmps33
  go_wp2
  go_ret
  exact ⟨rfl, rfl⟩

set_option maxHeartbeats 400000 in
theorem f34_any (a b : Int) (w : World) : Calls Try.prog 34 #[.int .u32 a, .int .u32 b] w fun e w' => e = .returned (.int .u32 (bits BinOp.or .u32 a b)) ∧ w = w' := by
  go_enter Try.func34, Try.ntmps34
  go_wp2
  go_ret
  exact ⟨rfl, rfl⟩

set_option maxHeartbeats 400000 in
theorem f35_any (a b : Int) (w : World) : Calls Try.prog 35 #[.int .u32 a, .int .u32 b] w fun e w' => e = .returned (.int .u32 (bits BinOp.xor .u32 a b)) ∧ w = w' := by
  go_enter Try.func35, Try.ntmps35
  go_wp2
  go_ret
  exact ⟨rfl, rfl⟩

/-- The lowest five bits: what is left of 32. -/
theorem and31 (b : Int) (h0 : 0 ≤ b) (h1 : b ≤ 4294967295) : bits BinOp.and .u32 b 31 = b % 32 := by
  exact bits_mask .u32 32 (by decide) (fun n g0 g1 => by rw [IntKind.wrap_u32]; omega) 5 (by decide) b h0 (by omega)

/-- A number put up by so many places. -/
def shlV (a b : Int) : Int := a * 2 ^ (b % 32).toNat % 4294967296
/-- A number put down by so many places. -/
def shrV (a b : Int) : Int := a / 2 ^ (b % 32).toNat

set_option maxHeartbeats 400000 in
theorem f36_any (a b : Int) (w : World) (hb0 : 0 ≤ b) (hb1 : b ≤ 4294967295) : Calls Try.prog 36 #[.int .u32 a, .int .u32 b] w fun e w' => e = .returned (.int .u32 (shlV a b)) ∧ w = w' := by
  have h0 := bits_lo_u32 BinOp.and b 31
  have e : Hid (shlV a b = a * 2 ^ min (bits BinOp.and IntKind.u32 b 31).toNat 32 % 4294967296) := by
    show shlV a b = _
    rw [and31 b hb0 hb1, Nat.min_eq_left (by omega)]; rfl
  go_enter Try.func36, Try.ntmps36
  go_wp2
  go_ret
  rw [e.out]; exact ⟨rfl, rfl⟩

set_option maxHeartbeats 400000 in
theorem f37_any (a b : Int) (w : World) (hb0 : 0 ≤ b) (hb1 : b ≤ 4294967295) : Calls Try.prog 37 #[.int .u32 a, .int .u32 b] w fun e w' => e = .returned (.int .u32 (shrV a b)) ∧ w = w' := by
  have h0 := bits_lo_u32 BinOp.and b 31
  have e : Hid (shrV a b = a / 2 ^ min (bits BinOp.and IntKind.u32 b 31).toNat 32) := by
    show shrV a b = _
    rw [and31 b hb0 hb1, Nat.min_eq_left (by omega)]; rfl
  go_enter Try.func37, Try.ntmps37
  go_wp2
  go_ret
  rw [e.out]; exact ⟨rfl, rfl⟩

/-! The comparisons. -/
/-- words.Signed -/
def sg (a : Int) : Int := wrap32 a
theorem wrap64_wrap32 (a : Int) : wrap64 (wrap32 a) = wrap32 a := by unfold wrap64 wrap32; omega

set_option maxHeartbeats 400000 in
theorem signed_any (a : Int) (w : World) :
    Calls Try.prog 19 #[.int .u32 a] w fun e w' => e = .returned (.int .i64 (sg a)) ∧ w = w' := by
  have e : Hid (sg a = wrap64 (wrap32 a)) := (wrap64_wrap32 a).symm
  go_enter Try.func19, Try.ntmps19
  go_wp2
  go_ret
  rw [e.out]; exact ⟨rfl, rfl⟩

set_option maxHeartbeats 400000 in
theorem rsigned_any (a : Int) (w : World) (h0 : 0 ≤ a) (h1 : a ≤ 4294967295) :
    Calls Try.prog 21 #[.int .u32 a] w fun e w' => e = .returned (.int .i64 (sg a)) ∧ w = w' := by
  by_cases h : 2147483648 ≤ a
  · have e : Hid (sg a = a - 4294967296) := by show sg a = _; unfold sg wrap32; omega
    go_enter Try.func21, Try.ntmps21
    go_wp2
    go_ret
    rw [e.out]; exact ⟨rfl, rfl⟩
  · have e : Hid (sg a = a) := by show sg a = _; unfold sg wrap32; omega
    go_enter Try.func21, Try.ntmps21
    go_wp2
    go_ret
    rw [e.out]; exact ⟨rfl, rfl⟩

set_option maxHeartbeats 400000 in
theorem f26_any (a b : Int) (w : World) : Calls Try.prog 26 #[.int .u32 a, .int .u32 b] w fun e w' => e = .returned (.bool (a == b)) ∧ w = w' := by
  go_enter Try.func26, Try.ntmps26
  go_wp2
  go_ret
  exact ⟨rfl, rfl⟩

set_option maxHeartbeats 400000 in
theorem f27_any (a b : Int) (w : World) : Calls Try.prog 27 #[.int .u32 a, .int .u32 b] w fun e w' => e = .returned (.bool (a != b)) ∧ w = w' := by
  go_enter Try.func27, Try.ntmps27
  go_wp2
  go_ret
  exact ⟨rfl, rfl⟩

set_option maxHeartbeats 400000 in
theorem f28_any (a b : Int) (w : World) : Calls Try.prog 28 #[.int .u32 a, .int .u32 b] w fun e w' => e = .returned (.bool (decide (sg a < sg b))) ∧ w = w' := by
  go_enter Try.func28, Try.ntmps28
  go_wp2_with (go_at_call 19; refine (signed_any _ _).mono ?_; rintro e w1 ⟨rfl, rfl⟩)
  go_ret
  exact ⟨rfl, rfl⟩

set_option maxHeartbeats 400000 in
theorem f29_any (a b : Int) (w : World) : Calls Try.prog 29 #[.int .u32 a, .int .u32 b] w fun e w' => e = .returned (.bool (decide (a < b))) ∧ w = w' := by
  go_enter Try.func29, Try.ntmps29
  go_wp2
  go_ret
  exact ⟨rfl, rfl⟩

/-! The two maps. -/
/-- An entry: at a key the function of a number, the so many'th one. -/
def ent (k f c : Nat) : MapEntry := ⟨.int .u8 k, .func (.func f) #[] #[], c⟩
/-- The map of deeds, as it is laid. -/
def deedsArr : Array MapEntry := #[ent 3 30 0, ent 4 31 1, ent 5 32 2, ent 6 33 3, ent 7 34 4, ent 8 35 5, ent 9 36 6, ent 10 37 7]
/-- The map of questions, as it is laid. -/
def asksArr : Array MapEntry := #[ent 15 26 0, ent 16 27 1, ent 17 28 2, ent 18 29 3]

set_option maxHeartbeats 400000 in
theorem deeds_any (w : World) : Calls Try.prog 22 #[] w fun e w' => e = .returned (.map (some w.heap.size)) ∧ w.alloc (.map deedsArr 8) = w' := by
  have hmm := @run_makeMap Try.prog
  have i0 := run_put_new Try.underlying43 Try.underlying22 w #[] 0 3 (.func (.func 30) #[] #[]) rfl
  have i1 := run_put_new Try.underlying43 Try.underlying22 w #[ent 3 30 0] 1 4 (.func (.func 31) #[] #[]) rfl
  have i2 := run_put_new Try.underlying43 Try.underlying22 w #[ent 3 30 0, ent 4 31 1] 2 5 (.func (.func 32) #[] #[]) rfl
  have i3 := run_put_new Try.underlying43 Try.underlying22 w #[ent 3 30 0, ent 4 31 1, ent 5 32 2] 3 6 (.func (.func 33) #[] #[]) rfl
  have i4 := run_put_new Try.underlying43 Try.underlying22 w #[ent 3 30 0, ent 4 31 1, ent 5 32 2, ent 6 33 3] 4 7 (.func (.func 34) #[] #[]) rfl
  have i5 := run_put_new Try.underlying43 Try.underlying22 w #[ent 3 30 0, ent 4 31 1, ent 5 32 2, ent 6 33 3, ent 7 34 4] 5 8 (.func (.func 35) #[] #[]) rfl
  have i6 := run_put_new Try.underlying43 Try.underlying22 w #[ent 3 30 0, ent 4 31 1, ent 5 32 2, ent 6 33 3, ent 7 34 4, ent 8 35 5] 6 9 (.func (.func 36) #[] #[]) rfl
  have i7 := run_put_new Try.underlying43 Try.underlying22 w #[ent 3 30 0, ent 4 31 1, ent 5 32 2, ent 6 33 3, ent 7 34 4, ent 8 35 5, ent 9 36 6] 7 10 (.func (.func 37) #[] #[]) rfl
  simp [ent] at i0 i1 i2 i3 i4 i5 i6 i7
  go_enter Try.func22, Try.ntmps22
  go_wp2
  go_ret
  exact ⟨rfl, rfl⟩

set_option maxHeartbeats 400000 in
theorem asks_any (w : World) : Calls Try.prog 20 #[] w fun e w' => e = .returned (.map (some w.heap.size)) ∧ w.alloc (.map asksArr 4) = w' := by
  have hmm := @run_makeMap Try.prog
  have i0 := run_put_new Try.underlying39 Try.underlying22 w #[] 0 15 (.func (.func 26) #[] #[]) rfl
  have i1 := run_put_new Try.underlying39 Try.underlying22 w #[ent 15 26 0] 1 16 (.func (.func 27) #[] #[]) rfl
  have i2 := run_put_new Try.underlying39 Try.underlying22 w #[ent 15 26 0, ent 16 27 1] 2 17 (.func (.func 28) #[] #[]) rfl
  have i3 := run_put_new Try.underlying39 Try.underlying22 w #[ent 15 26 0, ent 16 27 1, ent 17 28 2] 3 18 (.func (.func 29) #[] #[]) rfl
  simp [ent] at i0 i1 i2 i3
  go_enter Try.func20, Try.ntmps20
  go_wp2
  go_ret
  exact ⟨rfl, rfl⟩
end Go.Proofs.Ytkcjojncdnnmeaa
