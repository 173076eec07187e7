/-
  The reference's functions (timekeeperref01.Of, timekeeperref03.bit, bits, Do, Holds): the same answers as package units gives; nothing that was there is turned. The numbers fit 32 bits.
-/
import Derived.Test.YtkcjojncdnnmeaaDeeds
import Derived.Test.YtkcjojncdnnmeaaPlain
import Derived.LoopTactic
import Derived.Lib.Hide
namespace Go.Proofs.Ytkcjojncdnnmeaa
open Go.RowKit Go.ChangeMaps Go.MapKept

theorem ret_int {k : IntKind} {a b : Int} (h : a = b) : Ending.returned (.int k a) = .returned (.int k b) := by rw [h]
theorem ret_two {k : IntKind} {a b : Int} {v : Value} (h : a = b) : Ending.returned (.tuple #[.int k a, v]) = .returned (.tuple #[.int k b, v]) := by rw [h]

/-- timekeeperref01.Of -/
def lo (n : Int) : Int := n % 4294967296

/-- Go's remainder by 2^32, made whole. -/
theorem tmod_lo (a : Int) : -4294967296 < a.tmod 4294967296 ∧ a.tmod 4294967296 < 4294967296 ∧ (a.tmod 4294967296) % 4294967296 = a % 4294967296 := by
  by_cases h : 0 ≤ a
  · rw [Int.tmod_eq_emod_of_nonneg h]; omega
  · obtain ⟨b, rfl⟩ : ∃ b, a = -b := ⟨-a, by omega⟩
    rw [Int.neg_tmod, Int.tmod_eq_emod_of_nonneg (by omega)]; omega

set_option maxHeartbeats 400000 in
theorem rof_any (a : Int) (w : World) :
    Calls Try.prog 23 #[.int .i64 a] w fun e w' => e = .returned (.int .u32 (lo a)) ∧ w = w' := by
  obtain ⟨b1, b2, b3⟩ := tmod_lo a
  by_cases h : a.tmod 4294967296 < 0
  · have e : Hid (lo a = a.tmod 4294967296 + 4294967296) := by show lo a = _; unfold lo; omega
    clear b3
    go_enter Try.func23, Try.ntmps23
    go_wp2
    go_ret
    rw [e.out]; exact ⟨rfl, rfl⟩
  · have e : Hid (lo a = a.tmod 4294967296) := by show lo a = _; unfold lo; omega
    clear b3
    go_enter Try.func23, Try.ntmps23
    go_wp2
    go_ret
    rw [e.out]; exact ⟨rfl, rfl⟩

/-- A bit of a number. -/
def bt (x : Nat) (j : Nat) : Nat := x / 2 ^ j % 2
theorem bt_lt (x j : Nat) : bt x j < 2 := Nat.mod_lt _ (by decide)

theorem bt_int (x j : Nat) : ((bt x j : Nat) : Int) = (x : Int) / 2 ^ j % 2 := by
  unfold bt; simp

theorem div_pow_bd (x j : Nat) (hx : x ≤ 4294967295) : 0 ≤ (x : Int) / 2 ^ j ∧ (x : Int) / 2 ^ j ≤ 4294967295 := by
  have h : x / 2 ^ j ≤ x := Nat.div_le_self _ _
  have e : (x : Int) / 2 ^ j = ((x / 2 ^ j : Nat) : Int) := by simp
  rw [e]; exact ⟨Int.natCast_nonneg _, by omega⟩

set_option maxHeartbeats 400000 in
theorem bit_any (x : Nat) (j : Int) (w : World) (hj0 : 0 ≤ j) (hj1 : j ≤ 31) (hx : x ≤ 4294967295) :
    Calls Try.prog 38 #[.int .u32 x, .int .i64 j] w fun e w' => e = .returned (.int .i64 (bt x j.toNat : Nat)) ∧ w = w' := by
  have e : Hid (((bt x j.toNat : Nat) : Int) = (x : Int) / 2 ^ j.toNat % 2) := bt_int x j.toNat
  obtain ⟨h0, h1⟩ := div_pow_bd x j.toNat hx
  go_enter Try.func38, Try.ntmps38
  go_wp2
  go_ret
  rw [e.out]; exact ⟨rfl, rfl⟩

/-- Which of three: by none, one, both. -/
def pk (o0 o1 o2 t : Nat) : Nat := if t = 0 then o0 else if t = 1 then o1 else o2

theorem upper_succ (o0 o1 o2 x y k : Nat) : Plain.upper o0 o1 o2 x y (k + 1) = 2 * Plain.upper o0 o1 o2 x y k + pk o0 o1 o2 (bt x (31 - k) + bt y (31 - k)) := rfl

set_option maxHeartbeats 1000000 in
theorem bits_any (x y o0 o1 o2 : Nat) (B : Nat) (w : World) (hx : x ≤ 4294967295) (hy : y ≤ 4294967295) (h0 : o0 ≤ 1) (h1 : o1 ≤ 1) (h2 : o2 ≤ 1)
    (c0 : w.cell? ⟨B, 0, none⟩ = some (.int .i64 o0)) (c1 : w.cell? ⟨B, 1, none⟩ = some (.int .i64 o1)) (c2 : w.cell? ⟨B, 2, none⟩ = some (.int .i64 o2)) :
    Calls Try.prog 24 #[.int .u32 x, .int .u32 y, .slice (some ⟨B, 0, none⟩) 3 3] w fun e w' => e = .returned (.int .u32 (Plain.upper o0 o1 o2 x y 32 : Nat)) ∧ w = w' := by
  have hc : ∀ t, t ≤ 2 → w.cell? ⟨B, t, none⟩ = some (.int .i64 (pk o0 o1 o2 t : Nat)) := by
    intro t ht
    unfold pk
    obtain rfl | rfl | rfl : t = 0 ∨ t = 1 ∨ t = 2 := by omega
    · simpa using c0
    · simpa using c1
    · simpa using c2
  have hC := Lib.hid hc
  clear hc c0 c1 c2
  go_enter Try.func24, Try.ntmps24
  go_wp2
  go_loop [7, 8] (fun n i => ∃ k : Nat, k ≤ 32 ∧ i = .int .i64 (31 - (k : Int)) ∧ n = .int .i64 (Plain.upper o0 o1 o2 x y k : Nat)) (fun _ i => (intOf i + 1).toNat)
  case atStart => exact ⟨0, Nat.zero_le _, rfl, rfl⟩
  case round =>
    obtain ⟨k, hk, rfl, rfl⟩ := hrel
    have hu := Plain.upper_lt o0 o1 o2 x y h0 h1 h2 k
    have hp : 2 ^ k ≤ 2 ^ 32 := Nat.pow_le_pow_right (by decide) hk
    by_cases hlt : k < 32
    · have b1 := bt_lt x (31 - k)
      have b2 := bt_lt y (31 - k)
      have hcell := hC.out (bt x (31 - k) + bt y (31 - k)) (by omega)
      have hpk : pk o0 o1 o2 (bt x (31 - k) + bt y (31 - k)) ≤ 1 := by unfold pk; (repeat' split) <;> omega
      go_wp2_with (go_at_call 38; refine (bit_any _ _ _ (by omega) (by omega) (by omega)).mono ?_; rintro e w1 ⟨rfl, rfl⟩)
      go_round
      case rel => exact ⟨k + 1, by omega, by go_num, by rw [upper_succ]; go_num⟩
      case measure => simp [intOf]; omega
    · obtain rfl : k = 32 := by omega
      have e : Hid (lo (Plain.upper o0 o1 o2 x y 32 : Nat) = (Plain.upper o0 o1 o2 x y 32 : Nat)) := by show lo _ = _; unfold lo; omega
      go_wp2_with (go_at_call 23; refine (rof_any _ _).mono ?_; rintro e w1 ⟨rfl, rfl⟩)
      go_ret
      exact ⟨ret_int e.out, rfl⟩

theorem lo_bd (a : Int) : 0 ≤ lo a ∧ lo a ≤ 4294967295 := by unfold lo; omega

theorem cell_new (w : World) (c : Array Value) (T : TypeId) (i : Nat) (v : Value) (h : c[i]? = some v) : (w.alloc (.cells c T)).cell? ⟨w.heap.size, i, none⟩ = some v := by
  have hb := (MapKept.heap_alloc w (.cells c T)).1
  unfold World.cell?
  rw [hb]
  exact h

set_option maxHeartbeats 400000 in
theorem rdo3_any (a b : Int) (w : World) (a0 : 0 ≤ a) (a1 : a ≤ 4294967295) (b0 : 0 ≤ b) (b1 : b ≤ 4294967295) :
    Calls Try.prog 15 #[.int .u8 3, .int .u32 a, .int .u32 b] w fun e w' => e = .returned (.tuple #[.int .u32 ((a + b) % 4294967296), .int .i64 0]) ∧ Below w.heap.size w w' := by
  go_enter Try.func15, Try.ntmps15
  go_wp2_with (go_at_call 23; refine (rof_any _ _).mono ?_; rintro e w1 ⟨rfl, rfl⟩)
  go_ret2
  exact ⟨rfl, Below.refl _ _⟩

set_option maxHeartbeats 400000 in
theorem rdo4_any (a b : Int) (w : World) (a0 : 0 ≤ a) (a1 : a ≤ 4294967295) (b0 : 0 ≤ b) (b1 : b ≤ 4294967295) :
    Calls Try.prog 15 #[.int .u8 4, .int .u32 a, .int .u32 b] w fun e w' => e = .returned (.tuple #[.int .u32 ((a - b) % 4294967296), .int .i64 0]) ∧ Below w.heap.size w w' := by
  go_enter Try.func15, Try.ntmps15
  go_wp2_with (go_at_call 23; refine (rof_any _ _).mono ?_; rintro e w1 ⟨rfl, rfl⟩)
  go_ret2
  exact ⟨rfl, Below.refl _ _⟩

theorem mul_bd (a b c : Int) (a0 : 0 ≤ a) (a1 : a ≤ 4294967295) (b0 : 0 ≤ b) (b1 : b ≤ 65535) (h : c = a * b) : 0 ≤ c ∧ c ≤ 281470681677825 := by
  subst h
  exact ⟨Int.mul_nonneg a0 b0, by have := Int.mul_le_mul a1 b1 b0 (by omega); omega⟩

theorem mul_parts (a b : Int) : lo (lo (a * (b % 65536)) + 65536 * (lo (a * (b / 65536)) % 65536)) = a * b % 4294967296 := by
  have e : a * b = a * (b % 65536) + 65536 * (a * (b / 65536)) := by
    have h := Int.mul_ediv_add_emod b 65536
    have h2 : a * b = a * (65536 * (b / 65536) + b % 65536) := by rw [h]
    rw [h2, Int.mul_add, ← Int.mul_assoc, Int.mul_comm a 65536, Int.mul_assoc]; omega
  rw [e]
  unfold lo
  omega

set_option maxHeartbeats 400000 in
theorem rdo5_any (a b : Int) (w : World) (a0 : 0 ≤ a) (a1 : a ≤ 4294967295) (b0 : 0 ≤ b) (b1 : b ≤ 4294967295) :
    Calls Try.prog 15 #[.int .u8 5, .int .u32 a, .int .u32 b] w fun e w' => e = .returned (.tuple #[.int .u32 (a * b % 4294967296), .int .i64 0]) ∧ Below w.heap.size w w' := by
  have e : Hid (lo (lo (a * (b % 65536)) + 65536 * (lo (a * (b / 65536)) % 65536)) = a * b % 4294967296) := mul_parts a b
  obtain ⟨p0, p1⟩ := mul_bd a (b % 65536) _ a0 a1 (by omega) (by omega) rfl
  obtain ⟨q0, q1⟩ := mul_bd a (b / 65536) _ a0 a1 (by omega) (by omega) rfl
  obtain ⟨r0, r1⟩ := lo_bd (a * (b % 65536))
  obtain ⟨s0, s1⟩ := lo_bd (a * (b / 65536))
  go_enter Try.func15, Try.ntmps15
  go_wp2_with (go_at_call 23; refine (rof_any _ _).mono ?_; rintro e w1 ⟨rfl, rfl⟩)
  go_ret2
  exact ⟨ret_two e.out, Below.refl _ _⟩

/-- 'bits' of two whole numbers that fit 32 bits, in Nat's words. -/
theorem bits_nats (x y : Nat) (hx : x ≤ 4294967295) (hy : y ≤ 4294967295) :
    bits BinOp.and .u32 x y = ((x &&& y : Nat) : Int) ∧ bits BinOp.or .u32 x y = ((x ||| y : Nat) : Int) ∧ bits BinOp.xor .u32 x y = ((x ^^^ y : Nat) : Int) := by
  have hk : ∀ n : Int, 0 ≤ n → n < 2 ^ 32 → IntKind.u32.wrap n = n := fun n g0 g1 => by rw [IntKind.wrap_u32]; omega
  obtain ⟨h1, h2⟩ := bits_nat .u32 32 (by decide) hk x y (by omega) (by omega)
  refine ⟨h1, h2, ?_⟩
  have h3 : x ^^^ y < 2 ^ 32 := Nat.xor_lt_two_pow (by omega) (by omega)
  have e1 : x % 2 ^ IntKind.u32.bits = x := Nat.mod_eq_of_lt (by show x < 2 ^ 32; omega)
  have e2 : y % 2 ^ IntKind.u32.bits = y := Nat.mod_eq_of_lt (by show y < 2 ^ 32; omega)
  simp only [bits, BitVec.ofInt_natCast, BitVec.toNat_xor, BitVec.toNat_ofNat, e1, e2]
  exact hk _ (Int.natCast_nonneg _) (by exact_mod_cast h3)

set_option maxHeartbeats 400000 in
theorem rdo6_any (x y : Nat) (w : World) (hx : x ≤ 4294967295) (hy : y ≤ 4294967295) :
    Calls Try.prog 15 #[.int .u8 6, .int .u32 x, .int .u32 y] w fun e w' => e = .returned (.tuple #[.int .u32 (bits BinOp.and .u32 x y), .int .i64 0]) ∧ Below w.heap.size w w' := by
  have e : Hid (((Plain.upper 0 0 1 x y 32 : Nat) : Int) = bits BinOp.and .u32 x y) := by
    show ((Plain.upper 0 0 1 x y 32 : Nat) : Int) = _
    rw [Plain.upper_and x y (by omega) (by omega) 32 (by omega), (bits_nats x y hx hy).1]; simp
  go_enter Try.func15, Try.ntmps15
  go_wp2_with (go_at_call 24; refine (bits_any x y 0 0 1 _ _ hx hy (by decide) (by decide) (by decide) (by exact cell_new _ _ _ _ _ rfl) (by exact cell_new _ _ _ _ _ rfl) (by exact cell_new _ _ _ _ _ rfl)).mono ?_; rintro e w1 ⟨rfl, rfl⟩)
  go_ret2
  exact ⟨ret_two e.out, (Below.refl _ _).alloc (Nat.le_refl _) _⟩

set_option maxHeartbeats 400000 in
theorem rdo7_any (x y : Nat) (w : World) (hx : x ≤ 4294967295) (hy : y ≤ 4294967295) :
    Calls Try.prog 15 #[.int .u8 7, .int .u32 x, .int .u32 y] w fun e w' => e = .returned (.tuple #[.int .u32 (bits BinOp.or .u32 x y), .int .i64 0]) ∧ Below w.heap.size w w' := by
  have e : Hid (((Plain.upper 0 1 1 x y 32 : Nat) : Int) = bits BinOp.or .u32 x y) := by
    show ((Plain.upper 0 1 1 x y 32 : Nat) : Int) = _
    rw [Plain.upper_or x y (by omega) (by omega) 32 (by omega), (bits_nats x y hx hy).2.1]; simp
  go_enter Try.func15, Try.ntmps15
  go_wp2_with (go_at_call 24; refine (bits_any x y 0 1 1 _ _ hx hy (by decide) (by decide) (by decide) (by exact cell_new _ _ _ _ _ rfl) (by exact cell_new _ _ _ _ _ rfl) (by exact cell_new _ _ _ _ _ rfl)).mono ?_; rintro e w1 ⟨rfl, rfl⟩)
  go_ret2
  exact ⟨ret_two e.out, (Below.refl _ _).alloc (Nat.le_refl _) _⟩

set_option maxHeartbeats 400000 in
theorem rdo8_any (x y : Nat) (w : World) (hx : x ≤ 4294967295) (hy : y ≤ 4294967295) :
    Calls Try.prog 15 #[.int .u8 8, .int .u32 x, .int .u32 y] w fun e w' => e = .returned (.tuple #[.int .u32 (bits BinOp.xor .u32 x y), .int .i64 0]) ∧ Below w.heap.size w w' := by
  have e : Hid (((Plain.upper 0 1 0 x y 32 : Nat) : Int) = bits BinOp.xor .u32 x y) := by
    show ((Plain.upper 0 1 0 x y 32 : Nat) : Int) = _
    rw [Plain.upper_xor x y (by omega) (by omega) 32 (by omega), (bits_nats x y hx hy).2.2]; simp
  go_enter Try.func15, Try.ntmps15
  go_wp2_with (go_at_call 24; refine (bits_any x y 0 1 0 _ _ hx hy (by decide) (by decide) (by decide) (by exact cell_new _ _ _ _ _ rfl) (by exact cell_new _ _ _ _ _ rfl) (by exact cell_new _ _ _ _ _ rfl)).mono ?_; rintro e w1 ⟨rfl, rfl⟩)
  go_ret2
  exact ⟨ret_two e.out, (Below.refl _ _).alloc (Nat.le_refl _) _⟩

theorem shl_step (a : Int) (k : Nat) : 2 * (a * 2 ^ k % 4294967296) % 4294967296 = a * 2 ^ (k + 1) % 4294967296 := by
  rw [Int.pow_succ, ← Int.mul_assoc]; omega

theorem shr_step (a : Int) (k : Nat) : a / 2 ^ k / 2 = a / 2 ^ (k + 1) := by
  rw [Int.pow_succ, Int.ediv_ediv_of_nonneg (Int.le_of_lt (Int.pow_pos (by decide)))]

theorem shr_bd (a : Int) (k : Nat) (a0 : 0 ≤ a) (a1 : a ≤ 4294967295) : 0 ≤ a / 2 ^ k ∧ a / 2 ^ k ≤ 4294967295 := by
  obtain ⟨x, rfl⟩ := Int.eq_ofNat_of_zero_le a0
  exact div_pow_bd x k (by omega)

set_option maxHeartbeats 1000000 in
theorem rdo9_any (a b : Int) (w : World) (a0 : 0 ≤ a) (a1 : a ≤ 4294967295) (b0 : 0 ≤ b) (b1 : b ≤ 4294967295) :
    Calls Try.prog 15 #[.int .u8 9, .int .u32 a, .int .u32 b] w fun e w' => e = .returned (.tuple #[.int .u32 (shlV a b), .int .i64 0]) ∧ Below w.heap.size w w' := by
  go_enter Try.func15, Try.ntmps15
  go_wp2
  go_loop [8, 12] (fun x i => ∃ k : Nat, (k : Int) ≤ b % 32 ∧ i = .int .i64 (k : Int) ∧ x = .int .i64 (a * 2 ^ k % 4294967296)) (fun _ i => (b % 32 - intOf i).toNat)
  case atStart => exact ⟨0, by omega, rfl, by rw [show a * 2 ^ 0 % 4294967296 = a from by rw [Int.pow_zero]; omega]⟩
  case round =>
    obtain ⟨k, hk, rfl, rfl⟩ := hrel
    have h1 : 0 ≤ a * 2 ^ k % 4294967296 := by omega
    have h2 : a * 2 ^ k % 4294967296 ≤ 4294967295 := by omega
    have hs := Lib.hid (shl_step a k)
    by_cases hlt : (k : Int) < b % 32
    · generalize a * 2 ^ k % 4294967296 = z at *
      go_wp2
      go_round
      case rel => exact ⟨k + 1, by omega, by go_num, by rw [← hs.out]⟩
      case measure => simp [intOf]; omega
    · have e : Hid (lo (a * 2 ^ k % 4294967296) = shlV a b) := by
        show lo _ = _; unfold lo shlV; rw [show (b % 32).toNat = k from by omega]; omega
      generalize a * 2 ^ k % 4294967296 = z at *
      go_wp2_with (go_at_call 23; refine (rof_any _ _).mono ?_; rintro e w1 ⟨rfl, rfl⟩)
      go_ret2
      exact ⟨ret_two e.out, Below.refl _ _⟩

set_option maxHeartbeats 1000000 in
theorem rdo10_any (a b : Int) (w : World) (a0 : 0 ≤ a) (a1 : a ≤ 4294967295) (b0 : 0 ≤ b) (b1 : b ≤ 4294967295) :
    Calls Try.prog 15 #[.int .u8 10, .int .u32 a, .int .u32 b] w fun e w' => e = .returned (.tuple #[.int .u32 (shrV a b), .int .i64 0]) ∧ Below w.heap.size w w' := by
  go_enter Try.func15, Try.ntmps15
  go_wp2
  go_loop [8, 13] (fun x i => ∃ k : Nat, (k : Int) ≤ b % 32 ∧ i = .int .i64 (k : Int) ∧ x = .int .i64 (a / 2 ^ k)) (fun _ i => (b % 32 - intOf i).toNat)
  case atStart => exact ⟨0, by omega, rfl, by rw [show a / 2 ^ 0 = a from by rw [Int.pow_zero]; omega]⟩
  case round =>
    obtain ⟨k, hk, rfl, rfl⟩ := hrel
    obtain ⟨h1, h2⟩ := shr_bd a k a0 a1
    have hs := Lib.hid (shr_step a k)
    by_cases hlt : (k : Int) < b % 32
    · generalize a / 2 ^ k = z at *
      go_wp2
      go_round
      case rel => exact ⟨k + 1, by omega, by go_num, by rw [← hs.out]⟩
      case measure => simp [intOf]; omega
    · have e : Hid (lo (a / 2 ^ k) = shrV a b) := by
        show lo _ = _; unfold lo shrV; rw [show (b % 32).toNat = k from by omega]; omega
      generalize a / 2 ^ k = z at *
      go_wp2_with (go_at_call 23; refine (rof_any _ _).mono ?_; rintro e w1 ⟨rfl, rfl⟩)
      go_ret2
      exact ⟨ret_two e.out, Below.refl _ _⟩

set_option maxHeartbeats 400000 in
theorem rdoNo_any (o a b : Int) (w : World) (ho : ¬ (3 ≤ o ∧ o ≤ 10)) : Calls Try.prog 15 #[.int .u8 o, .int .u32 a, .int .u32 b] w fun e w' => e = .returned (.tuple #[.int .u32 0, .int .i64 1]) ∧ Below w.heap.size w w' := by
  have n : ∀ k : Int, 3 ≤ k → k ≤ 10 → (o == k) = false := fun k _ _ => by rw [beq_eq_false_iff_ne]; omega
  have n3 := n 3 (by decide) (by decide)
  have n4 := n 4 (by decide) (by decide)
  have n5 := n 5 (by decide) (by decide)
  have n6 := n 6 (by decide) (by decide)
  have n7 := n 7 (by decide) (by decide)
  have n8 := n 8 (by decide) (by decide)
  have n9 := n 9 (by decide) (by decide)
  have n10 := n 10 (by decide) (by decide)
  clear n ho
  go_enter Try.func15, Try.ntmps15
  go_wp2
  go_ret2
  exact ⟨rfl, Below.refl _ _⟩

theorem rdo_any (o a b : Int) (w : World) (a0 : 0 ≤ a) (a1 : a ≤ 4294967295) (b0 : 0 ≤ b) (b1 : b ≤ 4294967295) :
    Calls Try.prog 15 #[.int .u8 o, .int .u32 a, .int .u32 b] w fun e w' => e = .returned (.tuple #[.int .u32 (doV o a b), .int .i64 (doE o)]) ∧ Below w.heap.size w w' := by
  by_cases ho : 3 ≤ o ∧ o ≤ 10
  · have hc : o = 3 ∨ o = 4 ∨ o = 5 ∨ o = 6 ∨ o = 7 ∨ o = 8 ∨ o = 9 ∨ o = 10 := by omega
    obtain ⟨x, rfl⟩ := Int.eq_ofNat_of_zero_le a0
    obtain ⟨y, rfl⟩ := Int.eq_ofNat_of_zero_le b0
    rcases hc with rfl | rfl | rfl | rfl | rfl | rfl | rfl | rfl
    · exact rdo3_any x y w a0 a1 b0 b1
    · exact rdo4_any x y w a0 a1 b0 b1
    · exact rdo5_any x y w a0 a1 b0 b1
    · exact rdo6_any x y w (by omega) (by omega)
    · exact rdo7_any x y w (by omega) (by omega)
    · exact rdo8_any x y w (by omega) (by omega)
    · exact rdo9_any x y w a0 a1 b0 b1
    · exact rdo10_any x y w a0 a1 b0 b1
  · have e1 : doV o a b = 0 := by
      unfold doV
      rw [if_neg (by omega), if_neg (by omega), if_neg (by omega), if_neg (by omega), if_neg (by omega), if_neg (by omega), if_neg (by omega), if_neg (by omega)]
    have e2 : doE o = 1 := by unfold doE; rw [if_neg ho]
    rw [e1, e2]; exact rdoNo_any o a b w ho

set_option maxHeartbeats 400000 in
theorem rho15_any (a b : Int) (w : World) :
    Calls Try.prog 13 #[.int .u8 15, .int .u32 a, .int .u32 b] w fun e w' => e = .returned (.tuple #[.bool (a == b), .int .i64 0]) ∧ w = w' := by
  go_enter Try.func13, Try.ntmps13
  go_wp2
  go_ret2
  exact ⟨rfl, rfl⟩

set_option maxHeartbeats 400000 in
theorem rho16_any (a b : Int) (w : World) :
    Calls Try.prog 13 #[.int .u8 16, .int .u32 a, .int .u32 b] w fun e w' => e = .returned (.tuple #[.bool (a != b), .int .i64 0]) ∧ w = w' := by
  go_enter Try.func13, Try.ntmps13
  go_wp2
  go_ret2
  exact ⟨rfl, rfl⟩

set_option maxHeartbeats 400000 in
theorem rho17_any (a b : Int) (w : World) (a0 : 0 ≤ a) (a1 : a ≤ 4294967295) (b0 : 0 ≤ b) (b1 : b ≤ 4294967295) :
    Calls Try.prog 13 #[.int .u8 17, .int .u32 a, .int .u32 b] w fun e w' => e = .returned (.tuple #[.bool (decide (sg a < sg b)), .int .i64 0]) ∧ w = w' := by
  go_enter Try.func13, Try.ntmps13
  go_wp2_with fail
  refine (rsigned_any a _ a0 a1).mono ?_; rintro e w1 ⟨rfl, rfl⟩
  go_wp2_with fail
  refine (rsigned_any b _ b0 b1).mono ?_; rintro e w1 ⟨rfl, rfl⟩
  go_wp2_with fail
  go_ret2
  exact ⟨rfl, rfl⟩

set_option maxHeartbeats 400000 in
theorem rho18_any (a b : Int) (w : World) :
    Calls Try.prog 13 #[.int .u8 18, .int .u32 a, .int .u32 b] w fun e w' => e = .returned (.tuple #[.bool (decide (a < b)), .int .i64 0]) ∧ w = w' := by
  go_enter Try.func13, Try.ntmps13
  go_wp2
  go_ret2
  exact ⟨rfl, rfl⟩

set_option maxHeartbeats 400000 in
theorem rhoNo_any (o a b : Int) (w : World) (ho : ¬ (15 ≤ o ∧ o ≤ 18)) : Calls Try.prog 13 #[.int .u8 o, .int .u32 a, .int .u32 b] w fun e w' => e = .returned (.tuple #[.bool false, .int .i64 1]) ∧ w = w' := by
  have n : ∀ k : Int, 15 ≤ k → k ≤ 18 → (o == k) = false := fun k _ _ => by rw [beq_eq_false_iff_ne]; omega
  have n3 := n 15 (by decide) (by decide)
  have n4 := n 16 (by decide) (by decide)
  have n5 := n 17 (by decide) (by decide)
  have n6 := n 18 (by decide) (by decide)
  clear n ho
  go_enter Try.func13, Try.ntmps13
  go_wp2
  go_ret2
  exact ⟨rfl, rfl⟩

theorem rho_any (o a b : Int) (w : World) (a0 : 0 ≤ a) (a1 : a ≤ 4294967295) (b0 : 0 ≤ b) (b1 : b ≤ 4294967295) :
    Calls Try.prog 13 #[.int .u8 o, .int .u32 a, .int .u32 b] w fun e w' => e = .returned (.tuple #[.bool (hoV o a b), .int .i64 (hoE o)]) ∧ w = w' := by
  by_cases ho : 15 ≤ o ∧ o ≤ 18
  · have hc : o = 15 ∨ o = 16 ∨ o = 17 ∨ o = 18 := by omega
    rcases hc with rfl | rfl | rfl | rfl
    · exact rho15_any a b w
    · exact rho16_any a b w
    · exact rho17_any a b w a0 a1 b0 b1
    · exact rho18_any a b w
  · have e1 : hoV o a b = false := by
      unfold hoV
      rw [if_neg (by omega), if_neg (by omega), if_neg (by omega), if_neg (by omega)]
    have e2 : hoE o = 1 := by unfold hoE; rw [if_neg ho]
    rw [e1, e2]; exact rhoNo_any o a b w ho
end Go.Proofs.Ytkcjojncdnnmeaa
