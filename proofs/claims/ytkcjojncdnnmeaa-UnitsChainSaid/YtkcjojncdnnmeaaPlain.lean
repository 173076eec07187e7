/-
  Plain laws of whole numbers, with no program in sight: bit by bit, put up and down by halves.
-/
namespace Go.Proofs.Ytkcjojncdnnmeaa.Plain

theorem and_step (x y : Nat) : (x &&& y) = 2 * ((x / 2) &&& (y / 2)) + (if x % 2 + y % 2 = 2 then 1 else 0) := by
  have h1 := Nat.div_add_mod (x &&& y) 2
  have h2 : (x &&& y) / 2 = (x / 2) &&& (y / 2) := Nat.and_div_two
  have h3 : (x &&& y) % 2 = 1 ↔ x % 2 = 1 ∧ y % 2 = 1 := Nat.and_mod_two_eq_one
  rw [← h2]
  split <;> omega

theorem or_step (x y : Nat) : (x ||| y) = 2 * ((x / 2) ||| (y / 2)) + (if x % 2 + y % 2 = 0 then 0 else 1) := by
  have h1 := Nat.div_add_mod (x ||| y) 2
  have h2 : (x ||| y) / 2 = (x / 2) ||| (y / 2) := Nat.or_div_two
  have h3 : (x ||| y) % 2 = 1 ↔ x % 2 = 1 ∨ y % 2 = 1 := Nat.or_mod_two_eq_one
  rw [← h2]
  split <;> omega

theorem xor_step (x y : Nat) : (x ^^^ y) = 2 * ((x / 2) ^^^ (y / 2)) + (if x % 2 + y % 2 = 1 then 1 else 0) := by
  have h1 := Nat.div_add_mod (x ^^^ y) 2
  have h2 : (x ^^^ y) / 2 = (x / 2) ^^^ (y / 2) := Nat.xor_div_two
  have h3 : (x ^^^ y) % 2 = 1 ↔ ¬ (x % 2 = 1 ↔ y % 2 = 1) := Nat.xor_mod_two_eq_one
  rw [← h2]
  split <;> omega

/-- What is made bit by bit, from the upper ones on: 'of' of none, of one, of both. -/
def upper (o0 o1 o2 x y : Nat) : Nat → Nat
  | 0 => 0
  | k + 1 => 2 * upper o0 o1 o2 x y k + (if x / 2 ^ (31 - k) % 2 + y / 2 ^ (31 - k) % 2 = 0 then o0 else if x / 2 ^ (31 - k) % 2 + y / 2 ^ (31 - k) % 2 = 1 then o1 else o2)

theorem half_pow (x k : Nat) (h : k ≤ 31) : x / 2 ^ (31 - k) / 2 = x / 2 ^ (32 - k) := by
  rw [Nat.div_div_eq_div_mul, ← Nat.pow_succ]; congr 2; omega

theorem upper_and (x y : Nat) (hx : x < 4294967296) (hy : y < 4294967296) : ∀ k, k ≤ 32 → upper 0 0 1 x y k = (x / 2 ^ (32 - k)) &&& (y / 2 ^ (32 - k))
  | 0, _ => by
    have e : x / 2 ^ 32 = 0 := Nat.div_eq_of_lt (by omega)
    show 0 = (x / 2 ^ 32) &&& (y / 2 ^ 32)
    rw [e, Nat.zero_and]
  | k + 1, h => by
    unfold upper
    rw [upper_and x y hx hy k (by omega), show 32 - (k + 1) = 31 - k from by omega, and_step (x / 2 ^ (31 - k)) (y / 2 ^ (31 - k)), half_pow x k (by omega), half_pow y k (by omega)]
    have := Nat.mod_lt (x / 2 ^ (31 - k)) (show 0 < 2 by decide)
    have := Nat.mod_lt (y / 2 ^ (31 - k)) (show 0 < 2 by decide)
    congr 1
    repeat' split
    all_goals omega

theorem upper_or (x y : Nat) (hx : x < 4294967296) (hy : y < 4294967296) : ∀ k, k ≤ 32 → upper 0 1 1 x y k = (x / 2 ^ (32 - k)) ||| (y / 2 ^ (32 - k))
  | 0, _ => by
    have e : x / 2 ^ 32 = 0 := Nat.div_eq_of_lt (by omega)
    have f : y / 2 ^ 32 = 0 := Nat.div_eq_of_lt (by omega)
    show 0 = (x / 2 ^ 32) ||| (y / 2 ^ 32)
    rw [e, f]; rfl
  | k + 1, h => by
    unfold upper
    rw [upper_or x y hx hy k (by omega), show 32 - (k + 1) = 31 - k from by omega, or_step (x / 2 ^ (31 - k)) (y / 2 ^ (31 - k)), half_pow x k (by omega), half_pow y k (by omega)]
    have := Nat.mod_lt (x / 2 ^ (31 - k)) (show 0 < 2 by decide)
    have := Nat.mod_lt (y / 2 ^ (31 - k)) (show 0 < 2 by decide)
    congr 1
    repeat' split
    all_goals omega

theorem upper_xor (x y : Nat) (hx : x < 4294967296) (hy : y < 4294967296) : ∀ k, k ≤ 32 → upper 0 1 0 x y k = (x / 2 ^ (32 - k)) ^^^ (y / 2 ^ (32 - k))
  | 0, _ => by
    have e : x / 2 ^ 32 = 0 := Nat.div_eq_of_lt (by omega)
    have f : y / 2 ^ 32 = 0 := Nat.div_eq_of_lt (by omega)
    show 0 = (x / 2 ^ 32) ^^^ (y / 2 ^ 32)
    rw [e, f]; rfl
  | k + 1, h => by
    unfold upper
    rw [upper_xor x y hx hy k (by omega), show 32 - (k + 1) = 31 - k from by omega, xor_step (x / 2 ^ (31 - k)) (y / 2 ^ (31 - k)), half_pow x k (by omega), half_pow y k (by omega)]
    have := Nat.mod_lt (x / 2 ^ (31 - k)) (show 0 < 2 by decide)
    have := Nat.mod_lt (y / 2 ^ (31 - k)) (show 0 < 2 by decide)
    congr 1
    repeat' split
    all_goals omega

theorem upper_lt (o0 o1 o2 x y : Nat) (h0 : o0 ≤ 1) (h1 : o1 ≤ 1) (h2 : o2 ≤ 1) : ∀ k, upper o0 o1 o2 x y k < 2 ^ k
  | 0 => by simp [upper]
  | k + 1 => by
    have := upper_lt o0 o1 o2 x y h0 h1 h2 k
    unfold upper
    rw [Nat.pow_succ]
    repeat' split
    all_goals omega

/-- A sum that goes round is what one has less, and what both have twice. -/
theorem xor_and_add (x : Nat) : ∀ y, (x ^^^ y) + 2 * (x &&& y) = x + y := by
  induction x using Nat.strongRecOn with
  | ind x ih =>
    intro y
    by_cases h : x = 0
    · subst h; simp
    · have hi := ih (x / 2) (by omega) (y / 2)
      have h1 := xor_step x y
      have h2 := and_step x y
      generalize x ^^^ y = p at *
      generalize x &&& y = q at *
      generalize (x / 2) ^^^ (y / 2) = r at *
      generalize (x / 2) &&& (y / 2) = s at *
      split at h1 <;> split at h2 <;> omega

theorem and_add_xor (x y : Nat) : (x &&& y) + (x ^^^ y) = (x ||| y) := by
  induction x using Nat.strongRecOn generalizing y with
  | ind x ih =>
    by_cases h : x = 0
    · subst h; simp
    · have hi := ih (x / 2) (by omega) (y / 2)
      have h1 := xor_step x y
      have h2 := and_step x y
      have h3 := or_step x y
      generalize x ^^^ y = p at *
      generalize x &&& y = q at *
      generalize x ||| y = t at *
      generalize (x / 2) ^^^ (y / 2) = r at *
      generalize (x / 2) &&& (y / 2) = s at *
      generalize (x / 2) ||| (y / 2) = u at *
      split at h1 <;> split at h2 <;> split at h3 <;> omega

end Go.Proofs.Ytkcjojncdnnmeaa.Plain
