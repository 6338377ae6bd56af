/- Plain arithmetic, no program in sight: residues modulo 1000000271, powers, roots. -/
namespace Go.PlainNum

/-- the residue of an integer -/
def res (n : Int) : Int := n % 1000000271
/-- the power of a residue -/
def pw (a : Int) (k : Nat) : Int := a ^ k % 1000000271

attribute [irreducible] pw

theorem pw_def (a : Int) (k : Nat) : pw a k = a ^ k % 1000000271 := by unfold pw; rfl

theorem res_lo (n : Int) : 0 ≤ res n := Int.emod_nonneg _ (by decide)
theorem res_hi (n : Int) : res n < 1000000271 := Int.emod_lt_of_pos _ (by decide)
theorem pw_lo (a : Int) (k : Nat) : 0 ≤ pw a k := by rw [pw_def]; exact Int.emod_nonneg _ (by decide)
theorem pw_hi (a : Int) (k : Nat) : pw a k < 1000000271 := by rw [pw_def]; exact Int.emod_lt_of_pos _ (by decide)

theorem tmod_lo (n : Int) : -1000000271 < n.tmod 1000000271 := by
  have := Int.lt_tmod_of_pos n (show (0 : Int) < 1000000271 by decide)
  omega
theorem tmod_hi (n : Int) : n.tmod 1000000271 < 1000000271 := Int.tmod_lt_of_pos n (by decide)

theorem tmod_res (n : Int) : (n.tmod 1000000271 + 1000000271) % 1000000271 = res n := by
  unfold res
  rw [Int.add_emod_right]
  have h := Int.mul_tdiv_add_tmod n 1000000271
  conv => rhs; rw [← h]
  rw [Int.add_comm, Int.add_mul_emod_self_left]

theorem res_res (n : Int) : res (res n) = res n := Int.emod_emod_of_dvd _ (Int.dvd_refl _)
theorem res_of (n : Int) (h0 : 0 ≤ n) (h1 : n < 1000000271) : res n = n := Int.emod_eq_of_lt h0 h1
theorem res_add (a b : Int) : (res a + res b) % 1000000271 = res (a + b) := (Int.add_emod a b _).symm
theorem res_mul (a b : Int) : res a * res b % 1000000271 = res (a * b) := (Int.mul_emod a b _).symm
theorem res_sub (a b : Int) : (res a - res b) % 1000000271 = res (a - b) := (Int.sub_emod a b _).symm
theorem res_sub2 (a b : Int) : (res a - res b + 1000000271) % 1000000271 = res (a - b) := by rw [Int.add_emod_right, res_sub]
theorem res_mul_lo (a b : Int) : 0 ≤ res a * res b := Int.mul_nonneg (res_lo a) (res_lo b)
theorem res_mul_hi (a b : Int) : res a * res b ≤ 1000000541000073000 := by
  have h1 := res_hi a; have h2 := res_hi b; have h3 := res_lo a; have h4 := res_lo b
  have : res a * res b ≤ 1000000270 * 1000000270 := Int.mul_le_mul (by omega) (by omega) h4 (by omega)
  omega

theorem mul_lo (a b : Int) (h1 : 0 ≤ a) (h2 : 0 ≤ b) : 0 ≤ a * b := Int.mul_nonneg h1 h2
theorem mul_hi (a b : Int) (h1 : 0 ≤ a) (h2 : a < 1000000271) (h3 : 0 ≤ b) (h4 : b < 1000000271) : a * b ≤ 1000000541000073000 := by
  have : a * b ≤ 1000000270 * 1000000270 := Int.mul_le_mul (by omega) (by omega) h3 (by omega)
  omega
theorem mod_lo (a : Int) : 0 ≤ a % 1000000271 := Int.emod_nonneg _ (by decide)
theorem mod_hi (a : Int) : a % 1000000271 < 1000000271 := Int.emod_lt_of_pos _ (by decide)
theorem pow_mod (a : Int) (k : Nat) : (a % 1000000271) ^ k % 1000000271 = a ^ k % 1000000271 := by
  induction k with
  | zero => rw [Int.pow_zero, Int.pow_zero]
  | succ k ih => rw [Int.pow_succ, Int.pow_succ, Int.mul_emod, ih, Int.emod_emod_of_dvd _ (Int.dvd_refl _), ← Int.mul_emod]
theorem pw_zero (a : Int) : pw a 0 = 1 := by rw [pw_def, Int.pow_zero]; rfl
theorem pw_res (a : Int) (k : Nat) : pw (res a) k = pw a k := by rw [pw_def, pw_def, res, pow_mod]
theorem res_pw (a : Int) (k : Nat) : res (pw a k) = pw a k := by rw [pw_def]; exact res_res _
theorem pw_one (a : Int) : pw a 1 = res a := by rw [pw_def, Int.pow_one]; rfl
theorem pw_mul_pw (a : Int) (j k : Nat) : pw a j * pw a k % 1000000271 = pw a (j + k) := by
  rw [pw_def, pw_def, pw_def, Int.pow_add, ← Int.mul_emod]
theorem pw_mul (a b : Int) (k : Nat) : pw a k * pw b k % 1000000271 = pw (a * b) k := by
  rw [pw_def, pw_def, pw_def, Int.mul_pow, ← Int.mul_emod]
theorem pw_pw (a : Int) (j k : Nat) : pw (pw a j) k = pw a (j * k) := by
  rw [pw_def, pw_def, pow_mod, ← Int.pow_mul, pw_def]

/-! ### the loop that squares and multiplies -/
/-- what the loop keeps: out times x to the k -/
def acc (out x : Int) (k : Nat) : Int := out * x ^ k % 1000000271
attribute [irreducible] acc
theorem acc_def (out x : Int) (k : Nat) : acc out x k = out * x ^ k % 1000000271 := by unfold acc; rfl
theorem acc_start (a : Int) (k : Nat) : acc 1 (res a) k = pw a k := by
  rw [acc_def, pw_def, Int.one_mul, res, pow_mod]
theorem acc_zero (out x : Int) (h0 : 0 ≤ out) (h1 : out < 1000000271) : acc out x 0 = out := by
  rw [acc_def, Int.pow_zero, Int.mul_one]; exact Int.emod_eq_of_lt h0 h1
theorem mul_mod_l (a b : Int) : (a % 1000000271) * b % 1000000271 = a * b % 1000000271 := by
  rw [Int.mul_emod, Int.emod_emod_of_dvd _ (Int.dvd_refl _), ← Int.mul_emod]
theorem mul_mod_r (a b : Int) : a * (b % 1000000271) % 1000000271 = a * b % 1000000271 := by
  rw [Int.mul_emod, Int.emod_emod_of_dvd _ (Int.dvd_refl _), ← Int.mul_emod]
theorem acc_even (out x : Int) (k : Nat) (h : k % 2 = 0) : acc out (x * x % 1000000271) (k / 2) = acc out x k := by
  rw [acc_def, acc_def, ← mul_mod_r out ((x * x % 1000000271) ^ (k / 2)), pow_mod, mul_mod_r]
  have e : x ^ k = (x * x) ^ (k / 2) := by
    have : k = 2 * (k / 2) := by omega
    conv => lhs; rw [this]
    rw [Int.pow_mul]; congr 1
    rw [Int.pow_succ, Int.pow_one]
  rw [e]
theorem acc_odd (out x : Int) (k : Nat) (h : k % 2 = 1) : acc (out * x % 1000000271) (x * x % 1000000271) (k / 2) = acc out x k := by
  rw [acc_def, acc_def, mul_mod_l, ← mul_mod_r (out * x) ((x * x % 1000000271) ^ (k / 2)), pow_mod, mul_mod_r]
  have e : x ^ k = x * (x * x) ^ (k / 2) := by
    have : k = 2 * (k / 2) + 1 := by omega
    conv => lhs; rw [this]
    rw [Int.pow_succ, Int.pow_mul, Int.mul_comm]; congr 2
    rw [Int.pow_succ, Int.pow_one]
  rw [e, Int.mul_assoc]

/-! ### square roots -/
/-- whether a number is a square -/
def sqb (a : Int) : Bool := decide (res (pw a 250000068 * pw a 250000068) = res a)
/-- the root that is found; 0 where there is none -/
def sqv (a : Int) : Int := if sqb a = true then (if res (-pw a 250000068) < pw a 250000068 then res (-pw a 250000068) else pw a 250000068) else 0
attribute [irreducible] sqb sqv
theorem sqb_true (a : Int) (h : res (pw a 250000068 * pw a 250000068) = res a) : sqb a = true := by unfold sqb; exact decide_eq_true h
theorem sqb_false (a : Int) (h : ¬ res (pw a 250000068 * pw a 250000068) = res a) : sqb a = false := by unfold sqb; exact decide_eq_false h
theorem sqv_no (a : Int) (h : sqb a = false) : sqv a = 0 := by unfold sqv; rw [if_neg (by rw [h]; decide)]
theorem sqv_lt (a : Int) (h : sqb a = true) (h1 : res (-pw a 250000068) < pw a 250000068) : sqv a = res (-pw a 250000068) := by unfold sqv; rw [if_pos h, if_pos h1]
theorem sqv_ge (a : Int) (h : sqb a = true) (h1 : ¬ res (-pw a 250000068) < pw a 250000068) : sqv a = pw a 250000068 := by unfold sqv; rw [if_pos h, if_neg h1]
end Go.PlainNum
