/- Plain: the numbers are a field; roots. -/
import Derived.Test.YtkpbaaigopheeaaPlainFermat
import Derived.Test.YtkpbaaigopheeaaPlainNum
namespace Go.PlainNum

theorem fermat_k {p k b : Nat} (hp : Pr p) (hk : k + 1 = p) (h : ¬ p ∣ b) : b ^ k % p = 1 := by
  have := fermat hp h
  rwa [show p - 1 = k by omega] at this
theorem pw_nat (b k : Nat) : pw (b : Int) k = ((b ^ k % 1000000271 : Nat) : Int) := by
  rw [pw_def, ← Int.natCast_pow]; rfl
theorem res_nat (b : Int) : ∃ n : Nat, res b = n := ⟨(res b).toNat, by have := res_lo b; omega⟩
theorem not_dvd_of_res {b : Int} {n : Nat} (h : res b = n) (h0 : res b ≠ 0) : ¬ 1000000271 ∣ n := by
  intro hd
  have h1 := res_hi b
  have h2 : n < 1000000271 := by omega
  rcases Nat.eq_zero_or_pos n with h3 | h3
  · omega
  · have := Nat.le_of_dvd h3 hd; omega
/-- what is not 0 has, to the power of the prime less 1, the value 1 -/
theorem pw_fermat (b : Int) (h : res b ≠ 0) : pw b 1000000270 = 1 := by
  obtain ⟨n, hn⟩ := res_nat b
  have hd := not_dvd_of_res hn h
  have := fermat_k (k := 1000000270) prime_P rfl hd
  rw [← pw_res, hn, pw_nat, this]
  rfl
theorem pw_zero_base (b : Int) (h : res b = 0) (k : Nat) (hk : 0 < k) : pw b k = 0 := by
  rw [← pw_res, h, pw_def]
  obtain ⟨j, rfl⟩ : ∃ j, k = j + 1 := ⟨k - 1, by omega⟩
  rw [Int.pow_succ, Int.mul_zero]; rfl
theorem res_mul_res_l (a b : Int) : res (res a * b) = res (a * b) := mul_mod_l a b
theorem res_mul_res_r (a b : Int) : res (a * res b) = res (a * b) := mul_mod_r a b
theorem res_add_res (a b : Int) : res (res a + res b) = res (a + b) := res_add a b
theorem res_add_sub (a b : Int) : res (res (a + b) - b) = res a := by
  unfold res
  rw [Int.sub_emod, Int.emod_emod_of_dvd _ (Int.dvd_refl _), ← Int.sub_emod, Int.add_sub_cancel]
theorem res_eq (x : Int) : res x = x % 1000000271 := rfl
/-- a number times its inverse -/
theorem mul_inv (b : Int) (h : res b ≠ 0) : res (b * pw b 1000000269) = 1 := by
  have h1 : res (b * pw b 1000000269) = pw b 1000000270 := by
    rw [← res_mul_res_l, ← pw_one b]
    exact pw_mul_pw b 1 1000000269
  rw [h1, pw_fermat b h]
theorem frac_mul (a b : Int) (h : res b ≠ 0) : res (res (a * pw b 1000000269) * b) = res a := by
  rw [res_mul_res_l, Int.mul_assoc, ← res_mul_res_r, Int.mul_comm (pw b 1000000269) b, mul_inv b h, Int.mul_one]
end Go.PlainNum
