/- Plain: squares, square roots and cube roots modulo the prime. -/
import Derived.Test.YtkpbaaigopheeaaPlainField
namespace Go.PlainNum

theorem pr_int {a b : Int} (h : (1000000271 : Int) ∣ a * b) : (1000000271 : Int) ∣ a ∨ (1000000271 : Int) ∣ b := by
  have h1 : (1000000271 : Nat) ∣ a.natAbs * b.natAbs := by
    rw [← Int.natAbs_mul]; exact Int.natAbs_dvd_natAbs.2 h
  rcases pr_mul prime_P h1 with h2 | h2
  · exact Or.inl (Int.natAbs_dvd_natAbs.1 h2)
  · exact Or.inr (Int.natAbs_dvd_natAbs.1 h2)
theorem res_zero_iff (a : Int) : res a = 0 ↔ (1000000271 : Int) ∣ a := Int.dvd_iff_emod_eq_zero.symm
theorem res_eq_iff (a b : Int) : res a = res b ↔ (1000000271 : Int) ∣ a - b := by
  unfold res
  exact Int.emod_eq_emod_iff_emod_sub_eq_zero.trans Int.dvd_iff_emod_eq_zero.symm

/-- the character of a number: 1 for squares, the prime less 1 for the others -/
theorem chi (x : Int) (h : res x ≠ 0) : pw x 500000135 = 1 ∨ pw x 500000135 = 1000000270 := by
  have h1 : pw x 500000135 * pw x 500000135 % 1000000271 = 1 := by rw [pw_mul_pw]; exact pw_fermat x h
  have h2 := pw_lo x 500000135
  have h3 := pw_hi x 500000135
  generalize pw x 500000135 = y at *
  have h4 : (1000000271 : Int) ∣ (y - 1) * (y + 1) := by
    rw [Int.dvd_iff_emod_eq_zero]
    have : (y - 1) * (y + 1) = y * y - 1 := by rw [Int.sub_mul, Int.mul_add, Int.one_mul, Int.mul_one]; omega
    rw [this, Int.sub_emod, h1]; rfl
  rcases pr_int h4 with h5 | h5
  · left; have := Int.emod_eq_zero_of_dvd h5; omega
  · right; have := Int.emod_eq_zero_of_dvd h5; omega
theorem sq_val (x : Int) : res (pw x 250000068 * pw x 250000068) = res (x * pw x 500000135) := by
  have h1 : res (pw x 250000068 * pw x 250000068) = pw x 500000136 := pw_mul_pw x 250000068 250000068
  have h2 : res (x * pw x 500000135) = pw x 500000136 := by
    rw [← res_mul_res_l, ← pw_one x]
    exact pw_mul_pw x 1 500000135
  rw [h1, h2]
theorem sqb_one (x : Int) (h : pw x 500000135 = 1) : sqb x = true := by
  apply sqb_true
  rw [sq_val, h, Int.mul_one]
theorem sqb_zero (x : Int) (h : res x = 0) : sqb x = true := by
  apply sqb_true
  rw [sq_val, pw_zero_base x h 500000135 (by omega), Int.mul_zero, h]; rfl
theorem mul_less (x : Int) : x * 1000000270 - x = x * 1000000269 := by
  have h := Int.mul_sub x 1000000270 1
  rw [Int.mul_one] at h
  exact h.symm
theorem not_dvd_less (h : (1000000271 : Int) ∣ 1000000269) : False := by
  have := Int.emod_eq_zero_of_dvd h
  revert this
  decide
theorem sqb_other (x : Int) (h : res x ≠ 0) (hy : pw x 500000135 = 1000000270) : sqb x = false := by
  apply sqb_false
  rw [sq_val, hy, res_eq_iff, mul_less]
  intro hd
  rcases pr_int hd with h5 | h5
  · exact h ((res_zero_iff x).2 h5)
  · exact not_dvd_less h5
theorem neg_pow_odd (x : Int) (k : Nat) : (-x) ^ (2 * k + 1) = -(x ^ (2 * k + 1)) := by
  induction k with
  | zero => rw [Nat.mul_zero, Nat.zero_add, Int.pow_one, Int.pow_one]
  | succ k ih =>
    rw [show 2 * (k + 1) + 1 = 2 * k + 1 + 1 + 1 by omega, Int.pow_succ, Int.pow_succ, ih, Int.pow_succ x (2 * k + 1 + 1), Int.pow_succ x (2 * k + 1)]
    rw [Int.neg_mul, Int.mul_neg, Int.mul_neg, Int.neg_neg]
theorem res_neg_res (a : Int) : res (-res a) = res (-a) := by
  have := res_mul_res_r (-1) a
  rwa [Int.neg_one_mul, Int.neg_one_mul] at this
theorem pw_neg_odd (x : Int) (k : Nat) : pw (-x) (2 * k + 1) = res (-pw x (2 * k + 1)) := by
  rw [pw_def, neg_pow_odd, pw_def]
  exact (res_neg_res _).symm
theorem chi_neg (x : Int) : pw (-x) 500000135 = res (-pw x 500000135) := pw_neg_odd x 250000067

/-- of a number other than 0 and its negative exactly one is a square -/
theorem one_ne_two (x : Int) (h : res x ≠ 0) : sqb x = !sqb (-x) := by
  have hn : res (-x) ≠ 0 := by
    intro h0
    apply h
    rw [res_zero_iff] at h0 ⊢
    exact Int.dvd_neg.1 h0
  rcases chi x h with h1 | h1
  · rw [sqb_one x h1, sqb_other (-x) hn (by rw [chi_neg, h1]; rfl)]; rfl
  · rw [sqb_other x h h1, sqb_one (-x) (by rw [chi_neg, h1]; rfl)]; rfl

theorem sqb_sq (x : Int) : sqb (x * x) = true := by
  by_cases h : res (x * x) = 0
  · exact sqb_zero _ h
  · apply sqb_one
    have h0 : res x ≠ 0 := by
      intro h0
      apply h
      rw [← res_mul_res_l, h0, Int.zero_mul]; rfl
    rw [← pw_mul, pw_mul_pw]
    exact pw_fermat x h0
theorem sqb_of_root (n s : Int) (h : res (s * s) = res n) : sqb n = true := by
  have h1 := sqb_sq s
  have h2 : ∀ m : Int, sqb m = sqb (res m) := by
    intro m
    unfold sqb
    rw [pw_res, res_res]
  rw [h2, ← h, ← h2]
  exact h1
theorem sqb_2 : sqb 2 = true := sqb_of_root 2 677183386 (by decide)
theorem sqb_3 : sqb 3 = true := sqb_of_root 3 590934106 (by decide)
theorem sqb_4 : sqb 4 = true := sqb_of_root 4 2 (by decide)
theorem sqb_5 : sqb 5 = true := sqb_of_root 5 838613109 (by decide)

theorem res_neg_of (x : Int) (h0 : 0 ≤ x) (h1 : x < 1000000271) : res (-x) = if x = 0 then 0 else 1000000271 - x := by
  unfold res
  split
  · subst x; rfl
  · omega
/-- the root of a square of a number -/
theorem sqv_sq (x : Int) (h0 : 0 ≤ x) (h1 : x < 1000000271) : (sqv (x * x) = x ∨ sqv (x * x) = res (-x)) ∧ sqv (x * x) ≤ 500000135 := by
  have hx : res x = x := res_of x h0 h1
  have e : pw (x * x) 250000068 = res (x * pw x 500000135) := by
    rw [← pw_mul, pw_mul_pw, ← res_mul_res_l, ← pw_one x]
    exact (pw_mul_pw x 1 500000135).symm
  have hr := res_neg_of x h0 h1
  have hs := sqb_sq x
  have key : pw (x * x) 250000068 = x ∨ pw (x * x) 250000068 = res (-x) := by
    by_cases hz : x = 0
    · left
      rw [e, hz, Int.zero_mul]; rfl
    · rcases chi x (by rw [hx]; exact hz) with h2 | h2
      · left; rw [e, h2, Int.mul_one, hx]
      · right; rw [e, h2, res_eq_iff]
        exact ⟨x, by omega⟩
  have hp : pw (x * x) 250000068 = x ∨ (x ≠ 0 ∧ pw (x * x) 250000068 = 1000000271 - x) := by
    rcases key with k | k
    · exact Or.inl k
    · by_cases hz : x = 0
      · left; rw [k, hz]; rfl
      · right; rw [k, hr, if_neg hz]; exact ⟨hz, rfl⟩
  have hn : res (-pw (x * x) 250000068) = if pw (x * x) 250000068 = 0 then 0 else 1000000271 - pw (x * x) 250000068 := res_neg_of _ (pw_lo _ _) (pw_hi _ _)
  have v : sqv (x * x) = if res (-pw (x * x) 250000068) < pw (x * x) 250000068 then res (-pw (x * x) 250000068) else pw (x * x) 250000068 := by
    split
    · exact sqv_lt _ hs ‹_›
    · exact sqv_ge _ hs ‹_›
  rw [v, hr]
  generalize pw (x * x) 250000068 = y at *
  rw [hn]
  rcases hp with h | ⟨h, h'⟩
  · subst h
    by_cases hz : y = 0
    · simp only [hz, if_true]; omega
    · simp only [hz, if_false]
      split <;> omega
  · subst h'
    simp only [h, if_false, show ¬ (1000000271 - x = 0) by omega]
    split <;> omega

theorem sqb_res (m : Int) : sqb (res m) = sqb m := by
  unfold sqb
  rw [pw_res, res_res]
theorem sqv_res (m : Int) : sqv (res m) = sqv m := by
  unfold sqv
  rw [sqb_res, pw_res]
theorem sqb_small (k : Nat) (h1 : 2 ≤ k) (h2 : k ≤ 5) : sqb (k : Int) = true := by
  rcases (show k = 2 ∨ k = 3 ∨ k = 4 ∨ k = 5 by omega) with rfl | rfl | rfl | rfl
  · exact sqb_2
  · exact sqb_3
  · exact sqb_4
  · exact sqb_5

/-- cube roots -/
theorem pw_cube (x : Int) : pw x 2000000541 = res x := by
  by_cases h : res x = 0
  · rw [pw_zero_base x h _ (by omega), h]
  · have h1 : pw x 2000000540 = 1 := by
      have := pw_mul_pw x 1000000270 1000000270
      rw [pw_fermat x h] at this
      exact this.symm
    have h2 := pw_mul_pw x 2000000540 1
    rw [h1, pw_one, Int.one_mul] at h2
    have h3 : res x % 1000000271 = res x := res_res x
    rw [h3] at h2
    exact h2.symm
theorem cube_of_root (a : Int) : pw (pw a 666666847) 3 = res a := by rw [pw_pw]; exact pw_cube a
theorem root_of_cube (x : Int) : pw (pw x 3) 666666847 = res x := by rw [pw_pw]; exact pw_cube x
end Go.PlainNum
