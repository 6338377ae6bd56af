/- The contracts of the functions on numbers: residues, sums, products, powers, fractions and roots, of the program and of the reference. -/
import Derived.Test.YtkpbaaigopheeaaProg
import Derived.Test.YtkpbaaigopheeaaPlainNum
import Derived.WalkKit
import Derived.Lib.Hide
import Derived.WalkSpells
import Derived.WalkLawsBesides
namespace Go.Proofs.Ytkpbaaigopheeaa
open Go.RowKit Go.PlainNum

theorem ret_int {k : IntKind} {a b : Int} (h : a = b) : Ending.returned (.int k a) = .returned (.int k b) := by rw [h]

theorem ret_bool {a b : Bool} (h : a = b) : Ending.returned (.bool a) = .returned (.bool b) := by rw [h]

theorem residue_any (n : Int) (w : World) :
    Calls Try.prog 48 #[.int .i64 n] w fun e w' => e = .returned (.int .i64 (res n)) ∧ w = w' := by
  have h1 := tmod_lo n
  have h2 := tmod_hi n
  have H := Lib.hid (tmod_res n)
  go_enter Try.func48, Try.ntmps48
  go_wp2
  go_ret
  exact ⟨ret_int H.out, rfl⟩
theorem l1Residue_any (n : Int) (w : World) :
    Calls Try.prog 30 #[.int .i64 n] w fun e w' => e = .returned (.int .i64 (res n)) ∧ w = w' := by
  have h1 := tmod_lo n
  have h2 := tmod_hi n
  have H := Lib.hid (tmod_res n)
  go_enter Try.func30, Try.ntmps30
  go_wp2
  go_ret
  exact ⟨ret_int H.out, rfl⟩

theorem splus_any (a b : Int) (w : World) :
    Calls Try.prog 10 #[.int .i64 a, .int .i64 b] w fun e w' => e = .returned (.int .i64 (res (a + b))) ∧ w = w' := by
  have h1 := res_lo a
  have h2 := res_hi a
  have h3 := res_lo b
  have h4 := res_hi b
  have H := Lib.hid (res_add a b)
  go_enter Try.func10, Try.ntmps10
  go_wp2_with (go_at_call 30; refine (l1Residue_any _ _).mono ?_; rintro e w' ⟨rfl, rfl⟩)
  go_ret
  exact ⟨ret_int H.out, rfl⟩

theorem minus_any (a b : Int) (w : World) :
    Calls Try.prog 41 #[.int .i64 a, .int .i64 b] w fun e w' => e = .returned (.int .i64 (res (a - b))) ∧ w = w' := by
  have h1 := res_lo a
  have h2 := res_hi a
  have h3 := res_lo b
  have h4 := res_hi b
  have H := Lib.hid (res_sub2 a b)
  go_enter Try.func41, Try.ntmps41
  go_wp2_with (go_at_call 48; refine (residue_any _ _).mono ?_; rintro e w' ⟨rfl, rfl⟩)
  go_ret
  exact ⟨ret_int H.out, rfl⟩

theorem sminus_any (a b : Int) (w : World) :
    Calls Try.prog 44 #[.int .i64 a, .int .i64 b] w fun e w' => e = .returned (.int .i64 (res (a - b))) ∧ w = w' := by
  have h1 := res_lo a
  have h2 := res_hi a
  have h3 := res_lo b
  have h4 := res_hi b
  have H := Lib.hid (res_sub a b)
  go_enter Try.func44, Try.ntmps44
  go_wp2_with (go_at_call 30; refine (l1Residue_any _ _).mono ?_; rintro e w' ⟨rfl, rfl⟩)
  go_ret
  exact ⟨ret_int H.out, rfl⟩

theorem times_any (a b : Int) (w : World) :
    Calls Try.prog 40 #[.int .i64 a, .int .i64 b] w fun e w' => e = .returned (.int .i64 (res (a * b))) ∧ w = w' := by
  have h1 := res_lo a
  have h2 := res_hi a
  have h3 := res_lo b
  have h4 := res_hi b
  have h5 := res_mul_lo a b
  have h6 := res_mul_hi a b
  have H := Lib.hid (res_mul a b)
  go_enter Try.func40, Try.ntmps40
  go_wp2_with (go_at_call 48; refine (residue_any _ _).mono ?_; rintro e w' ⟨rfl, rfl⟩)
  go_ret
  exact ⟨ret_int H.out, rfl⟩

theorem stimes_any (a b : Int) (w : World) :
    Calls Try.prog 11 #[.int .i64 a, .int .i64 b] w fun e w' => e = .returned (.int .i64 (res (a * b))) ∧ w = w' := by
  have h1 := res_lo a
  have h2 := res_hi a
  have h3 := res_lo b
  have h4 := res_hi b
  have h5 := res_mul_lo a b
  have h6 := res_mul_hi a b
  have H := Lib.hid (res_mul a b)
  go_enter Try.func11, Try.ntmps11
  go_wp2_with (go_at_call 30; refine (l1Residue_any _ _).mono ?_; rintro e w' ⟨rfl, rfl⟩)
  go_ret
  exact ⟨ret_int H.out, rfl⟩

theorem isNumber_any (n : Int) (w : World) :
    Calls Try.prog 38 #[.int .i64 n] w fun e w' => e = .returned (.bool (decide (0 ≤ n ∧ n < 1000000271))) ∧ w = w' := by
  by_cases h1 : 0 ≤ n
  · by_cases h2 : n < 1000000271
    · go_enter Try.func38, Try.ntmps38
      go_wp2
      go_ret
      exact ⟨by simp [h1, h2], rfl⟩
    · go_enter Try.func38, Try.ntmps38
      go_wp2
      go_ret
      exact ⟨by simp [h2], rfl⟩
  · go_enter Try.func38, Try.ntmps38
    go_wp2
    go_ret
    exact ⟨by simp; omega, rfl⟩

theorem l1In_any (n a b : Int) (w : World) :
    Calls Try.prog 42 #[.int .i64 n, .int .i64 a, .int .i64 b] w fun e w' => e = .returned (.bool (decide (a ≤ n ∧ n ≤ b))) ∧ w = w' := by
  by_cases h1 : a ≤ n
  · by_cases h2 : n ≤ b
    · go_enter Try.func42, Try.ntmps42
      go_wp2
      go_ret
      exact ⟨by simp [h1, h2], rfl⟩
    · go_enter Try.func42, Try.ntmps42
      go_wp2
      go_ret
      exact ⟨by simp [h2], rfl⟩
  · go_enter Try.func42, Try.ntmps42
    go_wp2
    go_ret
    exact ⟨by simp; omega, rfl⟩

theorem sisNumber_any (n : Int) (w : World) :
    Calls Try.prog 45 #[.int .i64 n] w fun e w' => e = .returned (.bool (decide (0 ≤ n ∧ n < 1000000271))) ∧ w = w' := by
  go_enter Try.func45, Try.ntmps45
  go_wp2_with (go_at_call 42; refine (l1In_any _ _ _ _).mono ?_; rintro e w' ⟨rfl, rfl⟩)
  go_ret
  exact ⟨ret_bool (by rw [← Bool.decide_and]; exact decide_eq_decide.2 (by omega)), rfl⟩

set_option maxHeartbeats 400000 in
theorem power_any (a k : Int) (h0 : 0 ≤ k) (hk : k ≤ 9223372036854775807) (w : World) :
    Calls Try.prog 47 #[.int .i64 a, .int .i64 k] w fun e w' => e = .returned (.int .i64 (pw a k.toNat)) ∧ w = w' := by
  have h1 := res_lo a
  have h2 := res_hi a
  have H := Lib.hid (acc_start a k.toNat)
  have hb : decide (k < 0) = false := by simpa using h0
  obtain ⟨K, rfl⟩ := Int.eq_ofNat_of_zero_le h0
  rw [Int.toNat_natCast] at H ⊢
  go_enter Try.func47, Try.ntmps47
  go_wp2_with (go_at_call 48; refine (residue_any _ _).mono ?_; rintro e w' ⟨rfl, rfl⟩)
  go_loop [1, 5, 6] (fun n o x => ∃ (o' x' : Int) (k' : Nat), 0 ≤ o' ∧ o' < 1000000271 ∧ 0 ≤ x' ∧ x' < 1000000271 ∧ k' ≤ K ∧ n = .int .i64 k' ∧ o = .int .i64 o' ∧ x = .int .i64 x' ∧ Hid (acc o' x' k' = pw a K))
    (fun n _ _ => (intOf n).toNat)
  case atStart => exact ⟨1, res a, K, by omega, by omega, h1, h2, Nat.le_refl _, rfl, rfl, rfl, H⟩
  case round =>
    obtain ⟨o, x, k', a1, a2, a3, a4, a5, rfl, rfl, rfl, A⟩ := hrel
    clear H h1 h2
    have b1 := mul_lo o x a1 a3
    have b2 := mul_hi o x a1 a2 a3 a4
    have b3 := mul_lo x x a3 a3
    have b4 := mul_hi x x a3 a4 a3 a4
    by_cases hz : k' = 0
    · subst hz
      go_wp2
      go_ret
      exact ⟨ret_int ((acc_zero o x a1 a2).symm.trans A.out), rfl⟩
    · by_cases ho : k' % 2 = 1
      · have ho' : (((k' : Int) % 2) == 1) = true := by simp; omega
        have E := Lib.hid ((acc_odd o x k' ho).trans A.out)
        have m1 := mod_lo (o * x)
        have m2 := mod_hi (o * x)
        have m3 := mod_lo (x * x)
        have m4 := mod_hi (x * x)
        go_wp2_with fail
        go_round
        case rel => exact ⟨o * x % 1000000271, x * x % 1000000271, k' / 2, m1, m2, m3, m4, by omega, by go_num, rfl, rfl, E⟩
        case measure => simp [intOf]; omega
      · have ho' : (((k' : Int) % 2) == 1) = false := by simp; omega
        have E := Lib.hid ((acc_even o x k' (by omega)).trans A.out)
        have m3 := mod_lo (x * x)
        have m4 := mod_hi (x * x)
        go_wp2_with fail
        go_round
        case rel => exact ⟨o, x * x % 1000000271, k' / 2, a1, a2, m3, m4, by omega, by go_num, rfl, rfl, E⟩
        case measure => simp [intOf]; omega

set_option maxHeartbeats 400000 in
theorem spower_any (a k : Int) (h0 : 0 ≤ k) (hk : k ≤ 9223372036854775807) (w : World) :
    Calls Try.prog 49 #[.int .i64 a, .int .i64 k] w fun e w' => e = .returned (.int .i64 (pw a k.toNat)) ∧ w = w' := by
  have h1 := res_lo a
  have h2 := res_hi a
  have H := Lib.hid (acc_start a k.toNat)
  have hb : decide (k < 0) = false := by simpa using h0
  obtain ⟨K, rfl⟩ := Int.eq_ofNat_of_zero_le h0
  rw [Int.toNat_natCast] at H ⊢
  go_enter Try.func49, Try.ntmps49
  go_wp2_with (go_at_call 30; refine (l1Residue_any _ _).mono ?_; rintro e w' ⟨rfl, rfl⟩)
  go_loop [5, 6, 7] (fun o x n => ∃ (o' x' : Int) (k' : Nat), 0 ≤ o' ∧ o' < 1000000271 ∧ 0 ≤ x' ∧ x' < 1000000271 ∧ k' ≤ K ∧ o = .int .i64 o' ∧ x = .int .i64 x' ∧ n = .int .i64 k' ∧ Hid (acc o' x' k' = pw a K))
    (fun _ _ n => (intOf n).toNat)
  case atStart => exact ⟨1, res a, K, by omega, by omega, h1, h2, Nat.le_refl _, rfl, rfl, rfl, H⟩
  case round =>
    obtain ⟨o, x, k', a1, a2, a3, a4, a5, rfl, rfl, rfl, A⟩ := hrel
    clear H h1 h2
    have b1 := mul_lo o x a1 a3
    have b2 := mul_hi o x a1 a2 a3 a4
    have b3 := mul_lo x x a3 a3
    have b4 := mul_hi x x a3 a4 a3 a4
    by_cases hz : k' = 0
    · subst hz
      go_wp2
      go_ret
      exact ⟨ret_int ((acc_zero o x a1 a2).symm.trans A.out), rfl⟩
    · by_cases ho : k' % 2 = 1
      · have ho' : (((k' : Int) % 2) == 1) = true := by simp; omega
        have E := Lib.hid ((acc_odd o x k' ho).trans A.out)
        have m1 := res_lo (o * x)
        have m2 := res_hi (o * x)
        have m3 := res_lo (x * x)
        have m4 := res_hi (x * x)
        go_wp2_with (go_at_call 11; refine (stimes_any _ _ _).mono ?_; rintro e w' ⟨rfl, rfl⟩)
        go_round
        case rel => exact ⟨res (o * x), res (x * x), k' / 2, m1, m2, m3, m4, by omega, rfl, rfl, by go_num, E⟩
        case measure => simp [intOf]; omega
      · have ho' : (((k' : Int) % 2) == 1) = false := by simp; omega
        have E := Lib.hid ((acc_even o x k' (by omega)).trans A.out)
        have m3 := res_lo (x * x)
        have m4 := res_hi (x * x)
        go_wp2_with (go_at_call 11; refine (stimes_any _ _ _).mono ?_; rintro e w' ⟨rfl, rfl⟩)
        go_round
        case rel => exact ⟨o, res (x * x), k' / 2, a1, a2, m3, m4, by omega, rfl, rfl, by go_num, E⟩
        case measure => simp [intOf]; omega

theorem power_neg (a k : Int) (h0 : k < 0) (w : World) :
    Calls Try.prog 47 #[.int .i64 a, .int .i64 k] w fun e w' => e = .returned (.int .i64 0) ∧ w = w' := by
  go_enter Try.func47, Try.ntmps47
  go_wp2
  go_ret
  exact ⟨rfl, rfl⟩

theorem spower_neg (a k : Int) (h0 : k < 0) (w : World) :
    Calls Try.prog 49 #[.int .i64 a, .int .i64 k] w fun e w' => e = .returned (.int .i64 0) ∧ w = w' := by
  go_enter Try.func49, Try.ntmps49
  go_wp2
  go_ret
  exact ⟨rfl, rfl⟩

theorem inverse_any (a : Int) (w : World) :
    Calls Try.prog 39 #[.int .i64 a] w fun e w' => e = .returned (.int .i64 (pw a 1000000269)) ∧ w = w' := by
  go_enter Try.func39, Try.ntmps39
  go_wp2_with (go_at_call 47; refine (power_any _ _ (by decide) (by decide) _).mono ?_; rintro e w' ⟨rfl, rfl⟩)
  go_ret
  exact ⟨rfl, rfl⟩

theorem sinverse_any (a : Int) (w : World) :
    Calls Try.prog 43 #[.int .i64 a] w fun e w' => e = .returned (.int .i64 (pw a 1000000269)) ∧ w = w' := by
  go_enter Try.func43, Try.ntmps43
  go_wp2_with (go_at_call 49; refine (spower_any _ _ (by decide) (by decide) _).mono ?_; rintro e w' ⟨rfl, rfl⟩)
  go_ret
  exact ⟨rfl, rfl⟩

theorem sfraction_any (a b : Int) (w : World) :
    Calls Try.prog 46 #[.int .i64 a, .int .i64 b] w fun e w' => e = .returned (.int .i64 (res (a * pw b 1000000269))) ∧ w = w' := by
  go_enter Try.func46, Try.ntmps46
  go_wp2_with (first | (go_at_call 43; refine (sinverse_any _ _).mono ?_; rintro e w' ⟨rfl, rfl⟩) | (go_at_call 11; refine (stimes_any _ _ _).mono ?_; rintro e w' ⟨rfl, rfl⟩))
  go_ret
  exact ⟨rfl, rfl⟩

end Go.Proofs.Ytkpbaaigopheeaa
