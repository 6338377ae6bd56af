/- The walk of the law FnField. -/
import Derived.Test.YtjlcmafeemdneaaDraw
import Derived.Test.YtjlcmafeemdneaaFmt
import Derived.Test.YtjlcmafeemdneaaPlainField
namespace Go.Proofs.Ytjlcmafeemdneaa.fnField
open Go.RowKit Go.PlainNum Go.Proofs.Ytjlcmafeemdneaa
set_option linter.unusedVariables false

set_option maxRecDepth 100000 in
set_option maxHeartbeats 1000000 in
theorem walk (a0 : Option Addr) (len0 cap0 : Nat) (z0 : List Int) (w : World) (w0 : IsRow .u8 w a0 len0 cap0 z0) :
    Calls Try.prog 4 #[.slice a0 len0 cap0] w fun e w' => e = .returned (.bool true) ∧ Below w.heap.size w w' := by
  by_cases hn : len0 ≤ 1048576
  · have t0 : decide ((len0 : Int) > 1048576) = false := decide_eq_false (by omega)
    have R := Lib.hid w0.rdB
    have t0 := Lib.hid t0
    clear w0
    go_enter Try.func4, Try.ntmps4
    go_wp2_with fail
    refine (big_any _ _ _ _ _ t0.out).mono ?_
    rintro e w' ⟨rfl, rfl⟩
    go_wp2_with fail
    refine (drawIntegers_any _ _ _ _ R.out (by omega)).mono ?_
    rintro e w1 ⟨a, b, c, rfl, ha, hb, hc, B1⟩
    clear ha hb hc
    obtain ⟨X, hX⟩ : ∃ X, res (a * (b + c)) = X := ⟨_, rfl⟩
    obtain ⟨Z, hZ⟩ : ∃ Z, res (a * b * c) = Z := ⟨_, rfl⟩
    have x0 : 0 ≤ X := by rw [← hX]; exact res_lo _
    have x1 : X < 1000000271 := by rw [← hX]; exact res_hi _
    have e1 : res (a * res (b + c)) = X := by rw [res_mul_res_r, hX]
    have e2 : res (res (a * b) + res (a * c)) = X := by rw [res_add_res, ← Int.mul_add, hX]
    have e3 : res (res (a * b) * c) = Z := by rw [res_mul_res_l, hZ]
    have e4 : res (a * res (b * c)) = Z := by rw [res_mul_res_r, ← Int.mul_assoc, hZ]
    have e5 : res (res (a + b) - b) = res a := res_add_sub a b
    have hx := Lib.hid (show 0 ≤ X ∧ X < 1000000271 from ⟨x0, x1⟩)
    clear hX hZ x0 x1
    by_cases hz : res b = 0
    · have e6 := pw_zero_base b hz 1000000269 (by omega)
      have e7 : res (a * 0) = 0 := by rw [Int.mul_zero]; rfl
      have e8 : res 0 = 0 := rfl
      have e9 : res (b * 1) = 0 := by rw [Int.mul_one]; exact hz
      go_wp2_with (first | (go_at_call 18; refine (times_any _ _ _).mono ?_; rintro e w' ⟨rfl, rfl⟩) | (go_at_call 19; refine (plus_any _ _ _).mono ?_; rintro e w' ⟨rfl, rfl⟩) | (go_at_call 22; refine (minus_any _ _ _).mono ?_; rintro e w' ⟨rfl, rfl⟩) | (go_at_call 20; refine (fraction_any _ _ _).mono ?_; rintro e w' ⟨rfl, rfl⟩) | (go_at_call 21; refine (stimes_any _ _ _).mono ?_; rintro e w' ⟨rfl, rfl⟩) | (go_at_call 24; refine (inverse_any _ _).mono ?_; rintro e w' ⟨rfl, rfl⟩) | (go_at_call 23; refine (isNumber_yes _ hx.out _).mono ?_; rintro e w' ⟨rfl, rfl⟩))
      go_ret
      exact ⟨rfl, B1⟩
    · have z1 : (res b == 0) = false := by rw [beq_eq_false_iff_ne]; exact hz
      have z2 : (res (b * 1) == 0) = false := by rw [Int.mul_one]; exact z1
      have e6 := frac_mul a b hz
      have e7 := mul_inv b hz
      have e8 := pw_fermat b hz
      have e9 : res (a * 1) = res a := by rw [Int.mul_one]
      clear hz
      go_wp2_with (first | (go_at_call 18; refine (times_any _ _ _).mono ?_; rintro e w' ⟨rfl, rfl⟩) | (go_at_call 19; refine (plus_any _ _ _).mono ?_; rintro e w' ⟨rfl, rfl⟩) | (go_at_call 22; refine (minus_any _ _ _).mono ?_; rintro e w' ⟨rfl, rfl⟩) | (go_at_call 20; refine (fraction_any _ _ _).mono ?_; rintro e w' ⟨rfl, rfl⟩) | (go_at_call 21; refine (stimes_any _ _ _).mono ?_; rintro e w' ⟨rfl, rfl⟩) | (go_at_call 25; refine (power_any _ _ (by decide) (by decide) _).mono ?_; rintro e w' ⟨rfl, rfl⟩) | (go_at_call 24; refine (inverse_any _ _).mono ?_; rintro e w' ⟨rfl, rfl⟩) | (go_at_call 23; refine (isNumber_yes _ hx.out _).mono ?_; rintro e w' ⟨rfl, rfl⟩))
      go_ret
      exact ⟨rfl, B1⟩
  · have t0 : decide ((len0 : Int) > 1048576) = true := decide_eq_true (by omega)
    have t0 := Lib.hid t0
    go_enter Try.func4, Try.ntmps4
    go_wp2_with fail
    refine (big_any _ _ _ _ _ t0.out).mono ?_
    rintro e w' ⟨rfl, rfl⟩
    go_wp2_with fail
    go_ret
    exact ⟨rfl, Below.refl _ _⟩
end Go.Proofs.Ytjlcmafeemdneaa.fnField
