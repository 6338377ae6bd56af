/- The walk of the law FnRoots. -/
import Derived.Test.YtjlcmafeemdneaaDraw
import Derived.Test.YtjlcmafeemdneaaSqrt
import Derived.Test.YtjlcmafeemdneaaPlainRoots
namespace Go.Proofs.Ytjlcmafeemdneaa.fnRoots
open Go.RowKit Go.PlainNum Go.Proofs.Ytjlcmafeemdneaa
set_option linter.unusedVariables false

set_option maxRecDepth 100000 in
set_option maxHeartbeats 1000000 in
theorem walk (a0 : Option Addr) (len0 cap0 : Nat) (z0 : List Int) (w : World) (w0 : IsRow .u8 w a0 len0 cap0 z0) :
    Calls Try.prog 5 #[.slice a0 len0 cap0] w fun e w' => e = .returned (.bool true) ∧ Below w.heap.size w w' := by
  by_cases hn : len0 ≤ 1048576
  · have t0 : decide ((len0 : Int) > 1048576) = false := decide_eq_false (by omega)
    have R := Lib.hid w0.rdB
    have t0 := Lib.hid t0
    clear w0
    go_enter Try.func5, Try.ntmps5
    go_wp2_with fail
    refine (big_any _ _ _ _ _ t0.out).mono ?_
    rintro e w' ⟨rfl, rfl⟩
    go_wp2_with fail
    refine (drawIntegers_any _ _ _ _ R.out (by omega)).mono ?_
    rintro e w1 ⟨a, b, c, rfl, ha, hb, hc, B1⟩
    clear ha hb hc
    obtain ⟨x, hx⟩ : ∃ x, res a = x := ⟨_, rfl⟩
    have hx' : res (a * 1) = x := by rw [Int.mul_one, hx]
    have x0 : 0 ≤ x := by rw [← hx]; exact res_lo _
    have x1 : x < 1000000271 := by rw [← hx]; exact res_hi _
    have xx : res x = x := res_of x x0 x1
    have q1 : sqb (res (x * x)) = true := by rw [sqb_res]; exact sqb_sq x
    have q2 := sqv_sq x x0 x1
    rw [← sqv_res] at q2
    obtain ⟨r, hr⟩ : ∃ r, sqv (res (x * x)) = r := ⟨_, rfl⟩
    rw [hr] at q2
    have k1 : pw (pw a 666666847) 3 = x := by rw [cube_of_root, hx]
    have k2 : pw (pw x 3) 666666847 = x := by rw [root_of_cube, xx]
    have O : Hid (res x ≠ 0 → sqb x = !sqb (-x)) := Lib.hid (one_ne_two x)
    have Z : Hid (res x = 0 → sqb x = true) := Lib.hid (sqb_zero x)
    have XX := Lib.hid xx
    have Q := Lib.hid q2
    clear q2 xx
    go_wp2_with (first | (go_at_call 21; refine (stimes_any _ _ _).mono ?_; rintro e w' ⟨rfl, rfl⟩) | (go_at_call 28; refine (sminus_any _ _ _).mono ?_; rintro e w' ⟨rfl, rfl⟩) | (go_at_call 26; refine (sqrt_any _ _).mono ?_; rintro e w' ⟨rfl, rfl⟩) | (go_at_call 27; refine (cubeRoot_any _ _).mono ?_; rintro e w' ⟨rfl, rfl⟩) | (go_at_call 29; refine (spower_any _ _ (by decide) (by decide) _).mono ?_; rintro e w' ⟨rfl, rfl⟩))
    go_loop [14] (fun n => ∃ k : Nat, n = .int .i64 k ∧ 2 ≤ k ∧ k ≤ 6) (fun n => 6 - (intOf n).toNat)
    case atStart => exact ⟨2, rfl, by omega, by omega⟩
    case round =>
      obtain ⟨k, rfl, hk1, hk2⟩ := hrel
      by_cases hk : k = 6
      · subst hk
        have t5 : decide (r > 500000135) = false := decide_eq_false (by have := Q.out.2; omega)
        by_cases z : x = 0
        · subst z
          have s1 := Z.out XX.out
          by_cases e : r = 0
          · subst e
            go_wp2_with (first | (go_at_call 21; refine (stimes_any _ _ _).mono ?_; rintro e w' ⟨rfl, rfl⟩) | (go_at_call 28; refine (sminus_any _ _ _).mono ?_; rintro e w' ⟨rfl, rfl⟩) | (go_at_call 26; refine (sqrt_any _ _).mono ?_; rintro e w' ⟨rfl, rfl⟩) | (go_at_call 27; refine (cubeRoot_any _ _).mono ?_; rintro e w' ⟨rfl, rfl⟩) | (go_at_call 29; refine (spower_any _ _ (by decide) (by decide) _).mono ?_; rintro e w' ⟨rfl, rfl⟩))
            go_ret
            exact ⟨rfl, B1⟩
          · have e1 : (r != 0) = true := by simpa using e
            have e2 : r = res (-0) := by rcases Q.out.1 with h | h; exact absurd h e; exact h
            exact absurd (show r = 0 from e2) e
        · have s0 := O.out (by rw [XX.out]; exact z)
          have u1 : (x != 0) = true := by simpa using z
          have u2 : (x == 0) = false := by simpa using z
          obtain ⟨o, ho⟩ : ∃ o, sqb (-x) = o := ⟨_, rfl⟩
          rw [ho] at s0
          by_cases e : r = x
          · subst e
            cases o
            · go_wp2_with (first | (go_at_call 21; refine (stimes_any _ _ _).mono ?_; rintro e w' ⟨rfl, rfl⟩) | (go_at_call 28; refine (sminus_any _ _ _).mono ?_; rintro e w' ⟨rfl, rfl⟩) | (go_at_call 26; refine (sqrt_any _ _).mono ?_; rintro e w' ⟨rfl, rfl⟩) | (go_at_call 27; refine (cubeRoot_any _ _).mono ?_; rintro e w' ⟨rfl, rfl⟩) | (go_at_call 29; refine (spower_any _ _ (by decide) (by decide) _).mono ?_; rintro e w' ⟨rfl, rfl⟩))
              go_ret
              exact ⟨rfl, B1⟩
            · go_wp2_with (first | (go_at_call 21; refine (stimes_any _ _ _).mono ?_; rintro e w' ⟨rfl, rfl⟩) | (go_at_call 28; refine (sminus_any _ _ _).mono ?_; rintro e w' ⟨rfl, rfl⟩) | (go_at_call 26; refine (sqrt_any _ _).mono ?_; rintro e w' ⟨rfl, rfl⟩) | (go_at_call 27; refine (cubeRoot_any _ _).mono ?_; rintro e w' ⟨rfl, rfl⟩) | (go_at_call 29; refine (spower_any _ _ (by decide) (by decide) _).mono ?_; rintro e w' ⟨rfl, rfl⟩))
              go_ret
              exact ⟨rfl, B1⟩
          · have e1 : (r != x) = true := by simpa using e
            have e2 : r = res (-x) := by rcases Q.out.1 with h | h; exact absurd h e; exact h
            subst e2
            have e3 : res (0 - x) = res (-x) := by rw [Int.zero_sub]
            cases o
            · go_wp2_with (first | (go_at_call 21; refine (stimes_any _ _ _).mono ?_; rintro e w' ⟨rfl, rfl⟩) | (go_at_call 28; refine (sminus_any _ _ _).mono ?_; rintro e w' ⟨rfl, rfl⟩) | (go_at_call 26; refine (sqrt_any _ _).mono ?_; rintro e w' ⟨rfl, rfl⟩) | (go_at_call 27; refine (cubeRoot_any _ _).mono ?_; rintro e w' ⟨rfl, rfl⟩) | (go_at_call 29; refine (spower_any _ _ (by decide) (by decide) _).mono ?_; rintro e w' ⟨rfl, rfl⟩))
              go_ret
              exact ⟨rfl, B1⟩
            · go_wp2_with (first | (go_at_call 21; refine (stimes_any _ _ _).mono ?_; rintro e w' ⟨rfl, rfl⟩) | (go_at_call 28; refine (sminus_any _ _ _).mono ?_; rintro e w' ⟨rfl, rfl⟩) | (go_at_call 26; refine (sqrt_any _ _).mono ?_; rintro e w' ⟨rfl, rfl⟩) | (go_at_call 27; refine (cubeRoot_any _ _).mono ?_; rintro e w' ⟨rfl, rfl⟩) | (go_at_call 29; refine (spower_any _ _ (by decide) (by decide) _).mono ?_; rintro e w' ⟨rfl, rfl⟩))
              go_ret
              exact ⟨rfl, B1⟩
      · have s := sqb_small k hk1 (by omega)
        go_wp2_with (first | (go_at_call 21; refine (stimes_any _ _ _).mono ?_; rintro e w' ⟨rfl, rfl⟩) | (go_at_call 28; refine (sminus_any _ _ _).mono ?_; rintro e w' ⟨rfl, rfl⟩) | (go_at_call 26; refine (sqrt_any _ _).mono ?_; rintro e w' ⟨rfl, rfl⟩) | (go_at_call 27; refine (cubeRoot_any _ _).mono ?_; rintro e w' ⟨rfl, rfl⟩) | (go_at_call 29; refine (spower_any _ _ (by decide) (by decide) _).mono ?_; rintro e w' ⟨rfl, rfl⟩))
        go_round
        case rel => exact ⟨k + 1, by go_num, by omega, by omega⟩
        case measure => simp [intOf]; omega
  · have t0 : decide ((len0 : Int) > 1048576) = true := decide_eq_true (by omega)
    have t0 := Lib.hid t0
    go_enter Try.func5, Try.ntmps5
    go_wp2_with fail
    refine (big_any _ _ _ _ _ t0.out).mono ?_
    rintro e w' ⟨rfl, rfl⟩
    go_wp2_with fail
    go_ret
    exact ⟨rfl, Below.refl _ _⟩
end Go.Proofs.Ytjlcmafeemdneaa.fnRoots
