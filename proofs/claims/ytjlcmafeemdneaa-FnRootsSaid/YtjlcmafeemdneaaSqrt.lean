/- The contracts of SquareRoot, of the program and of the reference. -/
import Derived.Test.YtjlcmafeemdneaaNum
namespace Go.Proofs.Ytjlcmafeemdneaa
open Go.RowKit Go.PlainNum

theorem power_res (a k : Int) (h0 : 0 ≤ k) (hk : k ≤ 9223372036854775807) (w : World) :
    Calls Try.prog 25 #[.int .i64 (res a), .int .i64 k] w fun e w' => e = .returned (.int .i64 (pw a k.toNat)) ∧ w = w' := by
  have h := power_any (res a) k h0 hk w
  rw [pw_res] at h
  exact h

set_option maxHeartbeats 400000 in
theorem sqrt_any (a : Int) (w : World) :
    Calls Try.prog 26 #[.int .i64 a] w fun e w' => e = .returned (.tuple #[.int .i64 (sqv a), .bool (sqb a)]) ∧ w = w' := by
  have h1 := pw_lo a 250000068
  have h2 := pw_hi a 250000068
  have m1 := mul_lo _ _ h1 h1
  have m2 := mul_hi _ _ h1 h2 h1 h2
  by_cases h : res (pw a 250000068 * pw a 250000068) = res a
  · have hb := Lib.hid (sqb_true a h)
    have ht : (pw a 250000068 * pw a 250000068 % 1000000271 != res a) = false := by rw [bne_eq_false_iff_eq]; exact h
    clear h
    by_cases hl : res (-pw a 250000068) < pw a 250000068
    · have H := Lib.hid (sqv_lt a hb.out hl)
      go_enter Try.func26, Try.ntmps26
      go_wp2_with (first | (go_at_call 51; refine (residue_any _ _).mono ?_; rintro e w' ⟨rfl, rfl⟩) | (go_at_call 25; refine (power_res _ _ (by decide) (by decide) _).mono ?_; rintro e w' ⟨rfl, rfl⟩))
      go_ret2
      exact ⟨by rw [H.out, hb.out]; rfl, rfl⟩
    · have H := Lib.hid (sqv_ge a hb.out hl)
      go_enter Try.func26, Try.ntmps26
      go_wp2_with (first | (go_at_call 51; refine (residue_any _ _).mono ?_; rintro e w' ⟨rfl, rfl⟩) | (go_at_call 25; refine (power_res _ _ (by decide) (by decide) _).mono ?_; rintro e w' ⟨rfl, rfl⟩))
      go_ret2
      exact ⟨by rw [H.out, hb.out]; rfl, rfl⟩
  · have hb := Lib.hid (sqb_false a h)
    have ht : (pw a 250000068 * pw a 250000068 % 1000000271 != res a) = true := by rw [bne_iff_ne]; exact h
    clear h
    have H := Lib.hid (sqv_no a hb.out)
    go_enter Try.func26, Try.ntmps26
    go_wp2_with (first | (go_at_call 51; refine (residue_any _ _).mono ?_; rintro e w' ⟨rfl, rfl⟩) | (go_at_call 25; refine (power_res _ _ (by decide) (by decide) _).mono ?_; rintro e w' ⟨rfl, rfl⟩))
    go_ret2
    exact ⟨by rw [H.out, hb.out]; rfl, rfl⟩

end Go.Proofs.Ytjlcmafeemdneaa
