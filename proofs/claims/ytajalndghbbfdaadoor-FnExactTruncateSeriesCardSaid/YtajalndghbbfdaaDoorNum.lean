/- The contracts of the functions on numbers: residues, sums, products, powers, fractions and roots, of the program and of the reference. -/
import Derived.Test.YtajalndghbbfdaaDoorProg
import Derived.Test.YtajalndghbbfdaaDoorPlainNum
import Derived.WalkKit
import Derived.Lib.Hide
import Derived.WalkSpells
import Derived.WalkLawsBesides
namespace Go.Proofs.YtajalndghbbfdaaDoor
open Go.RowKit Go.PlainNum

theorem ret_int {k : IntKind} {a b : Int} (h : a = b) : Ending.returned (.int k a) = .returned (.int k b) := by rw [h]

theorem ret_bool {a b : Bool} (h : a = b) : Ending.returned (.bool a) = .returned (.bool b) := by rw [h]

theorem residue_any (n : Int) (w : World) :
    Calls Tryd.prog 48 #[.int .i64 n] w fun e w' => e = .returned (.int .i64 (res n)) ∧ w = w' := by
  have h1 := tmod_lo n
  have h2 := tmod_hi n
  have H := Lib.hid (tmod_res n)
  go_enter Tryd.func48, Tryd.ntmps48
  go_wp2
  go_ret
  exact ⟨ret_int H.out, rfl⟩
theorem l1Residue_any (n : Int) (w : World) :
    Calls Tryd.prog 45 #[.int .i64 n] w fun e w' => e = .returned (.int .i64 (res n)) ∧ w = w' := by
  have h1 := tmod_lo n
  have h2 := tmod_hi n
  have H := Lib.hid (tmod_res n)
  go_enter Tryd.func45, Tryd.ntmps45
  go_wp2
  go_ret
  exact ⟨ret_int H.out, rfl⟩

theorem plus_any (a b : Int) (w : World) :
    Calls Tryd.prog 46 #[.int .i64 a, .int .i64 b] w fun e w' => e = .returned (.int .i64 (res (a + b))) ∧ w = w' := by
  have h1 := res_lo a
  have h2 := res_hi a
  have h3 := res_lo b
  have h4 := res_hi b
  have H := Lib.hid (res_add a b)
  go_enter Tryd.func46, Tryd.ntmps46
  go_wp2_with (go_at_call 48; refine (residue_any _ _).mono ?_; rintro e w' ⟨rfl, rfl⟩)
  go_ret
  exact ⟨ret_int H.out, rfl⟩

theorem times_any (a b : Int) (w : World) :
    Calls Tryd.prog 47 #[.int .i64 a, .int .i64 b] w fun e w' => e = .returned (.int .i64 (res (a * b))) ∧ w = w' := by
  have h1 := res_lo a
  have h2 := res_hi a
  have h3 := res_lo b
  have h4 := res_hi b
  have h5 := res_mul_lo a b
  have h6 := res_mul_hi a b
  have H := Lib.hid (res_mul a b)
  go_enter Tryd.func47, Tryd.ntmps47
  go_wp2_with (go_at_call 48; refine (residue_any _ _).mono ?_; rintro e w' ⟨rfl, rfl⟩)
  go_ret
  exact ⟨ret_int H.out, rfl⟩

theorem stimes_any (a b : Int) (w : World) :
    Calls Tryd.prog 42 #[.int .i64 a, .int .i64 b] w fun e w' => e = .returned (.int .i64 (res (a * b))) ∧ w = w' := by
  have h1 := res_lo a
  have h2 := res_hi a
  have h3 := res_lo b
  have h4 := res_hi b
  have h5 := res_mul_lo a b
  have h6 := res_mul_hi a b
  have H := Lib.hid (res_mul a b)
  go_enter Tryd.func42, Tryd.ntmps42
  go_wp2_with (go_at_call 45; refine (l1Residue_any _ _).mono ?_; rintro e w' ⟨rfl, rfl⟩)
  go_ret
  exact ⟨ret_int H.out, rfl⟩

theorem isNumber_any (n : Int) (w : World) :
    Calls Tryd.prog 35 #[.int .i64 n] w fun e w' => e = .returned (.bool (decide (0 ≤ n ∧ n < 1000000271))) ∧ w = w' := by
  by_cases h1 : 0 ≤ n
  · by_cases h2 : n < 1000000271
    · go_enter Tryd.func35, Tryd.ntmps35
      go_wp2
      go_ret
      exact ⟨by simp [h1, h2], rfl⟩
    · go_enter Tryd.func35, Tryd.ntmps35
      go_wp2
      go_ret
      exact ⟨by simp [h2], rfl⟩
  · go_enter Tryd.func35, Tryd.ntmps35
    go_wp2
    go_ret
    exact ⟨by simp; omega, rfl⟩

theorem l1In_any (n a b : Int) (w : World) :
    Calls Tryd.prog 23 #[.int .i64 n, .int .i64 a, .int .i64 b] w fun e w' => e = .returned (.bool (decide (a ≤ n ∧ n ≤ b))) ∧ w = w' := by
  by_cases h1 : a ≤ n
  · by_cases h2 : n ≤ b
    · go_enter Tryd.func23, Tryd.ntmps23
      go_wp2
      go_ret
      exact ⟨by simp [h1, h2], rfl⟩
    · go_enter Tryd.func23, Tryd.ntmps23
      go_wp2
      go_ret
      exact ⟨by simp [h2], rfl⟩
  · go_enter Tryd.func23, Tryd.ntmps23
    go_wp2
    go_ret
    exact ⟨by simp; omega, rfl⟩

theorem sisNumber_any (n : Int) (w : World) :
    Calls Tryd.prog 31 #[.int .i64 n] w fun e w' => e = .returned (.bool (decide (0 ≤ n ∧ n < 1000000271))) ∧ w = w' := by
  go_enter Tryd.func31, Tryd.ntmps31
  go_wp2_with (go_at_call 23; refine (l1In_any _ _ _ _).mono ?_; rintro e w' ⟨rfl, rfl⟩)
  go_ret
  exact ⟨ret_bool (by rw [← Bool.decide_and]; exact decide_eq_decide.2 (by omega)), rfl⟩

end Go.Proofs.YtajalndghbbfdaaDoor
