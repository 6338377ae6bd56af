/- The walk of the law FnExactCountIndependent. -/
import Derived.Test.YtkpbaaigopheeaaSCi
import Derived.Test.YtkpbaaigopheeaaSS
namespace Go.Proofs.Ytkpbaaigopheeaa.fnExactCountIndependent
open Go.RowKit Go.PlainNum Go.Proofs.Ytkpbaaigopheeaa
set_option linter.unusedVariables false

set_option maxRecDepth 100000 in
set_option maxHeartbeats 1000000 in
theorem walk (a0 : Option Addr) (len0 cap0 : Nat) (Z0 : Nat → List Int) (w : World) (w0 : IsTab w a0 len0 Z0) :
    Calls Try.prog 4 #[.slice a0 len0 cap0] w fun e w' => e = .returned (.bool true) ∧ Below w.heap.size w w' := by
  obtain ⟨R, hn, hL⟩ := w0
  have R := Lib.hid R
  obtain ⟨G, hG⟩ : ∃ G, ciOf len0 Z0 = G := ⟨_, rfl⟩
  have hG := Lib.hid hG
  go_enter Try.func4, Try.ntmps4
  go_wp2_with fail
  refine (szIntSS_any _ _ _ _ Z0 _ R.out hn hL).mono ?_
  rintro e w0' ⟨r, rfl, hr, rfl⟩
  rcases hr with rfl | ⟨hr0, hn1, hL1⟩
  · go_wp2_with fail
    go_ret
    exact ⟨rfl, Below.refl _ _⟩
  have t0 : decide (r < 0) = false := decide_eq_false (by omega)
  have hL1 := Lib.hid hL1
  have hL2 : Hid (∀ j, j < len0 → ((Z0 j).length : Int) ≤ 4000000) := Lib.hid (fun j hj => by have := hL1.out j hj; omega)
  clear hL
  go_wp2_with fail
  refine (toIntSS_any _ _ _ Z0 _ R.out hn1 hL1.out).mono ?_
  rintro e w1 ⟨rfl, bs1, T1, B1⟩
  have T1 := Lib.hid T1
  have B1 := Lib.hid B1
  go_wp2_with fail
  refine (sci_any _ _ _ _ Z0 _ T1.out.rdt (Nat.le_refl _) hL2.out (by omega)).mono ?_
  rintro e w2 ⟨rfl, B2⟩
  rw [hG.out]
  have B2 := Lib.hid (B1.out.trans (B2.mono B1.out.size))
  go_wp2_with fail
  refine (toIntSS_any _ _ _ Z0 _ ((R.out.below B2.out (Nat.le_refl _)).mono B2.out.size) hn1 hL1.out).mono ?_
  rintro e w3 ⟨rfl, bs3, T3, B3⟩
  have T3 := Lib.hid T3
  have B3 := Lib.hid (B2.out.trans (B3.mono B2.out.size))
  go_wp2_with fail
  refine (ci_any _ _ _ _ Z0 _ T3.out.rdt (Nat.le_refl _) hL2.out (by omega)).mono ?_
  rintro e w4 ⟨rfl, B4⟩
  rw [hG.out]
  have T4 := Lib.hid (T3.out.below B4)
  have B4 := Lib.hid (B3.out.trans (B4.mono B3.out.size))
  have t1 : (G != G) = false := by simp
  go_wp2_with fail
  refine (toIntSS_any _ _ _ Z0 _ ((R.out.below B4.out (Nat.le_refl _)).mono B4.out.size) hn1 hL1.out).mono ?_
  rintro e w5 ⟨rfl, bs5, T5, B5⟩
  have T5 := Lib.hid T5
  have T45 := Lib.hid (T4.out.below B5)
  have B5 := Lib.hid (B4.out.trans (B5.mono B4.out.size))
  go_wp2_with fail
  refine (eqIntSS_any _ _ _ _ _ Z0 _ T45.out.rdt T5.out.rdt hn1 hL1.out).mono ?_
  rintro e w6 ⟨rfl, B6⟩
  have B6 := Lib.hid (B5.out.trans (B6.mono B5.out.size))
  go_wp2_with fail
  go_ret
  exact ⟨rfl, B6.out⟩
end Go.Proofs.Ytkpbaaigopheeaa.fnExactCountIndependent
