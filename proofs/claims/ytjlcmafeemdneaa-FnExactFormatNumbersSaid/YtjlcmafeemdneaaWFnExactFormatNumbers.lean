/- The walk of the law FnExactFormatNumbers. -/
import Derived.Test.YtjlcmafeemdneaaFmts
namespace Go.Proofs.Ytjlcmafeemdneaa.fnExactFormatNumbers
open Go.RowKit Go.PlainNum Go.Proofs.Ytjlcmafeemdneaa
set_option linter.unusedVariables false

set_option maxRecDepth 100000 in
set_option maxHeartbeats 1000000 in
theorem walk (a0 : Option Addr) (len0 cap0 : Nat) (z0 : List Int) (w : World) (w0 : IsRow .i64 w a0 len0 cap0 z0) :
    Calls Try.prog 6 #[.slice a0 len0 cap0] w fun e w' => e = .returned (.bool true) ∧ Below w.heap.size w w' := by
  by_cases hn : len0 ≤ 1048576
  · have R := w0.rd
    obtain ⟨zs, hzs⟩ : ∃ zs, zs = z0.take len0 := ⟨_, rfl⟩
    rw [← hzs] at R
    clear hzs w0
    have t0 : decide ((len0 : Int) > 1048576) = false := decide_eq_false (by omega)
    have hR := Lib.hid R
    clear R
    obtain ⟨F, hF⟩ : ∃ F, fms zs = F := ⟨_, rfl⟩
    have hF := Lib.hid hF
    go_enter Try.func6, Try.ntmps6
    go_wp2_with fail
    refine (toIntS_any _ _ _ zs _ hR.out (by omega)).mono ?_
    rintro e w1 ⟨rfl, O1, B1⟩
    have O1 := Lib.hid O1
    go_wp2_with fail
    refine (sfms_any _ _ _ zs _ (hR.out.1 ▸ O1.out.rd) (by omega)).mono ?_
    rintro e w2 ⟨rfl, B2⟩
    rw [hF.out]
    go_wp2_with fail
    refine (toIntS_any _ _ _ zs _ ((hR.out.below B1 (Nat.le_refl _)).below B2 B1.size |>.mono (Nat.le_trans B1.size B2.size)) (by omega)).mono ?_
    rintro e w3 ⟨rfl, O3, B3⟩
    have O3 := Lib.hid O3
    go_wp2_with fail
    refine (fms_any _ _ _ zs _ (hR.out.1 ▸ O3.out.rd) (by omega)).mono ?_
    rintro e w4 ⟨rfl, B4⟩
    rw [hF.out]
    have B14 : Below w.heap.size w w4 := B1.trans ((B2.mono B1.size).trans ((B3.mono (Nat.le_trans B1.size B2.size)).trans (B4.mono (Nat.le_trans (Nat.le_trans B1.size B2.size) B3.size))))
    go_wp2_with fail
    refine (toIntS_any _ _ _ zs _ ((hR.out.below B14 (Nat.le_refl _)).mono B14.size) (by omega)).mono ?_
    rintro e w5 ⟨rfl, O5, B5⟩
    have R3 : Hid (Rd w5 w5.heap.size (some ⟨w2.heap.size, 0, none⟩) len0 zs) := Lib.hid (((hR.out.1 ▸ O3.out.rd : Rd w3 w3.heap.size _ len0 zs).below B4 (Nat.le_refl _)).below B5 B4.size |>.mono (Nat.le_trans B4.size B5.size))
    have O5 := Lib.hid O5
    go_wp2_with fail
    refine (eqIntS_any _ _ _ _ _ _ zs zs _ R3.out (hR.out.1 ▸ O5.out.rd) (by omega)).mono ?_
    rintro e w6 ⟨rfl, B6⟩
    go_wp2_with fail
    go_ret
    exact ⟨rfl, (B14.trans (B5.mono B14.size)).trans (B6.mono (Nat.le_trans B14.size B5.size))⟩
  · have t0 : decide ((len0 : Int) > 1048576) = true := decide_eq_true (by omega)
    go_enter Try.func6, Try.ntmps6
    go_wp2_with fail
    go_ret
    exact ⟨rfl, Below.refl _ _⟩
end Go.Proofs.Ytjlcmafeemdneaa.fnExactFormatNumbers
