/- The walk of the law FnExactCoefficientOf. -/
import Derived.Test.YtajalndghbbfdaaDoorCoef
import Derived.Test.YtajalndghbbfdaaDoorToSer
namespace Go.Proofs.YtajalndghbbfdaaDoor.fnExactCoefficientOf
open Go.RowKit Go.PlainNum Go.Proofs.YtajalndghbbfdaaDoor

set_option maxRecDepth 100000 in
set_option maxHeartbeats 2000000 in
theorem walk (o0 e0 : Int) (A0 : Option Addr) (len0 cap0 : Nat) (z0 : List Int) (kk : Int) (w : World) (_wa : (Lit.int .i64 o0).wf = true) (_wb : (Lit.int .i64 e0).wf = true) (w0 : IsRow .i64 w A0 len0 cap0 z0) (_wk : (Lit.int .i64 kk).wf = true) (hc : CT w.heap.size w) :
    Calls Tryd.prog 5 #[.agg #[.int .i64 o0, .int .i64 e0, .slice A0 len0 cap0], .int .i64 kk] w fun e w' => e = .returned (.bool true) ∧ Below w.heap.size w w' := by
  have hcap : (len0 : Int) ≤ 9223372036854775807 := by
    rcases w0 with ⟨_, h, _⟩ | ⟨x, _, hl, hm, _⟩
    · omega
    · unfold maxLen at hm; omega
  have R := Lib.hid w0.rd
  have hc := Lib.hid hc
  by_cases hle : len0 ≤ 1048576
  · have Hr := Lib.hid (show (if (len0 : Int) ≤ 1048576 then 1048576 - (len0 : Int) else -1) = 1048576 - (len0 : Int) from if_pos (by omega))
    have t1 : decide ((1048576 : Int) - len0 < 0) = false := decide_eq_false (by omega)
    obtain ⟨zs, hzs⟩ : ∃ zs, zs = z0.take len0 := ⟨_, rfl⟩
    rw [← hzs] at R
    clear hzs w0 hcap
    go_enter Tryd.func5, Tryd.ntmps5
    go_wp2_with fail
    refine (szSeries_any _ _ _ _ _ _ _ Hr.out (by omega)).mono ?_
    rintro e w1 ⟨rfl, B1⟩
    have T0 := (Three.new w _ _ _ _).below B1 (by simp)
    have s1 : w.heap.size + 1 ≤ w1.heap.size := by have := B1.size; simpa using this
    have X1 := Below.step _ B1
    have R1 := Lib.hid ((R.out.alloc _).below B1 (Nat.le_refl _) |>.mono B1.size)
    have a0 := T0.c0
    have a1 := T0.c1
    have a2 := T0.c2
    have T0 := Lib.hid T0
    go_wp2_with fail
    refine (toSeries_any _ _ _ _ _ zs _ R1.out (by omega)).mono ?_
    rintro e w2 ⟨A2, c2, rfl, O2, B2⟩
    have hl := Lib.hid R1.out.1
    rw [hl.out] at O2 ⊢
    have R2 : Hid (Rd w2 w2.heap.size A2 len0 zs) := Lib.hid (by
      have := Ow.rd (w := w2) (base := w1.heap.size) (n := len0) (cap := c2) (A := A2) (zs := zs) (by unfold Ow; rw [hl.out]; exact O2)
      rwa [hl.out] at this)
    have T0 := Lib.hid (T0.out.below B2 s1)
    have s2 := B2.size
    have X2 := X1.trans (B2.mono X1.size)
    have R1 := Lib.hid (R1.out.below B2 (Nat.le_refl _) |>.mono B2.size)
    clear a0 a1 a2
    have a0 := T0.out.c0
    have a1 := T0.out.c1
    have a2 := T0.out.c2
    go_wp2_with fail
    refine (scoef_any _ _ _ _ _ zs _ _ R2.out (by omega)).mono ?_
    rintro e w3 ⟨rfl, B3⟩
    have T0 := Lib.hid (T0.out.below B3 (by omega))
    have s3 := B3.size
    have X3 := X2.trans (B3.mono X2.size)
    have R1 := Lib.hid (R1.out.below B3 (Nat.le_refl _) |>.mono B3.size)
    clear a0 a1 a2
    have a0 := T0.out.c0
    have a1 := T0.out.c1
    have a2 := T0.out.c2
    go_wp2_with fail
    refine (toSeries_any _ _ _ _ _ zs _ R1.out (by omega)).mono ?_
    rintro e w4 ⟨A4, c4, rfl, O4, B4⟩
    rw [hl.out] at O4 ⊢
    have R4 : Hid (Rd w4 w4.heap.size A4 len0 zs) := Lib.hid (by
      have := Ow.rd (w := w4) (base := w3.heap.size) (n := len0) (cap := c4) (A := A4) (zs := zs) (by unfold Ow; rw [hl.out]; exact O4)
      rwa [hl.out] at this)
    have T0 := Lib.hid (T0.out.below B4 (by omega))
    have s4 := B4.size
    have X4 := X3.trans (B4.mono X3.size)
    have R1 := Lib.hid (R1.out.below B4 (Nat.le_refl _) |>.mono B4.size)
    clear a0 a1 a2
    have a0 := T0.out.c0
    have a1 := T0.out.c1
    have a2 := T0.out.c2
    have s04 : w.heap.size < w4.heap.size := by omega
    go_wp2_with fail
    have X4' : Below w.heap.size w (w4.alloc (.cells #[.int .i64 o0, .int .i64 e0, .slice A4 len0 c4] 24)) := X4.alloc X4.size _
    refine (coef_any _ _ _ _ _ zs _ w.heap.size _ (hc.out.below X4' (Nat.le_refl _)) X4'.size (R4.out.alloc _) (by omega)).mono ?_
    rintro e w5 ⟨rfl, B5⟩
    have T5 := (Three.new w4 _ _ _ _).below B5 (by simp)
    have s5 : w4.heap.size + 1 ≤ w5.heap.size := by have := B5.size; simpa using this
    have T0 := Lib.hid ((T0.out.below ((Below.refl _ _).alloc (Nat.le_refl _) _) s04).below B5 (by simp; omega))
    have X5 := X4'.trans (B5.mono X4'.size)
    have R1 := Lib.hid ((R1.out.alloc _).below B5 (Nat.le_refl _) |>.mono B5.size)
    have R4 := Lib.hid ((R4.out.alloc _).below B5 (Nat.le_refl _) |>.mono B5.size)
    clear a0 a1 a2
    have a0 := T0.out.c0
    have a1 := T0.out.c1
    have a2 := T0.out.c2
    have b0 := T5.c0
    have b1 := T5.c1
    have b2 := T5.c2
    clear T5
    go_wp2_with fail
    have X5d : Below w.heap.size w w5.drew := ⟨X5.os, X5.tape, X5.output, X5.size, X5.block⟩
    have hs5 : w.heap.size ≤ w5.drew.heap.size := X5.size
    have K0 : Kept w.heap.size w w.heap.size w4.heap.size (.int .i64 o0) (.int .i64 e0) (.slice A0 len0 cap0) (.int .i64 o0) (.int .i64 e0) (.slice A4 len0 c4) w5.drew := ⟨⟨a0, a1, a2, b0, b1, b2⟩, X5d, hs5⟩
    have K0 := Lib.hid K0
    have R4d : Rd w5.drew w5.drew.heap.size A4 len0 zs := R4.out
    have R4d := Lib.hid R4d
    have R1d : Rd w5.drew w5.drew.heap.size A0 len0 zs := R1.out
    have R1d := Lib.hid R1d
    clear R1 R4
    go_region_held3 (fun w' => (w'.cell? ⟨w.heap.size, 0, none⟩ = some (.int .i64 o0) ∧ w'.cell? ⟨w.heap.size, 1, none⟩ = some (.int .i64 e0) ∧ w'.cell? ⟨w.heap.size, 2, none⟩ = some (.slice A0 len0 cap0) ∧ w'.cell? ⟨w4.heap.size, 0, none⟩ = some (.int .i64 o0) ∧ w'.cell? ⟨w4.heap.size, 1, none⟩ = some (.int .i64 e0) ∧ w'.cell? ⟨w4.heap.size, 2, none⟩ = some (.slice A4 len0 c4)) ∧ Below w.heap.size w w' ∧ w.heap.size ≤ w'.heap.size) (first | (refine ⟨⟨?_, ?_, ?_, ?_, ?_, ?_⟩, ?_, ?_⟩ <;> first | assumption | fail)) (first | (go_at_call 15; refine (toSeries_keep o0 e0 A0 len0 cap0 zs w.heap.size w w.heap.size w4.heap.size (.int .i64 o0) (.int .i64 e0) (.slice A0 len0 cap0) (.int .i64 o0) (.int .i64 e0) (.slice A4 len0 c4) _ ?_ ?_ ?_).mono ?_; (exact R1d.out); omega; (exact K0.out); rintro e w6 ⟨⟨A6, c6, rfl, R6⟩, B6, k6⟩; have R46 := Lib.hid ((R4d.out.below B6 (Nat.le_refl _)).mono B6.size); have R6 := Lib.hid R6; have H6 := Lib.hid k6; obtain ⟨⟨k0, k1, k2, k3, k4, k5⟩, k7, k8⟩ := k6) | (go_at_call 10; refine (eqSeries_keep o0 e0 A4 A6 len0 c4 c6 zs w.heap.size w w.heap.size w4.heap.size (.int .i64 o0) (.int .i64 e0) (.slice A0 len0 cap0) (.int .i64 o0) (.int .i64 e0) (.slice A4 len0 c4) _ ?_ ?_ ?_ ?_).mono ?_; (exact R46.out); (exact R6.out); omega; (exact H6.out); rintro e w7 ⟨rfl, ⟨⟨l0, l1, l2, l3, l4, l5⟩, l7, l8⟩⟩))
    go_wp2_with fail
    go_ret
    exact ⟨rfl, l7⟩
  · have Hr := Lib.hid (show (if (len0 : Int) ≤ 1048576 then 1048576 - (len0 : Int) else -1) = -1 from if_neg (by omega))
    go_enter Tryd.func5, Tryd.ntmps5
    go_wp2_with fail
    refine (szSeries_any _ _ _ _ _ _ _ Hr.out hcap).mono ?_
    rintro e w1 ⟨rfl, B1⟩
    go_wp2_with fail
    go_ret
    exact ⟨rfl, Below.step _ B1⟩
end Go.Proofs.YtajalndghbbfdaaDoor.fnExactCoefficientOf
