/- The walk of the law FnExactUnitSeries. -/
import Derived.Test.YtajalndghbbfdaaDoorSeries
namespace Go.Proofs.YtajalndghbbfdaaDoor.fnExactUnitSeries
open Go.RowKit Go.PlainNum Go.Proofs.YtajalndghbbfdaaDoor

set_option maxRecDepth 100000 in
set_option maxHeartbeats 2000000 in
theorem walk (a0 : Int) (w : World) (_w0 : (Lit.int .i64 a0).wf = true) (hc : CT w.heap.size w) :
    Calls Tryd.prog 3 #[.int .i64 a0] w fun e w' => e = .returned (.bool true) ∧ Below w.heap.size w w' := by
  have hc := Lib.hid hc
  have hl := unitT_len a0
  go_enter Tryd.func3, Tryd.ntmps3
  go_wp2_with fail
  refine (sunit_any a0 _).mono ?_
  rintro e w1 ⟨A0, c0, rfl, O0, B1⟩
  obtain ⟨n, hn⟩ : ∃ n, (unitT a0).length = n := ⟨_, rfl⟩
  obtain ⟨o, ho⟩ : ∃ o, unitO a0 = o := ⟨_, rfl⟩
  obtain ⟨u, hu⟩ : ∃ u, unitE a0 = u := ⟨_, rfl⟩
  obtain ⟨zs, hz⟩ : ∃ zs, unitT a0 = zs := ⟨_, rfl⟩
  rw [hn, ho, hu]
  rw [hn, hz] at O0
  rw [hn] at hl
  have hS := Lib.hid (⟨hn, ho, hu, hz⟩ : (unitT a0).length = n ∧ unitO a0 = o ∧ unitE a0 = u ∧ unitT a0 = zs)
  have O0 := Lib.hid O0
  have R0 : Hid (Rd w1 w1.heap.size A0 n zs) := Lib.hid (by
    have h : zs.length = n := by rw [← hz]; exact hn
    have := Ow.rd (w := w1) (base := w.heap.size) (n := n) (cap := c0) (A := A0) (zs := zs) (by unfold Ow; rw [h]; exact O0.out)
    rwa [h] at this)
  clear hn ho hu hz
  go_wp2_with fail
  have s1 := B1.size
  have X1 : Below w.heap.size w (w1.alloc (.cells #[.int .i64 o, .int .i64 u, .slice A0 n c0] 24)) := B1.alloc B1.size _
  refine (unit_any a0 w.heap.size _ (hc.out.below X1 (Nat.le_refl _)) X1.size).mono ?_
  rintro e w2 ⟨A1, c1, rfl, O1, B2⟩
  rw [hS.out.1, hS.out.2.1, hS.out.2.2.1]
  rw [hS.out.1, hS.out.2.2.2] at O1
  have O1 := Lib.hid O1
  have T0 := (Three.new w1 _ _ _ _).below B2 (by simp)
  have s2 : w1.heap.size + 1 ≤ w2.heap.size := by have := B2.size; simpa using this
  have X2 : Below w.heap.size w w2 := X1.trans (B2.mono X1.size)
  have R0 := Lib.hid ((R0.out.alloc _).below B2 (Nat.le_refl _))
  have hk : ∀ g, (Value.slice A1 n c1).ownBlock = some g → w1.heap.size + 1 ≤ g ∧ g < w2.heap.size := fun g hg => by have := O1.out.lt g hg; simpa using this
  have R1 : Hid (Rd w2 w2.heap.size A1 n zs) := Lib.hid (by
    have h : zs.length = n := by rw [← hS.out.2.2.2]; exact hS.out.1
    have := Ow.rd (w := w2) (base := w1.heap.size + 1) (n := n) (cap := c1) (A := A1) (zs := zs) (by unfold Ow; rw [h]; simpa using O1.out)
    rwa [h] at this)
  have d0 := T0.c0
  have d1 := T0.c1
  have d2 := T0.c2
  have s2' : w1.heap.size < w2.heap.size := by omega
  have hk := Lib.hid hk
  have T0 := Lib.hid T0
  have s1 := Lib.hid s1
  go_wp2_with fail
  have X2' : Below w.heap.size w (w2.alloc (.cells #[.int .i64 o, .int .i64 u, .slice A1 n c1] 24)) := X2.alloc X2.size _
  refine (eqSeries_eq o u A1 A0 n c1 c0 zs _ (R1.out.alloc _) ((R0.out.mono (by simp; omega)).alloc _) (by omega)).mono ?_
  rintro e w3 ⟨rfl, B3⟩
  have s3 : w2.heap.size + 1 ≤ w3.heap.size := by have := B3.size; simpa using this
  have X3 : Below w.heap.size w w3 := X2'.trans (B3.mono X2'.size)
  have T0 := Lib.hid ((T0.out.below ((Below.refl _ _).alloc (Nat.le_refl _) _) s2').below B3 (by simp; omega))
  have T1 := Lib.hid ((Three.new w2 _ _ _ _).below B3 (by simp))
  have O1 := Lib.hid ((O1.out.alloc _).kept (row := none) ⟨B3.os, B3.tape, B3.output, B3.size, fun k hk _ => B3.block k hk⟩ (by cases A1 <;> simp [Value.ownBlock]))
  have d0 := T0.out.c0
  have d1 := T0.out.c1
  have d2 := T0.out.c2
  have e0 := T1.out.c0
  have e1 := T1.out.c1
  have e2 := T1.out.c2
  go_wp2_with fail
  refine (markSeries_any _ o u A1 n c1 zs 1 _ O1.out (by omega) (by omega) (by omega)).mono ?_
  rintro e w4 ⟨rfl, O4, G4⟩
  have s4 := G4.size
  have n0 : (some w1.heap.size : Option Nat) ≠ (Value.slice A1 n c1).ownBlock := fun e => by have := hk.out _ e.symm; omega
  have n1 : (some w2.heap.size : Option Nat) ≠ (Value.slice A1 n c1).ownBlock := fun e => by have := hk.out _ e.symm; omega
  have T0 := Lib.hid (T0.out.grown G4 n0)
  have T1 := Lib.hid (T1.out.grown G4 n1)
  have R0 := Lib.hid (((R0.out.below ((Below.refl _ _).alloc (Nat.le_refl _) _) (by simpa using s2)).below B3 (by simp; omega)).grown G4 (fun g hg => by have := hk.out g hg; simpa using this.1))
  have X4 : Below w.heap.size w w4 := X3.grown G4 X3.size (fun g hg => by have := hk.out g hg; have := s1.out; omega)
  have R4 : Hid (Rd w4 w4.heap.size A1 n (iota 1 n)) := Lib.hid (by
    have := Ow.rd (w := w4) (base := w1.heap.size + 1) (n := n) (cap := c1) (A := A1) (zs := iota 1 n) (by unfold Ow; rw [iota_len]; simpa using O4)
    rwa [iota_len] at this)
  have s34 : w2.heap.size < w4.heap.size := by omega
  have s14 : w1.heap.size < w4.heap.size := by omega
  clear n0 n1 d0 d1 d2 e0 e1 e2
  have e0 := T1.out.c0
  have e1 := T1.out.c1
  have e2 := T1.out.c2
  go_wp2_with fail
  refine (heldSeries_any o u A1 n c1 1 _ R4.out (by omega) (by omega) (by omega)).mono ?_
  rintro e w5 ⟨rfl, B5⟩
  have X5 : Below w.heap.size w w5 := X4.trans (B5.mono X4.size)
  have T0 := Lib.hid (T0.out.below B5 s14)
  have T1 := Lib.hid (T1.out.below B5 s34)
  have R0 := Lib.hid (R0.out.below B5 (by simp; omega))
  have R4 := Lib.hid (R4.out.below B5 (Nat.le_refl _))
  have s5 := B5.size
  have t1 : decide ((1 : Int) + n < 0) = false := decide_eq_false (by omega)
  clear e0 e1 e2
  go_wp2_with fail
  refine (unit_any a0 w.heap.size _ (hc.out.below X5 (Nat.le_refl _)) X5.size).mono ?_
  rintro e w6 ⟨A2, c2, rfl, O6, B6⟩
  rw [hS.out.1, hS.out.2.1, hS.out.2.2.1]
  rw [hS.out.1, hS.out.2.2.2] at O6
  have R6 : Hid (Rd w6 w6.heap.size A2 n zs) := Lib.hid (by
    have h : zs.length = n := by rw [← hS.out.2.2.2]; exact hS.out.1
    have := Ow.rd (w := w6) (base := w5.heap.size) (n := n) (cap := c2) (A := A2) (zs := zs) (by unfold Ow; rw [h]; exact O6)
    rwa [h] at this)
  have s6 := B6.size
  have X6 : Below w.heap.size w w6 := X5.trans (B6.mono X5.size)
  have T0 := Lib.hid (T0.out.below B6 (by omega))
  have T1 := Lib.hid (T1.out.below B6 (by omega))
  have R0 := Lib.hid (R0.out.below B6 (by simp; omega))
  have R4 := Lib.hid (R4.out.below B6 (by omega))
  have d0 := T0.out.c0
  have d1 := T0.out.c1
  have d2 := T0.out.c2
  have u1 : w1.heap.size < w6.heap.size := by omega
  have u2 : w2.heap.size < w6.heap.size := by omega
  go_wp2_with fail
  refine (eqSeries_eq o u A2 A0 n c2 c0 zs _ (R6.out.alloc _) ((R0.out.mono (by simp; omega)).alloc _) (by omega)).mono ?_
  rintro e w7 ⟨rfl, B7⟩
  have s7 : w6.heap.size + 1 ≤ w7.heap.size := by have := B7.size; simpa using this
  have X7 : Below w.heap.size w w7 := (X6.alloc X6.size _).trans (B7.mono (by have := X6.size; simp; omega))
  have T1 := Lib.hid ((T1.out.below ((Below.refl _ _).alloc (Nat.le_refl _) _) u2).below B7 (by simp; omega))
  have R4 := Lib.hid (((R4.out.mono (by omega)).alloc _).below B7 (Nat.le_refl _))
  have e0 := T1.out.c0
  have e1 := T1.out.c1
  have e2 := T1.out.c2
  go_wp2_with fail
  refine (heldSeries_any o u A1 n c1 1 _ (R4.out.mono B7.size) (by omega) (by omega) (by omega)).mono ?_
  rintro e w8 ⟨rfl, B8⟩
  go_wp2_with fail
  go_ret
  exact ⟨rfl, X7.trans (B8.mono X7.size)⟩
end Go.Proofs.YtajalndghbbfdaaDoor.fnExactUnitSeries
