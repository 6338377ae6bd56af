/- The contracts of CoefficientOf, of the program and of the reference. -/
import Derived.Test.YtajalndghbbfdaaDoorSerOk
namespace Go.Proofs.YtajalndghbbfdaaDoor
open Go.RowKit Go.PlainNum

/-- the number at k: -1 is the empty tree -/
def atV (u : Int) (zs : List Int) (k : Int) : Int := if k < 0 then u else zs.getD k.toNat 0
theorem atV_neg (u : Int) (zs : List Int) : atV u zs (-1) = u := rfl
theorem atV_nat (u : Int) (zs : List Int) (j : Nat) : atV u zs (j : Int) = zs.getD j 0 := by
  unfold atV; rw [if_neg (by omega)]; rfl
attribute [irreducible] atV
def coefV (o u : Int) (zs : List Int) (k : Int) : Int := if serOk o u zs = true ∧ (-1 ≤ k ∧ k < zs.length) then atV u zs k else 0
theorem coefV_yes {o u : Int} {zs : List Int} {k : Int} (h : serOk o u zs = true) (h' : -1 ≤ k ∧ k < zs.length) : coefV o u zs k = atV u zs k := if_pos ⟨h, h'⟩
theorem coefV_no1 {o u : Int} {zs : List Int} {k : Int} (h : serOk o u zs = false) : coefV o u zs k = 0 := if_neg (by rw [h]; simp)
theorem coefV_no2 {o u : Int} {zs : List Int} {k : Int} (h : ¬ (-1 ≤ k ∧ k < zs.length)) : coefV o u zs k = 0 := if_neg (fun q => h q.2)
attribute [irreducible] coefV

set_option maxRecDepth 100000 in
theorem at_any (o u : Int) (A : Option Addr) (n c : Nat) (zs : List Int) (k : Int) (w : World) (h : Rd w w.heap.size A n zs) (hn : (n : Int) ≤ 2000000) (hk : -1 ≤ k) (hk' : k < n) :
    Calls Tryd.prog 39 #[.agg #[.int .i64 o, .int .i64 u, .slice A n c], .int .i64 k] w fun e w' => e = .returned (.int .i64 (atV u zs k)) ∧ Below w.heap.size w w' := by
  by_cases h1 : k = -1
  · subst h1
    have E := Lib.hid (atV_neg u zs)
    clear h
    go_enter Tryd.func39, Tryd.ntmps39
    go_wp2
    go_ret
    exact ⟨ret_int E.out.symm, (Below.refl _ _).alloc (Nat.le_refl _) _⟩
  · obtain ⟨j, rfl⟩ : ∃ j : Nat, k = j := ⟨k.toNat, by omega⟩
    have E := Lib.hid (atV_nat u zs j)
    obtain ⟨b, off, rfl, hb, hc⟩ := (h.alloc (.cells #[.int .i64 o, .int .i64 u, .slice A n c] 24)).2 (by omega)
    have hx := hc j (by omega)
    have t1 : ((j : Int) == -1) = false := by rw [beq_eq_false_iff_ne]; exact h1
    clear h hc h1
    go_enter Tryd.func39, Tryd.ntmps39
    go_wp2
    go_ret
    exact ⟨ret_int E.out.symm, (Below.refl _ _).alloc (Nat.le_refl _) _⟩

set_option maxRecDepth 100000 in
theorem l4At_any (o u : Int) (A : Option Addr) (n c : Nat) (zs : List Int) (k : Int) (w : World) (h : Rd w w.heap.size A n zs) (hn : (n : Int) ≤ 2000000) (hk : -1 ≤ k) (hk' : k < n) :
    Calls Tryd.prog 38 #[.agg #[.int .i64 o, .int .i64 u, .slice A n c], .int .i64 k] w fun e w' => e = .returned (.int .i64 (atV u zs k)) ∧ Below w.heap.size w w' := by
  by_cases h1 : k = -1
  · subst h1
    have E := Lib.hid (atV_neg u zs)
    clear h
    go_enter Tryd.func38, Tryd.ntmps38
    go_wp2
    go_ret
    exact ⟨ret_int E.out.symm, (Below.refl _ _).alloc (Nat.le_refl _) _⟩
  · obtain ⟨j, rfl⟩ : ∃ j : Nat, k = j := ⟨k.toNat, by omega⟩
    have E := Lib.hid (atV_nat u zs j)
    obtain ⟨b, off, rfl, hb, hc⟩ := (h.alloc (.cells #[.int .i64 o, .int .i64 u, .slice A n c] 24)).2 (by omega)
    have hx := hc j (by omega)
    have t1 : decide ((j : Int) < 0) = false := decide_eq_false (by omega)
    clear h hc h1
    go_enter Tryd.func38, Tryd.ntmps38
    go_wp2
    go_ret
    exact ⟨ret_int E.out.symm, (Below.refl _ _).alloc (Nat.le_refl _) _⟩

set_option maxRecDepth 100000 in
set_option maxHeartbeats 1000000 in
theorem coef_any (o u : Int) (A : Option Addr) (n c : Nat) (zs : List Int) (k : Int) (B : Nat) (w : World) (hc : CT B w) (hB : B ≤ w.heap.size) (h : Rd w w.heap.size A n zs) (hn : (n : Int) ≤ 2000000) :
    Calls Tryd.prog 18 #[.agg #[.int .i64 o, .int .i64 u, .slice A n c], .int .i64 k] w fun e w' => e = .returned (.int .i64 (coefV o u zs k)) ∧ Below w.heap.size w w' := by
  have H := Lib.hid h
  have HC := Lib.hid hc
  have hl := Lib.hid h.1
  clear h hc
  cases hs : serOk o u zs
  · have E := Lib.hid (coefV_no1 (k := k) hs)
    go_enter Tryd.func18, Tryd.ntmps18
    go_wp2_with fail
    refine (serOk_any o u A n c zs B _ (HC.out.below ((Below.refl _ _).alloc (Nat.le_refl _) _) hB) (by simp; omega) (H.out.alloc _) (by omega)).mono ?_
    rintro e w1 ⟨rfl, B1⟩
    have T1 := (Three.new w 24 (.int .i64 o) (.int .i64 u) (.slice A n c)).below B1 (by simp)
    have s1 : w.heap.size + 1 ≤ w1.heap.size := by have := B1.size; simpa using this
    have X1 := Below.step _ B1
    have R1 := Lib.hid ((H.out.alloc _).below B1 (Nat.le_refl _) |>.mono B1.size)
    have a0 := T1.c0
    have a1 := T1.c1
    have a2 := T1.c2
    clear T1
    rw [hs]
    go_wp2_with fail
    go_ret
    exact ⟨ret_int E.out.symm, X1⟩
  · by_cases hk : -1 ≤ k
    · have t1 : decide (k < -1) = false := decide_eq_false (by omega)
      by_cases hk' : k < n
      · have t2 : decide (k ≥ (n : Int)) = false := decide_eq_false (by omega)
        have E := Lib.hid (coefV_yes hs (k := k) ⟨hk, by rw [hl.out]; exact hk'⟩)
        go_enter Tryd.func18, Tryd.ntmps18
        go_wp2_with fail
        refine (serOk_any o u A n c zs B _ (HC.out.below ((Below.refl _ _).alloc (Nat.le_refl _) _) hB) (by simp; omega) (H.out.alloc _) (by omega)).mono ?_
        rintro e w1 ⟨rfl, B1⟩
        have T1 := (Three.new w 24 (.int .i64 o) (.int .i64 u) (.slice A n c)).below B1 (by simp)
        have s1 : w.heap.size + 1 ≤ w1.heap.size := by have := B1.size; simpa using this
        have X1 := Below.step _ B1
        have R1 := Lib.hid ((H.out.alloc _).below B1 (Nat.le_refl _) |>.mono B1.size)
        have a0 := T1.c0
        have a1 := T1.c1
        have a2 := T1.c2
        clear T1
        rw [hs]
        go_wp2_with fail
        refine (at_any o u A n c zs k _ R1.out hn hk hk').mono ?_
        rintro e w2 ⟨rfl, B2⟩
        go_wp2_with fail
        go_ret
        exact ⟨ret_int E.out.symm, X1.trans (B2.mono (by omega))⟩
      · have t2 : decide (k ≥ (n : Int)) = true := decide_eq_true (by omega)
        have E := Lib.hid (coefV_no2 (o := o) (u := u) (k := k) (zs := zs) (by rw [hl.out]; omega))
        go_enter Tryd.func18, Tryd.ntmps18
        go_wp2_with fail
        refine (serOk_any o u A n c zs B _ (HC.out.below ((Below.refl _ _).alloc (Nat.le_refl _) _) hB) (by simp; omega) (H.out.alloc _) (by omega)).mono ?_
        rintro e w1 ⟨rfl, B1⟩
        have T1 := (Three.new w 24 (.int .i64 o) (.int .i64 u) (.slice A n c)).below B1 (by simp)
        have s1 : w.heap.size + 1 ≤ w1.heap.size := by have := B1.size; simpa using this
        have X1 := Below.step _ B1
        have R1 := Lib.hid ((H.out.alloc _).below B1 (Nat.le_refl _) |>.mono B1.size)
        have a0 := T1.c0
        have a1 := T1.c1
        have a2 := T1.c2
        clear T1
        rw [hs]
        go_wp2_with fail
        go_ret
        exact ⟨ret_int E.out.symm, X1⟩
    · have t1 : decide (k < -1) = true := decide_eq_true (by omega)
      have E := Lib.hid (coefV_no2 (o := o) (u := u) (k := k) (zs := zs) (by omega))
      go_enter Tryd.func18, Tryd.ntmps18
      go_wp2_with fail
      refine (serOk_any o u A n c zs B _ (HC.out.below ((Below.refl _ _).alloc (Nat.le_refl _) _) hB) (by simp; omega) (H.out.alloc _) (by omega)).mono ?_
      rintro e w1 ⟨rfl, B1⟩
      have T1 := (Three.new w 24 (.int .i64 o) (.int .i64 u) (.slice A n c)).below B1 (by simp)
      have s1 : w.heap.size + 1 ≤ w1.heap.size := by have := B1.size; simpa using this
      have X1 := Below.step _ B1
      have R1 := Lib.hid ((H.out.alloc _).below B1 (Nat.le_refl _) |>.mono B1.size)
      have a0 := T1.c0
      have a1 := T1.c1
      have a2 := T1.c2
      clear T1
      rw [hs]
      go_wp2_with fail
      go_ret
      exact ⟨ret_int E.out.symm, X1⟩

set_option maxRecDepth 100000 in
set_option maxHeartbeats 1000000 in
theorem scoef_any (o u : Int) (A : Option Addr) (n c : Nat) (zs : List Int) (k : Int) (w : World) (h : Rd w w.heap.size A n zs) (hn : (n : Int) ≤ 2000000) :
    Calls Tryd.prog 17 #[.agg #[.int .i64 o, .int .i64 u, .slice A n c], .int .i64 k] w fun e w' => e = .returned (.int .i64 (coefV o u zs k)) ∧ Below w.heap.size w w' := by
  have H := Lib.hid h
  have hl := Lib.hid h.1
  clear h
  cases hs : serOk o u zs
  · have E := Lib.hid (coefV_no1 (k := k) hs)
    go_enter Tryd.func17, Tryd.ntmps17
    go_wp2_with fail
    refine (sserOk_any o u A n c zs _ (H.out.alloc _) (by omega)).mono ?_
    rintro e w1 ⟨rfl, B1⟩
    have T1 := (Three.new w 24 (.int .i64 o) (.int .i64 u) (.slice A n c)).below B1 (by simp)
    have s1 : w.heap.size + 1 ≤ w1.heap.size := by have := B1.size; simpa using this
    have X1 := Below.step _ B1
    have R1 := Lib.hid ((H.out.alloc _).below B1 (Nat.le_refl _) |>.mono B1.size)
    have a0 := T1.c0
    have a1 := T1.c1
    have a2 := T1.c2
    clear T1
    rw [hs]
    go_wp2_with fail
    go_ret
    exact ⟨ret_int E.out.symm, X1⟩
  · by_cases hk : -1 ≤ k ∧ k ≤ (n : Int) - 1
    · have D := Lib.hid (decide_eq_true hk)
      have E := Lib.hid (coefV_yes hs (k := k) ⟨hk.1, by rw [hl.out]; omega⟩)
      go_enter Tryd.func17, Tryd.ntmps17
      go_wp2_with fail
      refine (sserOk_any o u A n c zs _ (H.out.alloc _) (by omega)).mono ?_
      rintro e w1 ⟨rfl, B1⟩
      have T1 := (Three.new w 24 (.int .i64 o) (.int .i64 u) (.slice A n c)).below B1 (by simp)
      have s1 : w.heap.size + 1 ≤ w1.heap.size := by have := B1.size; simpa using this
      have X1 := Below.step _ B1
      have R1 := Lib.hid ((H.out.alloc _).below B1 (Nat.le_refl _) |>.mono B1.size)
      have a0 := T1.c0
      have a1 := T1.c1
      have a2 := T1.c2
      clear T1
      rw [hs]
      go_wp2_with fail
      refine (l1In_eq _ _ _ _ D.out _).mono ?_
      rintro e w2 ⟨rfl, rfl⟩
      go_wp2_with fail
      refine (l4At_any o u A n c zs k _ R1.out hn hk.1 (by omega)).mono ?_
      rintro e w2 ⟨rfl, B2⟩
      go_wp2_with fail
      go_ret
      exact ⟨ret_int E.out.symm, X1.trans (B2.mono (by omega))⟩
    · have D := Lib.hid (decide_eq_false hk)
      have E := Lib.hid (coefV_no2 (o := o) (u := u) (k := k) (zs := zs) (by rw [hl.out]; omega))
      go_enter Tryd.func17, Tryd.ntmps17
      go_wp2_with fail
      refine (sserOk_any o u A n c zs _ (H.out.alloc _) (by omega)).mono ?_
      rintro e w1 ⟨rfl, B1⟩
      have T1 := (Three.new w 24 (.int .i64 o) (.int .i64 u) (.slice A n c)).below B1 (by simp)
      have s1 : w.heap.size + 1 ≤ w1.heap.size := by have := B1.size; simpa using this
      have X1 := Below.step _ B1
      have R1 := Lib.hid ((H.out.alloc _).below B1 (Nat.le_refl _) |>.mono B1.size)
      have a0 := T1.c0
      have a1 := T1.c1
      have a2 := T1.c2
      clear T1
      rw [hs]
      go_wp2_with fail
      refine (l1In_eq _ _ _ _ D.out _).mono ?_
      rintro e w2 ⟨rfl, rfl⟩
      go_wp2_with fail
      go_ret
      exact ⟨ret_int E.out.symm, X1⟩
end Go.Proofs.YtajalndghbbfdaaDoor
